/-
  Graphs, plain: the tree that the program makes of a graph that may be is such a tree. Condition: the graph may be.
-/
import Derived.Test.YthnkeppkhdceoaaHops
namespace Go.Proofs.Ythnkeppkhdceoaa
open Go.RowKit
set_option linter.unusedVariables false
set_option linter.unusedSimpArgs false

/-- Each end of a link has a port of its own. -/
def Apart (L : List Lk) : Prop := ∀ s ∈ sidesOf L, ∀ t ∈ sidesOf L, s.n.b = t.n.b → s.n.p = t.n.p → s = t
def keyP (x : Pth) : Int × Int := (x.1, x.2.1)
theorem ord_key (x y : Pth) : (ordP x y < 0 → lexLe (keyP x) (keyP y)) ∧ (¬ ordP x y < 0 → lexLe (keyP y) (keyP x)) := by
  unfold ordP stand lexLe keyP
  dsimp only
  by_cases h1 : x.1 < y.1
  · have e : way x.1 y.1 = -1 := by simp [way, h1]
    simp [firstOf, e]; omega
  · by_cases h2 : y.1 < x.1
    · have e : way x.1 y.1 = 1 := by simp [way, h1, h2]
      simp [firstOf, e]; omega
    · have e : way x.1 y.1 = 0 := by simp [way, h1, h2]
      by_cases h3 : x.2.1 < y.2.1
      · have e2 : way x.2.1 y.2.1 = -1 := by simp [way, h3]
        simp [firstOf, e, e2]; omega
      · by_cases h4 : y.2.1 < x.2.1
        · have e2 : way x.2.1 y.2.1 = 1 := by simp [way, h3, h4]
          simp [firstOf, e, e2]; omega
        · exact ⟨fun _ => by omega, fun _ => by omega⟩
theorem best_le (m : Pth) (l : List Pth) : ∀ y ∈ m :: l, lexLe (keyP (best m l)) (keyP y) := by
  induction l generalizing m with
  | nil => intro y hy; simp at hy; subst hy; simp [best, lexLe]
  | cons x l ih =>
    intro y hy
    have h1 := ih (if ordP x m < 0 then x else m)
    simp only [best]
    have h0 := h1 _ (List.mem_cons_self ..)
    have hk := ord_key x m
    rcases List.mem_cons.1 hy with rfl | hy
    · by_cases h : ordP x y < 0
      · simp only [h, if_true] at h0 ⊢
        have := hk.1 h
        unfold lexLe at *; omega
      · simp only [h, if_false] at h0 ⊢
        exact h0
    · rcases List.mem_cons.1 hy with rfl | hy
      · by_cases h : ordP y m < 0
        · simp only [h, if_true] at h0 ⊢
          exact h0
        · simp only [h, if_false] at h0 ⊢
          have := hk.2 h
          unfold lexLe at *; omega
      · exact h1 y (List.mem_cons_of_mem _ hy)

variable {ids : List Int} {n : Nat} {L : List Lk} {N : List Nd}
theorem GP.le {S : List Pr} {val : Vals} {r x t c : Int} {vs : List Int} (h : GP S val r x t vs c) : lexLe (val x) (r, c) := by cases h <;> assumption
/-- A bridge that is no root has a side that offers just what it has. -/
theorem Put.offered (h : Put ids n L N) (hok : GOk ids n (sidesOf L)) {x : Int} (h0 : 0 ≤ x) (h1 : x < n) (hr : (valOf N x).1 ≠ idOf ids x) : ∃ s ∈ sidesOf L, s.n.b = x ∧ offer (valOf N) s.pr = valOf N x := by
  obtain ⟨t, vs, t0, t1, hid, hg⟩ := h.inv.gp x h0 h1
  generalize hrr : (valOf N x).1 = rr at hg hid hr
  generalize hcc : (valOf N x).2 = cc at hg
  cases hg with
  | nil v hl => exact absurd hid hr
  | cons s t vs c hs hg hn hl =>
    obtain ⟨s', hs', rfl⟩ := List.mem_map.1 hs
    refine ⟨s', hs', rfl, ?_⟩
    have hst := h.still _ hs
    have hle : lexLe (valOf N s'.f.b) (rr, c) := hg.le
    dsimp only [Sd.pr] at *
    unfold lexLt at hst
    unfold offer at *
    dsimp only at *
    unfold lexLe at hle
    refine Prod.ext ?_ ?_ <;> simp <;> omega
/-- The offers to a bridge: none is better than what it has; if it is no root, one is as good. -/
theorem pv_key (ids : List Int) (N : List Nd) (s : Sd) : keyP (pv ids N s) = offer (valOf N) s.pr := rfl
theorem qOf_at (hlen : N.length = n) {x : Int} (h0 : 0 ≤ x) (h1 : x < n) : ∃ nd, N[x.toNat]? = some nd ∧ qOf (ported (portOf ids N (sidesOf L)) n N) x = (portOf ids N (sidesOf L) x.toNat nd).q ∧ valOf N x = (nd.r, nd.c) := by
  obtain ⟨nd, hnd⟩ : ∃ nd, N[x.toNat]? = some nd := ⟨_, List.getElem?_eq_getElem (by omega)⟩
  refine ⟨nd, hnd, ?_, ?_⟩
  · have : x.toNat < n := by omega
    simp [qOf, ported, hnd, this]
  · simp [valOf, hnd]
theorem mem_offers {i : Nat} {y : Pth} (h : y ∈ offers ids N (sidesOf L) i) : ∃ s ∈ sidesOf L, s.n.b = (i : Int) ∧ y = pv ids N s := by
  obtain ⟨s, hs, e⟩ := List.mem_map.1 h
  obtain ⟨h1, h2⟩ := List.mem_filter.1 hs
  exact ⟨s, h1, by simpa using h2, e.symm⟩
theorem offers_mem {s : Sd} (hs : s ∈ sidesOf L) {i : Nat} (hb : s.n.b = (i : Int)) : pv ids N s ∈ offers ids N (sidesOf L) i := List.mem_map.2 ⟨s, List.mem_filter.2 ⟨hs, by simpa using hb⟩, rfl⟩
/-- The root port's link offers just what the bridge has. -/
theorem Put.rootPort (h : Put ids n L N) (hok : GOk ids n (sidesOf L)) (ha : Apart L) {s : Sd} (hs : s ∈ sidesOf L) (hq : qOf (ported (portOf ids N (sidesOf L)) n N) s.n.b = s.n.p) : offer (valOf N) s.pr = valOf N s.n.b ∧ (valOf N s.n.b).1 ≠ idOf ids s.n.b := by
  have hsd := hok.side s hs
  obtain ⟨nd, hnd, hqe, hv⟩ := qOf_at (L := L) (ids := ids) h.len hsd.1.1 hsd.1.2
  rw [hq] at hqe
  have hq1 := h.port nd (List.mem_of_getElem? hnd)
  have hcast : ((s.n.b.toNat : Nat) : Int) = s.n.b := by omega
  unfold portOf at hqe
  cases ho : offers ids N (sidesOf L) s.n.b.toNat with
  | nil => rw [ho] at hqe; simp only at hqe; omega
  | cons p ps =>
    rw [ho] at hqe
    simp only at hqe
    by_cases hr : nd.r ≠ idOf ids (s.n.b.toNat : Int)
    · rw [if_pos hr] at hqe
      rw [hcast] at hr
      have hne : (valOf N s.n.b).1 ≠ idOf ids s.n.b := by rw [hv]; exact hr
      refine ⟨?_, hne⟩
      have hbm : best p ps ∈ offers ids N (sidesOf L) s.n.b.toNat := by rw [ho]; exact best_mem p ps
      obtain ⟨s', hs', hb', he⟩ := mem_offers hbm
      have : s' = s := ha s' hs' s hs (by omega) (by rw [hqe, he]; rfl)
      subst this
      have h1 := h.still _ (List.mem_map.2 ⟨s', hs', rfl⟩)
      obtain ⟨t, ht, htb, hto⟩ := h.offered hok hsd.1.1 hsd.1.2 hne
      have h2 := best_le p ps (pv ids N t) (by rw [← ho]; exact offers_mem ht (by omega))
      rw [he, pv_key, pv_key, hto] at h2
      unfold lexLt at h1
      unfold lexLe at h2
      dsimp only [Sd.pr] at h1 h2 ⊢
      refine Prod.ext ?_ ?_ <;> omega
    · rw [if_neg hr] at hqe; omega
/-- A bridge that is no root has a root port. -/
theorem Put.hasPort (h : Put ids n L N) (hok : GOk ids n (sidesOf L)) {x : Int} (h0 : 0 ≤ x) (h1 : x < n) (hr : (valOf N x).1 ≠ idOf ids x) : ∃ s ∈ sidesOf L, s.n.b = x ∧ qOf (ported (portOf ids N (sidesOf L)) n N) x = s.n.p := by
  obtain ⟨nd, hnd, hqe, hv⟩ := qOf_at (L := L) (ids := ids) h.len h0 h1
  obtain ⟨t, ht, htb, hto⟩ := h.offered hok h0 h1 hr
  have hcast : ((x.toNat : Nat) : Int) = x := by omega
  have hm := offers_mem (ids := ids) (N := N) ht (i := x.toNat) (by omega)
  generalize qOf (ported (portOf ids N (sidesOf L)) n N) x = qq at hqe ⊢
  unfold portOf at hqe
  cases ho : offers ids N (sidesOf L) x.toNat with
  | nil => rw [ho] at hm; cases hm
  | cons p ps =>
    rw [ho] at hqe
    simp only at hqe
    rw [if_pos (by rw [hcast]; rw [hv] at hr; exact hr)] at hqe
    obtain ⟨s', hs', hb', he⟩ := mem_offers (show best p ps ∈ offers ids N (sidesOf L) x.toNat by rw [ho]; exact best_mem p ps)
    exact ⟨s', hs', by omega, by rw [hqe]; show (best p ps).2.2.2.2 = s'.n.p; rw [he]; rfl⟩
theorem idOf_inj (hok : GOk ids n (sidesOf L)) {x y : Int} (h0 : 0 ≤ x) (h1 : x < n) (h2 : 0 ≤ y) (h3 : y < n) (e : idOf ids x = idOf ids y) : x = y := by
  have hl := hok.len
  have hx : x.toNat < ids.length := by omega
  have hy : y.toNat < ids.length := by omega
  unfold idOf at e
  rw [List.getElem?_eq_getElem hx, List.getElem?_eq_getElem hy] at e
  have := (List.getElem_inj hok.inj).1 (by simpa using e)
  omega
/-- THE TREE. -/
theorem Put.tr (h : Put ids n L N) (hok : GOk ids n (sidesOf L)) (ha : Apart L) :
    Tr (sidesOf L) (inB (ported (portOf ids N (sidesOf L)) n N) (sidesOf L)) (qOf (ported (portOf ids N (sidesOf L)) n N)) (fun x => (valOf N x).2) (fun x => (valOf N x).1) where
  rev s hs := side_rev hs
  uniq := ha
  isin s hs := by
    obtain ⟨i, l, hl, hk, hu, hb, he⟩ := side_link (j := 0) hs
    rw [Nat.zero_add] at hk he
    rw [show s.k.toNat = i by omega]
    unfold inB
    rw [List.any_eq_true]
    constructor
    · rintro ⟨t, ht, hte⟩
      simp only [Bool.and_eq_true, decide_eq_true_eq] at hte
      obtain ⟨i', l', hl', hk', hu', hb', he'⟩ := side_link (j := 0) ht
      rw [Nat.zero_add] at hk' he'
      have hii : i' = i := by omega
      subst hii
      rw [hl] at hl'
      injection hl' with hl'
      subst hl'
      rcases he with rfl | rfl <;> rcases he' with rfl | rfl
      · exact .inl hte.2
      · exact .inr hte.2
      · exact .inr hte.2
      · exact .inl hte.2
    · rintro (e | e)
      · exact ⟨s, hs, by simp [hk, e]⟩
      · exact ⟨_, side_rev hs, by simp [hk, e]⟩
  up s hs hq := by
    have h1 := (h.rootPort hok ha hs hq).1
    have h2 := (hok.side s hs).2.2.1.1
    have e1 : (valOf N s.f.b).1 = (valOf N s.n.b).1 := by rw [← h1]; rfl
    have e2 : (valOf N s.f.b).2 + s.n.c = (valOf N s.n.b).2 := by rw [← h1]; rfl
    exact ⟨by omega, e1⟩
  nonneg s hs := (h.inv.cost hok.within hok.pos hok.n8 (hok.side s hs).1.1 (hok.side s hs).1.2).1
  port s hs := (hok.side s hs).2.2.2.1.1
theorem Put.cost (h : Put ids n L N) (hok : GOk ids n (sidesOf L)) {x : Int} (h0 : 0 ≤ x) (h1 : x < n) : 0 ≤ (valOf N x).2 ∧ (valOf N x).2 ≤ 1000000 := by
  have := h.inv.cost hok.within hok.pos hok.n8 h0 h1
  omega
theorem Put.joined (h : Put ids n L N) (hok : GOk ids n (sidesOf L)) (ha : Apart L) {a b : Int} (ha0 : 0 ≤ a ∧ a < n) (hb0 : 0 ≤ b ∧ b < n) (hr : (valOf N a).1 = (valOf N b).1) :
    ∃ l p', Wz (sidesOf L) (inB (ported (portOf ids N (sidesOf L)) n N) (sidesOf L)) a (-1) l b p' := by
  refine Wz.exists (h.tr hok ha) (fun x => 0 ≤ x ∧ x < n) (fun s hs => (hok.side s hs).1) (fun x hx => (h.cost hok hx.1 hx.2).1) (fun x hx => ?_) _ a b ha0 hb0 hr (Nat.le_refl _)
  by_cases hx0 : (valOf N x).1 = idOf ids x
  · have ho := h.inv.own x hx.1 hx.2
    have hc := h.cost hok hx.1 hx.2
    unfold lexLe at ho
    refine .inl ⟨by simp at ho; omega, fun y hy hy0 hxy => ?_⟩
    have hye : (valOf N y).1 = idOf ids y := by
      refine Classical.byContradiction fun hne => ?_
      obtain ⟨s, hs, hsb, hq⟩ := h.hasPort hok hy.1 hy.2 hne
      subst hsb
      have h1 := ((h.tr hok ha).up s hs hq).1
      have h2 := (h.tr hok ha).nonneg _ (side_rev hs)
      dsimp only at h1 h2 hy0
      omega
    exact idOf_inj hok hx.1 hx.2 hy.1 hy.2 (by rw [← hx0, ← hye]; exact hxy)
  · exact .inr (h.hasPort hok hx.1 hx.2 hx0)
end Go.Proofs.Ythnkeppkhdceoaa
