/-
  Graphs as plain data: what a net of bridges' parts has come to when nothing more changes is the least of all ways. No condition.
-/
namespace Go.Proofs.Ythnkeppkhdceoaa
set_option linter.unusedVariables false
set_option linter.unusedSimpArgs false

/-- One end of a link. -/
structure En where
  b : Int
  p : Int
  c : Int
deriving DecidableEq
/-- A link. -/
structure Lk where
  a : En
  z : En
  up : Bool
/-- A link from its near end. -/
abbrev Pr := En × En

/-- The links that are up, between two bridges, from both ends. -/
def sd (l : Lk) : List Pr := if l.up = true ∧ l.a.b ≠ l.z.b then [(l.a, l.z), (l.z, l.a)] else []
def sds (L : List Lk) : List Pr := L.flatMap sd
/-- Those of no bridge v. -/
def wol (L : List Lk) (v : Int) : List Lk := L.filter (fun l => decide (l.a.b ≠ v) && decide (l.z.b ≠ v))
def wo (S : List Pr) (v : Int) : List Pr := S.filter (fun s => decide (s.1.b ≠ v) && decide (s.2.b ≠ v))

theorem sds_wol (L : List Lk) (v : Int) : sds (wol L v) = wo (sds L) v := by
  induction L with
  | nil => rfl
  | cons l L ih =>
    have e : sds (l :: L) = sd l ++ sds L := rfl
    have e2 : wol (l :: L) v = if (decide (l.a.b ≠ v) && decide (l.z.b ≠ v)) = true then l :: wol L v else wol L v := by simp [wol, List.filter_cons]
    rw [e, e2]
    unfold wo at *
    rw [List.filter_append, ← ih]
    by_cases h : (decide (l.a.b ≠ v) && decide (l.z.b ≠ v)) = true
    · rw [if_pos h]
      have : (sd l).filter (fun s => decide (s.1.b ≠ v) && decide (s.2.b ≠ v)) = sd l := by
        unfold sd
        simp at h
        split <;> simp [h]
      rw [this]; rfl
    · rw [if_neg h]
      have : (sd l).filter (fun s => decide (s.1.b ≠ v) && decide (s.2.b ≠ v)) = [] := by
        unfold sd
        simp at h
        split
        · rename_i hu
          by_cases h3 : l.a.b = v
          · simp [h3]
          · simp [h3, h h3]
        · simp
      rw [this]; rfl

/-- The least way's cost, of at most so many links; below nought: there is none. -/
def costS : Nat → List Pr → Int → Int → Int
  | 0, _, f, t => if f = t then 0 else -1
  | k + 1, S, f, t => if f = t then 0 else S.foldl (fun best s => if s.1.b = f then
      (let n := costS k (wo S f) s.2.b t
       if 0 ≤ n ∧ (best < 0 ∨ n + s.1.c < best) then n + s.1.c else best) else best) (-1)

/-- A way through no bridge twice. -/
inductive SP : Nat → List Pr → Int → Int → Int → Prop
  | nil (k : Nat) (S : List Pr) (v : Int) : SP k S v v 0
  | cons (k : Nat) (S : List Pr) (v t : Int) (s : Pr) (c : Int) : v ≠ t → s ∈ S → s.1.b = v → SP k (wo S v) s.2.b t c → SP (k + 1) S v t (c + s.1.c)

def Pos (S : List Pr) : Prop := ∀ s ∈ S, 0 < s.1.c
theorem Pos.wo {S : List Pr} (h : Pos S) (v : Int) : Pos (wo S v) := fun s hs => h s (List.mem_filter.1 hs).1
theorem SP.nonneg {k : Nat} {S : List Pr} {f t c : Int} (h : SP k S f t c) (hp : Pos S) : 0 ≤ c := by
  induction h with
  | nil => exact Int.le_refl _
  | cons k S v t s c hne hs hb _ ih => have := ih (hp.wo v); have := hp s hs; omega

theorem cost_spec : ∀ (k : Nat) (S : List Pr) (f t : Int), Pos S → (costS k S f t = -1 ∧ ∀ c, ¬ SP k S f t c) ∨ (SP k S f t (costS k S f t) ∧ ∀ c, SP k S f t c → costS k S f t ≤ c) := by
  intro k
  induction k with
  | zero =>
    intro S f t hp
    by_cases h : f = t
    · subst h
      refine .inr ⟨?_, fun c hc => ?_⟩
      · simp only [costS, if_true]; exact .nil _ _ _
      · simp only [costS, if_true]; exact hc.nonneg hp
    · refine .inl ⟨by simp [costS, h], fun c hc => ?_⟩
      cases hc with
      | nil => exact h rfl
  | succ k ih =>
    intro S f t hp
    by_cases h : f = t
    · subst h
      refine .inr ⟨?_, fun c hc => ?_⟩
      · simp only [costS, if_true]; exact .nil _ _ _
      · simp only [costS, if_true]; exact hc.nonneg hp
    · -- the fold over what has come
      have key : ∀ (R : List Pr), (∀ s ∈ R, s ∈ S) → ∀ (D : List Pr) (best : Int),
          ((best = -1 ∧ ∀ s ∈ D, s.1.b = f → ∀ c, ¬ SP k (wo S f) s.2.b t c) ∨ (SP (k + 1) S f t best ∧ ∀ s ∈ D, s.1.b = f → ∀ c, SP k (wo S f) s.2.b t c → best ≤ c + s.1.c)) →
          let r := R.foldl (fun best s => if s.1.b = f then
            (let n := costS k (wo S f) s.2.b t
             if 0 ≤ n ∧ (best < 0 ∨ n + s.1.c < best) then n + s.1.c else best) else best) best
          ((r = -1 ∧ ∀ s ∈ D ++ R, s.1.b = f → ∀ c, ¬ SP k (wo S f) s.2.b t c) ∨ (SP (k + 1) S f t r ∧ ∀ s ∈ D ++ R, s.1.b = f → ∀ c, SP k (wo S f) s.2.b t c → r ≤ c + s.1.c)) := by
        intro R
        induction R with
        | nil => intro _ D best hb; simpa using hb
        | cons x R ihR =>
          intro hR D best hb
          rw [List.foldl_cons]
          have hmem : ∀ s, s ∈ D ++ x :: R ↔ s ∈ (D ++ [x]) ++ R := fun s => by simp
          simp only [hmem]
          refine ihR (fun s hs => hR s (List.mem_cons_of_mem _ hs)) (D ++ [x]) _ ?_
          by_cases hx : x.1.b = f
          · rw [if_pos hx]
            have hxS := hR x (List.mem_cons_self ..)
            have hxc := hp x hxS
            rcases ih (wo S f) x.2.b t (hp.wo f) with ⟨e, hno⟩ | ⟨hsp, hle⟩
            · simp only [e]
              rw [if_neg (by omega)]
              rcases hb with ⟨hb, hD⟩ | ⟨hb, hD⟩
              · refine .inl ⟨hb, fun s hs => ?_⟩
                rcases List.mem_append.1 hs with h1 | h1
                · exact hD s h1
                · simp at h1; subst h1; exact fun _ => hno
              · refine .inr ⟨hb, fun s hs => ?_⟩
                rcases List.mem_append.1 hs with h1 | h1
                · exact hD s h1
                · simp at h1; subst h1; exact fun _ c hc => absurd hc (hno c)
            · have h0 := hsp.nonneg (hp.wo f)
              have hnew := SP.cons k S f t x _ h hxS hx hsp
              rcases hb with ⟨hb, hD⟩ | ⟨hb, hD⟩
              · rw [if_pos ⟨h0, .inl (by omega)⟩]
                refine .inr ⟨hnew, fun s hs => ?_⟩
                rcases List.mem_append.1 hs with h1 | h1
                · exact fun h2 c hc => absurd hc (hD s h1 h2 c)
                · simp at h1; subst h1; exact fun _ c hc => by have := hle c hc; omega
              · have hb0 := hb.nonneg hp
                by_cases hlt : costS k (wo S f) x.2.b t + x.1.c < best
                · rw [if_pos ⟨h0, .inr hlt⟩]
                  refine .inr ⟨hnew, fun s hs => ?_⟩
                  rcases List.mem_append.1 hs with h1 | h1
                  · exact fun h2 c hc => by have := hD s h1 h2 c hc; omega
                  · simp at h1; subst h1; exact fun _ c hc => by have := hle c hc; omega
                · rw [if_neg (by omega)]
                  refine .inr ⟨hb, fun s hs => ?_⟩
                  rcases List.mem_append.1 hs with h1 | h1
                  · exact hD s h1
                  · simp at h1; subst h1; exact fun _ c hc => by have := hle c hc; omega
          · rw [if_neg hx]
            rcases hb with ⟨hb, hD⟩ | ⟨hb, hD⟩
            · refine .inl ⟨hb, fun s hs => ?_⟩
              rcases List.mem_append.1 hs with h1 | h1
              · exact hD s h1
              · simp at h1; subst h1; exact fun h2 => absurd h2 hx
            · refine .inr ⟨hb, fun s hs => ?_⟩
              rcases List.mem_append.1 hs with h1 | h1
              · exact hD s h1
              · simp at h1; subst h1; exact fun h2 => absurd h2 hx
      have := key S (fun s hs => hs) [] (-1) (.inl ⟨rfl, fun s hs => by simp at hs⟩)
      simp only [List.nil_append] at this
      have e : costS (k + 1) S f t = S.foldl (fun best s => if s.1.b = f then
            (let n := costS k (wo S f) s.2.b t
             if 0 ≤ n ∧ (best < 0 ∨ n + s.1.c < best) then n + s.1.c else best) else best) (-1) := by
        rw [costS, if_neg h]
      rw [e]
      rcases this with ⟨e1, hno⟩ | ⟨h1, hle⟩
      · refine .inl ⟨e1, fun c hc => ?_⟩
        cases hc with
        | nil => exact h rfl
        | cons k S v t s c hne hs hb hsp => exact hno s hs hb c hsp
      · refine .inr ⟨h1, fun c hc => ?_⟩
        cases hc with
        | nil => exact absurd rfl h
        | cons k S v t s c hne hs hb hsp => exact hle s hs hb c hsp

/-- Root and cost of each bridge. -/
abbrev Vals := Int → Int × Int
def lexLe (a b : Int × Int) : Prop := a.1 < b.1 ∨ a.1 = b.1 ∧ a.2 ≤ b.2
def lexLt (a b : Int × Int) : Prop := a.1 < b.1 ∨ a.1 = b.1 ∧ a.2 < b.2

/-- A way of a root r from x to t, of this cost, through these bridges: none of them has more than it promises. -/
inductive GP (S : List Pr) (val : Vals) (r : Int) : Int → Int → List Int → Int → Prop
  | nil (v : Int) : lexLe (val v) (r, 0) → GP S val r v v [v] 0
  | cons (s : Pr) (t : Int) (vs : List Int) (c : Int) : s ∈ S → GP S val r s.2.b t vs c → s.1.b ∉ vs → lexLe (val s.1.b) (r, c + s.1.c) → GP S val r s.1.b t (s.1.b :: vs) (c + s.1.c)

theorem GP.mono {S : List Pr} {val val' : Vals} {r x t c : Int} {vs : List Int} (h : GP S val r x t vs c) (hv : ∀ y, lexLe (val' y) (val y)) : GP S val' r x t vs c := by
  induction h with
  | nil v h => exact .nil v (by have := hv v; unfold lexLe at *; omega)
  | cons s t vs c hs _ hn hl ih => exact .cons s t vs c hs ih hn (by have := hv s.1.b; unfold lexLe at *; simp at *; omega)
theorem GP.nonneg {S : List Pr} {val : Vals} {r x t c : Int} {vs : List Int} (h : GP S val r x t vs c) (hp : Pos S) : 0 ≤ c := by
  induction h with
  | nil v h => exact Int.le_refl _
  | cons s t vs c hs _ hn hl ih => have := hp s hs; omega
theorem GP.mem {S : List Pr} {val : Vals} {r x t c : Int} {vs : List Int} (h : GP S val r x t vs c) (hp : Pos S) {y : Int} (hy : y ∈ vs) : ∃ c', c' ≤ c ∧ lexLe (val y) (r, c') := by
  induction h with
  | nil v h => simp at hy; subst hy; exact ⟨0, Int.le_refl _, h⟩
  | cons s t vs c hs _ hn hl ih =>
    rcases List.mem_cons.1 hy with rfl | hy
    · exact ⟨_, Int.le_refl _, hl⟩
    · obtain ⟨c', h1, h2⟩ := ih hy
      exact ⟨c', by have := hp s hs; omega, h2⟩
theorem GP.last {S : List Pr} {val : Vals} {r x t c : Int} {vs : List Int} (h : GP S val r x t vs c) : t ∈ vs := by
  induction h with
  | nil v h => simp
  | cons s t vs c hs _ hn hl ih => exact List.mem_cons_of_mem _ ih
theorem GP.nodup {S : List Pr} {val : Vals} {r x t c : Int} {vs : List Int} (h : GP S val r x t vs c) : vs.Nodup := by
  induction h with
  | nil v h => simp
  | cons s t vs c hs _ hn hl ih => exact List.nodup_cons.2 ⟨hn, ih⟩
theorem GP.head {S : List Pr} {val : Vals} {r x t c : Int} {vs : List Int} (h : GP S val r x t vs c) : x ∈ vs := by
  cases h <;> simp
/-- Each bridge of a net of n. -/
def Within (S : List Pr) (n : Nat) : Prop := ∀ s ∈ S, (0 ≤ s.1.b ∧ s.1.b < n) ∧ (0 ≤ s.2.b ∧ s.2.b < n) ∧ s.1.c < 65536
theorem GP.within {S : List Pr} {val : Vals} {r x t c : Int} {vs : List Int} (h : GP S val r x t vs c) {n : Nat} (hw : Within S n) (hx : 0 ≤ x ∧ x < n) : ∀ y ∈ vs, 0 ≤ y ∧ y < (n : Int) := by
  induction h with
  | nil v h => intro y hy; simp at hy; subst hy; exact hx
  | cons s t vs c hs _ hn hl ih =>
    intro y hy
    rcases List.mem_cons.1 hy with rfl | hy
    · exact hx
    · exact ih (hw s hs).2.1 y hy
theorem GP.cost_le {S : List Pr} {val : Vals} {r x t c : Int} {vs : List Int} (h : GP S val r x t vs c) {n : Nat} (hw : Within S n) : c ≤ (vs.length - 1 : Int) * 65535 := by
  induction h with
  | nil v h => simp
  | cons s t vs c hs _ hn hl ih =>
    have := (hw s hs).2.2
    simp only [List.length_cons]
    omega
theorem nodup_len : ∀ (n : Nat) (l : List Int), l.Nodup → (∀ y ∈ l, 0 ≤ y ∧ y < (n : Int)) → l.length ≤ n := by
  intro n
  induction n with
  | zero => intro l _ h; cases l with
    | nil => simp
    | cons y l => have := h y (by simp); omega
  | succ n ih =>
    intro l hd h
    have h1 : (l.erase (n : Int)).Nodup := hd.erase _
    have h2 := ih _ h1 (fun y hy => by
      have hm := (hd.mem_erase_iff.1 hy)
      have := h y hm.2
      have := hm.1
      omega)
    rw [List.length_erase] at h2
    split at h2 <;> omega

/-- A way of the net is a way through no bridge twice. -/
theorem GP.sp {S : List Pr} {val : Vals} {r x t c : Int} {vs : List Int} (h : GP S val r x t vs c) : ∀ (S' : List Pr) (k : Nat), (∀ s ∈ S, s.1.b ∈ vs → s.2.b ∈ vs → s ∈ S') → vs.length ≤ k + 1 → SP k S' x t c := by
  induction h with
  | nil v h => intro S' k _ _; exact .nil _ _ _
  | cons s t vs c hs hg hn hl ih =>
    intro S' k hS hk
    cases k with
    | zero =>
      have := hg.head
      cases vs with
      | nil => simp at this
      | cons => simp at hk
    | succ k =>
      have hne : s.1.b ≠ t := fun e => hn (e ▸ hg.last)
      refine .cons k S' _ t s c hne (hS s hs (by simp) (List.mem_cons_of_mem _ hg.head)) rfl (ih _ k ?_ (by simp at hk; omega))
      intro s' hs' h1 h2
      refine List.mem_filter.2 ⟨hS s' hs' (List.mem_cons_of_mem _ h1) (List.mem_cons_of_mem _ h2), ?_⟩
      simp
      exact ⟨fun e => hn (e ▸ h1), fun e => hn (e ▸ h2)⟩

/-- What holds of a net of n bridges (ids: id) at every moment of putting right. -/
structure Inv (id : Int → Int) (n : Nat) (S : List Pr) (val : Vals) : Prop where
  own : ∀ x : Int, 0 ≤ x → x < n → lexLe (val x) (id x, 0)
  gp : ∀ x : Int, 0 ≤ x → x < n → ∃ (t : Int) (vs : List Int), 0 ≤ t ∧ t < n ∧ (val x).1 = id t ∧ GP S val (val x).1 x t vs (val x).2

theorem Inv.cost {id : Int → Int} {n : Nat} {S : List Pr} {val : Vals} (h : Inv id n S val) (hw : Within S n) (hp : Pos S) (hn : n ≤ 8) {x : Int} (h0 : 0 ≤ x) (h1 : x < n) : 0 ≤ (val x).2 ∧ (val x).2 ≤ 458745 := by
  obtain ⟨t, vs, _, _, _, hg⟩ := h.gp x h0 h1
  have hl := nodup_len n vs hg.nodup (hg.within hw ⟨h0, h1⟩)
  have hc := hg.cost_le hw
  exact ⟨hg.nonneg hp, by have : ((vs.length : Int) - 1) * 65535 ≤ 7 * 65535 := by omega
                          omega⟩
theorem Inv.start (id : Int → Int) (n : Nat) (S : List Pr) : Inv id n S (fun x => (id x, 0)) where
  own x _ _ := .inr ⟨rfl, Int.le_refl _⟩
  gp x h0 h1 := ⟨x, [x], h0, h1, rfl, .nil x (.inr ⟨rfl, Int.le_refl _⟩)⟩
def upd (val : Vals) (x : Int) (v : Int × Int) : Vals := fun y => if y = x then v else val y
/-- What a side offers. -/
def offer (val : Vals) (s : Pr) : Int × Int := ((val s.2.b).1, (val s.2.b).2 + s.1.c)
theorem Inv.step {id : Int → Int} {n : Nat} {S : List Pr} {val : Vals} (h : Inv id n S val) (hw : Within S n) (hp : Pos S) {s : Pr} (hs : s ∈ S) (hlt : lexLt (offer val s) (val s.1.b)) : Inv id n S (upd val s.1.b (offer val s)) := by
  have hle : ∀ y, lexLe (upd val s.1.b (offer val s) y) (val y) := fun y => by
    unfold upd
    split
    · rename_i e; subst e; unfold lexLt at hlt; unfold lexLe; omega
    · exact .inr ⟨rfl, Int.le_refl _⟩
  constructor
  · intro x h0 h1
    have := h.own x h0 h1
    have := hle x
    unfold lexLe at *
    simp at *
    omega
  · intro x h0 h1
    by_cases e : x = s.1.b
    · subst e
      obtain ⟨t, vs, ht0, ht1, hid, hg⟩ := h.gp s.2.b (hw s hs).2.1.1 (hw s hs).2.1.2
      have hnot : s.1.b ∉ vs := fun hm => by
        obtain ⟨c', hc', hl⟩ := hg.mem hp hm
        have := hp s hs
        unfold lexLt offer at hlt
        unfold lexLe at hl
        simp at *
        omega
      have e1 : upd val s.1.b (offer val s) s.1.b = offer val s := by simp [upd]
      rw [e1]
      refine ⟨t, s.1.b :: vs, ht0, ht1, hid, ?_⟩
      refine .cons s t vs _ hs (hg.mono hle) hnot ?_
      rw [e1]
      exact .inr ⟨rfl, Int.le_refl _⟩
    · obtain ⟨t, vs, ht0, ht1, hid, hg⟩ := h.gp x h0 h1
      have e1 : upd val s.1.b (offer val s) x = val x := by simp [upd, e]
      rw [e1]
      exact ⟨t, vs, ht0, ht1, hid, hg.mono hle⟩

/-- Nothing more changes. -/
def Still (S : List Pr) (val : Vals) : Prop := ∀ s ∈ S, ¬ lexLt (offer val s) (val s.1.b)
theorem Still.le {id : Int → Int} {n : Nat} {S : List Pr} {val : Vals} (h : Inv id n S val) (hst : Still S val) {k : Nat} {S' : List Pr} {x t c : Int} (hsp : SP k S' x t c) (hS : ∀ s ∈ S', s ∈ S) (ht : 0 ≤ t ∧ t < n) : lexLe (val x) (id t, c) := by
  induction hsp with
  | nil k S' v => exact h.own v ht.1 ht.2
  | cons k S' v t s c hne hs hb _ ih =>
    have h1 := ih (fun s' hs' => hS s' (List.mem_filter.1 hs').1) ht
    have h2 := hst s (hS s hs)
    subst hb
    unfold lexLt offer at h2
    unfold lexLe at *
    simp at *
    omega
/-- Root and cost as all ways say them. -/
structure IsRoot (id : Int → Int) (n : Nat) (S : List Pr) (x : Int) (v : Int × Int) : Prop where
  is : ∃ t : Int, 0 ≤ t ∧ t < n ∧ v.1 = id t ∧ v.2 = costS n S x t ∧ 0 ≤ costS n S x t
  least : ∀ t : Int, 0 ≤ t → t < n → 0 ≤ costS n S x t → v.1 ≤ id t
theorem Inv.isRoot {id : Int → Int} {n : Nat} {S : List Pr} {val : Vals} (h : Inv id n S val) (hst : Still S val) (hw : Within S n) (hp : Pos S) {x : Int} (h0 : 0 ≤ x) (h1 : x < n) : IsRoot id n S x (val x) := by
  constructor
  · obtain ⟨t, vs, ht0, ht1, hid, hg⟩ := h.gp x h0 h1
    have hl := nodup_len n vs hg.nodup (hg.within hw ⟨h0, h1⟩)
    have hsp := hg.sp S n (fun s hs _ _ => hs) (by omega)
    rcases cost_spec n S x t hp with ⟨_, hno⟩ | ⟨hc, hle⟩
    · exact absurd hsp (hno _)
    · have h2 := hle _ hsp
      have h3 := Still.le h hst hc (fun s hs => hs) ⟨ht0, ht1⟩
      have h4 := hc.nonneg hp
      refine ⟨t, ht0, ht1, hid, ?_, h4⟩
      unfold lexLe at h3
      simp at h3
      omega
  · intro t ht0 ht1 hc
    rcases cost_spec n S x t hp with ⟨e, _⟩ | ⟨hsp, _⟩
    · omega
    · have h3 := Still.le h hst hsp (fun s hs => hs) ⟨ht0, ht1⟩
      unfold lexLe at h3
      simp at h3
      omega
theorem IsRoot.unique {id : Int → Int} {n : Nat} {S : List Pr} {x : Int} {u v : Int × Int} (hid : ∀ s t : Int, 0 ≤ s → s < n → 0 ≤ t → t < n → id s = id t → s = t) (h : IsRoot id n S x u) (k : IsRoot id n S x v) : u = v := by
  obtain ⟨t, a1, a2, a3, a4, a5⟩ := h.is
  obtain ⟨s, b1, b2, b3, b4, b5⟩ := k.is
  have c1 := h.least s b1 b2 b5
  have c2 := k.least t a1 a2 a5
  have e : t = s := hid t s a1 a2 b1 b2 (by omega)
  subst e
  exact Prod.ext (by omega) (by omega)
end Go.Proofs.Ythnkeppkhdceoaa
