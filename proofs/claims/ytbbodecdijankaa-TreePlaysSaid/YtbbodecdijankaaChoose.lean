/-
  Layer 9: the choice. Conditions: the machine lies so; its numbers are in their types.
-/
import Derived.Test.YtbbodecdijankaaPath
import Derived.IntWalk
import Derived.Test.YtbbodecdijankaaSpread
import Derived.Test.YtbbodecdijankaaPC
import Derived.Test.YtbbodecdijankaaWV
namespace Go.Proofs.Ytbbodecdijankaa
open Go.RowKit
set_option linter.unusedVariables false
set_option linter.unusedSimpArgs false
set_option maxRecDepth 4000

theorem info_parts {P : Program} {e : TypeId} {z : Value} {s b : Nat} (h : (P.info? e).map (fun i => (i.zero, i.size, i.bytes)) = some (some z, s, b)) :
    ∃ i, P.info? e = some i ∧ i.zero = some z ∧ i.size = s ∧ i.bytes = b := by
  cases hi : P.info? e with
  | none => rw [hi] at h; simp at h
  | some i =>
    rw [hi] at h
    simp only [Option.map_some, Option.some.injEq, Prod.mk.injEq] at h
    exact ⟨i, rfl, h.1, h.2.1, h.2.2⟩
theorem path_yes {w : World} {m g c i : Nat} {τ : TM} {x : Pt} (h : Mach w m g c τ) (hx : τ.P[i]? = some x) (hn : τ.P.length ≤ 8) (hok : x.Ok) (ho : offB τ.id x = true) :
    Calls Try.prog 53 #[.pointer (some ⟨m, 0, Option.none⟩), .int .i64 (i : Int)] w fun e w' => e = .returned (.tuple #[pth (offV x i), .bool true]) ∧ Keeps Nil w w' :=
  (path_any h hx hn hok).mono fun e w' ⟨⟨y, he, hy⟩, k⟩ => ⟨by rw [he, ho, hy ho], k⟩
theorem path_no {w : World} {m g c i : Nat} {τ : TM} {x : Pt} (h : Mach w m g c τ) (hx : τ.P[i]? = some x) (hn : τ.P.length ≤ 8) (hok : x.Ok) (ho : offB τ.id x = false) :
    Calls Try.prog 53 #[.pointer (some ⟨m, 0, Option.none⟩), .int .i64 (i : Int)] w fun e w' => (∃ y, e = .returned (.tuple #[pth y, .bool false])) ∧ Keeps Nil w w' :=
  (path_any h hx hn hok).mono fun e w' ⟨⟨y, he, hy⟩, k⟩ => ⟨⟨y, by rw [he, ho]⟩, k⟩
theorem pathsTo_len (id : Int) (P : List Pt) (k : Nat) : (pathsTo id P k).length ≤ k := by
  induction k with
  | zero => simp [pathsTo]
  | succ k ih =>
    simp only [pathsTo, List.length_append]
    cases P[k]? with
    | none => simp; omega
    | some p => simp only []; split <;> simp <;> omega
theorem pathsTo_yes {id : Int} {P : List Pt} {k : Nat} {x : Pt} (hx : P[k]? = some x) (h : offB id x = true) : pathsTo id P (k + 1) = pathsTo id P k ++ [offV x k] := by
  simp [pathsTo, hx, h]
theorem pathsTo_no {id : Int} {P : List Pt} {k : Nat} {x : Pt} (hx : P[k]? = some x) (h : offB id x = false) : pathsTo id P (k + 1) = pathsTo id P k := by
  simp [pathsTo, hx, h]
theorem pathsTo_mem {id : Int} {P : List Pt} {k : Nat} {y : Pth} (h : y ∈ pathsTo id P k) : ∃ j p, j < k ∧ P[j]? = some p ∧ offB id p = true ∧ y = offV p j := by
  induction k with
  | zero => simp [pathsTo] at h
  | succ k ih =>
    simp only [pathsTo, List.mem_append] at h
    rcases h with h | h
    · obtain ⟨j, p, hj, r⟩ := ih h
      exact ⟨j, p, by omega, r⟩
    · cases hp : P[k]? with
      | none => rw [hp] at h; simp at h
      | some p =>
        rw [hp] at h
        simp only [] at h
        by_cases ho : offB id p = true
        · rw [if_pos ho] at h
          simp at h
          exact ⟨k, p, by omega, hp, ho, h⟩
        · rw [if_neg ho] at h
          simp at h
theorem best_mem (m : Pth) (l : List Pth) : best m l ∈ m :: l := by
  induction l generalizing m with
  | nil => simp [best]
  | cons x l ih =>
    simp only [best]
    have := ih (if ordP x m < 0 then x else m)
    rcases List.mem_cons.1 this with h | h
    · rw [h]
      split <;> simp
    · exact List.mem_cons_of_mem _ (List.mem_cons_of_mem _ h)
theorem chosen_cases (id : Int) (P : List Pt) :
    (pathsTo id P P.length = [] ∧ chosen id P = (id, 0, -1, 0)) ∨
    (∃ x0 l, pathsTo id P P.length = x0 :: l ∧ ¬ (best x0 l).1 < id ∧ chosen id P = (id, 0, -1, 0)) ∨
    (∃ (x0 : Pth) (l : List Pth) (j : Nat) (p : Pt), pathsTo id P P.length = x0 :: l ∧ P[j]? = some p ∧ offB id p = true ∧ best x0 l = offV p j ∧ p.h.r < id ∧ chosen id P = (p.h.r, p.h.c + p.cost, (j : Int), p.h.hops + 1)) := by
  cases hp : pathsTo id P P.length with
  | nil => exact .inl ⟨rfl, by simp [chosen, hp, bestOf]⟩
  | cons x0 l =>
    by_cases hr : (best x0 l).1 < id
    · have hm := best_mem x0 l
      rw [← hp] at hm
      obtain ⟨j, p, hj, hx, ho, hb⟩ := pathsTo_mem hm
      refine .inr (.inr ⟨x0, l, j, p, rfl, hx, ho, hb, by rw [hb] at hr; exact hr, ?_⟩)
      simp [chosen, hp, bestOf, hb, offV] at hr ⊢
      rw [hx]
      simp [hr]
    · exact .inr (.inl ⟨x0, l, rfl, hr, by simp [chosen, hp, bestOf, hr]⟩)
theorem offB_parts {id : Int} {p : Pt} (h : offB id p = true) : p.up = true ∧ 0 < p.cost ∧ p.lasts ≠ 0 ∧ p.h.role = 2 ∧ p.h.b ≠ id ∧ p.h.hops < 20 ∧ p.h.c + p.cost ≤ 16777216 := by
  unfold offB Pt.link farB at h
  simp at h
  obtain ⟨⟨h1, h2⟩, h3, h4, h5, h6, h7, h8⟩ := h
  exact ⟨h1, h2, h3, h4, h5, h6, h8⟩
theorem eq85 (a b c a' b' c' : Int) (w : World) :
    (Op.equalIn 10000 85 (.agg #[.int .u64 a, .int .u32 b, .int .i64 c]) (.agg #[.int .u64 a', .int .u32 b', .int .i64 c'])).run Try.prog w = .ok (decide (a = a' ∧ b = b' ∧ c = c')) w := by
  by_cases h0 : a = a' <;> by_cases h1 : b = b' <;> by_cases h2 : c = c' <;> simp [go_sem, h0, h1, h2]
theorem neq85 (a b c a' b' c' : Int) (r : Bool) (hr : (!decide (a = a' ∧ b = b' ∧ c = c')) = r) (w : World) :
    (binOp .neq 85 (.agg #[.int .u64 a, .int .u32 b, .int .i64 c]) (.agg #[.int .u64 a', .int .u32 b', .int .i64 c'])).run Try.prog w = .ok (.bool r) w := by
  subst hr
  rw [run_neq_struct, eq85]; rfl
theorem moved_eq (τ : TM) (a b c h : Int) : (!decide (a = τ.root ∧ b = τ.cost ∧ c = τ.port)) = τ.moved (a, b, c, h) := by
  unfold TM.moved
  by_cases h0 : a = τ.root <;> by_cases h1 : b = τ.cost <;> by_cases h2 : c = τ.port <;> simp [h0, h1, h2]
def calmP (τ : TM) (i : Nat) (p : Pt) : Pt := { p with ag := p.ag && decide (τ.roleOf i p = 2) }
def TM.calmTo (τ : TM) (k : Nat) : TM := { τ with P := (τ.P.take k).mapIdx (calmP τ) ++ τ.P.drop k }
theorem calmTo_zero (τ : TM) : τ.calmTo 0 = τ := by simp [TM.calmTo]
theorem calmTo_all (τ : TM) : τ.calmTo τ.P.length = τ.calm := by simp only [TM.calmTo, TM.calm, List.take_length, List.drop_length, List.append_nil]; rfl
theorem calmTo_len (τ : TM) {k : Nat} (hk : k ≤ τ.P.length) : (τ.calmTo k).P.length = τ.P.length := by simp [TM.calmTo]; omega
theorem calmTo_get (τ : TM) {k : Nat} {x : Pt} (hx : τ.P[k]? = some x) : (τ.calmTo k).P[k]? = some x := by
  have hl := (List.getElem?_eq_some_iff.1 hx).1
  simp only [TM.calmTo]
  rw [List.getElem?_append_right (by simp; omega)]
  simp [Nat.min_eq_left (Nat.le_of_lt hl), hx]
theorem calmTo_set (τ : TM) {k : Nat} {x : Pt} (hx : τ.P[k]? = some x) : { τ.calmTo k with P := (τ.calmTo k).P.set k (calmP τ k x) } = τ.calmTo (k + 1) := by
  have hl := (List.getElem?_eq_some_iff.1 hx).1
  have e : τ.P[k] = x := by rw [List.getElem?_eq_getElem hl] at hx; exact Option.some.inj hx
  simp only [TM.calmTo]
  congr 1
  rw [List.take_succ_eq_append_getElem hl, e, List.mapIdx_append, List.drop_eq_getElem_cons hl, e]
  rw [List.set_append_right _ _ (by simp; omega)]
  simp [Nat.min_eq_left (Nat.le_of_lt hl)]
theorem calmTo_role (τ : TM) (k i : Nat) (x : Pt) : (τ.calmTo k).roleOf i x = τ.roleOf i x := rfl
theorem three_block {w : World} {b : Nat} {v0 v1 v2 : Value} {T : TypeId} {fz : Nat × Nat} (h : w.heap[b]? = some (.cells #[v0, v1, v2] T fz)) :
    w.cell? ⟨b, 0, Option.none⟩ = some v0 ∧ w.cell? ⟨b, 1, Option.none⟩ = some v1 ∧ w.cell? ⟨b, 2, Option.none⟩ = some v2 := by
  simp [World.cell?, h]
theorem choose_eq (τ : TM) {X : Int × Int × Int × Int} (hX : chosen τ.id τ.P = X) : τ.choose = (if τ.moved X then (τ.takes X).turn else τ.takes X).calm := by
  unfold TM.choose; simp only [hX]
/-- What Least says of a row. -/
def LeastIs (L : List Pth) (e : Ending) : Prop := (L = [] ∧ e = .returned (.tuple #[pth (0, 0, 0, 0, 0), .bool false])) ∨ ∃ x0 l, L = x0 :: l ∧ e = .returned (.tuple #[pth (best x0 l), .bool true])
theorem least_any {w : World} {B : Nat} (L : List Pth) (p : Option Addr) (q c : Nat) (h : w.ownsRow B 126 5 (.slice p q c) q (pc L)) (hL : L.length ≤ 100) :
    Calls Try.prog 54 #[.slice p q c] w fun e w' => LeastIs L e ∧ Keeps Nil w w' := by
  have hl : L.length = q := by have := h.1; rw [pc_length] at this; omega
  cases L with
  | nil =>
    subst hl
    exact (least_none p c).mono fun e w' ⟨he, k⟩ => ⟨.inl ⟨rfl, he⟩, k⟩
  | cons x0 l =>
    subst hl
    rcases h.2 with ⟨hv, hn⟩ | ⟨g, cap, cur, hv, hb, hg, _⟩
    · simp at hn
    · injection hv with h1 h2 h3
      subst h1
      exact (least_some g c x0 l (lt_of_block hg) (row_of_own h) (by simp at hL; omega)).mono fun e w' ⟨he, k⟩ => ⟨.inr ⟨x0, l, rfl, he⟩, k⟩
/-- What was picked, and what is chosen then. -/
def Pick (id : Int) (P : List Pt) (y : Pth) (is : Bool) : Prop :=
  (is = true → ∃ (j : Nat) (p : Pt), P[j]? = some p ∧ offB id p = true ∧ y = offV p j) ∧ (is = false → chosen id P = (id, 0, -1, 0)) ∧
  (is = true → ¬ y.1 < id → chosen id P = (id, 0, -1, 0)) ∧ ∀ (j : Nat) (p : Pt), is = true → P[j]? = some p → y = offV p j → y.1 < id → chosen id P = (p.h.r, p.h.c + p.cost, (j : Int), p.h.hops + 1)
theorem pick_none {id : Int} {P : List Pt} (h : pathsTo id P P.length = []) : Pick id P (0, 0, 0, 0, 0) false :=
  ⟨fun e => (by cases e), fun _ => (by simp [chosen, h, bestOf]), fun e => (by cases e), fun _ _ e => (by cases e)⟩
theorem pick_some {id : Int} {P : List Pt} {x0 : Pth} {l : List Pth} (h : pathsTo id P P.length = x0 :: l) : Pick id P (best x0 l) true := by
  refine ⟨fun _ => ?_, fun e => (by cases e), fun _ hr => by simp [chosen, h, bestOf, hr], fun j p _ hp hb hr => ?_⟩
  · have hm := best_mem x0 l
    rw [← h] at hm
    obtain ⟨j, p, hj, hx, ho, hb⟩ := pathsTo_mem hm
    exact ⟨j, p, hx, ho, hb⟩
  · simp [chosen, h, bestOf, hb, offV] at hr ⊢
    rw [hp]
    simp [hr]
set_option maxHeartbeats 8000000 in
theorem choose_any {w : World} {m g c : Nat} {τ : TM} (h : Mach w m g c τ) (hok : τ.Ok) (hv : τ.ver < 9223372036854775807) :
    Calls Try.prog 35 #[.pointer (some ⟨m, 0, Option.none⟩)] w fun e w' => e = .returned (.tuple #[]) ∧ Mach w' m g c τ.choose ∧ Keeps (Of m g) w w' := by
  obtain ⟨i0, hi, hz0, hz1, hz2⟩ := info_parts info41
  have HI := hid (And.intro hi (And.intro hz0 (And.intro hz1 hz2)))
  obtain ⟨⟨m0, m1, m2, m3, m4, m5, m6, m7⟩, mf⟩ := h.cells
  have hle := h.row.le
  have hn := hok.n
  have H := hid h
  have HOK := hid hok
  clear hi hz0 hz1 hz2 h hok mf m2 m3 m4 m5 m6 m7
  go_enter Try.func35, Try.ntmps35
  go_wp2_with fail
  go_loopw [2, 15] (fun s2 s15 wr => ∃ k : Nat, k ≤ τ.P.length ∧ s15 = .int .i64 k ∧ ∃ (p : Option Addr) (q c' : Nat), s2 = .slice p q c' ∧ q ≤ k ∧ Hid (wr.ownsRow w.heap.size 126 5 (.slice p q c') q (pc (pathsTo τ.id τ.P k)) ∧ Keeps Nil w wr)) (fun _ s15 _ => τ.P.length - (intOf s15).toNat)
  case atStart => exact ⟨0, Nat.zero_le _, rfl, Option.none, 0, 0, rfl, Nat.zero_le _, hid ⟨World.ownsRow_nil _ _ _ _, Keeps.refl _ _⟩⟩
  case round =>
    obtain ⟨k, hk, rfl, p, q, c', rfl, hqk, HR⟩ := hrel
    by_cases hlt : k < τ.P.length
    · obtain ⟨x, hx⟩ : ∃ x, τ.P[k]? = some x := ⟨_, List.getElem?_eq_getElem hlt⟩
      have hxo := HOK.out.P x (List.mem_of_getElem? hx)
      have HM := hid (H.out.keepN HR.out.2)
      have HX := hid hx
      have HXO := hid hxo
      cases ho : offB τ.id x with
      | true =>
        have HO := hid ho
        obtain ⟨y, hy⟩ : ∃ y, offV x k = y := ⟨_, rfl⟩
        have PA := path_yes HM.out hx hn.2 hxo ho
        rw [hy] at PA
        have HY := hid hy
        obtain ⟨yr, yc, yb, yp, yi⟩ := y
        have HPA := hid PA
        clear ho hy PA hx hxo m0 m1
        go_wp2_with fail
        refine HPA.out.mono ?_; rintro e w2 ⟨rfl, k2⟩
        go_upto_region 6 with (fail)
        have hb := alloc_block w2 (.cells #[.int .u64 yr, .int .u32 yc, .int .u64 yb, .int .u8 yp, .int .u8 yi] 126)
        have k3 : Keeps Nil wr (w2.alloc (.cells #[.int .u64 yr, .int .u32 yc, .int .u64 yb, .int .u8 yp, .int .u8 yi] 126)) := k2.alloc _
        generalize w2.alloc (.cells #[.int .u64 yr, .int .u32 yc, .int .u64 yb, .int .u8 yp, .int .u8 yi] 126) = w3 at *
        generalize w2.heap.size = b4 at *
        obtain ⟨d0, d1, d2, d3, d4⟩ := held5 (x := (yr, yc, yb, yp, yi)) (Keeps.refl Nil w3) hb
        have OW := hid (ownsRow_keep HR.out.1 (k3.alloc (.cells (pcells (yr, yc, yb, yp, yi)) 126 (0, 0))) (fun _ _ e => e))
        have KW := hid (HR.out.2.trans (k3.alloc (.cells (pcells (yr, yc, yb, yp, yi)) 126 (0, 0))))
        have hpl := pathsTo_len τ.id τ.P k
        clear hb k2 k3
        go_wp2_with (at_builtin; refine wpList_append_wv (o := ⟨some 28, _, _, _, _, _⟩) _ rfl _ _ 124 rfl w.heap.size 126 i0 (pth (0, 0, 0, 0, 0)) 5 40 Try.underlying124 HI.out.1 HI.out.2.1 HI.out.2.2.1 HI.out.2.2.2 rfl (by decide) (.slice p q c') q (pc (pathsTo τ.id τ.P k)) rfl OW.out 0 (some ⟨w3.heap.size, 0, Option.none⟩) 1 1 (pcells (yr, yc, yb, yp, yi)).toList rfl (WV.new w3 (pcells (yr, yc, yb, yp, yi)) 126 5 rfl) (by simp [Value.oneCell']) (by unfold maxLen; omega) (by omega) KW.out.size ?_; intro v1 w4 own1 hg1 hat1)
        obtain ⟨p1, c1, hv1⟩ := own_shape own1
        subst hv1
        go_roundw
        case rel =>
          refine ⟨k + 1, by omega, by go_num, p1, q + 1, c1, rfl, by omega, hid ⟨?_, ?_⟩⟩
          · rw [pathsTo_yes HX.out HO.out, HY.out, pc_snoc]
            exact own1
          · exact KW.out.grown hg1 (fun g hg hlt => by have := own_ge OW.out hg; omega)
        case measure => simp only [intOf]; omega
      | false =>
        have HO := hid ho
        have PA := path_no HM.out hx hn.2 hxo ho
        have HPA := hid PA
        clear ho PA hx hxo m0 m1
        go_wp2_with fail
        refine HPA.out.mono ?_; rintro e w2 ⟨⟨⟨yr, yc, yb, yp, yi⟩, rfl⟩, k2⟩
        go_wp2_with fail
        go_roundw
        case rel =>
          have k3 := (HR.out.2.trans k2).alloc (.cells #[.int .u64 yr, .int .u32 yc, .int .u64 yb, .int .u8 yp, .int .u8 yi] 126)
          refine ⟨k + 1, by omega, by go_num, p, q, c', rfl, by omega, hid ⟨?_, k3⟩⟩
          rw [pathsTo_no HX.out HO.out]
          exact ownsRow_keep HR.out.1 (k2.alloc _) (fun _ _ e => e)
        case measure => simp only [intOf]; omega
    · obtain rfl : k = τ.P.length := by omega
      have HM := hid (H.out.keepN HR.out.2)
      obtain ⟨⟨n0, n1, n2, n3, n4, n5, n6, n7⟩, nf⟩ := HM.out.cells
      have nf2 := nf 2
      have nf3 := nf 3
      have nf4 := nf 4
      have nf5 := nf 5
      have hml := HM.out.lt
      clear nf m0 m1 n6 n7
      go_upto_region 10 with (fail)
      have s2 := HM.out.set 2 (τ' := { τ with root := τ.id }) (v := .int .u64 τ.id) rfl (by simp [hcl])
      have s3 := s2.set 3 (τ' := { τ with root := τ.id, cost := 0 }) (v := .int .u32 0) rfl (by simp [hcl])
      have s4 := s3.set 4 (τ' := { τ with root := τ.id, cost := 0, port := -1 }) (v := .int .i64 (-1)) rfl (by simp [hcl])
      have s5 := s4.set 5 (τ' := τ.takes (τ.id, 0, -1, 0)) (v := .int .u8 0) rfl (by simp [hcl, TM.takes])
      have ks : Keeps (At m) wr ((((wr.setCell ⟨m, 2, Option.none⟩ (.int .u64 τ.id)).setCell ⟨m, 3, Option.none⟩ (.int .u32 0)).setCell ⟨m, 4, Option.none⟩ (.int .i64 (-1))).setCell ⟨m, 5, Option.none⟩ (.int .u8 0)) :=
        ((((Keeps.refl _ _).set m 2 (at_self m) _).set m 3 (at_self m) _).set m 4 (at_self m) _).set m 5 (at_self m) _
      have hsz : ((((wr.setCell ⟨m, 2, Option.none⟩ (.int .u64 τ.id)).setCell ⟨m, 3, Option.none⟩ (.int .u32 0)).setCell ⟨m, 4, Option.none⟩ (.int .i64 (-1))).setCell ⟨m, 5, Option.none⟩ (.int .u8 0)).heap.size = wr.heap.size := by simp [World.setCell]
      generalize ((((wr.setCell ⟨m, 2, Option.none⟩ (.int .u64 τ.id)).setCell ⟨m, 3, Option.none⟩ (.int .u32 0)).setCell ⟨m, 4, Option.none⟩ (.int .i64 (-1))).setCell ⟨m, 5, Option.none⟩ (.int .u8 0)) = wa at *
      have hb6 := alloc_block wa (.cells #[.int .u64 τ.root, .int .u32 τ.cost, .int .i64 τ.port] 85 (0, 0))
      have sa := s5.alloc (.cells #[.int .u64 τ.root, .int .u32 τ.cost, .int .i64 τ.port] 85 (0, 0))
      have kb := ks.alloc (.cells #[.int .u64 τ.root, .int .u32 τ.cost, .int .i64 τ.port] 85 (0, 0))
      rw [hsz] at hb6
      generalize wa.alloc (.cells #[.int .u64 τ.root, .int .u32 τ.cost, .int .i64 τ.port] 85 (0, 0)) = wb at *
      have hmb : m < wr.heap.size ∧ g < wr.heap.size := HM.out.lt
      generalize wr.heap.size = b6 at *
      have OW := hid (ownsRow_keep HR.out.1 kb (fun g' hg' e => by rw [At] at e; have := H.out.lt.1; omega))
      have KW := hid ((HR.out.2.ofNil (S := Of m g)).trans kb.ofM)
      have SA := hid sa
      have HB6 := hid hb6
      have hq : (pathsTo τ.id τ.P τ.P.length).length = q := by have := OW.out.1; rw [pc_length] at this; omega
      have HQ := hid hq
      clear s2 s3 s4 s5 ks hsz hb6 sa kb hq n0 n1 n2 n3 n4 n5 nf2 nf3 nf4 nf5
      obtain ⟨⟨n0, n1, n2, n3, n4, n5, n6, n7⟩, nf⟩ := SA.out.cells
      have nf2 := nf 2
      have nf3 := nf 3
      have nf4 := nf 4
      have nf5 := nf 5
      clear nf
      have hq8 : (pathsTo τ.id τ.P τ.P.length).length ≤ 100 := by have := HQ.out; omega
      go_cut [7, 8] (fun s7 s8 wx => ∃ (W : World) (b7 : Nat) (y : Pth) (is : Bool), W = wx ∧ s7 = .pointer (some ⟨b7, 0, Option.none⟩) ∧ s8 = .bool is ∧ Hid (wx.heap[b7]? = some (.cells (pcells y) 126 (0, 0)) ∧ Keeps Nil wb wx ∧ Pick τ.id τ.P y is ∧ b6 ≠ b7 ∧ m ≠ b7 ∧ g ≠ b7))
      case first =>
        have LA := hid (least_any _ p q c' OW.out hq8)
        have hsz9 := lt_of_block HB6.out
        have hsz8 := SA.out.lt
        go_wp2_with fail
        refine LA.out.mono ?_; rintro e w5 ⟨⟨hp, rfl⟩ | ⟨x0, l, hp, rfl⟩, k5⟩
        · have HPI := hid (pick_none hp)
          have k5z := k5.size
          clear hp
          go_wp2_with fail
          go_meet
          exact ⟨_, w5.heap.size, (0, 0, 0, 0, 0), false, rfl, rfl, rfl, hid ⟨alloc_block _ _, k5.alloc _, HPI.out, by omega, by omega, by omega⟩⟩
        · have HPI := hid (pick_some hp)
          have k5z := k5.size
          generalize best x0 l = y at *
          obtain ⟨yr, yc, yb, yp, yi⟩ := y
          clear hp
          go_wp2_with fail
          go_meet
          exact ⟨_, w5.heap.size, (yr, yc, yb, yp, yi), true, rfl, rfl, rfl, hid ⟨alloc_block _ _, k5.alloc _, HPI.out, by omega, by omega, by omega⟩⟩
      case rest =>
      obtain ⟨wx, b7, ⟨yr, yc, yb, yp, yi⟩, is, rfl, rfl, rfl, HC7⟩ := hcut
      clear n0 n1 n2 n3 n4 n5 n6 n7 nf2 nf3 nf4 nf5
      have SA7 := hid (SA.out.keepN HC7.out.2.1)
      have HB67 := hid ((HC7.out.2.1.block _ (lt_of_block HB6.out) (fun e => e)).trans HB6.out)
      have KW7 := hid (KW.out.thenNil HC7.out.2.1)
      obtain ⟨⟨n0, n1, n2, n3, n4, n5, n6, n7⟩, _⟩ := SA7.out.cells
      obtain ⟨y0, y1, y2, y3, y4⟩ := five_block HC7.out.1
      go_upto_region 11 with (fail)
      go_cut [60] (fun s60 wy => s60 = .bool (is && decide (yr < τ.id)) ∧ ∃ n, wy = wx.drewN n)
      case first =>
        cases is with
        | false =>
          go_quiet (fail)
          go_wp2_with fail
          go_meet
          exact ⟨rfl, _, rfl⟩
        | true =>
          go_quiet (fail)
          go_wp2_with fail
          go_meet
          exact ⟨rfl, _, rfl⟩
      case rest =>
      obtain ⟨rfl, nd, rfl⟩ := hcut
      clear n0 n1 n2 n3 n4 n5 n6 n7 y0 y1 y2 y3 y4
      go_upto_if 60 with (fail)
      go_cut [] from 7 to 126 (fun wy => Hid (Mach wy m g c (τ.takes (chosen τ.id τ.P)) ∧ wy.heap[b6]? = some (.cells #[.int .u64 τ.root, .int .u32 τ.cost, .int .i64 τ.port] 85 (0, 0)) ∧ Keeps (Of m g) w wy))
      case first =>
        cases hd : (is && decide (yr < τ.id)) with
        | false =>
          have hch : chosen τ.id τ.P = (τ.id, 0, -1, 0) := by
            cases is with
            | false => exact HC7.out.2.2.1.2.1 rfl
            | true => exact HC7.out.2.2.1.2.2.1 rfl (by simpa using hd)
          have HCH := hid hch
          clear hch
          go_wp2_with fail
          go_meet
          exact hid ⟨by rw [HCH.out]; exact SA7.out.drewN _, HB67.out, KW7.out.thenNil (Keeps.drewN _ _)⟩
        | true =>
          have hd' : is = true ∧ yr < τ.id := by simpa using hd
          obtain ⟨rfl, hyr⟩ := hd'
          obtain ⟨j, xj, hxj, hoj, hyj⟩ := HC7.out.2.2.1.1 rfl
          have hch := HC7.out.2.2.1.2.2.2 j xj rfl hxj hyj hyr
          obtain ⟨_, _, _, _, _, hh20, _⟩ := offB_parts hoj
          have hh0 := (HOK.out.P xj (List.mem_of_getElem? hxj)).h.hops
          have hjl := (List.getElem?_eq_some_iff.1 hxj).1
          unfold offV at hyj
          simp only [Prod.mk.injEq] at hyj
          obtain ⟨rfl, rfl, rfl, rfl, rfl⟩ := hyj
          have M8 := SA7.out.drewN nd
          have hB8 : (wx.drewN nd).heap[b6]? = _ := HB67.out
          have hB7 : (wx.drewN nd).heap[b7]? = _ := HC7.out.1
          have K8 := KW7.out.thenNil (Keeps.drewN wx nd)
          have hne := HC7.out.2.2.2
          have HCH := hid hch
          generalize wx.drewN nd = w8 at *
          obtain ⟨⟨n0, n1, n2, n3, n4, n5, n6, n7⟩, nf⟩ := M8.cells
          have hgr : w8.cell? ⟨g, j * 16 + 6, Option.none⟩ = some (.int .u8 xj.h.hops) := by
            obtain ⟨_, _, _, _, _, _, c6, _⟩ := M8.row.read hxj
            exact c6
          have s2 := M8.set 2 (τ' := { τ.takes (τ.id, 0, -1, 0) with root := xj.h.r }) (v := .int .u64 xj.h.r) rfl (by simp [hcl, TM.takes])
          have s3 := s2.set 3 (τ' := { τ.takes (τ.id, 0, -1, 0) with root := xj.h.r, cost := xj.h.c + xj.cost }) (v := .int .u32 (xj.h.c + xj.cost)) rfl (by simp [hcl, TM.takes])
          have s4 := s3.set 4 (τ' := { τ.takes (τ.id, 0, -1, 0) with root := xj.h.r, cost := xj.h.c + xj.cost, port := (j : Int) }) (v := .int .i64 (j : Int)) rfl (by simp [hcl, TM.takes])
          have S4 := hid s4
          have ks : Keeps (At m) w8 (((w8.setCell ⟨m, 2, Option.none⟩ (.int .u64 xj.h.r)).setCell ⟨m, 3, Option.none⟩ (.int .u32 (xj.h.c + xj.cost))).setCell ⟨m, 4, Option.none⟩ (.int .i64 (j : Int))) :=
            (((Keeps.refl _ _).set m 2 (at_self m) _).set m 3 (at_self m) _).set m 4 (at_self m) _
          have KS := hid ks
          have hmg8 := M8.lt
          obtain ⟨y0, y1, y2, y3, y4⟩ := five_block hB7
          have HB8 := hid hB8
          have HB7 := hid hB7
          have K8H := hid K8
          have nf2 := nf 2
          have nf3 := nf 3
          have nf4 := nf 4
          have nf5 := nf 5
          have HGR := hid hgr
          have hj0 : (0 : Int) ≤ (j : Int) := by omega
          have hjn : (j : Int) < (τ.P.length : Int) := by omega
          have HXJ := hid hxj
          clear s2 s3 s4 ks M8 hB8 hB7 K8 nf hgr hxj hch hoj hd
          go_upto_region 13 with (fail)
          have hc5 := S4.out.cells.1
          obtain ⟨_, n1, _, _, _, n5, _⟩ := hc5
          have nf5 := S4.out.cells.2 5
          have z4 := (KS.out.cell (p := ⟨b7, 4, Option.none⟩) (lt_of_block HB7.out) (fun e => hne.2.1 e.symm)).trans y4
          have hgr := (KS.out.cell (p := ⟨g, j * 16 + 6, Option.none⟩) hmg8.2 (fun e => S4.out.ne e.symm)).trans HGR.out
          have hB8 := (KS.out.block b6 (lt_of_block HB8.out) (fun e => by have h1 := lt_of_block HB8.out; have h2 := SA.out.head; rw [At] at e; have h3 := HB6.out; rw [e, h2] at h3; injection h3 with h3; injection h3 with _ h3; exact absurd h3 (by decide))).trans HB8.out
          have HB9 := hid hB8
          have K9 := hid (K8H.out.trans KS.out.ofM)
          clear n0 n2 n3 n4 n6 n7 y0 y1 y2 y3 y4 hB8 nf2 nf3 nf4
          generalize ((w8.setCell ⟨m, 2, Option.none⟩ (.int .u64 xj.h.r)).setCell ⟨m, 3, Option.none⟩ (.int .u32 (xj.h.c + xj.cost))).setCell ⟨m, 4, Option.none⟩ (.int .i64 (j : Int)) = w9 at *
          simp only [TM.takes] at n1 n5
          have hmg9 := S4.out.lt
          go_region
          all_goals (go_wp2_with fail; go_meet)
          have s5 := S4.out.set 5 (τ' := τ.takes (chosen τ.id τ.P)) (v := .int .u8 (xj.h.hops + 1)) rfl (by simp [hcl, TM.takes, HCH.out])
          exact hid ⟨s5.drew, (Below.heap_setCell _ _ _ _ (fun e => by have h2 := S4.out.head; have h3 := HB9.out; have e : b6 = m := e; rw [e, h2] at h3; injection h3 with h3; injection h3 with _ h3; exact absurd h3 (by decide))).trans HB9.out, (K9.out.setM 5 _).drew⟩
      case rest =>
      have HC9 := hid hcut.out
      clear hcut
      have M9 := hid HC9.out.1
      have B9 := hid HC9.out.2.1
      have K9 := hid HC9.out.2.2
      clear HC9
      obtain ⟨X, hX⟩ : ∃ X, chosen τ.id τ.P = X := ⟨_, rfl⟩
      have M9 := M9.out
      rw [hX] at M9
      have HXX := hid hX
      clear hX
      obtain ⟨xr, xc, xp, xh⟩ := X
      have hEQ : ∀ W, (binOp .neq 85 (.agg #[.int .u64 xr, .int .u32 xc, .int .i64 xp]) (.agg #[.int .u64 τ.root, .int .u32 τ.cost, .int .i64 τ.port])).run Try.prog W = .ok (.bool (τ.moved (xr, xc, xp, xh))) W := fun W => neq85 _ _ _ _ _ _ _ (moved_eq τ xr xc xp xh) W
      obtain ⟨⟨n0, n1, n2, n3, n4, n5, n6, n7⟩, _⟩ := M9.cells
      obtain ⟨o0, o1, o2⟩ := three_block B9.out
      simp only [TM.takes] at n0 n1 n2 n3 n4 n5 n6 n7
      have M9H := hid M9
      clear M9
      go_upto_region 14 with (fail)
      go_quiet (fail)
      go_upto_if 93 with (fail)
      go_cut [] from 2 to 126 (fun wx => ∃ τ1, Hid (τ1 = (if τ.moved (xr, xc, xp, xh) then (τ.takes (xr, xc, xp, xh)).turn else τ.takes (xr, xc, xp, xh)) ∧ Mach wx m g c τ1 ∧ Keeps (Of m g) w wx))
      case first =>
        have TN := hid (fun n => turn_any (M9H.out.drewN n) (by simp only [TM.takes]; omega) (by simp only [TM.takes]; have := HOK.out.ver; omega))
        cases hmv : τ.moved (xr, xc, xp, xh) with
        | true =>
          have HMV := hid hmv
          go_wp2_with fail
          refine (TN.out _).mono ?_; rintro e w10 ⟨rfl, h10, k10⟩
          go_wp2_with fail
          go_meet
          exact ⟨(τ.takes (xr, xc, xp, xh)).turn, hid ⟨by rw [HMV.out]; rfl, h10, (K9.out.thenNil (Keeps.drewN _ _)).trans k10⟩⟩
        | false =>
          have HMV := hid hmv
          go_wp2_with fail
          go_meet
          exact ⟨τ.takes (xr, xc, xp, xh), hid ⟨by rw [HMV.out]; rfl, M9H.out.drewN _, K9.out.thenNil (Keeps.drewN _ _)⟩⟩
      case rest =>
        obtain ⟨τ1, hC⟩ := hcut
        have hlen : τ1.P.length = τ.P.length := by
          rw [hC.out.1]
          split
          · simp [TM.turn, TM.takes]
          · rfl
        have HC := hid (choose_eq τ HXX.out)
        rw [← hC.out.1] at HC
        obtain ⟨⟨n0, n1, n2, n3, n4, n5, n6, n7⟩, _⟩ := hC.out.2.1.cells
        rw [hlen] at n1
        have HLN := hid hlen
        have hl8 : τ1.P.length ≤ 8 := by omega
        clear hlen hEQ o0 o1 o2 n0 n2 n3 n4 n5 n6 n7
        skip
        go_wp2_with fail
        go_loopw [101] (fun s101 wr => ∃ k : Nat, k ≤ τ.P.length ∧ s101 = .int .i64 k ∧ Hid (Mach wr m g c (τ1.calmTo k) ∧ Keeps (Of m g) w wr)) (fun s101 _ => τ.P.length - (intOf s101).toNat)
        case atStart => exact ⟨0, Nat.zero_le _, rfl, hid ⟨by rw [calmTo_zero]; exact hC.out.2.1, hC.out.2.2⟩⟩
        case round =>
          obtain ⟨k, hk, rfl, HR2⟩ := hrel
          by_cases hlt2 : k < τ.P.length
          · obtain ⟨x, hx⟩ : ∃ x, τ1.P[k]? = some x := ⟨_, List.getElem?_eq_getElem (by have := HLN.out; omega)⟩
            have hu := calmTo_get τ1 hx
            have hln : (τ1.calmTo k).P.length = τ.P.length := by rw [calmTo_len τ1 (by have := HLN.out; omega), HLN.out]
            obtain ⟨⟨_, n1, _⟩, _⟩ := HR2.out.1.cells
            rw [hln] at n1
            obtain ⟨_, _, _, _, _, _, _, _, _, _, _, _, _, _, c14, _⟩ := HR2.out.1.row.read hu
            have fr := HR2.out.1.row.frozen (k * 16 + 14)
            have hk8 : (k : Int) < 8 := by omega
            have hk0 : (0 : Int) ≤ (k : Int) := by omega
            have hkl : (k : Int) < (τ.P.length : Int) := by omega
            have HX := hid hx
            have HU := hid hu
            have hmg := HR2.out.1.lt
            have HP := HR2.out.1.put (x' := calmP τ1 k x) 14 (by omega) (v := .bool (x.ag && decide (τ1.roleOf k x = 2))) HU.out rfl
            rw [calmTo_set τ1 HX.out] at HP
            have HPH := hid HP
            clear hx hu hln HP
            cases ha : x.ag with
            | false =>
              rw [ha] at c14
              rw [ha, Bool.false_and] at HPH
              have HA := hid ha
              clear ha
              go_wp2_with fail
              skip
              have HSG := hid (fun W (kW : Keeps (At g) wr W) => (kW.cell (p := ⟨m, 1, Option.none⟩) hmg.1 HR2.out.1.ne).trans n1)
              refine wp_region_held_drew (S := (fun W : World => W.cell? ⟨m, 1, Option.none⟩ = some (.slice (some ⟨g, 0, Option.none⟩) τ.P.length c))) (by kernel_rfl) ?_ (fun hHeld => ?_)
              · (try dsimp only); (first | exact HSG.out _ (Keeps.refl _ _).drew | exact HSG.out _ ((Keeps.refl _ _).drew.set g _ (at_self g) _))
              refine wpAnyH_take (i := 0) (v := ?_) rfl (by kernel_rfl) (by kernel_rfl) (by kernel_rfl) (fun _ _ _ h => h) (Or.inl ⟨by rfl, ?_⟩) (by assumption) ?_
              rotate_left
              · (intro W hSw; (try dsimp only at hSw); go_simp <;> with_reducible rfl)
              try simp only [Act.put, List.setIfInBounds_toArray, List.set_cons_zero, List.set_cons_succ, List.getElem_toArray, List.getElem_cons_zero, List.getElem_cons_succ]
              refine wpAnyH_take (i := 1) (v := ?_) rfl (by kernel_rfl) (by kernel_rfl) (by kernel_rfl) (fun _ _ _ h => h) (Or.inl ⟨by rfl, ?_⟩) (by assumption) ?_
              rotate_left
              · (intro W hSw; (try dsimp only at hSw); go_simp <;> with_reducible rfl)
              try simp only [Act.put, List.setIfInBounds_toArray, List.set_cons_zero, List.set_cons_succ, List.getElem_toArray, List.getElem_cons_zero, List.getElem_cons_succ]
              refine wpAnyH_take (i := 2) (v := ?_) rfl (by kernel_rfl) (by kernel_rfl) (by kernel_rfl) (fun _ _ _ h => h) (Or.inl ⟨by rfl, ?_⟩) (by assumption) ?_
              rotate_left
              · (intro W hSw; (try dsimp only at hSw); go_simp <;> with_reducible rfl)
              try simp only [Act.put, List.setIfInBounds_toArray, List.set_cons_zero, List.set_cons_succ, List.getElem_toArray, List.getElem_cons_zero, List.getElem_cons_succ]
              refine wpAnyH_take (i := 3) (v := ?_) rfl (by kernel_rfl) (by kernel_rfl) (by kernel_rfl) (fun _ _ _ h => h) (Or.inl ⟨by rfl, ?_⟩) (by assumption) ?_
              rotate_left
              · (intro W hSw; (try dsimp only at hSw); go_simp <;> with_reducible rfl)
              try simp only [Act.put, List.setIfInBounds_toArray, List.set_cons_zero, List.set_cons_succ, List.getElem_toArray, List.getElem_cons_zero, List.getElem_cons_succ]
              refine wpAnyH_take (i := 4) (v := ?_) rfl (by kernel_rfl) (by kernel_rfl) (by kernel_rfl) (fun _ _ _ h => h) (Or.inl ⟨by rfl, ?_⟩) (by assumption) ?_
              rotate_left
              · (intro W hSw; (try dsimp only at hSw); go_simp <;> with_reducible rfl)
              try simp only [Act.put, List.setIfInBounds_toArray, List.set_cons_zero, List.set_cons_succ, List.getElem_toArray, List.getElem_cons_zero, List.getElem_cons_succ]
              refine wpAnyH_take (i := 5) (v := ?_) rfl (by kernel_rfl) (by kernel_rfl) (by kernel_rfl) (fun _ _ _ h => h) (Or.inl ⟨by rfl, ?_⟩) (by assumption) ?_
              rotate_left
              · (intro W hSw; (try dsimp only at hSw); go_simp <;> with_reducible rfl)
              try simp only [Act.put, List.setIfInBounds_toArray, List.set_cons_zero, List.set_cons_succ, List.getElem_toArray, List.getElem_cons_zero, List.getElem_cons_succ]
              refine wpAnyH_take (i := 6) (v := ?_) rfl (by kernel_rfl) (by kernel_rfl) (by kernel_rfl) (fun _ _ _ h => h) (Or.inl ⟨by rfl, ?_⟩) (by assumption) ?_
              rotate_left
              · (intro W hSw; (try dsimp only at hSw); go_simp <;> with_reducible rfl)
              try simp only [Act.put, List.setIfInBounds_toArray, List.set_cons_zero, List.set_cons_succ, List.getElem_toArray, List.getElem_cons_zero, List.getElem_cons_succ]
              refine wpAnyH_take (i := 7) (v := ?_) rfl (by kernel_rfl) (by kernel_rfl) (by kernel_rfl) (fun _ _ _ h => h) (Or.inl ⟨by rfl, ?_⟩) (by assumption) ?_
              rotate_left
              · (intro W hSw; (try dsimp only at hSw); go_simp <;> with_reducible rfl)
              try simp only [Act.put, List.setIfInBounds_toArray, List.set_cons_zero, List.set_cons_succ, List.getElem_toArray, List.getElem_cons_zero, List.getElem_cons_succ]
              refine wpAnyH_take (i := 8) (v := ?_) rfl (by kernel_rfl) (by kernel_rfl) (by kernel_rfl) (fun _ _ _ h => h) (Or.inl ⟨by rfl, ?_⟩) (by assumption) ?_
              rotate_left
              · (intro W hSw; (try dsimp only at hSw); go_simp <;> with_reducible rfl)
              try simp only [Act.put, List.setIfInBounds_toArray, List.set_cons_zero, List.set_cons_succ, List.getElem_toArray, List.getElem_cons_zero, List.getElem_cons_succ]
              refine wpAnyH_take (i := 9) (v := ?_) rfl (by kernel_rfl) (by kernel_rfl) (by kernel_rfl) (fun _ _ _ h => h) (Or.inl ⟨by rfl, ?_⟩) (by assumption) ?_
              rotate_left
              · (intro W hSw; (try dsimp only at hSw); go_simp <;> with_reducible rfl)
              try simp only [Act.put, List.setIfInBounds_toArray, List.set_cons_zero, List.set_cons_succ, List.getElem_toArray, List.getElem_cons_zero, List.getElem_cons_succ]
              refine wpAnyH_take (i := 10) (v := ?_) rfl (by kernel_rfl) (by kernel_rfl) (by kernel_rfl) (fun _ _ _ h => h) (Or.inl ⟨by rfl, ?_⟩) (by assumption) ?_
              rotate_left
              · (intro W hSw; (try dsimp only at hSw); go_simp <;> with_reducible rfl)
              try simp only [Act.put, List.setIfInBounds_toArray, List.set_cons_zero, List.set_cons_succ, List.getElem_toArray, List.getElem_cons_zero, List.getElem_cons_succ]
              refine wpAnyH_take (i := 11) (v := ?_) rfl (by kernel_rfl) (by kernel_rfl) (by kernel_rfl) (fun _ _ _ h => h) (Or.inl ⟨by rfl, ?_⟩) (by assumption) ?_
              rotate_left
              · (intro W hSw; (try dsimp only at hSw); go_simp <;> with_reducible rfl)
              try simp only [Act.put, List.setIfInBounds_toArray, List.set_cons_zero, List.set_cons_succ, List.getElem_toArray, List.getElem_cons_zero, List.getElem_cons_succ]
              refine wpAnyH_ready (rs := [12]) (by kernel_rfl) (by simp) ?_
              refine AllReadyH.cons rfl (fun K hK => ?_) AllReadyH.nil
              try simp only [Act.put, List.setIfInBounds_toArray, List.set_cons_zero, List.set_cons_succ, List.getElem_toArray, List.getElem_cons_zero, List.getElem_cons_succ]
              go_simp
              refine hK.out _ _ ?_ (fun hHeld => ?_)
              · (try dsimp only); (first | exact HSG.out _ (Keeps.refl _ _).drew | exact HSG.out _ ((Keeps.refl _ _).drew.set g _ (at_self g) _))
              clear hK K
              try simp only [Act.put, List.setIfInBounds_toArray, List.set_cons_zero, List.set_cons_succ, List.getElem_toArray, List.getElem_cons_zero, List.getElem_cons_succ]
              refine wpAnyH_take (i := 13) (v := ?_) rfl (by kernel_rfl) (by kernel_rfl) (by kernel_rfl) (fun _ _ _ h => h) (Or.inl ⟨by rfl, ?_⟩) (by assumption) ?_
              rotate_left
              · (intro W hSw; (try dsimp only at hSw); go_simp <;> with_reducible rfl)
              try simp only [Act.put, List.setIfInBounds_toArray, List.set_cons_zero, List.set_cons_succ, List.getElem_toArray, List.getElem_cons_zero, List.getElem_cons_succ]
              refine wpAnyH_take (i := 14) (v := undef) rfl (by kernel_rfl) (by kernel_rfl) (by kernel_rfl) (fun _ _ _ h => h) (Or.inr ⟨by rfl, rfl⟩) (by assumption) ?_
              try simp only [Act.put, List.setIfInBounds_toArray, List.set_cons_zero, List.set_cons_succ, List.getElem_toArray, List.getElem_cons_zero, List.getElem_cons_succ]
              refine wpAnyH_take (i := 15) (v := undef) rfl (by kernel_rfl) (by kernel_rfl) (by kernel_rfl) (fun _ _ _ h => h) (Or.inr ⟨by rfl, rfl⟩) (by assumption) ?_
              try simp only [Act.put, List.setIfInBounds_toArray, List.set_cons_zero, List.set_cons_succ, List.getElem_toArray, List.getElem_cons_zero, List.getElem_cons_succ]
              refine wpAnyH_take (i := 16) (v := undef) rfl (by kernel_rfl) (by kernel_rfl) (by kernel_rfl) (fun _ _ _ h => h) (Or.inr ⟨by rfl, rfl⟩) (by assumption) ?_
              try simp only [Act.put, List.setIfInBounds_toArray, List.set_cons_zero, List.set_cons_succ, List.getElem_toArray, List.getElem_cons_zero, List.getElem_cons_succ]
              refine wpAnyH_take (i := 17) (v := undef) rfl (by kernel_rfl) (by kernel_rfl) (by kernel_rfl) (fun _ _ _ h => h) (Or.inr ⟨by rfl, rfl⟩) (by assumption) ?_
              try simp only [Act.put, List.setIfInBounds_toArray, List.set_cons_zero, List.set_cons_succ, List.getElem_toArray, List.getElem_cons_zero, List.getElem_cons_succ]
              refine wpAnyH_take (i := 18) (v := undef) rfl (by kernel_rfl) (by kernel_rfl) (by kernel_rfl) (fun _ _ _ h => h) (Or.inr ⟨by rfl, rfl⟩) (by assumption) ?_
              try simp only [Act.put, List.setIfInBounds_toArray, List.set_cons_zero, List.set_cons_succ, List.getElem_toArray, List.getElem_cons_zero, List.getElem_cons_succ]
              refine wpAnyH_take (i := 19) (v := ?_) rfl (by kernel_rfl) (by kernel_rfl) (by kernel_rfl) (fun _ _ _ h => h) (Or.inl ⟨by rfl, ?_⟩) (by assumption) ?_
              rotate_left
              · (intro W hSw; (try dsimp only at hSw); go_simp <;> with_reducible rfl)
              try simp only [Act.put, List.setIfInBounds_toArray, List.set_cons_zero, List.set_cons_succ, List.getElem_toArray, List.getElem_cons_zero, List.getElem_cons_succ]
              refine wpAnyH_take (i := 20) (v := ?_) rfl (by kernel_rfl) (by kernel_rfl) (by kernel_rfl) (fun _ _ _ h => h) (Or.inl ⟨by rfl, ?_⟩) (by assumption) ?_
              rotate_left
              · (intro W hSw; (try dsimp only at hSw); go_simp <;> with_reducible rfl)
              try simp only [Act.put, List.setIfInBounds_toArray, List.set_cons_zero, List.set_cons_succ, List.getElem_toArray, List.getElem_cons_zero, List.getElem_cons_succ]
              refine wpAnyH_take (i := 21) (v := ?_) rfl (by kernel_rfl) (by kernel_rfl) (by kernel_rfl) (fun _ _ _ h => h) (Or.inl ⟨by rfl, ?_⟩) (by assumption) ?_
              rotate_left
              · (intro W hSw; (try dsimp only at hSw); go_simp <;> with_reducible rfl)
              try simp only [Act.put, List.setIfInBounds_toArray, List.set_cons_zero, List.set_cons_succ, List.getElem_toArray, List.getElem_cons_zero, List.getElem_cons_succ]
              refine wpAnyH_ready (rs := [22]) (by kernel_rfl) (by simp) ?_
              refine AllReadyH.cons rfl (fun K hK => ?_) AllReadyH.nil
              try simp only [Act.put, List.setIfInBounds_toArray, List.set_cons_zero, List.set_cons_succ, List.getElem_toArray, List.getElem_cons_zero, List.getElem_cons_succ]
              go_simp
              refine hK.out _ _ ?_ (fun hHeld => ?_)
              · (try dsimp only); (first | exact HSG.out _ (Keeps.refl _ _).drew | exact HSG.out _ ((Keeps.refl _ _).drew.set g _ (at_self g) _))
              clear hK K
              try simp only [Act.put, List.setIfInBounds_toArray, List.set_cons_zero, List.set_cons_succ, List.getElem_toArray, List.getElem_cons_zero, List.getElem_cons_succ]
              refine wpAnyH_done (by kernel_rfl) ?_ _
              skip
              all_goals go_wp2_with fail
              all_goals go_roundw
              skip
              case rel => exact ⟨k + 1, by omega, by go_num, hid ⟨HPH.out.drew, (HR2.out.2.setG _ _).drew⟩⟩
              case measure => simp only [intOf]; omega
            | true =>
              rw [ha] at c14
              rw [ha, Bool.true_and] at HPH
              have HA := hid ha
              clear ha
              have RO := role_any HR2.out.1.drew HU.out (by omega)
              rw [calmTo_role] at RO
              have hRO : ((τ1.roleOf k x == 2)) = decide (τ1.roleOf k x = 2) := by
                by_cases e : τ1.roleOf k x = 2 <;> simp [e]
              have HROE := hid hRO
              have ROH := hid RO
              clear RO hRO
              have HS : ∀ W, Keeps Nil wr W → (W.cell? ⟨m, 1, Option.none⟩ = some (.slice (some ⟨g, 0, Option.none⟩) τ.P.length c) ∧ W.cell? ⟨g, k * 16 + 14, Option.none⟩ = some (.bool true)) := fun W kW =>
                ⟨(kW.cell (p := ⟨m, 1, Option.none⟩) hmg.1 (fun e => e)).trans n1, (kW.cell (p := ⟨g, k * 16 + 14, Option.none⟩) hmg.2 (fun e => e)).trans c14⟩
              have HSH := hid HS
              clear HS
              have kk := Keeps.refl Nil wr
              go_wp2_with fail
              clear ROH
              have ROH := hid (fun W (kW : Keeps Nil wr W) => role_any (HR2.out.1.keepN kW) HU.out (by omega))
              have HSG := hid (fun W (kW : Keeps (At g) wr W) => (kW.cell (p := ⟨m, 1, Option.none⟩) hmg.1 HR2.out.1.ne).trans n1)
              have hwk : IntKind.u8.wrap (k : Int) = (k : Int) := IntWalk.u8_in _ (by omega)
              refine wp_region_held_drew (S := (fun W : World => W.cell? ⟨m, 1, Option.none⟩ = some (.slice (some ⟨g, 0, Option.none⟩) τ.P.length c))) (by kernel_rfl) ?_ (fun hHeld => ?_)
              · (try dsimp only); (first | exact HSG.out _ (Keeps.refl _ _).drew | exact HSG.out _ kkA | exact HSG.out _ (kkA.set g _ (at_self g) _))
              refine wpAnyH_take (i := 0) (v := ?_) rfl (by kernel_rfl) (by kernel_rfl) (by kernel_rfl) (fun _ _ _ h => h) (Or.inl ⟨by rfl, ?_⟩) (by assumption) ?_
              rotate_left
              · (intro W hSw; (try dsimp only at hSw); go_simp <;> with_reducible rfl)
              try simp only [Act.put, List.setIfInBounds_toArray, List.set_cons_zero, List.set_cons_succ, List.getElem_toArray, List.getElem_cons_zero, List.getElem_cons_succ]
              refine wpAnyH_take (i := 1) (v := ?_) rfl (by kernel_rfl) (by kernel_rfl) (by kernel_rfl) (fun _ _ _ h => h) (Or.inl ⟨by rfl, ?_⟩) (by assumption) ?_
              rotate_left
              · (intro W hSw; (try dsimp only at hSw); go_simp <;> with_reducible rfl)
              try simp only [Act.put, List.setIfInBounds_toArray, List.set_cons_zero, List.set_cons_succ, List.getElem_toArray, List.getElem_cons_zero, List.getElem_cons_succ]
              refine wpAnyH_take (i := 2) (v := ?_) rfl (by kernel_rfl) (by kernel_rfl) (by kernel_rfl) (fun _ _ _ h => h) (Or.inl ⟨by rfl, ?_⟩) (by assumption) ?_
              rotate_left
              · (intro W hSw; (try dsimp only at hSw); go_simp <;> with_reducible rfl)
              try simp only [Act.put, List.setIfInBounds_toArray, List.set_cons_zero, List.set_cons_succ, List.getElem_toArray, List.getElem_cons_zero, List.getElem_cons_succ]
              refine wpAnyH_take (i := 3) (v := ?_) rfl (by kernel_rfl) (by kernel_rfl) (by kernel_rfl) (fun _ _ _ h => h) (Or.inl ⟨by rfl, ?_⟩) (by assumption) ?_
              rotate_left
              · (intro W hSw; (try dsimp only at hSw); go_simp <;> with_reducible rfl)
              try simp only [Act.put, List.setIfInBounds_toArray, List.set_cons_zero, List.set_cons_succ, List.getElem_toArray, List.getElem_cons_zero, List.getElem_cons_succ]
              refine wpAnyH_take (i := 4) (v := ?_) rfl (by kernel_rfl) (by kernel_rfl) (by kernel_rfl) (fun _ _ _ h => h) (Or.inl ⟨by rfl, ?_⟩) (by assumption) ?_
              rotate_left
              · (intro W hSw; (try dsimp only at hSw); go_simp <;> with_reducible rfl)
              try simp only [Act.put, List.setIfInBounds_toArray, List.set_cons_zero, List.set_cons_succ, List.getElem_toArray, List.getElem_cons_zero, List.getElem_cons_succ]
              refine wpAnyH_take (i := 5) (v := ?_) rfl (by kernel_rfl) (by kernel_rfl) (by kernel_rfl) (fun _ _ _ h => h) (Or.inl ⟨by rfl, ?_⟩) (by assumption) ?_
              rotate_left
              · (intro W hSw; (try dsimp only at hSw); go_simp <;> with_reducible rfl)
              try simp only [Act.put, List.setIfInBounds_toArray, List.set_cons_zero, List.set_cons_succ, List.getElem_toArray, List.getElem_cons_zero, List.getElem_cons_succ]
              refine wpAnyH_take (i := 6) (v := ?_) rfl (by kernel_rfl) (by kernel_rfl) (by kernel_rfl) (fun _ _ _ h => h) (Or.inl ⟨by rfl, ?_⟩) (by assumption) ?_
              rotate_left
              · (intro W hSw; (try dsimp only at hSw); go_simp <;> with_reducible rfl)
              try simp only [Act.put, List.setIfInBounds_toArray, List.set_cons_zero, List.set_cons_succ, List.getElem_toArray, List.getElem_cons_zero, List.getElem_cons_succ]
              refine wpAnyH_take (i := 7) (v := ?_) rfl (by kernel_rfl) (by kernel_rfl) (by kernel_rfl) (fun _ _ _ h => h) (Or.inl ⟨by rfl, ?_⟩) (by assumption) ?_
              rotate_left
              · (intro W hSw; (try dsimp only at hSw); go_simp <;> with_reducible rfl)
              try simp only [Act.put, List.setIfInBounds_toArray, List.set_cons_zero, List.set_cons_succ, List.getElem_toArray, List.getElem_cons_zero, List.getElem_cons_succ]
              refine wpAnyH_take (i := 8) (v := ?_) rfl (by kernel_rfl) (by kernel_rfl) (by kernel_rfl) (fun _ _ _ h => h) (Or.inl ⟨by rfl, ?_⟩) (by assumption) ?_
              rotate_left
              · (intro W hSw; (try dsimp only at hSw); go_simp <;> with_reducible rfl)
              try simp only [Act.put, List.setIfInBounds_toArray, List.set_cons_zero, List.set_cons_succ, List.getElem_toArray, List.getElem_cons_zero, List.getElem_cons_succ]
              refine wpAnyH_take (i := 9) (v := ?_) rfl (by kernel_rfl) (by kernel_rfl) (by kernel_rfl) (fun _ _ _ h => h) (Or.inl ⟨by rfl, ?_⟩) (by assumption) ?_
              rotate_left
              · (intro W hSw; (try dsimp only at hSw); go_simp <;> with_reducible rfl)
              try simp only [Act.put, List.setIfInBounds_toArray, List.set_cons_zero, List.set_cons_succ, List.getElem_toArray, List.getElem_cons_zero, List.getElem_cons_succ]
              refine wpAnyH_take (i := 10) (v := ?_) rfl (by kernel_rfl) (by kernel_rfl) (by kernel_rfl) (fun _ _ _ h => h) (Or.inl ⟨by rfl, ?_⟩) (by assumption) ?_
              rotate_left
              · (intro W hSw; (try dsimp only at hSw); go_simp <;> with_reducible rfl)
              try simp only [Act.put, List.setIfInBounds_toArray, List.set_cons_zero, List.set_cons_succ, List.getElem_toArray, List.getElem_cons_zero, List.getElem_cons_succ]
              refine wpAnyH_take (i := 11) (v := ?_) rfl (by kernel_rfl) (by kernel_rfl) (by kernel_rfl) (fun _ _ _ h => h) (Or.inl ⟨by rfl, ?_⟩) (by assumption) ?_
              rotate_left
              · (intro W hSw; (try dsimp only at hSw); go_simp <;> with_reducible rfl)
              try simp only [Act.put, List.setIfInBounds_toArray, List.set_cons_zero, List.set_cons_succ, List.getElem_toArray, List.getElem_cons_zero, List.getElem_cons_succ]
              refine wpAnyH_ready (rs := [12]) (by kernel_rfl) (by simp) ?_
              refine AllReadyH.cons rfl (fun K hK => ?_) AllReadyH.nil
              try simp only [Act.put, List.setIfInBounds_toArray, List.set_cons_zero, List.set_cons_succ, List.getElem_toArray, List.getElem_cons_zero, List.getElem_cons_succ]
              go_simp
              refine hK.out _ _ ?_ (fun hHeld => ?_)
              · (try dsimp only); (first | exact HSG.out _ (Keeps.refl _ _).drew | exact HSG.out _ kkA | exact HSG.out _ (kkA.set g _ (at_self g) _))
              clear hK K
              try simp only [Act.put, List.setIfInBounds_toArray, List.set_cons_zero, List.set_cons_succ, List.getElem_toArray, List.getElem_cons_zero, List.getElem_cons_succ]
              refine wpAnyH_take (i := 13) (v := ?_) rfl (by kernel_rfl) (by kernel_rfl) (by kernel_rfl) (fun _ _ _ h => h) (Or.inl ⟨by rfl, ?_⟩) (by assumption) ?_
              rotate_left
              · (intro W hSw; (try dsimp only at hSw); go_simp <;> with_reducible rfl)
              try simp only [Act.put, List.setIfInBounds_toArray, List.set_cons_zero, List.set_cons_succ, List.getElem_toArray, List.getElem_cons_zero, List.getElem_cons_succ]
              refine wpAnyH_take (i := 14) (v := ?_) rfl (by kernel_rfl) (by kernel_rfl) (by kernel_rfl) (fun _ _ _ h => h) (Or.inl ⟨by rfl, ?_⟩) (by assumption) ?_
              rotate_left
              · (intro W hSw; (try dsimp only at hSw); go_simp <;> with_reducible rfl)
              try simp only [Act.put, List.setIfInBounds_toArray, List.set_cons_zero, List.set_cons_succ, List.getElem_toArray, List.getElem_cons_zero, List.getElem_cons_succ]
              refine wpAnyH_take (i := 15) (v := ?_) rfl (by kernel_rfl) (by kernel_rfl) (by kernel_rfl) (fun _ _ _ h => h) (Or.inl ⟨by rfl, ?_⟩) (by assumption) ?_
              rotate_left
              · (intro W hSw; (try dsimp only at hSw); go_simp <;> with_reducible rfl)
              try simp only [Act.put, List.setIfInBounds_toArray, List.set_cons_zero, List.set_cons_succ, List.getElem_toArray, List.getElem_cons_zero, List.getElem_cons_succ]
              refine wpAnyH_take (i := 16) (v := ?_) rfl (by kernel_rfl) (by kernel_rfl) (by kernel_rfl) (fun _ _ _ h => h) (Or.inl ⟨by rfl, ?_⟩) (by assumption) ?_
              rotate_left
              · (intro W hSw; (try dsimp only at hSw); go_simp <;> with_reducible rfl)
              try simp only [Act.put, List.setIfInBounds_toArray, List.set_cons_zero, List.set_cons_succ, List.getElem_toArray, List.getElem_cons_zero, List.getElem_cons_succ]
              refine wpAnyH_ready (rs := [17]) (by kernel_rfl) (by simp) ?_
              refine AllReadyH.cons rfl (fun K hK => ?_) AllReadyH.nil
              try simp only [Act.put, List.setIfInBounds_toArray, List.set_cons_zero, List.set_cons_succ, List.getElem_toArray, List.getElem_cons_zero, List.getElem_cons_succ]
              go_simp
              (go_at_call 24; refine (ROH.out _ (Keeps.refl _ _).drew).mono ?_; rintro e w2 ⟨rfl, k2⟩; have kk2 : Keeps Nil wr w2 := (Keeps.refl Nil wr).drew.trans k2; have kkA : Keeps (At g) wr w2 := kk2.ofNil; have fr2 := (kk2.frozen (p := ⟨g, k * 16 + 14, Option.none⟩) hmg.2 (fun e => e)).trans fr; have c14w := (kk2.cell (p := ⟨g, k * 16 + 14, Option.none⟩) hmg.2 (fun e => e)).trans c14; have HP2 := hid ((HR2.out.1.keepN kk2).put (x' := calmP τ1 k x) 14 (by omega) (v := .bool (decide (τ1.roleOf k x = 2))) HU.out (by simp [pcl, calmP, HA.out])); have KK2 := hid kk2)
              (try go_wp2_with fail)
              refine hK.out _ _ ?_ (fun hHeld => ?_)
              · (try dsimp only); (first | exact HSG.out _ (Keeps.refl _ _).drew | exact HSG.out _ kkA | exact HSG.out _ (kkA.set g _ (at_self g) _))
              clear hK K
              try simp only [Act.put, List.setIfInBounds_toArray, List.set_cons_zero, List.set_cons_succ, List.getElem_toArray, List.getElem_cons_zero, List.getElem_cons_succ]
              have hROE := HROE.out
              refine wpAnyH_take (i := 18) (v := ?_) rfl (by kernel_rfl) (by kernel_rfl) (by kernel_rfl) (fun _ _ _ h => h) (Or.inl ⟨by rfl, ?_⟩) (by assumption) ?_
              rotate_left
              · (intro W hSw; (try dsimp only at hSw); go_simp <;> with_reducible rfl)
              try simp only [Act.put, List.setIfInBounds_toArray, List.set_cons_zero, List.set_cons_succ, List.getElem_toArray, List.getElem_cons_zero, List.getElem_cons_succ]
              refine wpAnyH_take (i := 19) (v := ?_) rfl (by kernel_rfl) (by kernel_rfl) (by kernel_rfl) (fun _ _ _ h => h) (Or.inl ⟨by rfl, ?_⟩) (by assumption) ?_
              rotate_left
              · (intro W hSw; (try dsimp only at hSw); go_simp <;> with_reducible rfl)
              try simp only [Act.put, List.setIfInBounds_toArray, List.set_cons_zero, List.set_cons_succ, List.getElem_toArray, List.getElem_cons_zero, List.getElem_cons_succ]
              refine wpAnyH_take (i := 20) (v := ?_) rfl (by kernel_rfl) (by kernel_rfl) (by kernel_rfl) (fun _ _ _ h => h) (Or.inl ⟨by rfl, ?_⟩) (by assumption) ?_
              rotate_left
              · (intro W hSw; (try dsimp only at hSw); go_simp <;> with_reducible rfl)
              try simp only [Act.put, List.setIfInBounds_toArray, List.set_cons_zero, List.set_cons_succ, List.getElem_toArray, List.getElem_cons_zero, List.getElem_cons_succ]
              refine wpAnyH_take (i := 21) (v := ?_) rfl (by kernel_rfl) (by kernel_rfl) (by kernel_rfl) (fun _ _ _ h => h) (Or.inl ⟨by rfl, ?_⟩) (by assumption) ?_
              rotate_left
              · (intro W hSw; (try dsimp only at hSw); go_simp <;> with_reducible rfl)
              try simp only [Act.put, List.setIfInBounds_toArray, List.set_cons_zero, List.set_cons_succ, List.getElem_toArray, List.getElem_cons_zero, List.getElem_cons_succ]
              refine wpAnyH_ready (rs := [22]) (by kernel_rfl) (by simp) ?_
              refine AllReadyH.cons rfl (fun K hK => ?_) AllReadyH.nil
              try simp only [Act.put, List.setIfInBounds_toArray, List.set_cons_zero, List.set_cons_succ, List.getElem_toArray, List.getElem_cons_zero, List.getElem_cons_succ]
              go_simp
              refine hK.out _ _ ?_ (fun hHeld => ?_)
              · (try dsimp only); (first | exact HSG.out _ (Keeps.refl _ _).drew | exact HSG.out _ kkA | exact HSG.out _ (kkA.set g _ (at_self g) _))
              clear hK K
              try simp only [Act.put, List.setIfInBounds_toArray, List.set_cons_zero, List.set_cons_succ, List.getElem_toArray, List.getElem_cons_zero, List.getElem_cons_succ]
              refine wpAnyH_done (by kernel_rfl) ?_ _
              all_goals go_wp2_with fail
              all_goals go_roundw
              case rel =>
                have h3 := HP2.out
                rw [calmTo_set τ1 HX.out] at h3
                exact ⟨k + 1, by omega, by go_num, hid ⟨h3, (HR2.out.2.thenNil KK2.out).setG _ _⟩⟩
              case measure => simp only [intOf]; omega
          · obtain rfl : k = τ.P.length := by omega
            go_wp2_with fail
            go_end0
            have h9 := HR2.out.1
            rw [← HLN.out, calmTo_all, ← HC.out] at h9
            exact ⟨rfl, h9, HR2.out.2⟩
end Go.Proofs.Ytbbodecdijankaa
