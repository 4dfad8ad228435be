/-
  Layer 8: slices.DeleteFunc over entries, by each kind of test. Conditions: the entries lie in their row.
-/
import Derived.Test.YtcplmdgnldmhbaaIndex
import Derived.Lib.SliceRun
namespace Go.Proofs.Ytcplmdgnldmhbaa
open Go.RowKit
set_option linter.unusedVariables false

theorem run_clear_wide {P : Program} (w : World) (t e ty : TypeId) (z : Value) (ht : P.underlying t = some (.slice e)) (hv : ∀ w, (zeroValue e).run P w = .ok z w) (b o n c : Nat) (hn : 0 < n)
    (hc : ∀ j, j < n * z.cells.size → (w.cell? ⟨b, o + j, Option.none⟩).isSome = true) (hf : ∀ j, j < n * z.cells.size → w.frozen? ⟨b, o + j, Option.none⟩ = false) (h1 : ∀ v ∈ (Builtin.zeroCells z.cells n).toList, v.oneCell' = true) :
    (Builtin.clear_ #[t] ty #[.slice (some ⟨b, o, Option.none⟩) n c]).run P w = .ok (.tuple #[]) (w.setCells b o (Builtin.zeroCells z.cells n).toList) := by
  have hs : (Builtin.zeroCells z.cells n).toList.length = n * z.cells.size := by simp [Builtin.zeroCells]
  have hst := run_storeCells_cells (P := P) b o (Builtin.zeroCells z.cells n).toList 0 w (by rw [hs]; simpa using hc) (by rw [hs]; simpa using hf) h1
  simp only [Nat.add_zero] at hst
  obtain ⟨m, rfl⟩ : ∃ m, n = m + 1 := ⟨n - 1, by omega⟩
  simp [Builtin.clear_, run_underlying ht, hv, hst]

theorem block_setCells {b : Nat} {T : TypeId} : ∀ (vs : List Value) (o : Nat) (w : World) (cur : Array Value), w.heap[b]? = some (.cells cur T (0, 0)) →
    (∃ cur', (w.setCells b o vs).heap[b]? = some (.cells cur' T (0, 0)) ∧ cur'.size = cur.size ∧ ∀ i, i < o → cur'[i]? = cur[i]?) ∧ Keeps (At b) w (w.setCells b o vs)
  | [], o, w, cur, h => ⟨⟨cur, h, rfl, fun _ _ => rfl⟩, Keeps.refl _ _⟩
  | v :: r, o, w, cur, h => by
    have h1 := setCell_block h o v
    obtain ⟨⟨cur', h2, h3, h4⟩, k⟩ := block_setCells r (o + 1) _ _ h1
    refine ⟨⟨cur', h2, by rw [h3]; simp, fun i hi => ?_⟩, ((Keeps.refl (At b) w).set b o (at_self b) v).trans k⟩
    rw [h4 i (by omega), Array.getElem?_setIfInBounds]
    rw [if_neg (by omega)]

/-- An entry written into its place. -/
theorem set9 {W : World} {b i : Nat} {cur : Array Value} (x : En) (h : W.heap[b]? = some (.cells cur 95 (0, 0))) (hi : i * 9 + 9 ≤ cur.size) :
    ∃ W9, (((((((((W.setCell ⟨b, i * 9, Option.none⟩ (.int .u16 x.p.v)).setCell ⟨b, i * 9 + 1, Option.none⟩ (.int .u8 x.p.a)).setCell ⟨b, i * 9 + 2, Option.none⟩ (.int .u8 x.p.b)).setCell ⟨b, i * 9 + 3, Option.none⟩ (.int .u8 x.p.c)).setCell ⟨b, i * 9 + 4, Option.none⟩ (.int .u8 x.p.d)).setCell ⟨b, i * 9 + 5, Option.none⟩ (.int .u8 x.p.e)).setCell ⟨b, i * 9 + 6, Option.none⟩ (.int .u8 x.p.f)).setCell ⟨b, i * 9 + 7, Option.none⟩ (.int .u8 x.port)).setCell ⟨b, i * 9 + 8, Option.none⟩ (.int .i64 x.age)) = W9 ∧ (∃ cur', W9.heap[b]? = some (.cells cur' 95 (0, 0)) ∧ cur'.size = cur.size ∧ EAt cur' i x ∧ ∀ t y, t ≠ i → EAt cur t y → EAt cur' t y) ∧ Keeps (At b) W W9 := by
  have h0 := setCell_block h (i * 9) (.int .u16 x.p.v)
  have h1 := setCell_block h0 (i * 9 + 1) (.int .u8 x.p.a)
  have h2 := setCell_block h1 (i * 9 + 2) (.int .u8 x.p.b)
  have h3 := setCell_block h2 (i * 9 + 3) (.int .u8 x.p.c)
  have h4 := setCell_block h3 (i * 9 + 4) (.int .u8 x.p.d)
  have h5 := setCell_block h4 (i * 9 + 5) (.int .u8 x.p.e)
  have h6 := setCell_block h5 (i * 9 + 6) (.int .u8 x.p.f)
  have h7 := setCell_block h6 (i * 9 + 7) (.int .u8 x.port)
  have h8 := setCell_block h7 (i * 9 + 8) (.int .i64 x.age)
  refine ⟨_, rfl, ⟨_, h8, by simp, ?_, ?_⟩, ((((((((((Keeps.refl (At b) W).set b (i * 9) (at_self b) (.int .u16 x.p.v)).set b (i * 9 + 1) (at_self b) (.int .u8 x.p.a)).set b (i * 9 + 2) (at_self b) (.int .u8 x.p.b)).set b (i * 9 + 3) (at_self b) (.int .u8 x.p.c)).set b (i * 9 + 4) (at_self b) (.int .u8 x.p.d)).set b (i * 9 + 5) (at_self b) (.int .u8 x.p.e)).set b (i * 9 + 6) (at_self b) (.int .u8 x.p.f)).set b (i * 9 + 7) (at_self b) (.int .u8 x.port)).set b (i * 9 + 8) (at_self b) (.int .i64 x.age))⟩
  · intro q v hv
    have hq : q < 9 := by have := (List.getElem?_eq_some_iff.1 hv).1; simpa using this
    have hc : q = 0 ∨ q = 1 ∨ q = 2 ∨ q = 3 ∨ q = 4 ∨ q = 5 ∨ q = 6 ∨ q = 7 ∨ q = 8 := by omega
    rcases hc with rfl | rfl | rfl | rfl | rfl | rfl | rfl | rfl | rfl <;> (simp at hv; subst hv; simp [Array.getElem?_setIfInBounds]; omega)
  · intro t y ht hy q v hv
    have hq : q < 9 := by have := (List.getElem?_eq_some_iff.1 hv).1; simpa using this
    have := hy q v hv
    simp only [Array.getElem?_setIfInBounds]
    repeat rw [if_neg (by omega)]
    exact this

/-- The row that a slice leads to. -/
def InP (p : Option Addr) : Nat → Prop := fun k => p = some ⟨k, 0, Option.none⟩

/-- While the kept ones are drawn together: j are looked at. -/
def Mid (w : World) (g c j : Nat) (P : En → Bool) (L : List En) : Prop :=
  ∃ cur, w.heap[g]? = some (.cells cur 95 (0, 0)) ∧ cur.size = c * 9 ∧ c ≤ maxLen ∧ L.length ≤ c ∧ (∀ (i : Nat) (x : En), ((L.take j).filter (fun y => !P y))[i]? = some x → EAt cur i x) ∧ ∀ (i : Nat) (x : En), j ≤ i → L[i]? = some x → EAt cur i x
theorem Mid.lt {w : World} {g c j : Nat} {P : En → Bool} {L : List En} (h : Mid w g c j P L) : g < w.heap.size := by obtain ⟨cur, h, _⟩ := h; exact lt_of_block h
theorem Mid.keep {S : Nat → Prop} {w w' : World} {g c j : Nat} {P : En → Bool} {L : List En} (h : Mid w g c j P L) (k : Keeps S w w') (hS : ¬ S g) : Mid w' g c j P L := by
  have hl := h.lt
  obtain ⟨cur, h, r⟩ := h; exact ⟨cur, (k.block g hl hS).trans h, r⟩
theorem Mid.read {w : World} {g c j : Nat} {P : En → Bool} {L : List En} (h : Mid w g c j P L) {x : En} (hx : L[j]? = some x) :
    (w.cell? ⟨g, j * 9, Option.none⟩ = some (.int .u16 x.p.v) ∧ w.cell? ⟨g, j * 9 + 1, Option.none⟩ = some (.int .u8 x.p.a) ∧ w.cell? ⟨g, j * 9 + 2, Option.none⟩ = some (.int .u8 x.p.b) ∧ w.cell? ⟨g, j * 9 + 3, Option.none⟩ = some (.int .u8 x.p.c) ∧
    w.cell? ⟨g, j * 9 + 4, Option.none⟩ = some (.int .u8 x.p.d) ∧ w.cell? ⟨g, j * 9 + 5, Option.none⟩ = some (.int .u8 x.p.e) ∧ w.cell? ⟨g, j * 9 + 6, Option.none⟩ = some (.int .u8 x.p.f) ∧ w.cell? ⟨g, j * 9 + 7, Option.none⟩ = some (.int .u8 x.port) ∧
    w.cell? ⟨g, j * 9 + 8, Option.none⟩ = some (.int .i64 x.age)) := by
  obtain ⟨cur, hb, _, _, _, _, hat⟩ := h
  have H := hat j x (Nat.le_refl _) hx
  have C : ∀ q v, x.cells[q]? = some v → w.cell? ⟨g, j * 9 + q, Option.none⟩ = some v := fun q v hv => by
    have := H q v hv
    simp [World.cell?, hb, this]
  refine ⟨?_, C 1 _ rfl, C 2 _ rfl, C 3 _ rfl, C 4 _ rfl, C 5 _ rfl, C 6 _ rfl, C 7 _ rfl, C 8 _ rfl⟩
  have := C 0 _ rfl
  simpa using this
theorem take_more {L : List En} {j : Nat} {x : En} (hx : L[j]? = some x) (P : En → Bool) : (L.take (j + 1)).filter (fun y => !P y) = (L.take j).filter (fun y => !P y) ++ if P x then [] else [x] := by
  have hl := (List.getElem?_eq_some_iff.1 hx).1
  rw [List.take_succ_eq_append_getElem hl, List.filter_append]
  have : L[j] = x := by rw [List.getElem?_eq_getElem hl] at hx; exact Option.some.inj hx
  rw [this]
  cases hp : P x <;> simp [hp]
theorem Mid.drop {w : World} {g c j : Nat} {P : En → Bool} {L : List En} (h : Mid w g c j P L) {x : En} (hx : L[j]? = some x) (hp : P x = true) : Mid w g c (j + 1) P L := by
  obtain ⟨cur, hb, h1, h2, h3, h4, h5⟩ := h
  refine ⟨cur, hb, h1, h2, h3, fun i y hy => ?_, fun i y hi hy => h5 i y (by omega) hy⟩
  rw [take_more hx P, hp] at hy
  exact h4 i y (by simpa using hy)
theorem kept_le (L : List En) (j : Nat) (P : En → Bool) : ((L.take j).filter (fun y => !P y)).length ≤ j := Nat.le_trans (List.length_filter_le _ _) (List.length_take_le _ _)

theorem Mid.put {W : World} {g c j i : Nat} {P : En → Bool} {L : List En} (h : Mid W g c j P L) {x : En} (hx : L[j]? = some x) (hp : P x = false) (hi : ((L.take j).filter (fun y => !P y)).length = i) :
    ∃ W9, (((((((((W.setCell ⟨g, i * 9, Option.none⟩ (.int .u16 x.p.v)).setCell ⟨g, i * 9 + 1, Option.none⟩ (.int .u8 x.p.a)).setCell ⟨g, i * 9 + 2, Option.none⟩ (.int .u8 x.p.b)).setCell ⟨g, i * 9 + 3, Option.none⟩ (.int .u8 x.p.c)).setCell ⟨g, i * 9 + 4, Option.none⟩ (.int .u8 x.p.d)).setCell ⟨g, i * 9 + 5, Option.none⟩ (.int .u8 x.p.e)).setCell ⟨g, i * 9 + 6, Option.none⟩ (.int .u8 x.p.f)).setCell ⟨g, i * 9 + 7, Option.none⟩ (.int .u8 x.port)).setCell ⟨g, i * 9 + 8, Option.none⟩ (.int .i64 x.age)) = W9 ∧ Mid W9 g c (j + 1) P L ∧ Keeps (At g) W W9 := by
  obtain ⟨cur, hb, h1, h2, h3, h4, h5⟩ := h
  have hl := (List.getElem?_eq_some_iff.1 hx).1
  have hij := kept_le L j P
  obtain ⟨W9, hW, ⟨cur', e1, e2, e3, e4⟩, k⟩ := set9 (i := i) x hb (by omega)
  refine ⟨W9, hW, ⟨cur', e1, by rw [e2, h1], h2, h3, fun t y hy => ?_, fun t y ht hy => e4 t y (by omega) (h5 t y (by omega) hy)⟩, k⟩
  rw [take_more hx P, hp] at hy
  by_cases ht : t < i
  · rw [List.getElem?_append_left (by omega)] at hy
    exact e4 t y (by omega) (h4 t y hy)
  · rw [List.getElem?_append_right (by omega), hi] at hy
    have : t = i := by
      by_cases h0 : t - i = 0
      · omega
      · simp [h0] at hy
    subst this
    simp at hy
    subst hy
    exact e3
theorem idx_spec (P : En → Bool) (L : List En) : (idx P L = -1 ∧ L.filter (fun y => !P y) = L) ∨ ∃ k : Nat, idx P L = k ∧ k < L.length ∧ (L.take (k + 1)).filter (fun y => !P y) = L.take k := by
  induction L with
  | nil => exact .inl ⟨rfl, rfl⟩
  | cons x r ih =>
    cases hp : P x with
    | true => exact .inr ⟨0, by simp [idx, hp], by simp, by simp [hp]⟩
    | false =>
      rcases ih with ⟨h1, h2⟩ | ⟨k, h1, h2, h3⟩
      · exact .inl ⟨by simp [idx, hp, h1], by simp [hp, h2]⟩
      · refine .inr ⟨k + 1, ?_, by simp; omega, ?_⟩
        · simp only [idx, hp, h1]
          rw [if_neg (by simp), if_neg (by omega)]
          push_cast
          rfl
        · rw [List.take_succ_cons, List.filter_cons]
          simp only [hp, h3]
          simp
theorem Mid.start {w : World} {g c k : Nat} {P : En → Bool} {L : List En} (h : Row w g c L) (hk : (L.take (k + 1)).filter (fun y => !P y) = L.take k) : Mid w g c (k + 1) P L := by
  obtain ⟨cur, hb, h1, h2, h3, h4⟩ := h
  refine ⟨cur, hb, h1, h2, h3, fun i x hx => ?_, fun i x _ hx => h4 i x hx⟩
  rw [hk, List.getElem?_take] at hx
  split at hx
  · exact h4 i x hx
  · cases hx
theorem Mid.done {w w' : World} {g c n : Nat} {P : En → Bool} {L : List En} (h : Mid w g c n P L) (hn : L.length ≤ n) {vs : List Value} {o : Nat} (hw : w.setCells g o vs = w') (ho : o = (L.filter (fun y => !P y)).length * 9) :
    Row w' g c (L.filter (fun y => !P y)) ∧ Keeps (At g) w w' := by
  subst hw
  obtain ⟨cur, hb, h1, h2, h3, h4, h5⟩ := h
  obtain ⟨⟨cur', e1, e2, e3⟩, k⟩ := block_setCells vs o w cur hb
  refine ⟨⟨cur', e1, by rw [e2, h1], h2, Nat.le_trans (List.length_filter_le _ _) h3, fun i x hx q v hv => ?_⟩, k⟩
  have hi := (List.getElem?_eq_some_iff.1 hx).1
  have hq : q < 9 := by have := (List.getElem?_eq_some_iff.1 hv).1; simpa using this
  rw [e3 _ (by omega)]
  rw [List.take_of_length_le hn] at h4
  exact h4 i x hx q v hv
end Go.Proofs.Ytcplmdgnldmhbaa
