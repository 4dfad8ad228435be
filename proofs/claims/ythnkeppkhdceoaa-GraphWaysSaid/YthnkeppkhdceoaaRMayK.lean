/-
  Graphs: the document's word on whether there may be such a graph (end, May). Conditions: the rows lie so; numbers are in their types.
-/
import Derived.Test.YthnkeppkhdceoaaMay
import Derived.Deep.AppendLies
namespace Go.Proofs.Ythnkeppkhdceoaa
open Go.RowKit
set_option linter.unusedVariables false
set_option linter.unusedSimpArgs false
set_option maxRecDepth 8000

set_option maxHeartbeats 4000000 in
theorem end_any (b p c : Int) (n : Nat) (w : World) : Calls Try.prog 16 #[.agg #[.int .i64 b, .int .u8 p, .int .u32 c], .int .i64 (n : Int)] w fun e w' => e = .returned (.bool (decide (okE n ⟨b, p, c⟩))) ∧ Keeps Nil w w' := by
  by_cases h1 : 0 ≤ b
  · have d1 : decide (0 ≤ b) = true := decide_eq_true h1
    by_cases h2 : b < (n : Int)
    · have d2 : decide (b < (n : Int)) = true := decide_eq_true h2
      by_cases h3 : p < 8
      · have d3 : decide (p < 8) = true := decide_eq_true h3
        by_cases h4 : 0 < c
        · have d4 : decide (0 < c) = true := decide_eq_true h4
          by_cases h5 : c < 65536
          · have d5 : decide (c < 65536) = true := decide_eq_true h5
            have hok : decide (okE n ⟨b, p, c⟩) = true := decide_eq_true ⟨⟨h1, h2⟩, h3, h4, h5⟩
            go_enter Try.func16, Try.ntmps16
            go_wp2
            go_ret
            exact ⟨by first | rfl | (rw [hok]; rfl), (Keeps.refl Nil w).alloc _⟩
          · have d5 : decide (c < 65536) = false := decide_eq_false h5
            have hok : decide (okE n ⟨b, p, c⟩) = false := decide_eq_false (fun h => h5 h.2.2.2)
            go_enter Try.func16, Try.ntmps16
            go_wp2
            go_ret
            exact ⟨by first | rfl | (rw [hok]; rfl), (Keeps.refl Nil w).alloc _⟩
        · have d4 : decide (0 < c) = false := decide_eq_false h4
          have hok : decide (okE n ⟨b, p, c⟩) = false := decide_eq_false (fun h => h4 h.2.2.1)
          go_enter Try.func16, Try.ntmps16
          go_wp2
          go_ret
          exact ⟨by first | rfl | (rw [hok]; rfl), (Keeps.refl Nil w).alloc _⟩
      · have d3 : decide (p < 8) = false := decide_eq_false h3
        have hok : decide (okE n ⟨b, p, c⟩) = false := decide_eq_false (fun h => h3 h.2.1)
        go_enter Try.func16, Try.ntmps16
        go_wp2
        go_ret
        exact ⟨by first | rfl | (rw [hok]; rfl), (Keeps.refl Nil w).alloc _⟩
    · have d2 : decide (b < (n : Int)) = false := decide_eq_false h2
      have hok : decide (okE n ⟨b, p, c⟩) = false := decide_eq_false (fun h => h2 h.1.2)
      go_enter Try.func16, Try.ntmps16
      go_wp2
      go_ret
      exact ⟨by first | rfl | (rw [hok]; rfl), (Keeps.refl Nil w).alloc _⟩
  · have d1 : decide (0 ≤ b) = false := decide_eq_false h1
    have hok : decide (okE n ⟨b, p, c⟩) = false := decide_eq_false (fun h => h1 h.1.1)
    go_enter Try.func16, Try.ntmps16
    go_wp2
    go_ret
    exact ⟨by first | rfl | (rw [hok]; rfl), (Keeps.refl Nil w).alloc _⟩
abbrev ecells (e : En) : List Value := [.int .i64 e.b, .int .u8 e.p, .int .u32 e.c]
def flatE (E : List En) : List Value := E.flatMap ecells
theorem flatE_append (A B : List En) : flatE (A ++ B) = flatE A ++ flatE B := by simp [flatE]
theorem flatE_len (E : List En) : (flatE E).length = E.length * 3 := by
  induction E with
  | nil => rfl
  | cons x l ih => rw [show flatE (x :: l) = ecells x ++ flatE l from rfl, List.length_append, ih, List.length_cons]; simp; omega
theorem flatE_get {L : List En} : ∀ {i : Nat} {x : En}, L[i]? = some x → ∀ j, j < 3 → (flatE L)[i * 3 + j]? = (ecells x)[j]? := by
  induction L with
  | nil => intro i x h; simp at h
  | cons y L ih =>
    intro i x h j hj
    rw [show flatE (y :: L) = ecells y ++ flatE L from rfl]
    match i with
    | 0 =>
      simp at h; subst h
      rw [List.getElem?_append_left (by simp; omega)]
      simp
    | i + 1 =>
      rw [List.getElem?_append_right (by simp; omega), show (i + 1) * 3 + j - (ecells y).length = i * 3 + j from by simp; omega]
      exact ih (by simpa using h) j hj
theorem info55 : (Try.prog.info? 55).map (fun i => (i.zero, i.size, i.bytes)) = some (some (.agg #[.int .i64 0, .int .u8 0, .int .u32 0]), 3, 16) := by kernel_rfl
/-- The document's view of links: the same cells. -/
theorem nodup_iff {ids : List Int} : ids.Nodup ↔ ∀ (i k : Nat) (x y : Int), k < i → ids[i]? = some x → ids[k]? = some y → x ≠ y := by
  unfold List.Nodup
  rw [List.pairwise_iff_getElem]
  constructor
  · intro h i k x y hki hx hy e
    obtain ⟨hi, rfl⟩ := List.getElem?_eq_some_iff.1 hx
    obtain ⟨hk, rfl⟩ := List.getElem?_eq_some_iff.1 hy
    exact h k i hk hi hki e.symm
  · intro h k i hk hi hki e
    exact h i k _ _ hki (List.getElem?_eq_getElem hi) (List.getElem?_eq_getElem hk) e.symm
end Go.Proofs.Ythnkeppkhdceoaa
