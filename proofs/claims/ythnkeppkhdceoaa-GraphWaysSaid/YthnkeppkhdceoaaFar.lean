/-
  Vectors: the document's Less, one from farther away (Far, both), as the program has them (of). Conditions at Far: the numbers are within their types.
-/
import Derived.Test.YthnkeppkhdceoaaVec
namespace Go.Proofs.Ythnkeppkhdceoaa
set_option linter.unusedSimpArgs false
open Go.RowKit
set_option linter.unusedVariables false

/-- Is a vector less? -/
def lessB (r c b p r' c' b' p' : Int) : Bool := if r = r' then (if c = c' then (if b = b' then decide (p < p') else decide (b < b')) else decide (c < c')) else decide (r < r')

set_option maxHeartbeats 1600000 in
theorem less_any (r c b p r' c' b' p' : Int) (w : World) :
    Calls Try.prog 27 #[vec r c b p, vec r' c' b' p'] w fun e w' => e = .returned (.bool (lessB r c b p r' c' b' p')) ∧ Keeps Nil w w' := by
  unfold lessB
  go_enter Try.func27, Try.ntmps27
  by_cases h0 : r = r'
  · subst h0
    by_cases h1 : c = c'
    · subst h1
      by_cases h2 : b = b'
      · subst h2
        go_wp2_with fail
        go_ret
        exact ⟨by simp, ((Keeps.refl _ _).alloc _).alloc _⟩
      · go_wp2_with fail
        go_ret
        exact ⟨by simp [h2], ((Keeps.refl _ _).alloc _).alloc _⟩
    · go_wp2_with fail
      go_ret
      exact ⟨by simp [h1], ((Keeps.refl _ _).alloc _).alloc _⟩
  · go_wp2_with fail
    go_ret
    exact ⟨by simp [h0], ((Keeps.refl _ _).alloc _).alloc _⟩

/-- May a vector be one from farther away? -/
def farB (c k : Int) : Bool := decide (k ≠ 0 ∧ c + k ≤ 16777216)
def farV (r c b p k : Int) : Value := if farB c k = true then vec r (c + k) b p else vec 0 0 0 0

set_option maxHeartbeats 1600000 in
theorem far_any (r c b p k : Int) (hc : 0 ≤ c) (hc' : c < 4294967296) (hk : 0 ≤ k) (hk' : k < 4294967296) (w : World) :
    Calls Try.prog 31 #[vec r c b p, .int .u32 k] w fun e w' => e = .returned (.tuple #[farV r c b p k, .bool (farB c k)]) ∧ Keeps Nil w w' := by
  go_enter Try.func31, Try.ntmps31
  by_cases h0 : k = 0
  · subst h0
    go_wp2_with fail
    refine bodyPost_ret (v := .tuple #[vec 0 0 0 0, .bool false]) (by simp [results, Try.results31, go_sem]) rfl ?_
    exact ⟨by simp [farV, farB], by repeat' (first | exact Keeps.refl _ _ | refine Keeps.drew ?_ | refine Keeps.alloc ?_ _ | refine Keeps.setCell ?_ (fun h => absurd h (by simp)) _)⟩
  · have hb : (k == 0) = false := by simp [h0]
    by_cases h1 : c + k ≤ 16777216
    · have hd : decide (16777216 < c + k) = false := by simp; omega
      go_wp2_with fail
      refine bodyPost_ret (v := .tuple #[vec r (c + k) b p, .bool true]) (by simp [results, Try.results31, go_sem]) rfl ?_
      exact ⟨by simp [farV, farB, h0, h1], by repeat' (first | exact Keeps.refl _ _ | refine Keeps.drew ?_ | refine Keeps.alloc ?_ _ | refine Keeps.setCell ?_ (fun h => absurd h (by simp)) _)⟩
    · have hd : decide (16777216 < c + k) = true := by simp; omega
      go_wp2_with fail
      refine bodyPost_ret (v := .tuple #[vec 0 0 0 0, .bool false]) (by simp [results, Try.results31, go_sem]) rfl ?_
      exact ⟨by simp [farV, farB, h0]; omega, by repeat' (first | exact Keeps.refl _ _ | refine Keeps.drew ?_ | refine Keeps.alloc ?_ _ | refine Keeps.setCell ?_ (fun h => absurd h (by simp)) _)⟩

set_option maxHeartbeats 1600000 in
theorem rfar_any (r c b p k : Int) (hc : 0 ≤ c) (hc' : c < 4294967296) (hk : 0 ≤ k) (hk' : k < 4294967296) (w : World) :
    Calls Try.prog 19 #[vec r c b p, .int .u32 k] w fun e w' => e = .returned (.tuple #[farV r c b p k, .bool (farB c k)]) ∧ Keeps Nil w w' := by
  go_enter Try.func19, Try.ntmps19
  by_cases h0 : k = 0
  · subst h0
    go_wp2_with fail
    refine bodyPost_ret (v := .tuple #[vec 0 0 0 0, .bool false]) (by simp [results, Try.results19, go_sem]) rfl ?_
    exact ⟨by simp [farV, farB], by repeat' (first | exact Keeps.refl _ _ | refine Keeps.drew ?_ | refine Keeps.alloc ?_ _ | refine Keeps.setCell ?_ (fun h => absurd h (by simp)) _)⟩
  · have hb : (k == 0) = false := by simp [h0]
    by_cases h1 : 16777216 < c
    · have hd : decide (16777216 < c) = true := by simp; omega
      go_wp2_with fail
      refine bodyPost_ret (v := .tuple #[vec 0 0 0 0, .bool false]) (by simp [results, Try.results19, go_sem]) rfl ?_
      exact ⟨by simp [farV, farB, h0]; omega, by repeat' (first | exact Keeps.refl _ _ | refine Keeps.drew ?_ | refine Keeps.alloc ?_ _ | refine Keeps.setCell ?_ (fun h => absurd h (by simp)) _)⟩
    · have hd : decide (16777216 < c) = false := by simp; omega
      by_cases h2 : 16777216 - c < k
      · have hd2 : decide (16777216 - c < k) = true := by simp; omega
        go_wp2_with fail
        refine bodyPost_ret (v := .tuple #[vec 0 0 0 0, .bool false]) (by simp [results, Try.results19, go_sem]) rfl ?_
        exact ⟨by simp [farV, farB, h0]; omega, by repeat' (first | exact Keeps.refl _ _ | refine Keeps.drew ?_ | refine Keeps.alloc ?_ _ | refine Keeps.setCell ?_ (fun h => absurd h (by simp)) _)⟩
      · have hd2 : decide (16777216 - c < k) = false := by simp; omega
        have h3 : c + k ≤ 16777216 := by omega
        go_wp2_with fail
        refine bodyPost_ret (v := .tuple #[vec r (c + k) b p, .bool true]) (by simp [results, Try.results19, go_sem]) rfl ?_
        exact ⟨by simp [farV, farB, h0, h3], by repeat' (first | exact Keeps.refl _ _ | refine Keeps.drew ?_ | refine Keeps.alloc ?_ _ | refine Keeps.setCell ?_ (fun h => absurd h (by simp)) _)⟩
end Go.Proofs.Ythnkeppkhdceoaa
