/-
  Vectors: which one is less (cmp.Compare, cmp.Or, vector.Compare, the document's Less), one from farther away (Far, both). No condition.
-/
import Derived.Test.YthnkeppkhdceoaaChecked
import Derived.Test.YthnkeppkhdceoaaKit
import Derived.Deep.RegionHeld3
namespace Go.Proofs.Ythnkeppkhdceoaa
set_option linter.unusedSimpArgs false
open Go.RowKit
set_option linter.unusedVariables false

/-- How two numbers stand. -/
def way (x y : Int) : Int := if x < y then -1 else if y < x then 1 else 0
/-- The first that is not nought. -/
def firstOf : List Int → Int
  | [] => 0
  | x :: l => if x = 0 then firstOf l else x

set_option maxHeartbeats 400000 in
theorem nan64 (x : Int) (w : World) : Calls Try.prog 41 #[.int .u64 x] w fun e w' => e = .returned (.bool false) ∧ w = w' := by
  go_enter Try.func41, Try.ntmps41
  go_wp2
  go_ret
  exact ⟨by simp, rfl⟩
set_option maxHeartbeats 400000 in
theorem nan32 (x : Int) (w : World) : Calls Try.prog 42 #[.int .u32 x] w fun e w' => e = .returned (.bool false) ∧ w = w' := by
  go_enter Try.func42, Try.ntmps42
  go_wp2
  go_ret
  exact ⟨by simp, rfl⟩
set_option maxHeartbeats 400000 in
theorem nan8 (x : Int) (w : World) : Calls Try.prog 40 #[.int .u8 x] w fun e w' => e = .returned (.bool false) ∧ w = w' := by
  go_enter Try.func40, Try.ntmps40
  go_wp2
  go_ret
  exact ⟨by simp, rfl⟩
set_option maxHeartbeats 800000 in
theorem cmp64 (x y : Int) (w : World) : Calls Try.prog 38 #[.int .u64 x, .int .u64 y] w fun e w' => e = .returned (.int .i64 (way x y)) ∧ w = w' := by
  unfold way
  go_enter Try.func38, Try.ntmps38
  go_wp2_with (go_at_call 41; refine (nan64 _ _).mono ?_; rintro e w' ⟨rfl, rfl⟩)
  all_goals go_ret
  all_goals exact ⟨by simp_all, rfl⟩
set_option maxHeartbeats 800000 in
theorem cmp32 (x y : Int) (w : World) : Calls Try.prog 39 #[.int .u32 x, .int .u32 y] w fun e w' => e = .returned (.int .i64 (way x y)) ∧ w = w' := by
  unfold way
  go_enter Try.func39, Try.ntmps39
  go_wp2_with (go_at_call 42; refine (nan32 _ _).mono ?_; rintro e w' ⟨rfl, rfl⟩)
  all_goals go_ret
  all_goals exact ⟨by simp_all, rfl⟩
set_option maxHeartbeats 800000 in
theorem cmp8 (x y : Int) (w : World) : Calls Try.prog 36 #[.int .u8 x, .int .u8 y] w fun e w' => e = .returned (.int .i64 (way x y)) ∧ w = w' := by
  unfold way
  go_enter Try.func36, Try.ntmps36
  go_wp2_with (go_at_call 40; refine (nan8 _ _).mono ?_; rintro e w' ⟨rfl, rfl⟩)
  all_goals go_ret
  all_goals exact ⟨by simp_all, rfl⟩

theorem firstOf_drop (l : List Int) (k : Nat) (h : k < l.length) : firstOf (l.drop k) = if l[k] = 0 then firstOf (l.drop (k + 1)) else l[k] := by
  rw [List.drop_eq_getElem_cons h]; rfl

set_option maxHeartbeats 800000 in
/-- cmp.Or of a row of numbers. -/
theorem or_any (b c : Nat) (l : List Int) (w : World) (hc : ∀ i (h : i < l.length), w.cell? ⟨b, i, Option.none⟩ = some (.int .i64 l[i])) (hl : l.length ≤ 8) :
    Calls Try.prog 37 #[.slice (some ⟨b, 0, Option.none⟩) l.length c] w fun e w' => e = .returned (.int .i64 (firstOf l)) ∧ w = w' := by
  go_enter Try.func37, Try.ntmps37
  go_wp2
  go_loopw [8] (fun i wr => wr = w ∧ ∃ k : Nat, k ≤ l.length ∧ i = .int .i64 k ∧ firstOf l = firstOf (l.drop k)) (fun i _ => l.length - (intOf i).toNat)
  case atStart => exact ⟨rfl, 0, by omega, rfl, rfl⟩
  case round =>
    obtain ⟨rfl, k, hk, rfl, hf⟩ := hrel
    by_cases hlt : k < l.length
    · have hcell := hc k hlt
      rw [firstOf_drop l k hlt] at hf
      obtain ⟨x, ex⟩ : ∃ x, l[k] = x := ⟨_, rfl⟩
      rw [ex] at hf hcell
      by_cases hx : x = 0
      · subst hx
        go_wp2
        go_roundw
        case rel => exact ⟨trivial, k + 1, by omega, by go_num, by simpa using hf⟩
        case measure => simp only [intOf]; omega
      · go_wp2
        go_ret
        exact ⟨by rw [hf]; simp [hx], rfl⟩
    · obtain rfl : k = l.length := by omega
      have hf' : firstOf l = 0 := by simpa [firstOf] using hf
      go_wp2
      go_ret
      exact ⟨by rw [hf']; rfl, rfl⟩

theorem first_any (b c : Nat) (l : List Int) (w : World) (hc : ∀ i (h : i < l.length), w.cell? ⟨b, i, Option.none⟩ = some (.int .i64 l[i])) (hl : l.length ≤ 8) :
    Calls Try.prog 34 #[.slice (some ⟨b, 0, Option.none⟩) l.length c] w fun e w' => e = .returned (.int .i64 (firstOf l)) ∧ w = w' := by
  have HC := hid hc
  clear hc
  go_enter Try.func34, Try.ntmps34
  go_wp2_with (go_at_call 37; refine (or_any _ _ _ _ HC.out hl).mono ?_; rintro e w' ⟨rfl, rfl⟩)
  go_ret
  exact ⟨rfl, rfl⟩

/-- A vector as a value. -/
abbrev vec (r c b p : Int) : Value := .agg #[.int .u64 r, .int .u32 c, .int .u64 b, .int .u8 p]

/-- How two vectors stand. -/
def stand (r c b p r' c' b' p' : Int) : Int := firstOf [way r r', way c c', way b b', way p p']

theorem four_cells {w : World} {b : Nat} {x0 x1 x2 x3 : Int} (h0 : w.cell? ⟨b, 0, Option.none⟩ = some (.int .i64 x0)) (h1 : w.cell? ⟨b, 1, Option.none⟩ = some (.int .i64 x1)) (h2 : w.cell? ⟨b, 2, Option.none⟩ = some (.int .i64 x2)) (h3 : w.cell? ⟨b, 3, Option.none⟩ = some (.int .i64 x3)) :
    ∀ i (h : i < [x0, x1, x2, x3].length), w.cell? ⟨b, i, Option.none⟩ = some (.int .i64 [x0, x1, x2, x3][i])
  | 0, _ => h0
  | 1, _ => h1
  | 2, _ => h2
  | 3, _ => h3
set_option maxHeartbeats 3200000 in
theorem compare_any (r c b p r' c' b' p' : Int) (w : World) :
    Calls Try.prog 35 #[vec r c b p, vec r' c' b' p'] w fun e w' => e = .returned (.int .i64 (stand r c b p r' c' b' p')) ∧ Keeps Nil w w' := by
  by_cases h0 : r = r'
  · subst h0
    by_cases h1 : c = c'
    · subst h1
      by_cases h2 : b = b'
      · subst h2
        by_cases h3 : p = p'
        · subst h3
          go_enter Try.func35, Try.ntmps35
          go_wp2_with fail
          go_ret
          exact ⟨by simp [stand, firstOf, way], ((Keeps.refl _ _).alloc _).alloc _⟩
        · go_enter Try.func35, Try.ntmps35
          go_wp2_with fail
          go_region_held3 (fun w' => w'.cell? ⟨w.heap.size, 0, Option.none⟩ = some (.int .u64 r) ∧ w'.cell? ⟨w.heap.size, 1, Option.none⟩ = some (.int .u32 c) ∧ w'.cell? ⟨w.heap.size, 2, Option.none⟩ = some (.int .u64 b) ∧ w'.cell? ⟨w.heap.size, 3, Option.none⟩ = some (.int .u8 p) ∧ w'.cell? ⟨w.heap.size + 1, 0, Option.none⟩ = some (.int .u64 r) ∧ w'.cell? ⟨w.heap.size + 1, 1, Option.none⟩ = some (.int .u32 c) ∧ w'.cell? ⟨w.heap.size + 1, 2, Option.none⟩ = some (.int .u64 b) ∧ w'.cell? ⟨w.heap.size + 1, 3, Option.none⟩ = some (.int .u8 p')) (go_keep) ((first
            | (go_at_call 38; refine (cmp64 _ _ _).mono ?_; rintro e w' ⟨rfl, rfl⟩)
            | (go_at_call 39; refine (cmp32 _ _ _).mono ?_; rintro e w' ⟨rfl, rfl⟩)
            | (go_at_call 36; refine (cmp8 _ _ _).mono ?_; rintro e w' ⟨rfl, rfl⟩)
            | (go_at_call 34; refine (first_any _ _ [way r r, way c c, way b b, way p p'] _ (four_cells (by go_cell) (by go_cell) (by go_cell) (by go_cell)) (by simp)).mono ?_; rintro e w' ⟨rfl, rfl⟩)))
          go_wp2_with fail
          go_ret
          exact ⟨rfl, by repeat' (first | exact Keeps.refl _ _ | refine Keeps.drew ?_ | refine Keeps.alloc ?_ _)⟩
      · go_enter Try.func35, Try.ntmps35
        go_wp2_with fail
        go_region_held3 (fun w' => w'.cell? ⟨w.heap.size, 0, Option.none⟩ = some (.int .u64 r) ∧ w'.cell? ⟨w.heap.size, 1, Option.none⟩ = some (.int .u32 c) ∧ w'.cell? ⟨w.heap.size, 2, Option.none⟩ = some (.int .u64 b) ∧ w'.cell? ⟨w.heap.size, 3, Option.none⟩ = some (.int .u8 p) ∧ w'.cell? ⟨w.heap.size + 1, 0, Option.none⟩ = some (.int .u64 r) ∧ w'.cell? ⟨w.heap.size + 1, 1, Option.none⟩ = some (.int .u32 c) ∧ w'.cell? ⟨w.heap.size + 1, 2, Option.none⟩ = some (.int .u64 b') ∧ w'.cell? ⟨w.heap.size + 1, 3, Option.none⟩ = some (.int .u8 p')) (go_keep) ((first
          | (go_at_call 38; refine (cmp64 _ _ _).mono ?_; rintro e w' ⟨rfl, rfl⟩)
          | (go_at_call 39; refine (cmp32 _ _ _).mono ?_; rintro e w' ⟨rfl, rfl⟩)
          | (go_at_call 36; refine (cmp8 _ _ _).mono ?_; rintro e w' ⟨rfl, rfl⟩)
          | (go_at_call 34; refine (first_any _ _ [way r r, way c c, way b b', way p p'] _ (four_cells (by go_cell) (by go_cell) (by go_cell) (by go_cell)) (by simp)).mono ?_; rintro e w' ⟨rfl, rfl⟩)))
        go_wp2_with fail
        go_ret
        exact ⟨rfl, by repeat' (first | exact Keeps.refl _ _ | refine Keeps.drew ?_ | refine Keeps.alloc ?_ _)⟩
    · go_enter Try.func35, Try.ntmps35
      go_wp2_with fail
      go_region_held3 (fun w' => w'.cell? ⟨w.heap.size, 0, Option.none⟩ = some (.int .u64 r) ∧ w'.cell? ⟨w.heap.size, 1, Option.none⟩ = some (.int .u32 c) ∧ w'.cell? ⟨w.heap.size, 2, Option.none⟩ = some (.int .u64 b) ∧ w'.cell? ⟨w.heap.size, 3, Option.none⟩ = some (.int .u8 p) ∧ w'.cell? ⟨w.heap.size + 1, 0, Option.none⟩ = some (.int .u64 r) ∧ w'.cell? ⟨w.heap.size + 1, 1, Option.none⟩ = some (.int .u32 c') ∧ w'.cell? ⟨w.heap.size + 1, 2, Option.none⟩ = some (.int .u64 b') ∧ w'.cell? ⟨w.heap.size + 1, 3, Option.none⟩ = some (.int .u8 p')) (go_keep) ((first
        | (go_at_call 38; refine (cmp64 _ _ _).mono ?_; rintro e w' ⟨rfl, rfl⟩)
        | (go_at_call 39; refine (cmp32 _ _ _).mono ?_; rintro e w' ⟨rfl, rfl⟩)
        | (go_at_call 36; refine (cmp8 _ _ _).mono ?_; rintro e w' ⟨rfl, rfl⟩)
        | (go_at_call 34; refine (first_any _ _ [way r r, way c c', way b b', way p p'] _ (four_cells (by go_cell) (by go_cell) (by go_cell) (by go_cell)) (by simp)).mono ?_; rintro e w' ⟨rfl, rfl⟩)))
      go_wp2_with fail
      go_ret
      exact ⟨rfl, by repeat' (first | exact Keeps.refl _ _ | refine Keeps.drew ?_ | refine Keeps.alloc ?_ _)⟩
  · go_enter Try.func35, Try.ntmps35
    go_wp2_with fail
    go_region_held3 (fun w' => w'.cell? ⟨w.heap.size, 0, Option.none⟩ = some (.int .u64 r) ∧ w'.cell? ⟨w.heap.size, 1, Option.none⟩ = some (.int .u32 c) ∧ w'.cell? ⟨w.heap.size, 2, Option.none⟩ = some (.int .u64 b) ∧ w'.cell? ⟨w.heap.size, 3, Option.none⟩ = some (.int .u8 p) ∧ w'.cell? ⟨w.heap.size + 1, 0, Option.none⟩ = some (.int .u64 r') ∧ w'.cell? ⟨w.heap.size + 1, 1, Option.none⟩ = some (.int .u32 c') ∧ w'.cell? ⟨w.heap.size + 1, 2, Option.none⟩ = some (.int .u64 b') ∧ w'.cell? ⟨w.heap.size + 1, 3, Option.none⟩ = some (.int .u8 p')) (go_keep) ((first
      | (go_at_call 38; refine (cmp64 _ _ _).mono ?_; rintro e w' ⟨rfl, rfl⟩)
      | (go_at_call 39; refine (cmp32 _ _ _).mono ?_; rintro e w' ⟨rfl, rfl⟩)
      | (go_at_call 36; refine (cmp8 _ _ _).mono ?_; rintro e w' ⟨rfl, rfl⟩)
      | (go_at_call 34; refine (first_any _ _ [way r r', way c c', way b b', way p p'] _ (four_cells (by go_cell) (by go_cell) (by go_cell) (by go_cell)) (by simp)).mono ?_; rintro e w' ⟨rfl, rfl⟩)))
    go_wp2_with fail
    go_ret
    exact ⟨rfl, by repeat' (first | exact Keeps.refl _ _ | refine Keeps.drew ?_ | refine Keeps.alloc ?_ _)⟩
end Go.Proofs.Ythnkeppkhdceoaa
