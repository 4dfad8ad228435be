/-
  Vectors sorted: the library's sort at vectors; vector.Compare as the sort asks it. No condition.
-/
import Derived.Test.YtndhccdknloinaaOrder
import Derived.Shelf.SlSortCmp.WholeK
import Derived.Shelf.SlGeneric
namespace Go.Proofs.Ytndhccdknloinaa
open Go.RowKit Go.Shelf Go.Lib Go.Sort
set_option linter.unusedVariables false

/-- What drew, and made memory, and nothing else. -/
def Grows (w w' : World) : Prop := ∃ q os, w' = grow (w.drewN q) os
theorem Grows.refl (w : World) : Grows w w := ⟨0, #[], by rw [grow_empty]; rfl⟩
theorem Grows.alloc {w w' : World} (h : Grows w w') (o : Obj) : Grows w (w'.alloc o) := by
  obtain ⟨q, os, rfl⟩ := h
  exact ⟨q, _, by rw [alloc_eq_grow, grow_grow]⟩
theorem Grows.drew {w w' : World} (h : Grows w w') : Grows w w'.drew := by
  obtain ⟨q, os, rfl⟩ := h
  exact ⟨q + 1, os, rfl⟩
set_option maxHeartbeats 3200000 in
theorem compare_grows (r c b p r' c' b' p' : Int) (w : World) :
    Calls Try.prog 11 #[vec r c b p, vec r' c' b' p'] w fun e w' => e = .returned (.int .i64 (stand r c b p r' c' b' p')) ∧ Grows w w' := by
  by_cases h0 : r = r'
  · subst h0
    by_cases h1 : c = c'
    · subst h1
      by_cases h2 : b = b'
      · subst h2
        by_cases h3 : p = p'
        · subst h3
          go_enter Try.func11, Try.ntmps11
          go_wp2_with fail
          go_ret
          exact ⟨by simp [stand, firstOf, way], ((Grows.refl _).alloc _).alloc _⟩
        · go_enter Try.func11, Try.ntmps11
          go_wp2_with fail
          go_region_held3 (fun w' => w'.cell? ⟨w.heap.size, 0, Option.none⟩ = some (.int .u64 r) ∧ w'.cell? ⟨w.heap.size, 1, Option.none⟩ = some (.int .u32 c) ∧ w'.cell? ⟨w.heap.size, 2, Option.none⟩ = some (.int .u64 b) ∧ w'.cell? ⟨w.heap.size, 3, Option.none⟩ = some (.int .u8 p) ∧ w'.cell? ⟨w.heap.size + 1, 0, Option.none⟩ = some (.int .u64 r) ∧ w'.cell? ⟨w.heap.size + 1, 1, Option.none⟩ = some (.int .u32 c) ∧ w'.cell? ⟨w.heap.size + 1, 2, Option.none⟩ = some (.int .u64 b) ∧ w'.cell? ⟨w.heap.size + 1, 3, Option.none⟩ = some (.int .u8 p')) (go_keep) ((first
            | (go_at_call 17; refine (cmp64 _ _ _).mono ?_; rintro e w' ⟨rfl, rfl⟩)
            | (go_at_call 18; refine (cmp32 _ _ _).mono ?_; rintro e w' ⟨rfl, rfl⟩)
            | (go_at_call 19; refine (cmp8 _ _ _).mono ?_; rintro e w' ⟨rfl, rfl⟩)
            | (go_at_call 16; refine (first_any _ _ [way r r, way c c, way b b, way p p'] _ (four_cells (by go_cell) (by go_cell) (by go_cell) (by go_cell)) (by simp)).mono ?_; rintro e w' ⟨rfl, rfl⟩)))
          go_wp2_with fail
          go_ret
          exact ⟨rfl, by repeat' (first | exact Grows.refl _ | refine Grows.drew ?_ | refine Grows.alloc ?_ _)⟩
      · go_enter Try.func11, Try.ntmps11
        go_wp2_with fail
        go_region_held3 (fun w' => w'.cell? ⟨w.heap.size, 0, Option.none⟩ = some (.int .u64 r) ∧ w'.cell? ⟨w.heap.size, 1, Option.none⟩ = some (.int .u32 c) ∧ w'.cell? ⟨w.heap.size, 2, Option.none⟩ = some (.int .u64 b) ∧ w'.cell? ⟨w.heap.size, 3, Option.none⟩ = some (.int .u8 p) ∧ w'.cell? ⟨w.heap.size + 1, 0, Option.none⟩ = some (.int .u64 r) ∧ w'.cell? ⟨w.heap.size + 1, 1, Option.none⟩ = some (.int .u32 c) ∧ w'.cell? ⟨w.heap.size + 1, 2, Option.none⟩ = some (.int .u64 b') ∧ w'.cell? ⟨w.heap.size + 1, 3, Option.none⟩ = some (.int .u8 p')) (go_keep) ((first
          | (go_at_call 17; refine (cmp64 _ _ _).mono ?_; rintro e w' ⟨rfl, rfl⟩)
          | (go_at_call 18; refine (cmp32 _ _ _).mono ?_; rintro e w' ⟨rfl, rfl⟩)
          | (go_at_call 19; refine (cmp8 _ _ _).mono ?_; rintro e w' ⟨rfl, rfl⟩)
          | (go_at_call 16; refine (first_any _ _ [way r r, way c c, way b b', way p p'] _ (four_cells (by go_cell) (by go_cell) (by go_cell) (by go_cell)) (by simp)).mono ?_; rintro e w' ⟨rfl, rfl⟩)))
        go_wp2_with fail
        go_ret
        exact ⟨rfl, by repeat' (first | exact Grows.refl _ | refine Grows.drew ?_ | refine Grows.alloc ?_ _)⟩
    · go_enter Try.func11, Try.ntmps11
      go_wp2_with fail
      go_region_held3 (fun w' => w'.cell? ⟨w.heap.size, 0, Option.none⟩ = some (.int .u64 r) ∧ w'.cell? ⟨w.heap.size, 1, Option.none⟩ = some (.int .u32 c) ∧ w'.cell? ⟨w.heap.size, 2, Option.none⟩ = some (.int .u64 b) ∧ w'.cell? ⟨w.heap.size, 3, Option.none⟩ = some (.int .u8 p) ∧ w'.cell? ⟨w.heap.size + 1, 0, Option.none⟩ = some (.int .u64 r) ∧ w'.cell? ⟨w.heap.size + 1, 1, Option.none⟩ = some (.int .u32 c') ∧ w'.cell? ⟨w.heap.size + 1, 2, Option.none⟩ = some (.int .u64 b') ∧ w'.cell? ⟨w.heap.size + 1, 3, Option.none⟩ = some (.int .u8 p')) (go_keep) ((first
        | (go_at_call 17; refine (cmp64 _ _ _).mono ?_; rintro e w' ⟨rfl, rfl⟩)
        | (go_at_call 18; refine (cmp32 _ _ _).mono ?_; rintro e w' ⟨rfl, rfl⟩)
        | (go_at_call 19; refine (cmp8 _ _ _).mono ?_; rintro e w' ⟨rfl, rfl⟩)
        | (go_at_call 16; refine (first_any _ _ [way r r, way c c', way b b', way p p'] _ (four_cells (by go_cell) (by go_cell) (by go_cell) (by go_cell)) (by simp)).mono ?_; rintro e w' ⟨rfl, rfl⟩)))
      go_wp2_with fail
      go_ret
      exact ⟨rfl, by repeat' (first | exact Grows.refl _ | refine Grows.drew ?_ | refine Grows.alloc ?_ _)⟩
  · go_enter Try.func11, Try.ntmps11
    go_wp2_with fail
    go_region_held3 (fun w' => w'.cell? ⟨w.heap.size, 0, Option.none⟩ = some (.int .u64 r) ∧ w'.cell? ⟨w.heap.size, 1, Option.none⟩ = some (.int .u32 c) ∧ w'.cell? ⟨w.heap.size, 2, Option.none⟩ = some (.int .u64 b) ∧ w'.cell? ⟨w.heap.size, 3, Option.none⟩ = some (.int .u8 p) ∧ w'.cell? ⟨w.heap.size + 1, 0, Option.none⟩ = some (.int .u64 r') ∧ w'.cell? ⟨w.heap.size + 1, 1, Option.none⟩ = some (.int .u32 c') ∧ w'.cell? ⟨w.heap.size + 1, 2, Option.none⟩ = some (.int .u64 b') ∧ w'.cell? ⟨w.heap.size + 1, 3, Option.none⟩ = some (.int .u8 p')) (go_keep) ((first
      | (go_at_call 17; refine (cmp64 _ _ _).mono ?_; rintro e w' ⟨rfl, rfl⟩)
      | (go_at_call 18; refine (cmp32 _ _ _).mono ?_; rintro e w' ⟨rfl, rfl⟩)
      | (go_at_call 19; refine (cmp8 _ _ _).mono ?_; rintro e w' ⟨rfl, rfl⟩)
      | (go_at_call 16; refine (first_any _ _ [way r r', way c c', way b b', way p p'] _ (four_cells (by go_cell) (by go_cell) (by go_cell) (by go_cell)) (by simp)).mono ?_; rintro e w' ⟨rfl, rfl⟩)))
    go_wp2_with fail
    go_ret
    exact ⟨rfl, by repeat' (first | exact Grows.refl _ | refine Grows.drew ?_ | refine Grows.alloc ?_ _)⟩
def sortV_ren : Go.Shelf.Ren := ⟨fun | 6 => 29 | 15 => 33 | 14 => 32 | 28 => 42 | 29 => 43 | 20 => 34 | 21 => 35 | 22 => 36 | 23 => 37 | 24 => 38 | 25 => 39 | 26 => 40 | 27 => 41 | 46 => 44 | 47 => 45 | 48 => 46 | 49 => 47 | 50 => 48 | 57 => 49 | n => n, fun | 22 => 48 | 24 => 27 | 25 => 33 | 3 => 3 | 39 => 72 | 0 => 0 | 53 => 23 | 55 => 22 | 4 => 4 | 46 => 75 | 45 => 74 | 50 => 79 | 5 => 5 | 9 => 9 | 66 => 83 | 70 => 87 | 76 => 89 | 77 => 90 | n => n, fun | n => n⟩
theorem sortV : Go.Proofs.SlLaysF0.n6 Try.prog sortV_ren := {
  mixed := by kernel_rfl,
  f6 := ⟨Try.f29.name, by decide, Try.func29.trans (congrArg some (by kernel_rfl))⟩,
  f14 := ⟨Try.f32.name, by decide, Try.func32.trans (congrArg some (by kernel_rfl))⟩,
  f15 := Try.func33.trans (congrArg some (by kernel_rfl)),
  f20 := ⟨Try.f34.name, by decide, Try.func34.trans (congrArg some (by kernel_rfl))⟩,
  f21 := ⟨Try.f35.name, by decide, Try.func35.trans (congrArg some (by kernel_rfl))⟩,
  f22 := ⟨Try.f36.name, by decide, Try.func36.trans (congrArg some (by kernel_rfl))⟩,
  f23 := ⟨Try.f37.name, by decide, Try.func37.trans (congrArg some (by kernel_rfl))⟩,
  f24 := ⟨Try.f38.name, by decide, Try.func38.trans (congrArg some (by kernel_rfl))⟩,
  f25 := ⟨Try.f39.name, by decide, Try.func39.trans (congrArg some (by kernel_rfl))⟩,
  f26 := ⟨Try.f40.name, by decide, Try.func40.trans (congrArg some (by kernel_rfl))⟩,
  f27 := ⟨Try.f41.name, by decide, Try.func41.trans (congrArg some (by kernel_rfl))⟩,
  f28 := Try.func42.trans (congrArg some (by kernel_rfl)),
  f29 := Try.func43.trans (congrArg some (by kernel_rfl)),
  f46 := ⟨Try.f44.name, by decide, Try.func44.trans (congrArg some (by kernel_rfl))⟩,
  f47 := Try.func45.trans (congrArg some (by kernel_rfl)),
  f48 := Try.func46.trans (congrArg some (by kernel_rfl)),
  f49 := ⟨Try.f47.name, by decide, Try.func47.trans (congrArg some (by kernel_rfl))⟩,
  f50 := ⟨Try.f48.name, by decide, Try.func48.trans (congrArg some (by kernel_rfl))⟩,
  f57 := ⟨Try.f49.name, by decide, Try.func49.trans (congrArg some (by kernel_rfl))⟩,
  t0 := Try.underlying0,
  a0 := Try.isAgg0,
  z0 := Try.sizeOf0,
  v0 := Try.zeroValue0,
  t3 := Try.underlying3,
  a3 := Try.isAgg3,
  z3 := Try.sizeOf3,
  v3 := Try.zeroValue3,
  t4 := Try.underlying4,
  a4 := Try.isAgg4,
  z4 := Try.sizeOf4,
  v4 := Try.zeroValue4,
  t5 := Try.underlying5,
  a5 := Try.isAgg5,
  z5 := Try.sizeOf5,
  v5 := Try.zeroValue5,
  t9 := Try.underlying9,
  a9 := Try.isAgg9,
  z9 := Try.sizeOf9,
  v9 := Try.zeroValue9,
  t22 := Try.underlying48,
  a22 := Try.isAgg48,
  z22 := Try.sizeOf48,
  v22 := Try.zeroValue48,
  t25 := Try.underlying33,
  a25 := Try.isAgg33,
  z25 := Try.sizeOf33,
  v25 := Try.zeroValue33,
  t39 := Try.underlying72,
  a39 := Try.isAgg72,
  z39 := Try.sizeOf72,
  v39 := Try.zeroValue72,
  t45 := Try.underlying74,
  a45 := Try.isAgg74,
  z45 := Try.sizeOf74,
  v45 := Try.zeroValue74,
  t46 := Try.underlying75,
  a46 := Try.isAgg75,
  z46 := Try.sizeOf75,
  v46 := Try.zeroValue75,
  t50 := Try.underlying79,
  a50 := Try.isAgg79,
  z50 := Try.sizeOf79,
  v50 := Try.zeroValue79,
  t53 := Try.underlying23,
  a53 := Try.isAgg23,
  z53 := Try.sizeOf23,
  v53 := Try.zeroValue23,
  t55 := Try.underlying22,
  a55 := Try.isAgg22,
  z55 := Try.sizeOf22,
  v55 := Try.zeroValue22,
  t66 := Try.underlying83,
  a66 := Try.isAgg83,
  z66 := Try.sizeOf83,
  v66 := Try.zeroValue83,
  t70 := Try.underlying87,
  a70 := Try.isAgg87,
  z70 := Try.sizeOf87,
  v70 := Try.zeroValue87,
  t76 := Try.underlying89,
  a76 := Try.isAgg89,
  z76 := Try.sizeOf89,
  v76 := Try.zeroValue89,
  t77 := Try.underlying90,
  a77 := Try.isAgg90,
  z77 := Try.sizeOf90,
  v77 := Try.zeroValue90 }
end Go.Proofs.Ytndhccdknloinaa
