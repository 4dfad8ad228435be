/-
  Vectors that are known (wakes). No condition.
-/
import Derived.Test.YtndhccdknloinaaLeast
namespace Go.Proofs.Ytndhccdknloinaa
open Go.RowKit
set_option linter.unusedVariables false

theorem held4 {W1 W : World} (k : Keeps Nil W1 W) {b : Nat} {T : TypeId} {fz : Nat × Nat} {x0 x1 x2 x3 : Value} (h : W1.heap[b]? = some (.cells #[x0, x1, x2, x3] T fz)) :
    W.cell? ⟨b, 0, Option.none⟩ = some x0 ∧ W.cell? ⟨b, 1, Option.none⟩ = some x1 ∧ W.cell? ⟨b, 2, Option.none⟩ = some x2 ∧ W.cell? ⟨b, 3, Option.none⟩ = some x3 := by
  have h' := (k.block b (lt_of_block h) (fun e => e)).trans h
  simp [World.cell?, h']
theorem row_two {w : World} {b : Nat} {T : TypeId} {fz : Nat × Nat} {a0 a1 a2 a3 a4 b0 b1 b2 b3 b4 : Int}
    (h : w.heap[b]? = some (.cells #[.int .u64 a0, .int .u32 a1, .int .u64 a2, .int .u8 a3, .int .u8 a4, .int .u64 b0, .int .u32 b1, .int .u64 b2, .int .u8 b3, .int .u8 b4] T fz)) :
    Row5 w b [(a0, a1, a2, a3, a4), (b0, b1, b2, b3, b4)] := by
  intro i x hx
  match i, hx with
  | 0, hx => cases hx; simp [World.cell?, h]
  | 1, hx => cases hx; simp [World.cell?, h]

set_option maxHeartbeats 1600000 in
theorem wakes_any (w : World) : Calls Try.prog 12 #[] w fun e w' => e = .returned (.bool true) ∧ Keeps Nil w w' := by
  have F1 : ∀ W, Calls Try.prog 9 #[vec 1 5 2 3, .int .u32 4] W fun e w' => e = .returned (.tuple #[vec 1 9 2 3, .bool true]) ∧ Keeps Nil W w' := fun W => by
    have := far_any 1 5 2 3 4 (by decide) (by decide) (by decide) (by decide) W
    simpa [farV, farB] using this
  have F2 : ∀ W, Calls Try.prog 9 #[vec 1 9 2 3, .int .u32 16777216] W fun e w' => e = .returned (.tuple #[vec 0 0 0 0, .bool false]) ∧ Keeps Nil W w' := fun W => by
    have := far_any 1 9 2 3 16777216 (by decide) (by decide) (by decide) (by decide) W
    simpa [farV, farB] using this
  have C1 : ∀ W, Calls Try.prog 11 #[vec 1 9 9 9, vec 2 0 0 0] W fun e w' => e = .returned (.int .i64 (-1)) ∧ Keeps Nil W w' := fun W => by
    have := compare_any 1 9 9 9 2 0 0 0 W
    simpa [stand, firstOf, way] using this
  have L1 : ∀ W b, W.heap[b]? = some (.cells #[.int .u64 1, .int .u32 9, .int .u64 2, .int .u8 3, .int .u8 2, .int .u64 1, .int .u32 9, .int .u64 2, .int .u8 3, .int .u8 1] 41 (0, 0)) →
      Calls Try.prog 13 #[.slice (some ⟨b, 0, Option.none⟩) 2 2] W fun e w' => e = .returned (.tuple #[pth (1, 9, 2, 3, 1), .bool true]) ∧ Keeps Nil W w' := fun W b h => by
    have := least_some b 2 (1, 9, 2, 3, 2) [(1, 9, 2, 3, 1)] (lt_of_block h) (row_two h) (by simp)
    rwa [show best (1, 9, 2, 3, 2) [(1, 9, 2, 3, 1)] = (1, 9, 2, 3, 1) from by simp [best, ordP, stand, firstOf, way]] at this
  have HL := hid L1
  clear L1
  have HF1 := hid F1
  have HF2 := hid F2
  have HC1 := hid C1
  clear F1 F2 C1
  go_enter Try.func12, Try.ntmps12
  go_wp2_with fail
  refine (HF1.out _).mono ?_; rintro e w1 ⟨rfl, k1⟩
  go_wp2_with fail
  refine (HF2.out _).mono ?_; rintro e w2 ⟨rfl, k2⟩
  have b1 := (k2.block _ (by simp) (fun e => e)).trans (alloc_block w1 _)
  obtain ⟨c0, c1, c2, c3⟩ := held4 (Keeps.refl Nil w2) b1
  have HB1 := hid b1
  have s12 : w1.heap.size < w2.heap.size := lt_of_block b1
  clear b1
  go_wp2_with fail
  refine (HL.out _ _ (two_allocs w2 _ _).2).mono ?_; rintro e w3 ⟨rfl, k3⟩
  have s13 : w1.heap.size < w3.heap.size := Nat.lt_of_lt_of_le s12 (by have := k3.size; simp at this; omega)
  have kk : Keeps Nil w2 w3 := ((((Keeps.refl Nil w2).alloc _).alloc _)).trans k3
  obtain ⟨c0, c1, c2, c3⟩ := held4 kk HB1.out
  go_wp2_with fail
  refine (HC1.out _).mono ?_; rintro e w4 ⟨rfl, k4⟩
  have kw : Keeps Nil w2 w4 := (kk.alloc _).trans k4
  obtain ⟨c0, c1, c2, c3⟩ := held4 kw HB1.out
  obtain ⟨d0, d1, d2, d3, d4⟩ := held5 (x := (1, 9, 2, 3, 1)) k4 (alloc_block w3 _)
  go_wp2_with fail
  go_ret
  exact ⟨rfl, (k1.alloc _).trans (k2.trans kw)⟩
end Go.Proofs.Ytndhccdknloinaa
