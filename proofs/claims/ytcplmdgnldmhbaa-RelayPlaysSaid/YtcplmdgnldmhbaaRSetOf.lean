/-
  Layer 21, the document: ports as a set. No condition.
-/
import Derived.Test.YtcplmdgnldmhbaaD7P
import Derived.Test.YtcplmdgnldmhbaaRDoc
namespace Go.Proofs.Ytcplmdgnldmhbaa
open Go.RowKit
set_option linter.unusedVariables false
set_option linter.unusedSimpArgs false
set_option maxRecDepth 8000

/-- The highest ports first. -/
def accR (f : Nat → Bool) : Nat → Int
  | 0 => 0
  | j + 1 => accR f j * 2 + (if f (7 - j) then 1 else 0)
theorem accR_bd (f : Nat → Bool) : ∀ j, 0 ≤ accR f j ∧ accR f j < 2 ^ j
  | 0 => ⟨Int.le_refl 0, by simp [accR]⟩
  | j + 1 => by
    have h := accR_bd f j
    show 0 ≤ accR f j * 2 + (if f (7 - j) then 1 else 0) ∧ accR f j * 2 + (if f (7 - j) then 1 else 0) < 2 ^ (j + 1)
    rw [Int.pow_succ]
    split <;> omega
theorem accR_set (f : Nat → Bool) : accR f 8 = setOf f := by
  have e : ∀ p : Nat, (if f p then (2 : Int) ^ p else 0) = 2 ^ p * (if f p then 1 else 0) := fun p => by split <;> simp
  unfold setOf
  simp only [e]
  show (((((((0 * 2 + (if f 7 then 1 else 0)) * 2 + (if f 6 then 1 else 0)) * 2 + (if f 5 then 1 else 0)) * 2 + (if f 4 then 1 else 0)) * 2 + (if f 3 then 1 else 0)) * 2 + (if f 2 then 1 else 0)) * 2 + (if f 1 then 1 else 0)) * 2 + (if f 0 then 1 else 0) = ((((((((0 + 2 ^ 0 * (if f 0 then 1 else 0)) + 2 ^ 1 * (if f 1 then 1 else 0)) + 2 ^ 2 * (if f 2 then 1 else 0)) + 2 ^ 3 * (if f 3 then 1 else 0)) + 2 ^ 4 * (if f 4 then 1 else 0)) + 2 ^ 5 * (if f 5 then 1 else 0)) + 2 ^ 6 * (if f 6 then 1 else 0)) + 2 ^ 7 * (if f 7 then 1 else 0) : Int)
  generalize (if f 0 then (1 : Int) else 0) = b0
  generalize (if f 1 then (1 : Int) else 0) = b1
  generalize (if f 2 then (1 : Int) else 0) = b2
  generalize (if f 3 then (1 : Int) else 0) = b3
  generalize (if f 4 then (1 : Int) else 0) = b4
  generalize (if f 5 then (1 : Int) else 0) = b5
  generalize (if f 6 then (1 : Int) else 0) = b6
  generalize (if f 7 then (1 : Int) else 0) = b7
  omega
abbrev bools (f : Nat → Bool) : Value := .agg #[Value.bool (f 0), Value.bool (f 1), Value.bool (f 2), Value.bool (f 3), Value.bool (f 4), Value.bool (f 5), Value.bool (f 6), Value.bool (f 7)]
theorem eight_cells {W : World} {b : Nat} {f : Nat → Bool} (h : W.heap[b]? = some (.cells #[Value.bool (f 0), Value.bool (f 1), Value.bool (f 2), Value.bool (f 3), Value.bool (f 4), Value.bool (f 5), Value.bool (f 6), Value.bool (f 7)] 69 (0, 0))) : ∀ i : Nat, i < 8 → W.cell? ⟨b, i, Option.none⟩ = some (.bool (f i)) := by
  intro i hi
  rcases (show i = 0 ∨ i = 1 ∨ i = 2 ∨ i = 3 ∨ i = 4 ∨ i = 5 ∨ i = 6 ∨ i = 7 by omega) with rfl | rfl | rfl | rfl | rfl | rfl | rfl | rfl <;> simp [World.cell?, h]
set_option maxHeartbeats 8000000 in
theorem set_any (f : Nat → Bool) (w : World) : Calls Try.prog 26 #[bools f] w fun e w' => e = .returned (.int .u8 (setOf f)) ∧ Keeps Nil w w' := by
  have kz : Keeps Nil w (w.alloc (.cells #[Value.bool (f 0), Value.bool (f 1), Value.bool (f 2), Value.bool (f 3), Value.bool (f 4), Value.bool (f 5), Value.bool (f 6), Value.bool (f 7)] 69 (0, 0))) := (Keeps.refl _ _).alloc _
  have hA := alloc_block w (.cells #[Value.bool (f 0), Value.bool (f 1), Value.bool (f 2), Value.bool (f 3), Value.bool (f 4), Value.bool (f 5), Value.bool (f 6), Value.bool (f 7)] 69 (0, 0))
  rw [← accR_set]
  have HBD := fun j => hid (accR_bd f j)
  have HST := fun j => hid (show accR f (j + 1) = accR f j * 2 + (if f (7 - j) then 1 else 0) from rfl)
  generalize accR f = acc at *
  have hacc0 : acc 0 = 0 := by have := (HBD 0).out; simp at this; omega
  have HC := hid (eight_cells hA)
  have HA0 := hid hacc0
  have HF : ∀ i x, f i = x → f i = x := fun _ _ h => h
  clear hA hacc0
  go_enter Try.func26, Try.ntmps26
  go_upto_region 1 with (fail)
  generalize (w.alloc (.cells #[Value.bool (f 0), Value.bool (f 1), Value.bool (f 2), Value.bool (f 3), Value.bool (f 4), Value.bool (f 5), Value.bool (f 6), Value.bool (f 7)] 69 (0, 0))) = W at *
  generalize w.heap.size = bA at *
  have KZ := hid kz
  clear kz
  go_wp2_with fail
  go_loopw [3, 4] (fun s3 s4 wr => ∃ j : Nat, j ≤ 8 ∧ s3 = .int .u8 (acc j) ∧ s4 = .int .i64 (7 - (j : Int)) ∧ wr = W) (fun _ s4 _ => ((intOf s4) + 1).toNat)
  case atStart => exact ⟨0, by omega, by rw [HA0.out], by simp, rfl⟩
  case round =>
    obtain ⟨j, hj, rfl, rfl, rfl⟩ := hrel
    rcases (show j = 0 ∨ j = 1 ∨ j = 2 ∨ j = 3 ∨ j = 4 ∨ j = 5 ∨ j = 6 ∨ j = 7 ∨ j = 8 by omega) with rfl | rfl | rfl | rfl | rfl | rfl | rfl | rfl | rfl
    · have hb := (HBD 0).out
      have HS := hid (HST 0).out
      have hc := HC.out 7 (by decide)
      have hb : 0 ≤ acc 0 ∧ acc 0 ≤ 127 := ⟨hb.1, by have := hb.2; simp at this; omega⟩
      generalize acc 0 = u at *
      cases hx : f 7
      all_goals
        rw [hx] at hc
        have HX := hid hx
        clear hx
        go_wp2_with fail
        go_roundw
        case rel => exact ⟨1, by decide, by rw [HS.out]; simp [HX.out], by simp, by first | rfl | trivial⟩
        case measure => simp [intOf]
    · have hb := (HBD 1).out
      have HS := hid (HST 1).out
      have hc := HC.out 6 (by decide)
      have hb : 0 ≤ acc 1 ∧ acc 1 ≤ 127 := ⟨hb.1, by have := hb.2; simp at this; omega⟩
      generalize acc 1 = u at *
      cases hx : f 6
      all_goals
        rw [hx] at hc
        have HX := hid hx
        clear hx
        go_wp2_with fail
        go_roundw
        case rel => exact ⟨2, by decide, by rw [HS.out]; simp [HX.out], by simp, by first | rfl | trivial⟩
        case measure => simp [intOf]
    · have hb := (HBD 2).out
      have HS := hid (HST 2).out
      have hc := HC.out 5 (by decide)
      have hb : 0 ≤ acc 2 ∧ acc 2 ≤ 127 := ⟨hb.1, by have := hb.2; simp at this; omega⟩
      generalize acc 2 = u at *
      cases hx : f 5
      all_goals
        rw [hx] at hc
        have HX := hid hx
        clear hx
        go_wp2_with fail
        go_roundw
        case rel => exact ⟨3, by decide, by rw [HS.out]; simp [HX.out], by simp, by first | rfl | trivial⟩
        case measure => simp [intOf]
    · have hb := (HBD 3).out
      have HS := hid (HST 3).out
      have hc := HC.out 4 (by decide)
      have hb : 0 ≤ acc 3 ∧ acc 3 ≤ 127 := ⟨hb.1, by have := hb.2; simp at this; omega⟩
      generalize acc 3 = u at *
      cases hx : f 4
      all_goals
        rw [hx] at hc
        have HX := hid hx
        clear hx
        go_wp2_with fail
        go_roundw
        case rel => exact ⟨4, by decide, by rw [HS.out]; simp [HX.out], by simp, by first | rfl | trivial⟩
        case measure => simp [intOf]
    · have hb := (HBD 4).out
      have HS := hid (HST 4).out
      have hc := HC.out 3 (by decide)
      have hb : 0 ≤ acc 4 ∧ acc 4 ≤ 127 := ⟨hb.1, by have := hb.2; simp at this; omega⟩
      generalize acc 4 = u at *
      cases hx : f 3
      all_goals
        rw [hx] at hc
        have HX := hid hx
        clear hx
        go_wp2_with fail
        go_roundw
        case rel => exact ⟨5, by decide, by rw [HS.out]; simp [HX.out], by simp, by first | rfl | trivial⟩
        case measure => simp [intOf]
    · have hb := (HBD 5).out
      have HS := hid (HST 5).out
      have hc := HC.out 2 (by decide)
      have hb : 0 ≤ acc 5 ∧ acc 5 ≤ 127 := ⟨hb.1, by have := hb.2; simp at this; omega⟩
      generalize acc 5 = u at *
      cases hx : f 2
      all_goals
        rw [hx] at hc
        have HX := hid hx
        clear hx
        go_wp2_with fail
        go_roundw
        case rel => exact ⟨6, by decide, by rw [HS.out]; simp [HX.out], by simp, by first | rfl | trivial⟩
        case measure => simp [intOf]
    · have hb := (HBD 6).out
      have HS := hid (HST 6).out
      have hc := HC.out 1 (by decide)
      have hb : 0 ≤ acc 6 ∧ acc 6 ≤ 127 := ⟨hb.1, by have := hb.2; simp at this; omega⟩
      generalize acc 6 = u at *
      cases hx : f 1
      all_goals
        rw [hx] at hc
        have HX := hid hx
        clear hx
        go_wp2_with fail
        go_roundw
        case rel => exact ⟨7, by decide, by rw [HS.out]; simp [HX.out], by simp, by first | rfl | trivial⟩
        case measure => simp [intOf]
    · have hb := (HBD 7).out
      have HS := hid (HST 7).out
      have hc := HC.out 0 (by decide)
      have hb : 0 ≤ acc 7 ∧ acc 7 ≤ 127 := ⟨hb.1, by have := hb.2; simp at this; omega⟩
      generalize acc 7 = u at *
      cases hx : f 0
      all_goals
        rw [hx] at hc
        have HX := hid hx
        clear hx
        go_wp2_with fail
        go_roundw
        case rel => exact ⟨8, by decide, by rw [HS.out]; simp [HX.out], by simp, by first | rfl | trivial⟩
        case measure => simp [intOf]
    · go_wp2_with fail
      go_ret
      exact ⟨rfl, KZ.out⟩
end Go.Proofs.Ytcplmdgnldmhbaa
