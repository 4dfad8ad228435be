/-
  The check of a known alarm (wakes) returns true. No condition.
-/
import Derived.Test.YtkhcaefbchcdoaaRef
namespace Go.Proofs.Ytkhcaefbchcdoaa
open Go.RowKit Plain

theorem tick_eq {b : Nat} {lo : Int} {s s' : St} {x r : Int} {w : World} (h : Lies w b lo s) (hr : tick lo s x = (s', r)) (ht : 0 ≤ s.ti) (hu : s.ti ≤ 1000000) (hx : 0 ≤ x) (hx' : x ≤ 255) :
    Calls Try.prog 8 #[.pointer (some ⟨b, 0, Option.none⟩), .int .u8 x] w fun e w' => e = .returned (.int .u8 r) ∧ Lies w' b lo s' ∧ Keeps (At b) w w' := by
  have := tick_any b lo s x w h ht hu hx hx'
  rw [hr] at this
  exact this

set_option maxHeartbeats 1000000 in
theorem wakes_any (w : World) : Calls Try.prog 6 #[] w fun e w' => e = .returned (.bool true) ∧ Keeps Nil w w' := by
  go_enter Try.func6, Try.ntmps6
  go_wp2_with fail
  refine (new_ok 2 _ (by omega) (by omega)).mono ?_; rintro e w1 ⟨rfl, l1, k1⟩
  go_wp2_with fail
  refine (tick_eq (s' := ⟨1, 1, 0⟩) (r := 0) l1 rfl (by decide) (by decide) (by omega) (by omega)).mono ?_; rintro e w2 ⟨rfl, l2, k2⟩
  go_wp2_with fail
  refine (state_any _ _ _ _ l2).mono ?_; rintro e w' ⟨rfl, rfl⟩
  go_wp2_with fail
  refine (tick_eq (s' := ⟨2, 0, 3⟩) (r := 3) l2 rfl (by decide) (by decide) (by omega) (by omega)).mono ?_; rintro e w3 ⟨rfl, l3, k3⟩
  go_wp2_with fail
  refine (tick_eq (s' := ⟨2, 0, 3⟩) (r := 0) l3 rfl (by decide) (by decide) (by omega) (by omega)).mono ?_; rintro e w4 ⟨rfl, l4, k4⟩
  go_wp2_with fail
  refine (tick_eq (s' := ⟨2, 0, 4⟩) (r := 4) l4 rfl (by decide) (by decide) (by omega) (by omega)).mono ?_; rintro e w5 ⟨rfl, l5, k5⟩
  go_wp2_with fail
  refine (state_any _ _ _ _ l5).mono ?_; rintro e w' ⟨rfl, rfl⟩
  go_wp2_with fail
  refine (told_any _ _ _ _ l5).mono ?_; rintro e w' ⟨rfl, rfl⟩
  go_wp2_with fail
  refine (tick_eq (s' := ⟨2, 1, 4⟩) (r := 0) l5 rfl (by decide) (by decide) (by omega) (by omega)).mono ?_; rintro e w6 ⟨rfl, l6, k6⟩
  go_wp2_with fail
  refine (state_any _ _ _ _ l6).mono ?_; rintro e w' ⟨rfl, rfl⟩
  go_wp2_with fail
  go_ret
  refine ⟨rfl, k1.trans' ((((k2.trans k3).trans k4).trans k5).trans k6) ?_⟩
  intro x hx hs
  simp only [At] at hs
  omega

set_option maxHeartbeats 400000 in
theorem state_nil (w : World) : Calls Try.prog 10 #[.pointer Option.none] w fun e w' => e = .returned (.int .u8 0) ∧ w = w' := by
  go_enter Try.func10, Try.ntmps10
  go_wp2
  go_ret
  exact ⟨rfl, rfl⟩
set_option maxHeartbeats 400000 in
theorem told_nil (w : World) : Calls Try.prog 11 #[.pointer Option.none] w fun e w' => e = .returned (.int .u8 0) ∧ w = w' := by
  go_enter Try.func11, Try.ntmps11
  go_wp2
  go_ret
  exact ⟨rfl, rfl⟩
set_option maxHeartbeats 400000 in
theorem tick_nil (x : Int) (w : World) : Calls Try.prog 8 #[.pointer Option.none, .int .u8 x] w fun e w' => e = .returned (.int .u8 0) ∧ w = w' := by
  go_enter Try.func8, Try.ntmps8
  go_wp2
  go_ret
  exact ⟨rfl, rfl⟩

set_option maxHeartbeats 400000 in
theorem alarmNil_any (x : Int) (w : World) : Calls Try.prog 4 #[.int .u8 x] w fun e w' => e = .returned (.bool true) ∧ Keeps Nil w w' := by
  go_enter Try.func4, Try.ntmps4
  go_wp2_with (first
    | (go_at_call 8; refine (tick_nil _ _).mono ?_; rintro e w' ⟨rfl, rfl⟩)
    | (go_at_call 10; refine (state_nil _).mono ?_; rintro e w' ⟨rfl, rfl⟩)
    | (go_at_call 11; refine (told_nil _).mono ?_; rintro e w' ⟨rfl, rfl⟩)
    | (go_at_call 6; refine (wakes_any _).mono ?_; rintro e w1 ⟨rfl, k1⟩))
  go_ret
  exact ⟨rfl, k1⟩
end Go.Proofs.Ytkhcaefbchcdoaa
