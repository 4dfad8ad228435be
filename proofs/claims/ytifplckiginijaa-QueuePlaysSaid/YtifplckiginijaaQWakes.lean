/-
  A queue that is known (wakes); no queue (QueueNil). No condition.
-/
import Derived.Test.YtifplckiginijaaQAll
namespace Go.Proofs.Ytifplckiginijaa
open Go.RowKit Go.Conc
set_option linter.unusedVariables false

set_option maxHeartbeats 1000000 in
theorem wakes_any (w : World) : Calls Try.prog 7 #[] w fun e w' => e = .returned (.bool true) ∧ Keeps Nil w w' := by
  go_enter Try.func7, Try.ntmps7
  go_wp2_with fail
  refine (Qs.new_ok 2 _ (by omega) (by omega)).mono ?_; rintro e w1 ⟨q, c, rfl, i1, hq, hc, k1⟩
  go_wp2_with fail
  refine (Qs.push_room q c 2 [] _ _ i1 (by simp)).mono ?_; rintro e w2 ⟨rfl, i2, k2⟩
  go_wp2_with fail
  refine (Qs.push_room q c 2 _ _ _ i2 (by simp)).mono ?_; rintro e w3 ⟨rfl, i3, k3⟩
  go_wp2_with fail
  refine (Qs.push_full q c 2 _ _ _ i3 (by simp)).mono ?_; rintro e w' ⟨rfl, rfl⟩
  go_wp2_with fail
  refine (Qs.pop_some q c 2 _ _ _ i3).mono ?_; rintro e w4 ⟨rfl, i4, k4⟩
  go_wp2_with fail
  refine (Qs.push_room q c 2 _ _ _ i4 (by simp)).mono ?_; rintro e w5 ⟨rfl, i5, k5⟩
  go_wp2_with fail
  refine (Qs.all_any q c 2 _ _ i5 (by simp) (by simp) (by simp)).mono ?_; rintro e w6 ⟨v, rfl, own, i6, k6⟩
  have hr := ownsRow_read own
  simp at hr
  obtain ⟨g, cap, rfl, hg, hglt, hcap, hcell⟩ := hr
  have c0 := hcell 0 _ rfl
  have c1 := hcell 1 _ rfl
  have HK := hid hcell
  clear hcell
  go_wp2_with fail
  refine (Qs.len_any q c 2 _ _ i6).mono ?_; rintro e w' ⟨rfl, rfl⟩
  go_wp2_with fail
  refine (Qs.room_any q c 2 _ _ i6 (by simp) (by simp)).mono ?_; rintro e w7 ⟨rfl, k7⟩
  go_wp2_with fail
  go_ret
  exact ⟨rfl, (((((((k1.thenAt k2 hc).thenAt k3 hc).thenAt k4 hc).thenAt k5 hc).thenAt k6 hc)).thenNil k7)⟩

set_option maxHeartbeats 400000 in
theorem nil_pop (w : World) : Calls Try.prog 15 #[.pointer Option.none] w fun e w' => e = .returned (.tuple #[.int .i64 0, .int .i64 1]) ∧ w = w' := by
  go_enter Try.func15, Try.ntmps15
  go_wp2
  go_ret2
  exact ⟨rfl, rfl⟩
set_option maxHeartbeats 400000 in
theorem nil_push (n : Int) (w : World) : Calls Try.prog 19 #[.pointer Option.none, .int .i64 n] w fun e w' => e = .returned (.int .i64 1) ∧ w = w' := by
  go_enter Try.func19, Try.ntmps19
  go_wp2
  go_ret
  exact ⟨rfl, rfl⟩
set_option maxHeartbeats 400000 in
theorem nil_len (w : World) : Calls Try.prog 22 #[.pointer Option.none] w fun e w' => e = .returned (.int .i64 0) ∧ w = w' := by
  go_enter Try.func22, Try.ntmps22
  go_wp2
  go_ret
  exact ⟨rfl, rfl⟩
set_option maxHeartbeats 400000 in
theorem nil_room (w : World) : Calls Try.prog 23 #[.pointer Option.none] w fun e w' => e = .returned (.int .i64 0) ∧ w = w' := by
  go_enter Try.func23, Try.ntmps23
  go_wp2
  go_ret
  exact ⟨rfl, rfl⟩
set_option maxHeartbeats 400000 in
theorem nil_all (w : World) : Calls Try.prog 21 #[.pointer Option.none] w fun e w' => e = .returned (.slice Option.none 0 0) ∧ w = w' := by
  go_enter Try.func21, Try.ntmps21
  go_wp2_with (go_at_call 22; refine (nil_len _).mono ?_; rintro e w' ⟨rfl, rfl⟩)
  refine wp_loop_rounds 1 ?_
  rw [rounds_succ]
  go_wp2
  go_ret
  exact ⟨rfl, rfl⟩
set_option maxHeartbeats 400000 in
theorem nil_clear (w : World) : Calls Try.prog 17 #[.pointer Option.none] w fun e w' => e = .returned (.int .i64 0) ∧ w = w' := by
  go_enter Try.func17, Try.ntmps17
  go_wp2
  refine wp_loop_rounds 1 ?_
  rw [rounds_succ]
  go_wp2_with (go_at_call 15; refine (nil_pop _).mono ?_; rintro e w' ⟨rfl, rfl⟩)
  go_ret
  exact ⟨rfl, rfl⟩

set_option maxHeartbeats 1000000 in
theorem queueNil_any (n : Int) (w : World) : Calls Try.prog 5 #[.int .i64 n] w fun e w' => e = .returned (.bool true) ∧ Keeps Nil w w' := by
  go_enter Try.func5, Try.ntmps5
  go_wp2_with (first
    | (go_at_call 15; refine (nil_pop _).mono ?_; rintro e w' ⟨rfl, rfl⟩)
    | (go_at_call 19; refine (nil_push _ _).mono ?_; rintro e w' ⟨rfl, rfl⟩)
    | (go_at_call 21; refine (nil_all _).mono ?_; rintro e w' ⟨rfl, rfl⟩)
    | (go_at_call 17; refine (nil_clear _).mono ?_; rintro e w' ⟨rfl, rfl⟩)
    | (go_at_call 22; refine (nil_len _).mono ?_; rintro e w' ⟨rfl, rfl⟩)
    | (go_at_call 23; refine (nil_room _).mono ?_; rintro e w' ⟨rfl, rfl⟩)
    | (go_at_call 7; refine (wakes_any _).mono ?_; rintro e w1 ⟨rfl, k1⟩))
  go_ret
  exact ⟨rfl, k1⟩
end Go.Proofs.Ytifplckiginijaa
