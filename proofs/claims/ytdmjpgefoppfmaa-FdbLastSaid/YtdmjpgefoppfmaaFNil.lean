/-
  Layer 8: no database; the statement FdbNil, walked. No condition.
-/
import Derived.Test.YtdmjpgefoppfmaaFWakes
namespace Go.Proofs.Ytdmjpgefoppfmaa
open Go.RowKit
set_option linter.unusedVariables false

theorem nils {w w' : World} (h : Keeps Nil w w') : Below w.heap.size w w' := h.below (fun _ _ h => h)

set_option maxHeartbeats 1000000 in
theorem nil_learn (q : Pl) (x : Int) (w : World) : Calls Try.prog 16 #[.pointer Option.none, .int .u16 q.v, q.mac, .int .u8 x] w fun e w' => e = .returned (.tuple #[]) ∧ Keeps Nil w w' := by
  go_enter Try.func16, Try.ntmps16
  go_wp2
  go_returns
  exact ⟨rfl, by repeat' (first | exact Keeps.refl _ _ | refine Keeps.alloc ?_ _)⟩

set_option maxHeartbeats 1000000 in
theorem nil_tick (q : Pl) (x : Int) (w : World) : Calls Try.prog 8 #[.pointer Option.none] w fun e w' => e = .returned (.tuple #[]) ∧ Keeps Nil w w' := by
  go_enter Try.func8, Try.ntmps8
  go_wp2
  go_returns
  exact ⟨rfl, by repeat' (first | exact Keeps.refl _ _ | refine Keeps.alloc ?_ _)⟩

set_option maxHeartbeats 1000000 in
theorem nil_look (q : Pl) (x : Int) (w : World) : Calls Try.prog 18 #[.pointer Option.none, .int .u16 q.v, q.mac] w fun e w' => e = .returned (.tuple #[.int .u8 0, .bool false]) ∧ Keeps Nil w w' := by
  go_enter Try.func18, Try.ntmps18
  go_wp2
  go_ret2
  exact ⟨rfl, by repeat' (first | exact Keeps.refl _ _ | refine Keeps.alloc ?_ _)⟩

set_option maxHeartbeats 1000000 in
theorem nil_flush (q : Pl) (x : Int) (w : World) : Calls Try.prog 10 #[.pointer Option.none, .int .u8 x] w fun e w' => e = .returned (.int .i64 0) ∧ Keeps Nil w w' := by
  go_enter Try.func10, Try.ntmps10
  go_wp2
  go_ret
  exact ⟨rfl, by repeat' (first | exact Keeps.refl _ _ | refine Keeps.alloc ?_ _)⟩

set_option maxHeartbeats 1000000 in
theorem nil_set (q : Pl) (x : Int) (w : World) : Calls Try.prog 12 #[.pointer Option.none, .int .u16 q.v, q.mac, .int .u8 x] w fun e w' => e = .returned (.int .i64 1) ∧ Keeps Nil w w' := by
  go_enter Try.func12, Try.ntmps12
  go_wp2
  go_ret
  exact ⟨rfl, by repeat' (first | exact Keeps.refl _ _ | refine Keeps.alloc ?_ _)⟩

set_option maxHeartbeats 1000000 in
theorem nil_unset (q : Pl) (x : Int) (w : World) : Calls Try.prog 14 #[.pointer Option.none, .int .u16 q.v, q.mac] w fun e w' => e = .returned (.int .i64 1) ∧ Keeps Nil w w' := by
  go_enter Try.func14, Try.ntmps14
  go_wp2
  go_ret
  exact ⟨rfl, by repeat' (first | exact Keeps.refl _ _ | refine Keeps.alloc ?_ _)⟩

set_option maxHeartbeats 1000000 in
theorem nil_list (q : Pl) (x : Int) (w : World) : Calls Try.prog 21 #[.pointer Option.none] w fun e w' => e = .returned (.slice Option.none 0 0) ∧ Keeps Nil w w' := by
  go_enter Try.func21, Try.ntmps21
  go_wp2
  go_ret
  exact ⟨rfl, by repeat' (first | exact Keeps.refl _ _ | refine Keeps.alloc ?_ _)⟩

set_option maxHeartbeats 1000000 in
theorem nil_statics (q : Pl) (x : Int) (w : World) : Calls Try.prog 22 #[.pointer Option.none] w fun e w' => e = .returned (.int .i64 0) ∧ Keeps Nil w w' := by
  go_enter Try.func22, Try.ntmps22
  go_wp2
  go_ret
  exact ⟨rfl, by repeat' (first | exact Keeps.refl _ _ | refine Keeps.alloc ?_ _)⟩

set_option maxHeartbeats 4000000 in
theorem nil_any (q : Pl) (x : Int) (w : World) : Calls Try.prog 4 #[.int .u16 q.v, q.mac, .int .u8 x] w fun e w' => e = .returned (.bool true) ∧ Keeps Nil w w' := by
  go_enter Try.func4, Try.ntmps4
  go_upto_region 2 with (fail)
  have ka : Keeps Nil w (w.alloc (.cells #[Value.int IntKind.u8 q.a, Value.int IntKind.u8 q.b, Value.int IntKind.u8 q.c, Value.int IntKind.u8 q.d, Value.int IntKind.u8 q.e, Value.int IntKind.u8 q.f] 25 (0, 0))) := (Keeps.refl _ _).alloc _
  have ha := alloc_block w (.cells #[Value.int IntKind.u8 q.a, Value.int IntKind.u8 q.b, Value.int IntKind.u8 q.c, Value.int IntKind.u8 q.d, Value.int IntKind.u8 q.e, Value.int IntKind.u8 q.f] 25 (0, 0))
  generalize (w.alloc _) = w1 at *
  generalize w.heap.size = ab at *
  have K1 := hid ka
  obtain ⟨x0, x1, x2, x3, x4, x5⟩ := six_of ha
  have A1 := hid ha
  clear ka ha
  go_wp2_with fail
  refine (nil_learn q x w1).mono ?_; rintro ee w2 ⟨rfl, k2⟩
  have ha := (k2.block _ (lt_of_block A1.out) (fun e => e)).trans A1.out
  have K2 := hid (K1.out.trans k2)
  clear x0 x1 x2 x3 x4 x5
  obtain ⟨x0, x1, x2, x3, x4, x5⟩ := six_of ha
  have A2 := hid ha
  clear ha k2
  go_wp2_with fail
  refine (nil_tick q x w2).mono ?_; rintro ee w3 ⟨rfl, k3⟩
  have ha := (k3.block _ (lt_of_block A2.out) (fun e => e)).trans A2.out
  have K3 := hid (K2.out.trans k3)
  clear x0 x1 x2 x3 x4 x5
  obtain ⟨x0, x1, x2, x3, x4, x5⟩ := six_of ha
  have A3 := hid ha
  clear ha k3
  go_wp2_with fail
  refine (nil_look q x w3).mono ?_; rintro ee w4 ⟨rfl, k4⟩
  have ha := (k4.block _ (lt_of_block A3.out) (fun e => e)).trans A3.out
  have K4 := hid (K3.out.trans k4)
  clear x0 x1 x2 x3 x4 x5
  obtain ⟨x0, x1, x2, x3, x4, x5⟩ := six_of ha
  have A4 := hid ha
  clear ha k4
  go_wp2_with fail
  refine (nil_flush q x w4).mono ?_; rintro ee w5 ⟨rfl, k5⟩
  have ha := (k5.block _ (lt_of_block A4.out) (fun e => e)).trans A4.out
  have K5 := hid (K4.out.trans k5)
  clear x0 x1 x2 x3 x4 x5
  obtain ⟨x0, x1, x2, x3, x4, x5⟩ := six_of ha
  have A5 := hid ha
  clear ha k5
  go_wp2_with fail
  refine (nil_set q x w5).mono ?_; rintro ee w6 ⟨rfl, k6⟩
  have ha := (k6.block _ (lt_of_block A5.out) (fun e => e)).trans A5.out
  have K6 := hid (K5.out.trans k6)
  clear x0 x1 x2 x3 x4 x5
  obtain ⟨x0, x1, x2, x3, x4, x5⟩ := six_of ha
  have A6 := hid ha
  clear ha k6
  go_wp2_with fail
  refine (nil_unset q x w6).mono ?_; rintro ee w7 ⟨rfl, k7⟩
  have ha := (k7.block _ (lt_of_block A6.out) (fun e => e)).trans A6.out
  have K7 := hid (K6.out.trans k7)
  clear x0 x1 x2 x3 x4 x5
  obtain ⟨x0, x1, x2, x3, x4, x5⟩ := six_of ha
  have A7 := hid ha
  clear ha k7
  go_wp2_with fail
  refine (nil_list q x w7).mono ?_; rintro ee w8 ⟨rfl, k8⟩
  have ha := (k8.block _ (lt_of_block A7.out) (fun e => e)).trans A7.out
  have K8 := hid (K7.out.trans k8)
  clear x0 x1 x2 x3 x4 x5
  obtain ⟨x0, x1, x2, x3, x4, x5⟩ := six_of ha
  have A8 := hid ha
  clear ha k8
  go_wp2_with fail
  refine (nil_statics q x w8).mono ?_; rintro ee w9 ⟨rfl, k9⟩
  have ha := (k9.block _ (lt_of_block A8.out) (fun e => e)).trans A8.out
  have K9 := hid (K8.out.trans k9)
  clear x0 x1 x2 x3 x4 x5
  obtain ⟨x0, x1, x2, x3, x4, x5⟩ := six_of ha
  have A9 := hid ha
  clear ha k9
  go_wp2_with fail
  refine (wakes_any w9).mono ?_; rintro ee w10 ⟨rfl, k10⟩
  go_wp2_with fail
  go_ret
  exact ⟨rfl, K9.out.trans k10⟩
end Go.Proofs.Ytdmjpgefoppfmaa
