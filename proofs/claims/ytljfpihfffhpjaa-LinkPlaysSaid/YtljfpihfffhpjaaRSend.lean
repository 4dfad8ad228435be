/-
  The document's link (layer 23): Send. Conditions: the frames lie in their cells.
-/
import Derived.Test.YtljfpihfffhpjaaRLose
import Derived.Deep.RegionHeld3
import Derived.Deep.AppendLies
import Derived.Deep.DrawnRows
import Derived.StillTailTactics
namespace Go.Proofs.Ytljfpihfffhpjaa
open Go.RowKit Go.Conc
set_option linter.unusedVariables false
attribute [local go_sem ↓] Go.wp_at_zero Go.wp_at_succ

set_option maxHeartbeats 2000000 in
theorem rsend_out (e : Int) (he : e < 0 ∨ 1 < e) (s : ByteArray) (v : Value) (hv : ∃ u p0 n0 k0 p1 n1 k1 a0 a1 b0 b1, v = rlink u p0 n0 k0 p1 n1 k1 a0 a1 b0 b1) (w : World) :
    Calls Try.prog 21 #[v, .int .i64 e, .string s] w fun ee w' => ee = .returned (.tuple #[v, .int .i64 2]) ∧ Keeps Nil w w' := by
  obtain ⟨u, p0, n0, k0, p1, n1, k1, a0, a1, b0, b1, rfl⟩ := hv
  have hm : decide (e = 0 ∨ e = 1) = false := by simp; omega
  have HM : ∀ W, Hid (Calls Try.prog 35 #[.int .i64 e] W fun ee w' => ee = .returned (.bool false) ∧ W = w') := fun W => hid (by have := rmay_any e W; rwa [hm] at this)
  clear hm he
  go_enter Try.func21, Try.ntmps21
  go_wp2_with (go_at_call 35; refine (HM _).out.mono ?_; rintro ee w' ⟨rfl, rfl⟩)
  refine bodyPost_ret (v := .tuple #[rlink u p0 n0 k0 p1 n1 k1 a0 a1 b0 b1, .int .i64 2]) (by simp [results, Try.results21, go_sem]) rfl ?_
  exact ⟨rfl, ((Keeps.refl Nil w).alloc _).alloc _⟩

set_option maxHeartbeats 2000000 in
theorem rsend0_great (s : ByteArray) (hs : 1522 < s.size) (u : Bool) (p0 : Option Addr) (n0 k0 : Nat) (p1 : Option Addr) (n1 k1 : Nat) (a0 a1 b0 b1 : Int) (w : World) :
    Calls Try.prog 21 #[rlink u p0 n0 k0 p1 n1 k1 a0 a1 b0 b1, .int .i64 0, .string s] w fun ee w' => ee = .returned (.tuple #[rlink u p0 n0 k0 p1 n1 k1 a0 a1 b0 b1, .int .i64 2]) ∧ Keeps Nil w w' := by
  go_enter Try.func21, Try.ntmps21
  go_wp2_with (go_at_call 35; refine (rmay_any _ _).mono ?_; rintro ee w' ⟨rfl, rfl⟩)
  refine bodyPost_ret (v := .tuple #[rlink u p0 n0 k0 p1 n1 k1 a0 a1 b0 b1, .int .i64 2]) (by simp [results, Try.results21, go_sem]) rfl ?_
  exact ⟨rfl, ((Keeps.refl Nil w).alloc _).alloc _⟩

set_option maxHeartbeats 2000000 in
theorem rsend0_down (s : ByteArray) (hs : s.size ≤ 1522) (u : Bool) (p0 : Option Addr) (n0 k0 : Nat) (p1 : Option Addr) (n1 k1 : Nat) (a0 a1 b0 b1 : Int) (w : World) :
    Calls Try.prog 21 #[rlink false p0 n0 k0 p1 n1 k1 a0 a1 b0 b1, .int .i64 0, .string s] w fun ee w' => ee = .returned (.tuple #[rlink false p0 n0 k0 p1 n1 k1 a0 a1 b0 b1, .int .i64 9]) ∧ Keeps Nil w w' := by
  go_enter Try.func21, Try.ntmps21
  go_wp2_with (go_at_call 35; refine (rmay_any _ _).mono ?_; rintro ee w' ⟨rfl, rfl⟩)
  refine bodyPost_ret (v := .tuple #[rlink false p0 n0 k0 p1 n1 k1 a0 a1 b0 b1, .int .i64 9]) (by simp [results, Try.results21, go_sem]) rfl ?_
  exact ⟨rfl, ((Keeps.refl Nil w).alloc _).alloc _⟩

set_option maxHeartbeats 2000000 in
theorem rsend0_full (s : ByteArray) (hs : s.size ≤ 1522) (u : Bool) (p0 : Option Addr) (n0 k0 : Nat) (p1 : Option Addr) (n1 k1 : Nat) (a0 a1 b0 b1 : Int) (w : World) (hn : 64 ≤ n0) (ha : 0 ≤ a0) (ha' : a0 < 1000000) :
    Calls Try.prog 21 #[rlink true p0 n0 k0 p1 n1 k1 a0 a1 b0 b1, .int .i64 0, .string s] w fun ee w' => ee = .returned (.tuple #[rlink true p0 n0 k0 p1 n1 k1 (a0 + 1) a1 b0 b1, .int .i64 6]) ∧ Keeps Nil w w' := by
  have hw := wrap_less (a0 + 1) (by omega) (by omega)
  go_enter Try.func21, Try.ntmps21
  go_wp2_with (go_at_call 35; refine (rmay_any _ _).mono ?_; rintro ee w' ⟨rfl, rfl⟩)
  refine bodyPost_ret (v := .tuple #[rlink true p0 n0 k0 p1 n1 k1 (a0 + 1) a1 b0 b1, .int .i64 6]) (by simp [results, Try.results21, go_sem]) rfl ?_
  exact ⟨rfl, ((Keeps.refl Nil w).alloc _).alloc _⟩

set_option maxHeartbeats 2000000 in
theorem rsend1_great (s : ByteArray) (hs : 1522 < s.size) (u : Bool) (p0 : Option Addr) (n0 k0 : Nat) (p1 : Option Addr) (n1 k1 : Nat) (a0 a1 b0 b1 : Int) (w : World) :
    Calls Try.prog 21 #[rlink u p0 n0 k0 p1 n1 k1 a0 a1 b0 b1, .int .i64 1, .string s] w fun ee w' => ee = .returned (.tuple #[rlink u p0 n0 k0 p1 n1 k1 a0 a1 b0 b1, .int .i64 2]) ∧ Keeps Nil w w' := by
  go_enter Try.func21, Try.ntmps21
  go_wp2_with (go_at_call 35; refine (rmay_any _ _).mono ?_; rintro ee w' ⟨rfl, rfl⟩)
  refine bodyPost_ret (v := .tuple #[rlink u p0 n0 k0 p1 n1 k1 a0 a1 b0 b1, .int .i64 2]) (by simp [results, Try.results21, go_sem]) rfl ?_
  exact ⟨rfl, ((Keeps.refl Nil w).alloc _).alloc _⟩

set_option maxHeartbeats 2000000 in
theorem rsend1_down (s : ByteArray) (hs : s.size ≤ 1522) (u : Bool) (p0 : Option Addr) (n0 k0 : Nat) (p1 : Option Addr) (n1 k1 : Nat) (a0 a1 b0 b1 : Int) (w : World) :
    Calls Try.prog 21 #[rlink false p0 n0 k0 p1 n1 k1 a0 a1 b0 b1, .int .i64 1, .string s] w fun ee w' => ee = .returned (.tuple #[rlink false p0 n0 k0 p1 n1 k1 a0 a1 b0 b1, .int .i64 9]) ∧ Keeps Nil w w' := by
  go_enter Try.func21, Try.ntmps21
  go_wp2_with (go_at_call 35; refine (rmay_any _ _).mono ?_; rintro ee w' ⟨rfl, rfl⟩)
  refine bodyPost_ret (v := .tuple #[rlink false p0 n0 k0 p1 n1 k1 a0 a1 b0 b1, .int .i64 9]) (by simp [results, Try.results21, go_sem]) rfl ?_
  exact ⟨rfl, ((Keeps.refl Nil w).alloc _).alloc _⟩

set_option maxHeartbeats 2000000 in
theorem rsend1_full (s : ByteArray) (hs : s.size ≤ 1522) (u : Bool) (p0 : Option Addr) (n0 k0 : Nat) (p1 : Option Addr) (n1 k1 : Nat) (a0 a1 b0 b1 : Int) (w : World) (hn : 64 ≤ n1) (ha : 0 ≤ a1) (ha' : a1 < 1000000) :
    Calls Try.prog 21 #[rlink true p0 n0 k0 p1 n1 k1 a0 a1 b0 b1, .int .i64 1, .string s] w fun ee w' => ee = .returned (.tuple #[rlink true p0 n0 k0 p1 n1 k1 a0 (a1 + 1) b0 b1, .int .i64 6]) ∧ Keeps Nil w w' := by
  have hw := wrap_less (a1 + 1) (by omega) (by omega)
  go_enter Try.func21, Try.ntmps21
  go_wp2_with (go_at_call 35; refine (rmay_any _ _).mono ?_; rintro ee w' ⟨rfl, rfl⟩)
  refine bodyPost_ret (v := .tuple #[rlink true p0 n0 k0 p1 n1 k1 a0 (a1 + 1) b0 b1, .int .i64 6]) (by simp [results, Try.results21, go_sem]) rfl ?_
  exact ⟨rfl, ((Keeps.refl Nil w).alloc _).alloc _⟩
end Go.Proofs.Ytljfpihfffhpjaa
