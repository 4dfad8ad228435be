/-
  The contracts of link.Link at an end that there is not. No condition.
-/
import Derived.Test.YtljfpihfffhpjaaLink3
namespace Go.Proofs.Ytljfpihfffhpjaa
open Go.RowKit Go.Conc
set_option linter.unusedVariables false

set_option maxHeartbeats 1000000 in
theorem len_out (x : Nat) (e : Int) (he : e < 0 ∨ 1 < e) (w : World) :
    Calls Try.prog 8 #[.pointer (some ⟨x, 0, Option.none⟩), .int .i64 e] w fun ee w' => ee = .returned (.int .i64 0) ∧ Keeps Nil w w' := by
  rcases he with he | he
  · go_enter Try.func8, Try.ntmps8
    go_wp2_with (go_in)
    refine bodyPost_ret (v := .int .i64 0) (by simp [results, Try.results8, go_sem, *]) rfl ?_
    exact ⟨rfl, by repeat' (first | exact Keeps.refl _ _ | refine Keeps.drew ?_ | refine Keeps.alloc ?_ _ | refine Keeps.setCell ?_ (fun h => absurd h (by simp)) _)⟩
  · have h0 : ¬ e < 0 := by omega
    have h2 : 2 ≤ e := by omega
    have hb : decide (2 ≤ e) = true := by simp; omega
    go_enter Try.func8, Try.ntmps8
    go_wp2_with (go_in)
    refine bodyPost_ret (v := .int .i64 0) (by simp [results, Try.results8, go_sem, *]) rfl ?_
    exact ⟨rfl, by repeat' (first | exact Keeps.refl _ _ | refine Keeps.drew ?_ | refine Keeps.alloc ?_ _ | refine Keeps.setCell ?_ (fun h => absurd h (by simp)) _)⟩

set_option maxHeartbeats 1000000 in
theorem come_out (x : Nat) (e : Int) (he : e < 0 ∨ 1 < e) (w : World) :
    Calls Try.prog 9 #[.pointer (some ⟨x, 0, Option.none⟩), .int .i64 e] w fun ee w' => ee = .returned (.tuple #[.string ⟨#[]⟩, .int .i64 2]) ∧ Keeps Nil w w' := by
  rcases he with he | he
  · go_enter Try.func9, Try.ntmps9
    go_wp2_with (go_in)
    refine bodyPost_ret (v := .tuple #[.string ⟨#[]⟩, .int .i64 2]) (by simp [results, Try.results9, go_sem, *]) rfl ?_
    exact ⟨rfl, by repeat' (first | exact Keeps.refl _ _ | refine Keeps.drew ?_ | refine Keeps.alloc ?_ _ | refine Keeps.setCell ?_ (fun h => absurd h (by simp)) _)⟩
  · have h0 : ¬ e < 0 := by omega
    have h2 : 2 ≤ e := by omega
    have hb : decide (2 ≤ e) = true := by simp; omega
    go_enter Try.func9, Try.ntmps9
    go_wp2_with (go_in)
    refine bodyPost_ret (v := .tuple #[.string ⟨#[]⟩, .int .i64 2]) (by simp [results, Try.results9, go_sem, *]) rfl ?_
    exact ⟨rfl, by repeat' (first | exact Keeps.refl _ _ | refine Keeps.drew ?_ | refine Keeps.alloc ?_ _ | refine Keeps.setCell ?_ (fun h => absurd h (by simp)) _)⟩

set_option maxHeartbeats 1000000 in
theorem lose_out (x : Nat) (e : Int) (he : e < 0 ∨ 1 < e) (w : World) :
    Calls Try.prog 10 #[.pointer (some ⟨x, 0, Option.none⟩), .int .i64 e] w fun ee w' => ee = .returned (.int .i64 2) ∧ Keeps Nil w w' := by
  rcases he with he | he
  · go_enter Try.func10, Try.ntmps10
    go_wp2_with (go_in)
    go_ret
    exact ⟨rfl, by repeat' (first | exact Keeps.refl _ _ | refine Keeps.drew ?_ | refine Keeps.alloc ?_ _ | refine Keeps.setCell ?_ (fun h => absurd h (by simp)) _)⟩
  · have h0 : ¬ e < 0 := by omega
    have h2 : 2 ≤ e := by omega
    have hb : decide (2 ≤ e) = true := by simp; omega
    go_enter Try.func10, Try.ntmps10
    go_wp2_with (go_in)
    go_ret
    exact ⟨rfl, by repeat' (first | exact Keeps.refl _ _ | refine Keeps.drew ?_ | refine Keeps.alloc ?_ _ | refine Keeps.setCell ?_ (fun h => absurd h (by simp)) _)⟩

set_option maxHeartbeats 1000000 in
theorem send_out (x : Nat) (e : Int) (he : e < 0 ∨ 1 < e) (w : World) (s : ByteArray) :
    Calls Try.prog 13 #[.pointer (some ⟨x, 0, Option.none⟩), .int .i64 e, .string s] w fun ee w' => ee = .returned (.int .i64 2) ∧ Keeps Nil w w' := by
  rcases he with he | he
  · go_enter Try.func13, Try.ntmps13
    go_wp2_with (go_in)
    go_ret
    exact ⟨rfl, by repeat' (first | exact Keeps.refl _ _ | refine Keeps.drew ?_ | refine Keeps.alloc ?_ _ | refine Keeps.setCell ?_ (fun h => absurd h (by simp)) _)⟩
  · have h0 : ¬ e < 0 := by omega
    have h2 : 2 ≤ e := by omega
    have hb : decide (2 ≤ e) = true := by simp; omega
    go_enter Try.func13, Try.ntmps13
    go_wp2_with (go_in)
    go_ret
    exact ⟨rfl, by repeat' (first | exact Keeps.refl _ _ | refine Keeps.drew ?_ | refine Keeps.alloc ?_ _ | refine Keeps.setCell ?_ (fun h => absurd h (by simp)) _)⟩

set_option maxHeartbeats 1000000 in
theorem lost_out (x : Nat) (e : Int) (he : e < 0 ∨ 1 < e) (w : World) :
    Calls Try.prog 16 #[.pointer (some ⟨x, 0, Option.none⟩), .int .i64 e] w fun ee w' => ee = .returned (.int .u64 0) ∧ Keeps Nil w w' := by
  rcases he with he | he
  · go_enter Try.func16, Try.ntmps16
    go_wp2_with (go_in)
    go_ret
    exact ⟨rfl, by repeat' (first | exact Keeps.refl _ _ | refine Keeps.drew ?_ | refine Keeps.alloc ?_ _ | refine Keeps.setCell ?_ (fun h => absurd h (by simp)) _)⟩
  · have h0 : ¬ e < 0 := by omega
    have h2 : 2 ≤ e := by omega
    have hb : decide (2 ≤ e) = true := by simp; omega
    go_enter Try.func16, Try.ntmps16
    go_wp2_with (go_in)
    go_ret
    exact ⟨rfl, by repeat' (first | exact Keeps.refl _ _ | refine Keeps.drew ?_ | refine Keeps.alloc ?_ _ | refine Keeps.setCell ?_ (fun h => absurd h (by simp)) _)⟩

set_option maxHeartbeats 1000000 in
theorem dropped_out (x : Nat) (e : Int) (he : e < 0 ∨ 1 < e) (w : World) :
    Calls Try.prog 22 #[.pointer (some ⟨x, 0, Option.none⟩), .int .i64 e] w fun ee w' => ee = .returned (.int .u64 0) ∧ Keeps Nil w w' := by
  rcases he with he | he
  · go_enter Try.func22, Try.ntmps22
    go_wp2_with (go_in)
    go_ret
    exact ⟨rfl, by repeat' (first | exact Keeps.refl _ _ | refine Keeps.drew ?_ | refine Keeps.alloc ?_ _ | refine Keeps.setCell ?_ (fun h => absurd h (by simp)) _)⟩
  · have h0 : ¬ e < 0 := by omega
    have h2 : 2 ≤ e := by omega
    have hb : decide (2 ≤ e) = true := by simp; omega
    go_enter Try.func22, Try.ntmps22
    go_wp2_with (go_in)
    go_ret
    exact ⟨rfl, by repeat' (first | exact Keeps.refl _ _ | refine Keeps.drew ?_ | refine Keeps.alloc ?_ _ | refine Keeps.setCell ?_ (fun h => absurd h (by simp)) _)⟩

end Go.Proofs.Ytljfpihfffhpjaa