/-
  The document's link (layer 23): may; Come. Condition: the first frame lies in its cell.
-/
import Derived.Test.YtljfpihfffhpjaaLOuts
namespace Go.Proofs.Ytljfpihfffhpjaa
open Go.RowKit Go.Conc
set_option linter.unusedVariables false

set_option maxHeartbeats 400000 in
theorem rmay_any (e : Int) (w : World) : Calls Try.prog 35 #[.int .i64 e] w fun ee w' => ee = .returned (.bool (decide (e = 0 ∨ e = 1))) ∧ w = w' := by
  by_cases h0 : e = 0
  · subst h0
    go_enter Try.func35, Try.ntmps35
    go_wp2
    go_ret
    exact ⟨by simp, rfl⟩
  · by_cases h1 : e = 1
    · subst h1
      go_enter Try.func35, Try.ntmps35
      go_wp2
      go_ret
      exact ⟨by simp, rfl⟩
    · have hb0 : (e == 0) = false := by simp [h0]
      have hb1 : (e == 1) = false := by simp [h1]
      go_enter Try.func35, Try.ntmps35
      go_wp2
      go_ret
      exact ⟨by simp [h0, h1], rfl⟩
/-- The document's link as a value. -/
abbrev rlink (u : Bool) (p0 : Option Addr) (n0 k0 : Nat) (p1 : Option Addr) (n1 k1 : Nat) (a0 a1 b0 b1 : Int) : Value :=
  .agg #[.bool u, .slice p0 n0 k0, .slice p1 n1 k1, .int .i64 a0, .int .i64 a1, .int .i64 b0, .int .i64 b1]

set_option maxHeartbeats 1000000 in
theorem rcome0_none (u : Bool) (p0 : Option Addr) (n0 k0 : Nat) (p1 : Option Addr) (n1 k1 : Nat) (a0 a1 b0 b1 : Int) (w : World) : Calls Try.prog 18 #[rlink u p0 0 k0 p1 n1 k1 a0 a1 b0 b1, .int .i64 0] w fun ee w' => ee = .returned (.tuple #[rlink u p0 0 k0 p1 n1 k1 a0 a1 b0 b1, .string ⟨#[]⟩, .int .i64 7]) ∧ Keeps Nil w w' := by
  go_enter Try.func18, Try.ntmps18
  go_wp2_with (go_at_call 35; refine (rmay_any _ _).mono ?_; rintro ee w' ⟨rfl, rfl⟩)
  refine bodyPost_ret (v := .tuple #[rlink u p0 0 k0 p1 n1 k1 a0 a1 b0 b1, .string ⟨#[]⟩, .int .i64 7]) (by simp [results, Try.results18, go_sem, *]) rfl ?_
  exact ⟨rfl, by repeat' (first | exact Keeps.refl _ _ | refine Keeps.drew ?_ | refine Keeps.alloc ?_ _ | refine Keeps.setCell ?_ (fun h => absurd h (by simp)) _)⟩

set_option maxHeartbeats 1000000 in
theorem rcome1_none (u : Bool) (p0 : Option Addr) (n0 k0 : Nat) (p1 : Option Addr) (n1 k1 : Nat) (a0 a1 b0 b1 : Int) (w : World) : Calls Try.prog 18 #[rlink u p0 n0 k0 p1 0 k1 a0 a1 b0 b1, .int .i64 1] w fun ee w' => ee = .returned (.tuple #[rlink u p0 n0 k0 p1 0 k1 a0 a1 b0 b1, .string ⟨#[]⟩, .int .i64 7]) ∧ Keeps Nil w w' := by
  go_enter Try.func18, Try.ntmps18
  go_wp2_with (go_at_call 35; refine (rmay_any _ _).mono ?_; rintro ee w' ⟨rfl, rfl⟩)
  refine bodyPost_ret (v := .tuple #[rlink u p0 n0 k0 p1 0 k1 a0 a1 b0 b1, .string ⟨#[]⟩, .int .i64 7]) (by simp [results, Try.results18, go_sem, *]) rfl ?_
  exact ⟨rfl, by repeat' (first | exact Keeps.refl _ _ | refine Keeps.drew ?_ | refine Keeps.alloc ?_ _ | refine Keeps.setCell ?_ (fun h => absurd h (by simp)) _)⟩
end Go.Proofs.Ytljfpihfffhpjaa
