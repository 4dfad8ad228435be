/-
  The document's link (layer 23): Down. Conditions: the numbers are little.
-/
import Derived.Test.YtljfpihfffhpjaaRLose
namespace Go.Proofs.Ytljfpihfffhpjaa
open Go.RowKit Go.Conc
set_option linter.unusedVariables false

set_option maxHeartbeats 4000000 in
theorem rdown_any (u : Bool) (p0 : Option Addr) (n0 k0 : Nat) (p1 : Option Addr) (n1 k1 : Nat) (a0 a1 b0 b1 : Int) (w : World) (h0 : n0 ≤ 64) (h1 : n1 ≤ 64) (hl0 : 0 ≤ b0) (hl0' : b0 < 1000000) (hl1 : 0 ≤ b1) (hl1' : b1 < 1000000) :
    Calls Try.prog 20 #[rlink u p0 n0 k0 p1 n1 k1 a0 a1 b0 b1] w fun ee w' => ee = .returned (.tuple #[rlink false Option.none 0 0 Option.none 0 0 a0 a1 (b0 + n0) (b1 + n1), .int .i64 (n0 + n1 : Nat)]) ∧ Keeps Nil w w' := by
  have v0 := wrap_less (b0 + n0) (by omega) (by omega)
  have v1 := wrap_less (b1 + n1) (by omega) (by omega)
  have v2 := wrap_less ((n0 : Int) + n1) (by omega) (by omega)
  have v3 := wrap_less (n0 : Int) (by omega) (by omega)
  go_enter Try.func20, Try.ntmps20
  go_wp2_with fail
  refine wp_loop_rounds 3 ?_
  rw [rounds_succ]
  go_wp2_with fail
  go_region
  go_wp2_with fail
  rw [rounds_succ]
  go_wp2_with fail
  go_region
  go_wp2_with fail
  rw [rounds_succ]
  go_wp2_with fail
  refine bodyPost_ret (v := .tuple #[rlink false Option.none 0 0 Option.none 0 0 a0 a1 (b0 + n0) (b1 + n1), .int .i64 (n0 + n1 : Nat)]) (by simp [results, Try.results20, go_sem]) rfl ?_
  exact ⟨rfl, (((Keeps.refl Nil w).alloc _).alloc _).drew.drew⟩
end Go.Proofs.Ytljfpihfffhpjaa
