/-
  Layer 9: the law of TreeNil. No condition.
-/
import Derived.Test.YtbbodecdijankaaWakes
import Derived.Deep.RegionHeld3
namespace Go.Proofs.Ytbbodecdijankaa
open Go.RowKit
set_option linter.unusedVariables false
set_option linter.unusedSimpArgs false
set_option maxRecDepth 8000

set_option maxHeartbeats 8000000 in
theorem tnil_any (a0 : Int) (x : Bp) (w : World) : Calls Try.prog 4 #[.int .u8 a0, bval x] w fun e w' => e = .returned (.bool true) ∧ Keeps Nil w w' := by
  have WA := fun W => wakes_any W
  obtain ⟨xr, xc, xb, xp, xh, xv, xo, xq, xa, xt, xe⟩ := x
  go_enter Try.func4, Try.ntmps4
  go_upto_region 3 with ((go_at_call 23; refine (root_nil _).mono ?_; rintro e w' ⟨rfl, rfl⟩))
  have hb := alloc_block w (.cells #[.int .u64 xr, .int .u32 xc, .int .u64 xb, .int .u8 xp, .int .u8 xh, .int .u64 xv, .int .u8 xo, .bool xq, .bool xa, .bool xt, .int .u64 xe] 37 (0, 0))
  have kx : Keeps Nil w (w.alloc (.cells #[.int .u64 xr, .int .u32 xc, .int .u64 xb, .int .u8 xp, .int .u8 xh, .int .u64 xv, .int .u8 xo, .bool xq, .bool xa, .bool xt, .int .u64 xe] 37 (0, 0))) := (Keeps.refl _ _).alloc _
  generalize w.alloc (.cells #[.int .u64 xr, .int .u32 xc, .int .u64 xb, .int .u8 xp, .int .u8 xh, .int .u64 xv, .int .u8 xo, .bool xq, .bool xa, .bool xt, .int .u64 xe] 37 (0, 0)) = wx at *
  generalize w.heap.size = bx at *
  have HS : ∀ W, Keeps Nil wx W → (W.cell? ⟨bx, 0, Option.none⟩ = some (.int .u64 xr) ∧ W.cell? ⟨bx, 1, Option.none⟩ = some (.int .u32 xc) ∧ W.cell? ⟨bx, 2, Option.none⟩ = some (.int .u64 xb) ∧ W.cell? ⟨bx, 3, Option.none⟩ = some (.int .u8 xp) ∧ W.cell? ⟨bx, 4, Option.none⟩ = some (.int .u8 xh) ∧ W.cell? ⟨bx, 5, Option.none⟩ = some (.int .u64 xv) ∧ W.cell? ⟨bx, 6, Option.none⟩ = some (.int .u8 xo) ∧ W.cell? ⟨bx, 7, Option.none⟩ = some (.bool xq) ∧ W.cell? ⟨bx, 8, Option.none⟩ = some (.bool xa) ∧ W.cell? ⟨bx, 9, Option.none⟩ = some (.bool xt) ∧ W.cell? ⟨bx, 10, Option.none⟩ = some (.int .u64 xe)) := fun W k => by
    have h := (k.block bx (lt_of_block hb) (fun e => e)).trans hb
    exact blk11 h
  have HSH := hid HS
  have KX := hid kx
  clear HS hb kx
  have k0 : Keeps Nil wx wx := Keeps.refl _ _
  go_region_held3 (fun W => W.cell? ⟨bx, 0, Option.none⟩ = some (.int .u64 xr) ∧ W.cell? ⟨bx, 1, Option.none⟩ = some (.int .u32 xc) ∧ W.cell? ⟨bx, 2, Option.none⟩ = some (.int .u64 xb) ∧ W.cell? ⟨bx, 3, Option.none⟩ = some (.int .u8 xp) ∧ W.cell? ⟨bx, 4, Option.none⟩ = some (.int .u8 xh) ∧ W.cell? ⟨bx, 5, Option.none⟩ = some (.int .u64 xv) ∧ W.cell? ⟨bx, 6, Option.none⟩ = some (.int .u8 xo) ∧ W.cell? ⟨bx, 7, Option.none⟩ = some (.bool xq) ∧ W.cell? ⟨bx, 8, Option.none⟩ = some (.bool xa) ∧ W.cell? ⟨bx, 9, Option.none⟩ = some (.bool xt) ∧ W.cell? ⟨bx, 10, Option.none⟩ = some (.int .u64 xe)) (first | with_reducible exact HSH.out _ k0 | with_reducible exact HSH.out _ k0.drew | with_reducible exact HSH.out _ k1 | with_reducible exact HSH.out _ k1.drew | with_reducible exact HSH.out _ k2 | with_reducible exact HSH.out _ k2.drew) ((first | (go_at_call 11; refine (up_nil _ _).mono ?_; rintro e w' ⟨rfl, rfl⟩) | (go_at_call 13; refine (down_nil _ _).mono ?_; rintro e w' ⟨rfl, rfl⟩) | (go_at_call 14; refine (tick_nil _).mono ?_; rintro e w' ⟨rfl, rfl⟩) | (go_at_call 19; refine (of_word ⟨xr, xc, xb, xp, xh, xv, xo, xq, xa, xt, xe⟩ _).mono ?_; rintro e w1 ⟨rfl, k1'⟩; have k1 : Keeps Nil wx w1 := (by first | exact k1' | exact k0.drew.trans k1'); clear k1') | (go_at_call 18; refine (hear_nil _ ⟨xr, xc, xb, xp, xh, xv, xo, xq, xa, xt, xe⟩ _).mono ?_; rintro e w2 ⟨rfl, k2'⟩; have k2 : Keeps Nil wx w2 := (by first | exact k1.trans k2' | exact k1.drew.trans k2'); clear k2')))
  simp only [show IntKind.i64.wrap 0 = 0 from by decide]
  have K2 := hid (KX.out.trans k2)
  clear k0 k1 k2
  go_wp2_with ((first | (go_at_call 24; refine (role_nil _ _).mono ?_; rintro e w' ⟨rfl, rfl⟩) | (go_at_call 25; refine (forwards_nil _ _).mono ?_; rintro e w' ⟨rfl, rfl⟩) | (go_at_call 16; refine (flush_nil _).mono ?_; rintro e w' ⟨rfl, rfl⟩)))
  refine (WA _).mono ?_; rintro e w9 ⟨rfl, k9⟩
  go_wp2_with fail
  go_ret
  exact ⟨rfl, K2.out.trans k9⟩
end Go.Proofs.Ytbbodecdijankaa
