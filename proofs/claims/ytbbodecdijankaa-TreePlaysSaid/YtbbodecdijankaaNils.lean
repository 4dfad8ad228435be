/-
  Layer 9: no machine hears, and ticks, nothing; a word as the program has it. No condition.
-/
import Derived.Test.YtbbodecdijankaaWord
namespace Go.Proofs.Ytbbodecdijankaa
open Go.RowKit
set_option linter.unusedVariables false
set_option linter.unusedSimpArgs false
set_option maxRecDepth 4000

/-- A word as a value. -/
abbrev bval (x : Bp) : Value := .agg #[.int .u64 x.r, .int .u32 x.c, .int .u64 x.b, .int .u8 x.p, .int .u8 x.hops, .int .u64 x.ver, .int .u8 x.role, .bool x.prop, .bool x.agree, .bool x.top, .int .u64 x.echo]
theorem tick_nil (w : World) : Calls Try.prog 14 #[.pointer Option.none] w fun e w' => e = .returned (.slice Option.none 0 0) ∧ w = w' := by
  go_enter Try.func14, Try.ntmps14
  go_wp2_with fail
  go_ret
  exact ⟨rfl, rfl⟩
set_option maxHeartbeats 1000000 in
theorem hear_nil (i : Int) (x : Bp) (w : World) : Calls Try.prog 18 #[.pointer Option.none, .int .u8 i, bval x] w fun e w' => e = .returned (.slice Option.none 0 0) ∧ Keeps Nil w w' := by
  go_enter Try.func18, Try.ntmps18
  go_wp2_with ((first | (go_at_call 40; refine (at_nil _ _).mono ?_; rintro e w' ⟨rfl, rfl⟩) | (go_at_call 36; refine (link_nil _).mono ?_; rintro e w' ⟨rfl, rfl⟩)))
  go_ret
  exact ⟨rfl, by repeat' (first | exact Keeps.refl _ _ | refine Keeps.alloc ?_ _)⟩
set_option maxHeartbeats 4000000 in
theorem of_word (x : Bp) (w : World) : Calls Try.prog 19 #[bval x] w fun e w' => e = .returned (bval x) ∧ Keeps Nil w w' := by
  obtain ⟨xr, xc, xb, xp, xh, xv, xo, xq, xa, xt, xe⟩ := x
  go_enter Try.func19, Try.ntmps19
  go_upto_region 2 with (fail)
  have h2 := two_allocs w (.cells #[.int .u64 xr, .int .u32 xc, .int .u64 xb, .int .u8 xp, .int .u8 xh, .int .u64 xv, .int .u8 xo, .bool xq, .bool xa, .bool xt, .int .u64 xe] 37 (0, 0)) (.cells #[.int .u64 0, .int .u32 0, .int .u64 0, .int .u8 0, .int .u8 0, .int .u64 0, .int .u8 0, .bool false, .bool false, .bool false, .int .u64 0] 54 (0, 0))
  have hs : ((w.alloc (.cells #[.int .u64 xr, .int .u32 xc, .int .u64 xb, .int .u8 xp, .int .u8 xh, .int .u64 xv, .int .u8 xo, .bool xq, .bool xa, .bool xt, .int .u64 xe] 37 (0, 0))).alloc (.cells #[.int .u64 0, .int .u32 0, .int .u64 0, .int .u8 0, .int .u8 0, .int .u64 0, .int .u8 0, .bool false, .bool false, .bool false, .int .u64 0] 54 (0, 0))).heap.size = w.heap.size + 2 := by simp
  have hB : (((w.alloc (.cells #[.int .u64 xr, .int .u32 xc, .int .u64 xb, .int .u8 xp, .int .u8 xh, .int .u64 xv, .int .u8 xo, .bool xq, .bool xa, .bool xt, .int .u64 xe] 37 (0, 0))).alloc (.cells #[.int .u64 0, .int .u32 0, .int .u64 0, .int .u8 0, .int .u8 0, .int .u64 0, .int .u8 0, .bool false, .bool false, .bool false, .int .u64 0] 54 (0, 0))).alloc (.cells #[.int .u64 xr, .int .u32 xc, .int .u64 xb, .int .u8 xp] 52 (0, 0))).heap[w.heap.size]? = some (.cells #[.int .u64 xr, .int .u32 xc, .int .u64 xb, .int .u8 xp, .int .u8 xh, .int .u64 xv, .int .u8 xo, .bool xq, .bool xa, .bool xt, .int .u64 xe] 37 (0, 0)) := (Below.heap_alloc _ _ _ (by rw [hs]; omega)).trans h2.1
  have hR : (((w.alloc (.cells #[.int .u64 xr, .int .u32 xc, .int .u64 xb, .int .u8 xp, .int .u8 xh, .int .u64 xv, .int .u8 xo, .bool xq, .bool xa, .bool xt, .int .u64 xe] 37 (0, 0))).alloc (.cells #[.int .u64 0, .int .u32 0, .int .u64 0, .int .u8 0, .int .u8 0, .int .u64 0, .int .u8 0, .bool false, .bool false, .bool false, .int .u64 0] 54 (0, 0))).alloc (.cells #[.int .u64 xr, .int .u32 xc, .int .u64 xb, .int .u8 xp] 52 (0, 0))).heap[w.heap.size + 1]? = some (.cells #[.int .u64 0, .int .u32 0, .int .u64 0, .int .u8 0, .int .u8 0, .int .u64 0, .int .u8 0, .bool false, .bool false, .bool false, .int .u64 0] 54 (0, 0)) := (Below.heap_alloc _ _ _ (by rw [hs]; omega)).trans h2.2
  have hV : (((w.alloc (.cells #[.int .u64 xr, .int .u32 xc, .int .u64 xb, .int .u8 xp, .int .u8 xh, .int .u64 xv, .int .u8 xo, .bool xq, .bool xa, .bool xt, .int .u64 xe] 37 (0, 0))).alloc (.cells #[.int .u64 0, .int .u32 0, .int .u64 0, .int .u8 0, .int .u8 0, .int .u64 0, .int .u8 0, .bool false, .bool false, .bool false, .int .u64 0] 54 (0, 0))).alloc (.cells #[.int .u64 xr, .int .u32 xc, .int .u64 xb, .int .u8 xp] 52 (0, 0))).heap[w.heap.size + 1 + 1]? = some (.cells #[.int .u64 xr, .int .u32 xc, .int .u64 xb, .int .u8 xp] 52 (0, 0)) := by have := alloc_block ((w.alloc (.cells #[.int .u64 xr, .int .u32 xc, .int .u64 xb, .int .u8 xp, .int .u8 xh, .int .u64 xv, .int .u8 xo, .bool xq, .bool xa, .bool xt, .int .u64 xe] 37 (0, 0))).alloc (.cells #[.int .u64 0, .int .u32 0, .int .u64 0, .int .u8 0, .int .u8 0, .int .u64 0, .int .u8 0, .bool false, .bool false, .bool false, .int .u64 0] 54 (0, 0))) (.cells #[.int .u64 xr, .int .u32 xc, .int .u64 xb, .int .u8 xp] 52 (0, 0)); rwa [hs] at this
  have kW : Keeps Nil w (((w.alloc (.cells #[.int .u64 xr, .int .u32 xc, .int .u64 xb, .int .u8 xp, .int .u8 xh, .int .u64 xv, .int .u8 xo, .bool xq, .bool xa, .bool xt, .int .u64 xe] 37 (0, 0))).alloc (.cells #[.int .u64 0, .int .u32 0, .int .u64 0, .int .u8 0, .int .u8 0, .int .u64 0, .int .u8 0, .bool false, .bool false, .bool false, .int .u64 0] 54 (0, 0))).alloc (.cells #[.int .u64 xr, .int .u32 xc, .int .u64 xb, .int .u8 xp] 52 (0, 0))) := (((Keeps.refl _ _).alloc _).alloc _).alloc _
  clear h2 hs
  generalize ((w.alloc (.cells #[.int .u64 xr, .int .u32 xc, .int .u64 xb, .int .u8 xp, .int .u8 xh, .int .u64 xv, .int .u8 xo, .bool xq, .bool xa, .bool xt, .int .u64 xe] 37 (0, 0))).alloc (.cells #[.int .u64 0, .int .u32 0, .int .u64 0, .int .u8 0, .int .u8 0, .int .u64 0, .int .u8 0, .bool false, .bool false, .bool false, .int .u64 0] 54 (0, 0))).alloc (.cells #[.int .u64 xr, .int .u32 xc, .int .u64 xb, .int .u8 xp] 52 (0, 0)) = wz at *
  obtain ⟨bB, e1⟩ : ∃ bB, w.heap.size = bB := ⟨_, rfl⟩
  obtain ⟨bR, e2⟩ : ∃ bR, w.heap.size + 1 = bR := ⟨_, rfl⟩
  rw [e1] at hB
  rw [e2] at hR hV ⊢
  obtain ⟨bV, e3⟩ : ∃ bV, bR + 1 = bV := ⟨_, rfl⟩
  rw [e3] at hV ⊢
  rw [e1]
  obtain ⟨d0, d1, d2, d3, d4, d5, d6, d7, d8, d9, d10⟩ := blk11 hB
  obtain ⟨v0, v1, v2, v3⟩ := four_block hV
  have HR := hid hR
  have KW := hid kW
  have HE := hid (show w.heap.size ≤ bR by omega)
  clear hB hV hR kW e1 e2 e3
  go_wp2_with ((refine wpList_store_mid rfl 54 _ _ rfl bR 0 #[.int .u64 xr, .int .u32 xc, .int .u64 xb, .int .u8 xp, .int .u8 xh, .int .u64 xv, .int .u8 xo, .bool xq, .bool xa, .bool xt, .int .u64 xe] rfl rfl ?_ (by kernel_rfl) (by simp [Value.oneCell']) ?_; exact there_block HR.out 11 rfl; have hs := setCells_all HR.out #[.int .u64 xr, .int .u32 xc, .int .u64 xb, .int .u8 xp, .int .u8 xh, .int .u64 xv, .int .u8 xo, .bool xq, .bool xa, .bool xt, .int .u64 xe] rfl; generalize wz.setCells bR 0 (#[.int .u64 xr, .int .u32 xc, .int .u64 xb, .int .u8 xp, .int .u8 xh, .int .u64 xv, .int .u8 xo, .bool xq, .bool xa, .bool xt, .int .u64 xe] : Array Value).toList = wq at hs ⊢))
  obtain ⟨hAF, kAF⟩ := hs
  refine bodyPost_ret (ret_cell1 rfl Try.underlying54 (n := 11) (by kernel_rfl) _ _ bR #[.int .u64 xr, .int .u32 xc, .int .u64 xb, .int .u8 xp, .int .u8 xh, .int .u64 xv, .int .u8 xo, .bool xq, .bool xa, .bool xt, .int .u64 xe] rfl hAF rfl) rfl ?_
  exact ⟨rfl, KW.out.thenAt kAF HE.out⟩
end Go.Proofs.Ytbbodecdijankaa
