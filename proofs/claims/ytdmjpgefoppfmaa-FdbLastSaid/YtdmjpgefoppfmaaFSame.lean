/-
  Layer 8: has a database what the document says (same). Conditions: both lie so.
-/
import Derived.Test.YtdmjpgefoppfmaaFRState
namespace Go.Proofs.Ytdmjpgefoppfmaa
open Go.RowKit
set_option linter.unusedVariables false

set_option maxRecDepth 4000 in
set_option maxHeartbeats 16000000 in
theorem same_any {w : World} {B B2 t mb n c nL cL nS cS k : Nat} {p pL pS : Option Addr} {τ : Tb} (h : TbIs w B t mb p n c τ) (hR : RO w B2 pL nL cL pS nS cS τ) (g : τ.Good k) :
    Calls Try.prog 20 #[.pointer (some ⟨t, 0, Option.none⟩), rtab pL nL cL pS nS cS] w fun e w' => e = .returned (.bool true) ∧ Keeps Nil w w' := by
  have hn := h.n_le g
  have hln := h.2.1.1
  obtain rfl : nL = n := by have := hR.1.len; omega
  have hls := AccS.len hR.2
  have kz : Keeps Nil w (w.alloc (.cells #[.slice pL nL cL, .slice pS nS cS] 32 (0, 0))) := (Keeps.refl _ _).alloc _
  have hbx := alloc_block w (.cells #[.slice pL nL cL, .slice pS nS cS] 32 (0, 0))
  have HBX := hid hbx
  have KZ := hid kz
  have H := hid (h.keepN kz)
  have HR := hid (WV.of_own (hR.keepN kz).1)
  have HLN := hid hln
  have HLS := hid hls
  clear h hR g hbx kz hln hls
  go_enter Try.func20, Try.ntmps20
  go_wp2_with fail
  refine (list_any B t mb p nL c τ _ H.out hn).mono ?_; rintro ee w2 ⟨⟨p', c', rfl, s2⟩, k2⟩
  have H2 := hid (H.out.keepN k2)
  have HR2 := hid (HR.out.keepN k2)
  have HB2 := hid ((k2.block _ (lt_of_block HBX.out) (fun e => e)).trans HBX.out)
  have KZ2 := hid (KZ.out.trans k2)
  have S2 := hid s2
  obtain ⟨a0, a1⟩ := two_cells HB2.out
  have hst : ∀ m, Calls Try.prog 22 #[.pointer (some ⟨t, 0, Option.none⟩)] (w2.drewN m) fun e w' => e = .returned (.int .i64 nS) ∧ w2.drewN m = w' := fun m => by
    have := statics_any B t mb p nL c τ (w2.drewN m) (H2.out.keepN (Keeps.drewN _ _))
    rwa [HLS.out] at this
  have HST := hid hst
  clear k2 s2 hst H HR HBX KZ
  go_wp2_with fail
  go_quiet ((go_at_call 22; exact quiet_left (HST.out _)))
  go_wp2_with fail
  go_loopw [6] (fun s6 wr => ∃ k m : Nat, k ≤ nL ∧ s6 = .int .i64 k ∧ wr = w2.drewN m) (fun s6 _ => nL - (intOf s6).toNat)
  case atStart => exact ⟨0, _, Nat.zero_le _, rfl, rfl⟩
  case round =>
    obtain ⟨k, m, hk, rfl, rfl⟩ := hrel
    by_cases hlt : k < nL
    · obtain ⟨x, hx⟩ : ∃ x, τ.L[k]? = some x := ⟨_, List.getElem?_eq_getElem (by have := HLN.out; omega)⟩
      obtain ⟨g, off, hp, _, hg, c0, c1, c2, c3, c4, c5, c6, c7, c8⟩ := HR2.out.entry hx
      have hcL := HR2.out.2.1
      have hcc := S2.out.le
      obtain ⟨_, ⟨_, h0, _⟩ | ⟨g2, hp2, _, hr2⟩⟩ := S2.out
      · omega
      obtain ⟨⟨d0, d1, d2, d3, d4, d5, d6, d7, d8⟩, _⟩ := hr2.read hx
      have hE : ∀ W, (binOp .neq 25 (.agg #[.int .u8 x.p.a, .int .u8 x.p.b, .int .u8 x.p.c, .int .u8 x.p.d, .int .u8 x.p.e, .int .u8 x.p.f]) (.agg #[.int .u8 x.p.a, .int .u8 x.p.b, .int .u8 x.p.c, .int .u8 x.p.d, .int .u8 x.p.e, .int .u8 x.p.f])).run Try.prog W = .ok (.bool false) W := fun W => neq25 x.p.a x.p.b x.p.c x.p.d x.p.e x.p.f x.p.a x.p.b x.p.c x.p.d x.p.e x.p.f true (by simp) W
      subst hp hp2
      clear hx hr2
      go_wp2_with fail
      go_quiet (fail)
      go_wp2_with fail
      go_roundw
      case rel => exact ⟨k + 1, _, by omega, by go_num, by first | rfl | (simp; rfl)⟩
      case measure => simp only [intOf]; omega
    · go_wp2_with fail
      go_ret
      exact ⟨rfl, KZ2.out.trans (Keeps.drewN _ _)⟩
end Go.Proofs.Ytdmjpgefoppfmaa
