/-
  Layer 16: what the document says of an act. Conditions: its table lies so; the act's numbers are in range.
-/
import Derived.Test.YtbgijlfdgfhceaaRAdd
import Derived.Test.YtbgijlfdgfhceaaRAddAsc
import Derived.Test.YtbgijlfdgfhceaaRAddMip
import Derived.Test.YtbgijlfdgfhceaaDoes
namespace Go.Proofs.Ytbgijlfdgfhceaa
open Go.RowKit
set_option linter.unusedVariables false
set_option linter.unusedSimpArgs false
set_option maxRecDepth 8000

set_option maxHeartbeats 16000000 in
theorem r_says (x : Ac) (hx : x.Ok) (k : Nat) {w0 w : World} {τ : CT} {v : Value} (h : RV w0 w k τ v) (hg : τ.Good) (hk : k ≤ 100) (ha : MsV w0 0 x.a) (hd : x.a.dom.size ≤ 1000) (ho : x.a.own.size ≤ 1000) (hm : x.a.ms.length ≤ 1000) :
    Calls Try.prog 10 #[v, .agg #[.int .u8 x.d, .int .u8 x.a.lv, .string x.a.dom, .string x.a.own, .int .u16 x.a.vid, .int .u8 x.a.iv, .slice x.a.p x.a.ms.length x.a.c, .int .i64 x.e.ai, .int .u16 x.e.id, .int .u8 x.e.port, .bool x.e.up, .int .u8 x.m.port, .int .u16 x.m.vid, .int .u8 x.m.lv]] w fun e w' => (∃ v', e = .returned (.tuple #[v', .int .i64 (τ.does x).2.1, .int .i64 (τ.does x).2.2]) ∧ RV w0 w' (k + 1) (τ.does x).1 v') ∧ Keeps Nil w w' := by
  have hRV := h
  obtain ⟨pA, cA, pE, cE, pM, cM, L, R, rfl, h⟩ := h
  obtain ⟨hA, hB, hC⟩ := three_alloc w (.cells #[.int .i64 τ.n, .slice pA L.length cA, .slice pE τ.E.length cE, .slice pM R.length cM] 34 (0, 0)) (.cells #[.int .u8 x.d, .int .u8 x.a.lv, .string x.a.dom, .string x.a.own, .int .u16 x.a.vid, .int .u8 x.a.iv, .slice x.a.p x.a.ms.length x.a.c, .int .i64 x.e.ai, .int .u16 x.e.id, .int .u8 x.e.port, .bool x.e.up, .int .u8 x.m.port, .int .u16 x.m.vid, .int .u8 x.m.lv] 43 (0, 0)) (.cells #[.int .i64 0, .slice Option.none 0 0, .slice Option.none 0 0, .slice Option.none 0 0] 34 (0, 0))
  have kz : Keeps Nil w (((w.alloc (.cells #[.int .i64 τ.n, .slice pA L.length cA, .slice pE τ.E.length cE, .slice pM R.length cM] 34 (0, 0))).alloc (.cells #[.int .u8 x.d, .int .u8 x.a.lv, .string x.a.dom, .string x.a.own, .int .u16 x.a.vid, .int .u8 x.a.iv, .slice x.a.p x.a.ms.length x.a.c, .int .i64 x.e.ai, .int .u16 x.e.id, .int .u8 x.e.port, .bool x.e.up, .int .u8 x.m.port, .int .u16 x.m.vid, .int .u8 x.m.lv] 43 (0, 0))).alloc (.cells #[.int .i64 0, .slice Option.none 0 0, .slice Option.none 0 0, .slice Option.none 0 0] 34 (0, 0))) := (((Keeps.refl _ _).alloc _).alloc _).alloc _
  have KZ := hid kz
  have HRV := hid hRV
  have HB0 := hid hRV.base
  have HG := hid hg
  have HO := hid hx
  have HMS := hid ha
  have HA := hid hA
  have HB := hid hB
  have HC := hid hC
  clear kz h hg hA hB hC hx ha hRV
  rcases (show x.d = 0 ∨ x.d = 1 ∨ x.d = 2 ∨ x.d = 3 ∨ (x.d ≠ 0 ∧ x.d ≠ 1 ∧ x.d ≠ 2 ∧ x.d ≠ 3) by omega) with c | c | c | c | c
  · obtain ⟨τ2, er, hp⟩ : ∃ τ2 er, τ.addMep x.e = (τ2, er) := ⟨_, _, rfl⟩
    have HD := hid (show τ.does x = (τ2, 0, er) by unfold CT.does; simp [c, hp])
    have RA := fun W (kW : Keeps Nil w W) => r_addmep x.e HO.out.2.1 k (HRV.out.keepN kW) HG.out hk
    simp only [hp] at RA
    have q0 : (x.d == 0) = true := by simp [c]
    have HRA := hid RA
    clear c hp RA
    go_enter Try.func10, Try.ntmps10
    go_upto_region 1 with (fail)
    generalize (((w.alloc (.cells #[.int .i64 τ.n, .slice pA L.length cA, .slice pE τ.E.length cE, .slice pM R.length cM] 34 (0, 0))).alloc (.cells #[.int .u8 x.d, .int .u8 x.a.lv, .string x.a.dom, .string x.a.own, .int .u16 x.a.vid, .int .u8 x.a.iv, .slice x.a.p x.a.ms.length x.a.c, .int .i64 x.e.ai, .int .u16 x.e.id, .int .u8 x.e.port, .bool x.e.up, .int .u8 x.m.port, .int .u16 x.m.vid, .int .u8 x.m.lv] 43 (0, 0))).alloc (.cells #[.int .i64 0, .slice Option.none 0 0, .slice Option.none 0 0, .slice Option.none 0 0] 34 (0, 0))) = W at *
    generalize hb2 : w.heap.size + 1 + 1 = b2 at *
    generalize hb1 : w.heap.size + 1 = b1 at *
    have hbs : w.heap.size < b1 ∧ b1 < b2 := by omega
    clear hb1 hb2
    obtain ⟨a0, a1, a2, a3⟩ := four_block HA.out
    obtain ⟨m0, m1, m2, m3, m4, m5, m6, m7, m8, m9, m10, m11, m12, m13⟩ := fourteen_block HB.out
    have lA := lt_of_block HA.out
    have lB := lt_of_block HB.out
    go_wp2_with fail
    refine (HRA.out _ KZ.out).mono ?_; rintro e w2 ⟨⟨v', rfl, ⟨pA2, cA2, pE2, cE2, pM2, cM2, L2, R2, rfl, h2⟩⟩, k2⟩
    have HC2 := hid (k2.lies HC.out)
    have H2 := hid h2
    have K2 := hid (KZ.out.trans k2)
    have hlc2 := lt_of_block HC2.out
    clear h2 k2 a0 a1 a2 a3 m0 m1 m2 m3 m4 m5 m6 m7 m8 m9 m10 m11 m12 m13 lA lB
    go_upto_region 4 with (fail)
    have k3 : Keeps Nil w2 (w2.alloc (.cells #[.int .i64 τ2.n, .slice pA2 L2.length cA2, .slice pE2 τ2.E.length cE2, .slice pM2 R2.length cM2] 34 (0, 0))) := (Keeps.refl _ _).alloc _
    have h7 := alloc_block w2 (.cells #[.int .i64 τ2.n, .slice pA2 L2.length cA2, .slice pE2 τ2.E.length cE2, .slice pM2 R2.length cM2] 34 (0, 0))
    generalize (w2.alloc (.cells #[.int .i64 τ2.n, .slice pA2 L2.length cA2, .slice pE2 τ2.E.length cE2, .slice pM2 R2.length cM2] 34 (0, 0))) = w3 at *
    have hne7 : b2 ≠ w2.heap.size := by omega
    generalize w2.heap.size = b7 at *
    obtain ⟨y0, y1, y2, y3⟩ := four_block h7
    have l7 := lt_of_block h7
    have hCr := k3.lies HC2.out
    have K3 := hid (K2.out.trans k3)
    have H3 := hid (H2.out.keepN k3)
    clear k3 h7
    obtain ⟨z0, z1, z2, z3⟩ := four_block hCr
    obtain ⟨f0, f1, f2, f3⟩ := four_free hCr
    have lCr := lt_of_block hCr
    have HCR := hid hCr
    clear hCr
    go_wp2_with fail
    obtain ⟨w5, hw5, hF, k5⟩ := set4 HCR.out (.int .i64 τ2.n) (.slice pA2 L2.length cA2) (.slice pE2 τ2.E.length cE2) (.slice pM2 R2.length cM2)
    rw [hw5]
    obtain ⟨x0, x1, x2, x3⟩ := four_block hF
    clear z0 z1 z2 z3 f0 f1 f2 f3 hw5
    have KF := hid (K3.out.thenAt k5 (by omega))
    have kn : Keeps Nil w w5 := KF.out
    refine bodyPost_ret (v := .tuple #[.agg #[.int .i64 τ2.n, .slice pA2 L2.length cA2, .slice pE2 τ2.E.length cE2, .slice pM2 R2.length cM2], .int .i64 0, .int .i64 er]) (by simp [results, Try.results10, go_sem, x0, x1, x2, x3]) rfl ?_
    rw [HD.out]
    exact ⟨⟨_, rfl, ⟨_, _, _, _, _, _, L2, R2, rfl, H3.out.keepT k5 (notT_at HCR.out (by decide)) (notT_at HCR.out (by decide)) (notT_at HCR.out (by decide)) (fun g e => by rw [At] at e; have := HB0.out.size; omega)⟩⟩, KF.out⟩
  · obtain ⟨τ2, er, hp⟩ : ∃ τ2 er, τ.dropMep x.e.ai x.e.id = (τ2, er) := ⟨_, _, rfl⟩
    have HD := hid (show τ.does x = (τ2, 0, er) by unfold CT.does; simp [c, hp])
    have RA := fun W (kW : Keeps Nil w W) => r_dropmep x.e.ai x.e.id k (HRV.out.keepN kW) HG.out hk
    simp only [hp] at RA
    have q0 : (x.d == 0) = false := by simp [c]
    have q1 : (x.d == 1) = true := by simp [c]
    have HRA := hid RA
    clear c hp RA
    go_enter Try.func10, Try.ntmps10
    go_upto_region 1 with (fail)
    generalize (((w.alloc (.cells #[.int .i64 τ.n, .slice pA L.length cA, .slice pE τ.E.length cE, .slice pM R.length cM] 34 (0, 0))).alloc (.cells #[.int .u8 x.d, .int .u8 x.a.lv, .string x.a.dom, .string x.a.own, .int .u16 x.a.vid, .int .u8 x.a.iv, .slice x.a.p x.a.ms.length x.a.c, .int .i64 x.e.ai, .int .u16 x.e.id, .int .u8 x.e.port, .bool x.e.up, .int .u8 x.m.port, .int .u16 x.m.vid, .int .u8 x.m.lv] 43 (0, 0))).alloc (.cells #[.int .i64 0, .slice Option.none 0 0, .slice Option.none 0 0, .slice Option.none 0 0] 34 (0, 0))) = W at *
    generalize hb2 : w.heap.size + 1 + 1 = b2 at *
    generalize hb1 : w.heap.size + 1 = b1 at *
    have hbs : w.heap.size < b1 ∧ b1 < b2 := by omega
    clear hb1 hb2
    obtain ⟨a0, a1, a2, a3⟩ := four_block HA.out
    obtain ⟨m0, m1, m2, m3, m4, m5, m6, m7, m8, m9, m10, m11, m12, m13⟩ := fourteen_block HB.out
    have lA := lt_of_block HA.out
    have lB := lt_of_block HB.out
    go_wp2_with fail
    refine (HRA.out _ KZ.out).mono ?_; rintro e w2 ⟨⟨v', rfl, ⟨pA2, cA2, pE2, cE2, pM2, cM2, L2, R2, rfl, h2⟩⟩, k2⟩
    have HC2 := hid (k2.lies HC.out)
    have H2 := hid h2
    have K2 := hid (KZ.out.trans k2)
    have hlc2 := lt_of_block HC2.out
    clear h2 k2 a0 a1 a2 a3 m0 m1 m2 m3 m4 m5 m6 m7 m8 m9 m10 m11 m12 m13 lA lB
    go_upto_region 7 with (fail)
    have k3 : Keeps Nil w2 (w2.alloc (.cells #[.int .i64 τ2.n, .slice pA2 L2.length cA2, .slice pE2 τ2.E.length cE2, .slice pM2 R2.length cM2] 34 (0, 0))) := (Keeps.refl _ _).alloc _
    have h7 := alloc_block w2 (.cells #[.int .i64 τ2.n, .slice pA2 L2.length cA2, .slice pE2 τ2.E.length cE2, .slice pM2 R2.length cM2] 34 (0, 0))
    generalize (w2.alloc (.cells #[.int .i64 τ2.n, .slice pA2 L2.length cA2, .slice pE2 τ2.E.length cE2, .slice pM2 R2.length cM2] 34 (0, 0))) = w3 at *
    have hne7 : b2 ≠ w2.heap.size := by omega
    generalize w2.heap.size = b7 at *
    obtain ⟨y0, y1, y2, y3⟩ := four_block h7
    have l7 := lt_of_block h7
    have hCr := k3.lies HC2.out
    have K3 := hid (K2.out.trans k3)
    have H3 := hid (H2.out.keepN k3)
    clear k3 h7
    obtain ⟨z0, z1, z2, z3⟩ := four_block hCr
    obtain ⟨f0, f1, f2, f3⟩ := four_free hCr
    have lCr := lt_of_block hCr
    have HCR := hid hCr
    clear hCr
    go_wp2_with fail
    obtain ⟨w5, hw5, hF, k5⟩ := set4 HCR.out (.int .i64 τ2.n) (.slice pA2 L2.length cA2) (.slice pE2 τ2.E.length cE2) (.slice pM2 R2.length cM2)
    rw [hw5]
    obtain ⟨x0, x1, x2, x3⟩ := four_block hF
    clear z0 z1 z2 z3 f0 f1 f2 f3 hw5
    have KF := hid (K3.out.thenAt k5 (by omega))
    have kn : Keeps Nil w w5 := KF.out
    refine bodyPost_ret (v := .tuple #[.agg #[.int .i64 τ2.n, .slice pA2 L2.length cA2, .slice pE2 τ2.E.length cE2, .slice pM2 R2.length cM2], .int .i64 0, .int .i64 er]) (by simp [results, Try.results10, go_sem, x0, x1, x2, x3]) rfl ?_
    rw [HD.out]
    exact ⟨⟨_, rfl, ⟨_, _, _, _, _, _, L2, R2, rfl, H3.out.keepT k5 (notT_at HCR.out (by decide)) (notT_at HCR.out (by decide)) (notT_at HCR.out (by decide)) (fun g e => by rw [At] at e; have := HB0.out.size; omega)⟩⟩, KF.out⟩
  · obtain ⟨τ2, er, hp⟩ : ∃ τ2 er, τ.addMip x.m = (τ2, er) := ⟨_, _, rfl⟩
    have HD := hid (show τ.does x = (τ2, 0, er) by unfold CT.does; simp [c, hp])
    have RA := fun W (kW : Keeps Nil w W) => r_addmip x.m HO.out.2.2.1 k (HRV.out.keepN kW) HG.out hk
    simp only [hp] at RA
    have q0 : (x.d == 0) = false := by simp [c]
    have q1 : (x.d == 1) = false := by simp [c]
    have q2 : (x.d == 2) = true := by simp [c]
    have HRA := hid RA
    clear c hp RA
    go_enter Try.func10, Try.ntmps10
    go_upto_region 1 with (fail)
    generalize (((w.alloc (.cells #[.int .i64 τ.n, .slice pA L.length cA, .slice pE τ.E.length cE, .slice pM R.length cM] 34 (0, 0))).alloc (.cells #[.int .u8 x.d, .int .u8 x.a.lv, .string x.a.dom, .string x.a.own, .int .u16 x.a.vid, .int .u8 x.a.iv, .slice x.a.p x.a.ms.length x.a.c, .int .i64 x.e.ai, .int .u16 x.e.id, .int .u8 x.e.port, .bool x.e.up, .int .u8 x.m.port, .int .u16 x.m.vid, .int .u8 x.m.lv] 43 (0, 0))).alloc (.cells #[.int .i64 0, .slice Option.none 0 0, .slice Option.none 0 0, .slice Option.none 0 0] 34 (0, 0))) = W at *
    generalize hb2 : w.heap.size + 1 + 1 = b2 at *
    generalize hb1 : w.heap.size + 1 = b1 at *
    have hbs : w.heap.size < b1 ∧ b1 < b2 := by omega
    clear hb1 hb2
    obtain ⟨a0, a1, a2, a3⟩ := four_block HA.out
    obtain ⟨m0, m1, m2, m3, m4, m5, m6, m7, m8, m9, m10, m11, m12, m13⟩ := fourteen_block HB.out
    have lA := lt_of_block HA.out
    have lB := lt_of_block HB.out
    go_wp2_with fail
    refine (HRA.out _ KZ.out).mono ?_; rintro e w2 ⟨⟨v', rfl, ⟨pA2, cA2, pE2, cE2, pM2, cM2, L2, R2, rfl, h2⟩⟩, k2⟩
    have HC2 := hid (k2.lies HC.out)
    have H2 := hid h2
    have K2 := hid (KZ.out.trans k2)
    have hlc2 := lt_of_block HC2.out
    clear h2 k2 a0 a1 a2 a3 m0 m1 m2 m3 m4 m5 m6 m7 m8 m9 m10 m11 m12 m13 lA lB
    go_upto_region 10 with (fail)
    have k3 : Keeps Nil w2 (w2.alloc (.cells #[.int .i64 τ2.n, .slice pA2 L2.length cA2, .slice pE2 τ2.E.length cE2, .slice pM2 R2.length cM2] 34 (0, 0))) := (Keeps.refl _ _).alloc _
    have h7 := alloc_block w2 (.cells #[.int .i64 τ2.n, .slice pA2 L2.length cA2, .slice pE2 τ2.E.length cE2, .slice pM2 R2.length cM2] 34 (0, 0))
    generalize (w2.alloc (.cells #[.int .i64 τ2.n, .slice pA2 L2.length cA2, .slice pE2 τ2.E.length cE2, .slice pM2 R2.length cM2] 34 (0, 0))) = w3 at *
    have hne7 : b2 ≠ w2.heap.size := by omega
    generalize w2.heap.size = b7 at *
    obtain ⟨y0, y1, y2, y3⟩ := four_block h7
    have l7 := lt_of_block h7
    have hCr := k3.lies HC2.out
    have K3 := hid (K2.out.trans k3)
    have H3 := hid (H2.out.keepN k3)
    clear k3 h7
    obtain ⟨z0, z1, z2, z3⟩ := four_block hCr
    obtain ⟨f0, f1, f2, f3⟩ := four_free hCr
    have lCr := lt_of_block hCr
    have HCR := hid hCr
    clear hCr
    go_wp2_with fail
    obtain ⟨w5, hw5, hF, k5⟩ := set4 HCR.out (.int .i64 τ2.n) (.slice pA2 L2.length cA2) (.slice pE2 τ2.E.length cE2) (.slice pM2 R2.length cM2)
    rw [hw5]
    obtain ⟨x0, x1, x2, x3⟩ := four_block hF
    clear z0 z1 z2 z3 f0 f1 f2 f3 hw5
    have KF := hid (K3.out.thenAt k5 (by omega))
    have kn : Keeps Nil w w5 := KF.out
    refine bodyPost_ret (v := .tuple #[.agg #[.int .i64 τ2.n, .slice pA2 L2.length cA2, .slice pE2 τ2.E.length cE2, .slice pM2 R2.length cM2], .int .i64 0, .int .i64 er]) (by simp [results, Try.results10, go_sem, x0, x1, x2, x3]) rfl ?_
    rw [HD.out]
    exact ⟨⟨_, rfl, ⟨_, _, _, _, _, _, L2, R2, rfl, H3.out.keepT k5 (notT_at HCR.out (by decide)) (notT_at HCR.out (by decide)) (notT_at HCR.out (by decide)) (fun g e => by rw [At] at e; have := HB0.out.size; omega)⟩⟩, KF.out⟩
  · obtain ⟨τ2, er, hp⟩ : ∃ τ2 er, τ.dropMip x.m.port x.m.vid = (τ2, er) := ⟨_, _, rfl⟩
    have HD := hid (show τ.does x = (τ2, 0, er) by unfold CT.does; simp [c, hp])
    have RA := fun W (kW : Keeps Nil w W) => r_dropmip x.m.port x.m.vid k (HRV.out.keepN kW) HG.out hk
    simp only [hp] at RA
    have q0 : (x.d == 0) = false := by simp [c]
    have q1 : (x.d == 1) = false := by simp [c]
    have q2 : (x.d == 2) = false := by simp [c]
    have q3 : (x.d == 3) = true := by simp [c]
    have HRA := hid RA
    clear c hp RA
    go_enter Try.func10, Try.ntmps10
    go_upto_region 1 with (fail)
    generalize (((w.alloc (.cells #[.int .i64 τ.n, .slice pA L.length cA, .slice pE τ.E.length cE, .slice pM R.length cM] 34 (0, 0))).alloc (.cells #[.int .u8 x.d, .int .u8 x.a.lv, .string x.a.dom, .string x.a.own, .int .u16 x.a.vid, .int .u8 x.a.iv, .slice x.a.p x.a.ms.length x.a.c, .int .i64 x.e.ai, .int .u16 x.e.id, .int .u8 x.e.port, .bool x.e.up, .int .u8 x.m.port, .int .u16 x.m.vid, .int .u8 x.m.lv] 43 (0, 0))).alloc (.cells #[.int .i64 0, .slice Option.none 0 0, .slice Option.none 0 0, .slice Option.none 0 0] 34 (0, 0))) = W at *
    generalize hb2 : w.heap.size + 1 + 1 = b2 at *
    generalize hb1 : w.heap.size + 1 = b1 at *
    have hbs : w.heap.size < b1 ∧ b1 < b2 := by omega
    clear hb1 hb2
    obtain ⟨a0, a1, a2, a3⟩ := four_block HA.out
    obtain ⟨m0, m1, m2, m3, m4, m5, m6, m7, m8, m9, m10, m11, m12, m13⟩ := fourteen_block HB.out
    have lA := lt_of_block HA.out
    have lB := lt_of_block HB.out
    go_wp2_with fail
    refine (HRA.out _ KZ.out).mono ?_; rintro e w2 ⟨⟨v', rfl, ⟨pA2, cA2, pE2, cE2, pM2, cM2, L2, R2, rfl, h2⟩⟩, k2⟩
    have HC2 := hid (k2.lies HC.out)
    have H2 := hid h2
    have K2 := hid (KZ.out.trans k2)
    have hlc2 := lt_of_block HC2.out
    clear h2 k2 a0 a1 a2 a3 m0 m1 m2 m3 m4 m5 m6 m7 m8 m9 m10 m11 m12 m13 lA lB
    go_upto_region 13 with (fail)
    have k3 : Keeps Nil w2 (w2.alloc (.cells #[.int .i64 τ2.n, .slice pA2 L2.length cA2, .slice pE2 τ2.E.length cE2, .slice pM2 R2.length cM2] 34 (0, 0))) := (Keeps.refl _ _).alloc _
    have h7 := alloc_block w2 (.cells #[.int .i64 τ2.n, .slice pA2 L2.length cA2, .slice pE2 τ2.E.length cE2, .slice pM2 R2.length cM2] 34 (0, 0))
    generalize (w2.alloc (.cells #[.int .i64 τ2.n, .slice pA2 L2.length cA2, .slice pE2 τ2.E.length cE2, .slice pM2 R2.length cM2] 34 (0, 0))) = w3 at *
    have hne7 : b2 ≠ w2.heap.size := by omega
    generalize w2.heap.size = b7 at *
    obtain ⟨y0, y1, y2, y3⟩ := four_block h7
    have l7 := lt_of_block h7
    have hCr := k3.lies HC2.out
    have K3 := hid (K2.out.trans k3)
    have H3 := hid (H2.out.keepN k3)
    clear k3 h7
    obtain ⟨z0, z1, z2, z3⟩ := four_block hCr
    obtain ⟨f0, f1, f2, f3⟩ := four_free hCr
    have lCr := lt_of_block hCr
    have HCR := hid hCr
    clear hCr
    go_wp2_with fail
    obtain ⟨w5, hw5, hF, k5⟩ := set4 HCR.out (.int .i64 τ2.n) (.slice pA2 L2.length cA2) (.slice pE2 τ2.E.length cE2) (.slice pM2 R2.length cM2)
    rw [hw5]
    obtain ⟨x0, x1, x2, x3⟩ := four_block hF
    clear z0 z1 z2 z3 f0 f1 f2 f3 hw5
    have KF := hid (K3.out.thenAt k5 (by omega))
    have kn : Keeps Nil w w5 := KF.out
    refine bodyPost_ret (v := .tuple #[.agg #[.int .i64 τ2.n, .slice pA2 L2.length cA2, .slice pE2 τ2.E.length cE2, .slice pM2 R2.length cM2], .int .i64 0, .int .i64 er]) (by simp [results, Try.results10, go_sem, x0, x1, x2, x3]) rfl ?_
    rw [HD.out]
    exact ⟨⟨_, rfl, ⟨_, _, _, _, _, _, L2, R2, rfl, H3.out.keepT k5 (notT_at HCR.out (by decide)) (notT_at HCR.out (by decide)) (notT_at HCR.out (by decide)) (fun g e => by rw [At] at e; have := HB0.out.size; omega)⟩⟩, KF.out⟩
  · obtain ⟨τ2, er, i2, hp⟩ : ∃ τ2 er i2, τ.addAsc x.a = (τ2, i2, er) := ⟨_, _, _, rfl⟩
    have HD := hid (show τ.does x = (τ2, i2, er) by unfold CT.does; simp [c, hp])
    have RA := fun W (kW : Keeps Nil w W) => r_addasc x.a k (HRV.out.keepN kW) HG.out hk HMS.out hd ho hm
    simp only [hp] at RA
    have q0 : (x.d == 0) = false := by simp [c]
    have q1 : (x.d == 1) = false := by simp [c]
    have q2 : (x.d == 2) = false := by simp [c]
    have q3 : (x.d == 3) = false := by simp [c]
    have HRA := hid RA
    clear c hp RA
    go_enter Try.func10, Try.ntmps10
    go_upto_region 1 with (fail)
    generalize (((w.alloc (.cells #[.int .i64 τ.n, .slice pA L.length cA, .slice pE τ.E.length cE, .slice pM R.length cM] 34 (0, 0))).alloc (.cells #[.int .u8 x.d, .int .u8 x.a.lv, .string x.a.dom, .string x.a.own, .int .u16 x.a.vid, .int .u8 x.a.iv, .slice x.a.p x.a.ms.length x.a.c, .int .i64 x.e.ai, .int .u16 x.e.id, .int .u8 x.e.port, .bool x.e.up, .int .u8 x.m.port, .int .u16 x.m.vid, .int .u8 x.m.lv] 43 (0, 0))).alloc (.cells #[.int .i64 0, .slice Option.none 0 0, .slice Option.none 0 0, .slice Option.none 0 0] 34 (0, 0))) = W at *
    generalize hb2 : w.heap.size + 1 + 1 = b2 at *
    generalize hb1 : w.heap.size + 1 = b1 at *
    have hbs : w.heap.size < b1 ∧ b1 < b2 := by omega
    clear hb1 hb2
    obtain ⟨a0, a1, a2, a3⟩ := four_block HA.out
    obtain ⟨m0, m1, m2, m3, m4, m5, m6, m7, m8, m9, m10, m11, m12, m13⟩ := fourteen_block HB.out
    have lA := lt_of_block HA.out
    have lB := lt_of_block HB.out
    go_wp2_with fail
    refine (HRA.out _ KZ.out).mono ?_; rintro e w2 ⟨⟨v', rfl, ⟨pA2, cA2, pE2, cE2, pM2, cM2, L2, R2, rfl, h2⟩⟩, k2⟩
    have HC2 := hid (k2.lies HC.out)
    have H2 := hid h2
    have K2 := hid (KZ.out.trans k2)
    have hlc2 := lt_of_block HC2.out
    clear h2 k2 a0 a1 a2 a3 m0 m1 m2 m3 m4 m5 m6 m7 m8 m9 m10 m11 m12 m13 lA lB
    have hCr := HC2.out
    have K3 := K2
    have H3 := H2
    obtain ⟨z0, z1, z2, z3⟩ := four_block hCr
    obtain ⟨f0, f1, f2, f3⟩ := four_free hCr
    have lCr := lt_of_block hCr
    have HCR := hid hCr
    clear hCr
    go_wp2_with fail
    obtain ⟨w5, hw5, hF, k5⟩ := set4 HCR.out (.int .i64 τ2.n) (.slice pA2 L2.length cA2) (.slice pE2 τ2.E.length cE2) (.slice pM2 R2.length cM2)
    rw [hw5]
    obtain ⟨x0, x1, x2, x3⟩ := four_block hF
    clear z0 z1 z2 z3 f0 f1 f2 f3 hw5
    have KF := hid (K3.out.thenAt k5 (by omega))
    have kn : Keeps Nil w w5 := KF.out
    refine bodyPost_ret (v := .tuple #[.agg #[.int .i64 τ2.n, .slice pA2 L2.length cA2, .slice pE2 τ2.E.length cE2, .slice pM2 R2.length cM2], .int .i64 i2, .int .i64 er]) (by simp [results, Try.results10, go_sem, x0, x1, x2, x3]) rfl ?_
    rw [HD.out]
    exact ⟨⟨_, rfl, ⟨_, _, _, _, _, _, L2, R2, rfl, H3.out.keepT k5 (notT_at HCR.out (by decide)) (notT_at HCR.out (by decide)) (notT_at HCR.out (by decide)) (fun g e => by rw [At] at e; have := HB0.out.size; omega)⟩⟩, KF.out⟩
end Go.Proofs.Ytbgijlfdgfhceaa
