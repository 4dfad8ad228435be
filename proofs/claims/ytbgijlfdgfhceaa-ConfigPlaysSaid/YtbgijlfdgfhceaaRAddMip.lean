/-
  Layer 16: the document's table: AddMip. Conditions: it lies so; the numbers are in range.
-/
import Derived.Test.YtbgijlfdgfhceaaRHelp
import Derived.Test.YtbgijlfdgfhceaaLaw16
import Derived.Deep.RegionHeld3
import Derived.BigGuard
namespace Go.Proofs.Ytbgijlfdgfhceaa
open Go.RowKit
set_option linter.unusedVariables false
set_option linter.unusedSimpArgs false
set_option maxRecDepth 8000

def hiE (p v l : Int) (b : As) (x : Me) : Bool := decide (x.port = p) && decide (b.vid = v) && decide (l ≤ b.lv)

set_option maxHeartbeats 16000000 in
theorem r_addmip (m : Mi) (hm : (0 ≤ m.port ∧ m.port < 256) ∧ (0 ≤ m.vid ∧ m.vid < 65536) ∧ (0 ≤ m.lv ∧ m.lv < 256)) (k : Nat) {w0 w : World} {τ : CT} {x : Value} (h : RV w0 w k τ x) (hg : τ.Good) (hk : k ≤ 100) :
    Calls Try.prog 26 #[x, .agg #[.int .u8 m.port, .int .u16 m.vid, .int .u8 m.lv]] w fun e w' => (∃ v', e = .returned (.tuple #[v', .int .i64 (τ.addMip m).2]) ∧ RV w0 w' (k + 1) (τ.addMip m).1 v') ∧ Keeps Nil w w' := by
  obtain ⟨pA, cA, pE, cE, pM, cM, L, R, rfl, h⟩ := h
  obtain ⟨hA, hB, hC⟩ := three_alloc w (.cells #[.int .i64 τ.n, .slice pA L.length cA, .slice pE τ.E.length cE, .slice pM R.length cM] 34 (0, 0)) (.cells #[.int .u8 m.port, .int .u16 m.vid, .int .u8 m.lv] 41 (0, 0)) (.cells #[.int .i64 0, .slice Option.none 0 0, .slice Option.none 0 0, .slice Option.none 0 0] 34 (0, 0))
  have kz : Keeps Nil w (((w.alloc (.cells #[.int .i64 τ.n, .slice pA L.length cA, .slice pE τ.E.length cE, .slice pM R.length cM] 34 (0, 0))).alloc (.cells #[.int .u8 m.port, .int .u16 m.vid, .int .u8 m.lv] 41 (0, 0))).alloc (.cells #[.int .i64 0, .slice Option.none 0 0, .slice Option.none 0 0, .slice Option.none 0 0] 34 (0, 0))) := (((Keeps.refl _ _).alloc _).alloc _).alloc _
  have KZ := hid kz
  have H0 := hid h
  have HG := hid hg
  have hlE := hg.E
  have hlR : R.length ≤ 100 := Nat.le_trans h.mat.len hk
  have hlA : L.length ≤ 8 := by have := h.lenA; have := hg.A; omega
  have hncE := h.rowE.2.1
  have hncA := h.rowA.2.1
  have hncM := h.rowM.2.1
  have HA := hid hA
  have HB := hid hB
  have HC := hid hC
  have hp0 : 0 ≤ m.port := hm.1.1
  have hp1 : m.port < 256 := hm.1.2
  have hv0 : 0 ≤ m.vid := hm.2.1.1
  have hl0 : 0 ≤ m.lv := hm.2.2.1
  clear kz h hg hA hB hC hm
  go_enter Try.func26, Try.ntmps26
  go_upto_region 1 with (fail)
  generalize (((w.alloc (.cells #[.int .i64 τ.n, .slice pA L.length cA, .slice pE τ.E.length cE, .slice pM R.length cM] 34 (0, 0))).alloc (.cells #[.int .u8 m.port, .int .u16 m.vid, .int .u8 m.lv] 41 (0, 0))).alloc (.cells #[.int .i64 0, .slice Option.none 0 0, .slice Option.none 0 0, .slice Option.none 0 0] 34 (0, 0))) = W at *
  generalize hb2 : w.heap.size + 1 + 1 = b2 at *
  generalize hb1 : w.heap.size + 1 = b1 at *
  have hbs : w.heap.size < b1 ∧ b1 < b2 := by omega
  clear hb1 hb2
  have KR := hid (Keeps.refl Nil W)
  obtain ⟨a0, a1, a2, a3⟩ := four_block (KR.out.lies HA.out)
  obtain ⟨m0, m1, m2⟩ := three_block (KR.out.lies HB.out)
  have lA := lt_of_block (KR.out.lies HA.out)
  have lB := lt_of_block (KR.out.lies HB.out)
  by_cases c1 : τ.n ≤ m.port
  · have HD := hid (show τ.addMip m = (τ, 2) by unfold CT.addMip; rw [if_neg (by simp; intros; omega)])
    go_upto_region 2 with (fail)
    clear a0 a1 a2 a3 m0 m1 m2 lA lB
    have KK := hid (KR.out)
    have hAr := KK.out.lies HA.out
    have hCr := KK.out.lies HC.out
    obtain ⟨a0, a1, a2, a3⟩ := four_block hAr
    obtain ⟨z0, z1, z2, z3⟩ := four_block hCr
    obtain ⟨f0, f1, f2, f3⟩ := four_free hCr
    have lAr := lt_of_block hAr
    have lCr := lt_of_block hCr
    have HCR := hid hCr
    clear hAr hCr
    go_wp2_with fail
    obtain ⟨w3, hw2, hF, k2⟩ := set4 HCR.out (.int .i64 τ.n) (.slice pA L.length cA) (.slice pE τ.E.length cE) (.slice pM R.length cM)
    rw [hw2]
    obtain ⟨x0, x1, x2, x3⟩ := four_block hF
    clear z0 z1 z2 z3 f0 f1 f2 f3 a0 a1 a2 a3 hw2
    have KF := hid ((KZ.out.trans KK.out).thenAt k2 (by omega))
    refine bodyPost_ret (v := .tuple #[.agg #[.int .i64 τ.n, .slice pA L.length cA, .slice pE τ.E.length cE, .slice pM R.length cM], .int .i64 2]) (by simp [results, Try.results26, go_sem, x0, x1, x2, x3]) rfl ?_
    rw [HD.out]
    exact ⟨⟨_, rfl, ((H0.out.keepN KF.out).more).rv⟩, KF.out⟩
  by_cases c2 : m.vid < 1
  · have HD := hid (show τ.addMip m = (τ, 2) by unfold CT.addMip; rw [if_neg (by simp [vlanB]; intros; omega)])
    go_upto_region 2 with (fail)
    clear a0 a1 a2 a3 m0 m1 m2 lA lB
    have KK := hid (KR.out)
    have hAr := KK.out.lies HA.out
    have hCr := KK.out.lies HC.out
    obtain ⟨a0, a1, a2, a3⟩ := four_block hAr
    obtain ⟨z0, z1, z2, z3⟩ := four_block hCr
    obtain ⟨f0, f1, f2, f3⟩ := four_free hCr
    have lAr := lt_of_block hAr
    have lCr := lt_of_block hCr
    have HCR := hid hCr
    clear hAr hCr
    go_wp2_with fail
    obtain ⟨w3, hw2, hF, k2⟩ := set4 HCR.out (.int .i64 τ.n) (.slice pA L.length cA) (.slice pE τ.E.length cE) (.slice pM R.length cM)
    rw [hw2]
    obtain ⟨x0, x1, x2, x3⟩ := four_block hF
    clear z0 z1 z2 z3 f0 f1 f2 f3 a0 a1 a2 a3 hw2
    have KF := hid ((KZ.out.trans KK.out).thenAt k2 (by omega))
    refine bodyPost_ret (v := .tuple #[.agg #[.int .i64 τ.n, .slice pA L.length cA, .slice pE τ.E.length cE, .slice pM R.length cM], .int .i64 2]) (by simp [results, Try.results26, go_sem, x0, x1, x2, x3]) rfl ?_
    rw [HD.out]
    exact ⟨⟨_, rfl, ((H0.out.keepN KF.out).more).rv⟩, KF.out⟩
  by_cases c3 : 4094 < m.vid
  · have HD := hid (show τ.addMip m = (τ, 2) by unfold CT.addMip; rw [if_neg (by simp [vlanB]; intros; omega)])
    go_upto_region 2 with (fail)
    clear a0 a1 a2 a3 m0 m1 m2 lA lB
    have KK := hid (KR.out)
    have hAr := KK.out.lies HA.out
    have hCr := KK.out.lies HC.out
    obtain ⟨a0, a1, a2, a3⟩ := four_block hAr
    obtain ⟨z0, z1, z2, z3⟩ := four_block hCr
    obtain ⟨f0, f1, f2, f3⟩ := four_free hCr
    have lAr := lt_of_block hAr
    have lCr := lt_of_block hCr
    have HCR := hid hCr
    clear hAr hCr
    go_wp2_with fail
    obtain ⟨w3, hw2, hF, k2⟩ := set4 HCR.out (.int .i64 τ.n) (.slice pA L.length cA) (.slice pE τ.E.length cE) (.slice pM R.length cM)
    rw [hw2]
    obtain ⟨x0, x1, x2, x3⟩ := four_block hF
    clear z0 z1 z2 z3 f0 f1 f2 f3 a0 a1 a2 a3 hw2
    have KF := hid ((KZ.out.trans KK.out).thenAt k2 (by omega))
    refine bodyPost_ret (v := .tuple #[.agg #[.int .i64 τ.n, .slice pA L.length cA, .slice pE τ.E.length cE, .slice pM R.length cM], .int .i64 2]) (by simp [results, Try.results26, go_sem, x0, x1, x2, x3]) rfl ?_
    rw [HD.out]
    exact ⟨⟨_, rfl, ((H0.out.keepN KF.out).more).rv⟩, KF.out⟩
  by_cases c4 : 7 < m.lv
  · have HD := hid (show τ.addMip m = (τ, 2) by unfold CT.addMip; rw [if_neg (by simp; intros; omega)])
    go_upto_region 2 with (fail)
    clear a0 a1 a2 a3 m0 m1 m2 lA lB
    have KK := hid (KR.out)
    have hAr := KK.out.lies HA.out
    have hCr := KK.out.lies HC.out
    obtain ⟨a0, a1, a2, a3⟩ := four_block hAr
    obtain ⟨z0, z1, z2, z3⟩ := four_block hCr
    obtain ⟨f0, f1, f2, f3⟩ := four_free hCr
    have lAr := lt_of_block hAr
    have lCr := lt_of_block hCr
    have HCR := hid hCr
    clear hAr hCr
    go_wp2_with fail
    obtain ⟨w3, hw2, hF, k2⟩ := set4 HCR.out (.int .i64 τ.n) (.slice pA L.length cA) (.slice pE τ.E.length cE) (.slice pM R.length cM)
    rw [hw2]
    obtain ⟨x0, x1, x2, x3⟩ := four_block hF
    clear z0 z1 z2 z3 f0 f1 f2 f3 a0 a1 a2 a3 hw2
    have KF := hid ((KZ.out.trans KK.out).thenAt k2 (by omega))
    refine bodyPost_ret (v := .tuple #[.agg #[.int .i64 τ.n, .slice pA L.length cA, .slice pE τ.E.length cE, .slice pM R.length cM], .int .i64 2]) (by simp [results, Try.results26, go_sem, x0, x1, x2, x3]) rfl ?_
    rw [HD.out]
    exact ⟨⟨_, rfl, ((H0.out.keepN KF.out).more).rv⟩, KF.out⟩
  have HDP := hid (show τ.addMip m = (if R.any (isM m.port m.vid) then (τ, 8) else if τ.E.any (fun x => hiE m.port m.vid m.lv (τ.of x) x) then (τ, 9) else ({ τ with M := sput τ.M ⟨m.port, m.vid⟩ m.lv }, 0)) by
    unfold CT.addMip; rw [if_pos (by simp [vlanB]; omega), H0.out.mat.some_iff, over_any HG.out _ _ _ hl0 (by omega)]; rfl)
  go_upto_region 3 with (fail)
  clear a0 a1 a2 a3 m0 m1 m2 lA lB
  go_wp2_with fail
  go_loopw [6] (fun s6 wr => ∃ j : Nat, j ≤ R.length ∧ s6 = .int .i64 j ∧ Hid (Keeps Nil W wr ∧ ∀ q x, q < j → R[q]? = some x → isM m.port m.vid x = false)) (fun s6 _ => R.length - (intOf s6).toNat)
  case atStart => exact ⟨0, Nat.zero_le _, rfl, hid ⟨KR.out, fun q x h => absurd h (Nat.not_lt_zero _)⟩⟩
  case round =>
    obtain ⟨j, hj, rfl, HR⟩ := hrel
    have KR := hid HR.out.1
    obtain ⟨a0, a1, a2, a3⟩ := four_block (KR.out.lies HA.out)
    obtain ⟨m0, m1, m2⟩ := three_block (KR.out.lies HB.out)
    have lA := lt_of_block (KR.out.lies HA.out)
    have lB := lt_of_block (KR.out.lies HB.out)
    by_cases hlt : j < R.length
    · obtain ⟨r, hr⟩ : ∃ r, R[j]? = some r := ⟨_, List.getElem?_eq_getElem hlt⟩
      obtain ⟨g, off, hp, _, hgl, _, c0, c1, c2⟩ := (H0.out.rowM.keepN (KZ.out.trans KR.out)).atM hr
      rw [hp] at a3
      have HX := hid hr
      have HP := hid hp
      have NX := hid (fun (hf : isM m.port m.vid r = false) => hid (next_no _ HR.out.2 HX.out hf))
      clear hr hp HR
      cases q1 : (r.port == m.port) with
      | false =>
        have HN := NX.out (by simp at q1; simp [isM, q1])
        go_wp2_with fail
        go_quiet (fail)
        go_wp2_with fail
        go_roundw
        case rel => exact ⟨j + 1, by omega, by go_num, hid ⟨KR.out.trans (Keeps.drewN _ _), HN.out⟩⟩
        case measure => simp only [intOf]; omega
      | true =>
        cases q2 : (r.vid == m.vid) with
        | false =>
          have HN := NX.out (by simp at q2; simp [isM, q2])
          go_wp2_with fail
          go_quiet (fail)
          go_wp2_with fail
          go_roundw
          case rel => exact ⟨j + 1, by omega, by go_num, hid ⟨KR.out.trans (Keeps.drewN _ _), HN.out⟩⟩
          case measure => simp only [intOf]; omega
        | true =>
          have HD := hid (show τ.addMip m = (τ, 8) by rw [HDP.out, if_pos (any_at _ HX.out (by simp at q1 q2; simp [isM, q1, q2]))])
          go_wp2_with fail
          go_quiet (fail)
          have KN := hid (KR.out.trans (Keeps.drewN wr nq))
          clear c0 c1 c2 hgl
          clear a0 a1 a2 a3 m0 m1 m2 lA lB
          generalize wr.drewN nq = W7 at *
          go_upto_region 7 with (fail)
          have KK := hid (KN.out)
          have hAr := KK.out.lies HA.out
          have hCr := KK.out.lies HC.out
          obtain ⟨a0, a1, a2, a3⟩ := four_block hAr
          obtain ⟨z0, z1, z2, z3⟩ := four_block hCr
          obtain ⟨f0, f1, f2, f3⟩ := four_free hCr
          have lAr := lt_of_block hAr
          have lCr := lt_of_block hCr
          have HCR := hid hCr
          clear hAr hCr
          go_wp2_with fail
          obtain ⟨w3, hw2, hF, k2⟩ := set4 HCR.out (.int .i64 τ.n) (.slice pA L.length cA) (.slice pE τ.E.length cE) (.slice pM R.length cM)
          rw [hw2]
          obtain ⟨x0, x1, x2, x3⟩ := four_block hF
          clear z0 z1 z2 z3 f0 f1 f2 f3 a0 a1 a2 a3 hw2
          have KF := hid ((KZ.out.trans KK.out).thenAt k2 (by omega))
          refine bodyPost_ret (v := .tuple #[.agg #[.int .i64 τ.n, .slice pA L.length cA, .slice pE τ.E.length cE, .slice pM R.length cM], .int .i64 8]) (by simp [results, Try.results26, go_sem, x0, x1, x2, x3]) rfl ?_
          rw [HD.out]
          exact ⟨⟨_, rfl, ((H0.out.keepN KF.out).more).rv⟩, KF.out⟩
    · obtain rfl : j = R.length := by omega
      have HDP2 := hid (show τ.addMip m = (if τ.E.any (fun x => hiE m.port m.vid m.lv (τ.of x) x) then (τ, 9) else ({ τ with M := sput τ.M ⟨m.port, m.vid⟩ m.lv }, 0)) by
        rw [HDP.out, any_of _ (Nat.le_refl _) HR.out.2]; rfl)
      have HNO := hid (show sget τ.M ⟨m.port, m.vid⟩ = Option.none by
        have h1 := H0.out.mat.some_iff m.port m.vid
        rw [any_of _ (Nat.le_refl _) HR.out.2] at h1
        cases hs : sget τ.M ⟨m.port, m.vid⟩ with
        | none => rfl
        | some l => rw [hs] at h1; cases h1)
      clear HR HDP hlt hj
      go_upto_region 8 with (fail)
      clear a0 a1 a2 a3 m0 m1 m2 lA lB
      go_wp2_with fail
      go_loopw [7] (fun s7 wr => ∃ j : Nat, j ≤ τ.E.length ∧ s7 = .int .i64 j ∧ Hid (Keeps Nil W wr ∧ ∀ q x, q < j → τ.E[q]? = some x → hiE m.port m.vid m.lv (τ.of x) x = false)) (fun s7 _ => τ.E.length - (intOf s7).toNat)
      case atStart => exact ⟨0, Nat.zero_le _, rfl, hid ⟨KR.out, fun q x h => absurd h (Nat.not_lt_zero _)⟩⟩
      case round =>
        obtain ⟨j, hj, rfl, HR⟩ := hrel
        have KR := hid HR.out.1
        obtain ⟨a0, a1, a2, a3⟩ := four_block (KR.out.lies HA.out)
        obtain ⟨m0, m1, m2⟩ := three_block (KR.out.lies HB.out)
        have lA := lt_of_block (KR.out.lies HA.out)
        have lB := lt_of_block (KR.out.lies HB.out)
        by_cases hlt : j < τ.E.length
        · obtain ⟨y, hy⟩ : ∃ y, τ.E[j]? = some y := ⟨_, List.getElem?_eq_getElem hlt⟩
          obtain ⟨g, off, hp, _, hgl, _, c0, c1, c2, c3⟩ := (H0.out.rowE.keepN (KZ.out.trans KR.out)).atE hy
          obtain ⟨i, z, hi, hz, hil, hzv, hzl, hzb⟩ := H0.out.ofE HG.out (List.mem_of_getElem? hy)
          obtain ⟨g', off', hp', _, hgl', _, d0, d1, d2, d3, d4, d5⟩ := (H0.out.rowA.keepN (KZ.out.trans KR.out)).atA hz
          have hms := H0.out.ms HG.out (List.mem_of_getElem? hz)
          have hz0 : 0 ≤ z.lv := hms.2.1
          have hz7 : z.lv ≤ 7 := hms.2.2
          rw [hp] at a2
          rw [hp'] at a1
          rw [hi] at c0
          have hil' : (i : Int) < (L.length : Int) := by omega
          have HX := hid hy
          have HH := hid (show hiE m.port m.vid m.lv (τ.of y) y = (decide (y.port = m.port) && decide (z.vid = m.vid) && decide (m.lv ≤ z.lv)) by unfold hiE; rw [hzv, hzl])
          have NX := hid (fun (hf : hiE m.port m.vid m.lv (τ.of y) y = false) => hid (next_no (fun x => hiE m.port m.vid m.lv (τ.of x) x) HR.out.2 HX.out hf))
          have hS : ∀ X, Keeps Nil wr X → X.cell? ⟨w.heap.size, 1, Option.none⟩ = some (.slice (some ⟨g', off', Option.none⟩) L.length cA) ∧ X.cell? ⟨w.heap.size, 2, Option.none⟩ = some (.slice (some ⟨g, off, Option.none⟩) τ.E.length cE) ∧ X.cell? ⟨g, off + j * 4, Option.none⟩ = some (.int .i64 (i : Int)) ∧ X.cell? ⟨g', off' + i * 6, Option.none⟩ = some (.int .u8 z.lv) ∧ X.cell? ⟨g', off' + i * 6 + 1, Option.none⟩ = some (.string z.dom) ∧ X.cell? ⟨g', off' + i * 6 + 2, Option.none⟩ = some (.string z.own) ∧ X.cell? ⟨g', off' + i * 6 + 3, Option.none⟩ = some (.int .u16 z.vid) ∧ X.cell? ⟨g', off' + i * 6 + 4, Option.none⟩ = some (.int .u8 z.iv) ∧ X.cell? ⟨g', off' + i * 6 + 5, Option.none⟩ = some (.slice z.p z.ms.length z.c) := fun X kx =>
            ⟨(kx.cell lA (fun e => e)).trans a1, (kx.cell lA (fun e => e)).trans a2, (kx.cell hgl (fun e => e)).trans c0, (kx.cell hgl' (fun e => e)).trans d0, (kx.cell hgl' (fun e => e)).trans d1, (kx.cell hgl' (fun e => e)).trans d2, (kx.cell hgl' (fun e => e)).trans d3, (kx.cell hgl' (fun e => e)).trans d4, (kx.cell hgl' (fun e => e)).trans d5⟩
          have HS := hid hS
          have HE2 := hid (show ∀ X, Keeps Nil wr X → X.cell? ⟨g, off + j * 4 + 2, Option.none⟩ = some (.int .u8 y.port) from fun X kx => (kx.cell hgl (fun e => e)).trans c2)
          have HAw := hid (show ∀ X, Keeps Nil wr X → X.cell? ⟨w.heap.size, 2, Option.none⟩ = some (.slice (some ⟨g, off, Option.none⟩) τ.E.length cE) from fun X kx => (hS X kx).2.1)
          have HBw := hid (KR.out.lies HB.out)
          clear hy hi hz hzv hzl hzb hp hp' hms HR hS
          go_wp2_with fail
          go_cut [8] (fun s8 wx => ∃ b, s8 = .pointer (some ⟨b, 0, Option.none⟩) ∧ Hid (wx.heap[b]? = some (.cells #[.int .u8 z.lv, .string z.dom, .string z.own, .int .u16 z.vid, .int .u8 z.iv, .slice z.p z.ms.length z.c] 37 (0, 0)) ∧ Keeps Nil wr wx))
          case first =>
            go_region_held3 (fun X => X.cell? ⟨w.heap.size, 1, Option.none⟩ = some (.slice (some ⟨g', off', Option.none⟩) L.length cA) ∧ X.cell? ⟨w.heap.size, 2, Option.none⟩ = some (.slice (some ⟨g, off, Option.none⟩) τ.E.length cE) ∧ X.cell? ⟨g, off + j * 4, Option.none⟩ = some (.int .i64 (i : Int)) ∧ X.cell? ⟨g', off' + i * 6, Option.none⟩ = some (.int .u8 z.lv) ∧ X.cell? ⟨g', off' + i * 6 + 1, Option.none⟩ = some (.string z.dom) ∧ X.cell? ⟨g', off' + i * 6 + 2, Option.none⟩ = some (.string z.own) ∧ X.cell? ⟨g', off' + i * 6 + 3, Option.none⟩ = some (.int .u16 z.vid) ∧ X.cell? ⟨g', off' + i * 6 + 4, Option.none⟩ = some (.int .u8 z.iv) ∧ X.cell? ⟨g', off' + i * 6 + 5, Option.none⟩ = some (.slice z.p z.ms.length z.c)) ((refine HS.out _ ?_; repeat' (first | exact Keeps.refl _ _ | refine Keeps.drew ?_ | refine Keeps.alloc ?_ _ | refine Keeps.setCell ?_ (fun h => absurd h (Nat.lt_irrefl _)) _))) (fail)
            all_goals (go_wp2_with fail; go_meet)
            exact ⟨_, rfl, hid ⟨alloc_block wr _, ((Keeps.refl _ _).alloc _).drew⟩⟩
          case rest =>
            obtain ⟨b, rfl, HC8⟩ := hcut
            have KC := hid (KR.out.trans HC8.out.2)
            have e2 := HE2.out wc HC8.out.2
            have hgc : g < wc.heap.size := Nat.lt_of_lt_of_le hgl HC8.out.2.size
            have lAc : w.heap.size < wc.heap.size := Nat.lt_of_lt_of_le lA HC8.out.2.size
            clear a0 a1 a2 a3 m0 m1 m2 lB c0 c1 c2 c3 d0 d1 d2 d3 d4 d5
            have a2 := HAw.out wc HC8.out.2
            obtain ⟨m0, m1, m2⟩ := three_block (HC8.out.2.lies HBw.out)
            have lB := lt_of_block (HC8.out.2.lies HBw.out)
            obtain ⟨z0, z1, z2, z3, z4, z5⟩ := six_block HC8.out.1
            have lz := lt_of_block HC8.out.1
            cases q1 : (y.port == m.port) with
            | false =>
              have HN := NX.out (by rw [HH.out]; simp at q1; simp [q1])
              go_wp2_with fail
              go_quiet (fail)
              go_wp2_with fail
              go_roundw
              case rel => exact ⟨j + 1, by omega, by go_num, hid ⟨KC.out.trans (Keeps.drewN _ _), HN.out⟩⟩
              case measure => simp only [intOf]; omega
            | true =>
              cases q2 : (z.vid == m.vid) with
              | false =>
                have HN := NX.out (by rw [HH.out]; simp at q2; simp [q2])
                go_wp2_with fail
                go_quiet (fail)
                go_wp2_with fail
                go_roundw
                case rel => exact ⟨j + 1, by omega, by go_num, hid ⟨KC.out.trans (Keeps.drewN _ _), HN.out⟩⟩
                case measure => simp only [intOf]; omega
              | true =>
                cases q3 : decide (m.lv ≤ z.lv) with
                | false =>
                  have HN := NX.out (by rw [HH.out, q3]; simp)
                  have q3' : ¬ m.lv ≤ z.lv := by simpa using q3
                  go_wp2_with fail
                  go_quiet (fail)
                  go_wp2_with fail
                  go_roundw
                  case rel => exact ⟨j + 1, by omega, by go_num, hid ⟨KC.out.trans (Keeps.drewN _ _), HN.out⟩⟩
                  case measure => simp only [intOf]; omega
                | true =>
                  have HD := hid (show τ.addMip m = (τ, 9) by rw [HDP2.out, if_pos (any_at (fun x => hiE m.port m.vid m.lv (τ.of x) x) HX.out (by rw [HH.out, q3]; simp at q1 q2; simp [q1, q2]))])
                  have q3' : m.lv ≤ z.lv := by simpa using q3
                  go_wp2_with fail
                  go_quiet (fail)
                  have KN := hid (KC.out.trans (Keeps.drewN wc nq))
                  clear e2 hgc lAc a2 m0 m1 m2 lB z0 z1 z2 z3 z4 z5 lz
                  generalize wc.drewN nq = W7 at *
                  go_upto_region 13 with (fail)
                  have KK := hid (KN.out)
                  have hAr := KK.out.lies HA.out
                  have hCr := KK.out.lies HC.out
                  obtain ⟨a0, a1, a2, a3⟩ := four_block hAr
                  obtain ⟨z0, z1, z2, z3⟩ := four_block hCr
                  obtain ⟨f0, f1, f2, f3⟩ := four_free hCr
                  have lAr := lt_of_block hAr
                  have lCr := lt_of_block hCr
                  have HCR := hid hCr
                  clear hAr hCr
                  go_wp2_with fail
                  obtain ⟨w3, hw2, hF, k2⟩ := set4 HCR.out (.int .i64 τ.n) (.slice pA L.length cA) (.slice pE τ.E.length cE) (.slice pM R.length cM)
                  rw [hw2]
                  obtain ⟨x0, x1, x2, x3⟩ := four_block hF
                  clear z0 z1 z2 z3 f0 f1 f2 f3 a0 a1 a2 a3 hw2
                  have KF := hid ((KZ.out.trans KK.out).thenAt k2 (by omega))
                  refine bodyPost_ret (v := .tuple #[.agg #[.int .i64 τ.n, .slice pA L.length cA, .slice pE τ.E.length cE, .slice pM R.length cM], .int .i64 9]) (by simp [results, Try.results26, go_sem, x0, x1, x2, x3]) rfl ?_
                  rw [HD.out]
                  exact ⟨⟨_, rfl, ((H0.out.keepN KF.out).more).rv⟩, KF.out⟩
        · obtain rfl : j = τ.E.length := by omega
          have HD := hid (show τ.addMip m = ({ τ with M := sput τ.M ⟨m.port, m.vid⟩ m.lv }, 0) by rw [HDP2.out, any_of _ (Nat.le_refl _) HR.out.2]; rfl)
          clear HR hlt hj
          go_upto_region 14 with (fail)
          clear a0 a1 a2 a3 m0 m1 m2 lA lB
          have HAw := hid (KR.out.lies HA.out)
          have HBw := hid (KR.out.lies HB.out)
          have HCw := hid (KR.out.lies HC.out)
          have HROW := hid (H0.out.rowM.keepN (KZ.out.trans KR.out))
          have hlB := lt_of_block HBw.out
          have hlA0 := lt_of_block HAw.out
          obtain ⟨i0, hi0, hz0, hz1, hz2⟩ := info_parts rinfoM
          have HIN := hid (And.intro hi0 (And.intro hz0 (And.intro hz1 hz2)))
          have hS : ∀ X, Keeps (At w.heap.size) wr X → X.cell? ⟨b1, 0, Option.none⟩ = some (.int .u8 m.port) ∧ X.cell? ⟨b1, 1, Option.none⟩ = some (.int .u16 m.vid) ∧ X.cell? ⟨b1, 2, Option.none⟩ = some (.int .u8 m.lv) := fun X kx =>
            three_block (kx.lies HBw.out (fun e => by rw [At] at e; omega))
          have HS := hid hS
          have kk : Keeps Nil wr wr := Keeps.refl _ _
          obtain ⟨a0, a1, a2, a3⟩ := four_block HAw.out
          clear hS hi0 hz0 hz1 hz2
          go_cut [105] (fun sO wx => ∃ p2 c2, sO = .slice p2 (R.length + 1) c2 ∧ Hid (wx.heap[w.heap.size]? = some (.cells #[.int .i64 τ.n, .slice pA L.length cA, .slice pE τ.E.length cE, .slice p2 (R.length + 1) c2] 34 (0, 0)) ∧ wx.ownsRow wr.heap.size 41 3 (.slice p2 (R.length + 1) c2) (R.length + 1) (flatM (R ++ [m])) ∧ Keeps (At w.heap.size) wr wx))
          case first =>
            refine wp_region_held_drew (S := (fun X => X.cell? ⟨b1, 0, Option.none⟩ = some (.int .u8 m.port) ∧ X.cell? ⟨b1, 1, Option.none⟩ = some (.int .u16 m.vid) ∧ X.cell? ⟨b1, 2, Option.none⟩ = some (.int .u8 m.lv))) (by kernel_rfl) ?_ (fun hHeld => ?_)
            · (try dsimp only); exact HS.out _ kk.drew.ofNil
            refine wpAnyH_take (i := 0) (v := ?_) rfl (by kernel_rfl) (by kernel_rfl) (by kernel_rfl) (fun _ _ _ h => h) (Or.inl ⟨by rfl, ?_⟩) (by assumption) ?_
            rotate_left
            · (intro W hSw; (try dsimp only at hSw); go_simp <;> with_reducible rfl)
            try simp only [Act.put, List.setIfInBounds_toArray, List.set_cons_zero, List.set_cons_succ, List.getElem_toArray, List.getElem_cons_zero, List.getElem_cons_succ]
            refine wpAnyH_take (i := 3) (v := ?_) rfl (by kernel_rfl) (by kernel_rfl) (by kernel_rfl) (fun _ _ _ h => h) (Or.inl ⟨by rfl, ?_⟩) (by assumption) ?_
            rotate_left
            · (intro W hSw; (try dsimp only at hSw); go_simp <;> with_reducible rfl)
            try simp only [Act.put, List.setIfInBounds_toArray, List.set_cons_zero, List.set_cons_succ, List.getElem_toArray, List.getElem_cons_zero, List.getElem_cons_succ]
            refine wpAnyH_ready (rs := [1, 4]) (by kernel_rfl) (by simp) ?_
            refine AllReadyH.cons rfl (fun K hK => ?_) (AllReadyH.cons rfl (fun K hK => ?_) AllReadyH.nil)
            · try simp only [Act.put, List.setIfInBounds_toArray, List.set_cons_zero, List.set_cons_succ, List.getElem_toArray, List.getElem_cons_zero, List.getElem_cons_succ]
              go_simp
              refine hK.out _ _ ?_ (fun hHeld => ?_)
              · (try dsimp only); exact HS.out _ kk.drew.ofNil
              clear hK K
              try simp only [Act.put, List.setIfInBounds_toArray, List.set_cons_zero, List.set_cons_succ, List.getElem_toArray, List.getElem_cons_zero, List.getElem_cons_succ]
              refine wpAnyH_ready (rs := [2, 4]) (by kernel_rfl) (by simp) ?_
              refine AllReadyH.cons rfl (fun K hK => ?_) (AllReadyH.cons rfl (fun K hK => ?_) AllReadyH.nil)
              · refine step_append_wv (o := ⟨some 102, _, _, _, _, _⟩) _ (by rfl) _ _ 32 (by rfl) wr.heap.size 41 i0 (.agg #[.int .u8 0, .int .u16 0, .int .u8 0]) 3 6 Try.underlying32 HIN.out.1 HIN.out.2.1 HIN.out.2.2.1 HIN.out.2.2.2 rfl (by decide) (.slice Option.none 0 0) 0 [] (by rfl) (World.ownsRow_nil _ _ _ _) 0 pM R.length cM (flatM R) (by rfl) (HROW.out.keepN ((Keeps.refl Nil wr).drew)) (flatM_one _) (by unfold maxLen; omega) (by omega) (Keeps.size (S := Nil) ((Keeps.refl Nil wr).drew)) ?_
                intro v1 w1 own1 hg1 hat1
                have kw1 := hid (((Keeps.refl Nil wr).drew).trans (grown_nil hg1))
                refine hK.out _ _ ?_ (fun hHeld => ?_)
                · (try dsimp only); exact HS.out _ kw1.out.ofNil
                clear hK K
                try simp only [Act.put, List.setIfInBounds_toArray, List.set_cons_zero, List.set_cons_succ, List.getElem_toArray, List.getElem_cons_zero, List.getElem_cons_succ]
                refine wpAnyH_ready (rs := [4]) (by kernel_rfl) (by simp) ?_
                refine AllReadyH.cons rfl (fun K hK => ?_) AllReadyH.nil
                try simp only [Act.put, List.setIfInBounds_toArray, List.set_cons_zero, List.set_cons_succ, List.getElem_toArray, List.getElem_cons_zero, List.getElem_cons_succ]
                go_simp
                refine hK.out _ _ ?_ (fun hHeld => ?_)
                · (try dsimp only); exact HS.out _ (kw1.out.alloc _).ofNil
                clear hK K
                try simp only [Act.put, List.setIfInBounds_toArray, List.set_cons_zero, List.set_cons_succ, List.getElem_toArray, List.getElem_cons_zero, List.getElem_cons_succ]
                refine wpAnyH_ready (rs := [5]) (by kernel_rfl) (by simp) ?_
                refine AllReadyH.cons rfl (fun K hK => ?_) AllReadyH.nil
                refine step_append_wv (o := ⟨some 105, _, _, _, _, _⟩) _ (by rfl) _ _ 32 (by rfl) wr.heap.size 41 i0 (.agg #[.int .u8 0, .int .u16 0, .int .u8 0]) 3 6 Try.underlying32 HIN.out.1 HIN.out.2.1 HIN.out.2.2.1 HIN.out.2.2.2 rfl (by decide) v1 _ _ (by rfl) (ownsRow_keep own1 ((Keeps.refl Nil w1).alloc _) (fun _ _ e => e)) 0 (some ⟨w1.heap.size, 0, Option.none⟩) 1 1 [.int .u8 m.port, .int .u16 m.vid, .int .u8 m.lv] (by rfl) (WV.new w1 #[.int .u8 m.port, .int .u16 m.vid, .int .u8 m.lv] 41 3 rfl) (by simp [Value.oneCell']) (by unfold maxLen; omega) (by omega) (Nat.le_trans kw1.out.size (by simp)) ?_
                intro v2 w2' own2 hg2 hat2
                have kw2 := hid (grown_own own1 hg2 (Nat.le_refl _) (kw1.out.alloc _))
                have hbA := kw2.out.lies HAw.out
                obtain ⟨y0, y1, y2, y3⟩ := four_block hbA
                obtain ⟨y4, y5, y6, y7⟩ := four_free hbA
                have lbA := lt_of_block hbA
                obtain ⟨p2, c2, hv2⟩ := own_shape own2
                subst hv2
                have HY := hid hbA
                clear hbA
                refine hK.out _ _ ?_ (fun hHeld => ?_)
                · (try dsimp only); exact HS.out _ kw2.out.ofNil
                clear hK K
                try simp only [Act.put, List.setIfInBounds_toArray, List.set_cons_zero, List.set_cons_succ, List.getElem_toArray, List.getElem_cons_zero, List.getElem_cons_succ]
                refine wpAnyH_take (i := 6) (v := ?_) rfl (by kernel_rfl) (by kernel_rfl) (by kernel_rfl) (fun _ _ _ h => h) (Or.inl ⟨by rfl, ?_⟩) (by assumption) ?_
                rotate_left
                · (intro W hSw; (try dsimp only at hSw); go_simp <;> with_reducible rfl)
                try simp only [Act.put, List.setIfInBounds_toArray, List.set_cons_zero, List.set_cons_succ, List.getElem_toArray, List.getElem_cons_zero, List.getElem_cons_succ]
                refine wpAnyH_ready (rs := [7]) (by kernel_rfl) (by simp) ?_
                refine AllReadyH.cons rfl (fun K hK => ?_) AllReadyH.nil
                try simp only [Act.put, List.setIfInBounds_toArray, List.set_cons_zero, List.set_cons_succ, List.getElem_toArray, List.getElem_cons_zero, List.getElem_cons_succ]
                go_simp
                refine hK.out _ _ ?_ (fun hHeld => ?_)
                · (try dsimp only); exact HS.out _ (kw2.out.ofNil.set _ _ (at_self _) _)
                clear hK K
                try simp only [Act.put, List.setIfInBounds_toArray, List.set_cons_zero, List.set_cons_succ, List.getElem_toArray, List.getElem_cons_zero, List.getElem_cons_succ]
                refine wpAnyH_done (by kernel_rfl) ?_ _
                go_wp2_with fail
                go_meet
                have hacc : w2'.ownsRow wr.heap.size 41 3 (.slice p2 (R.length + 1) c2) (R.length + 1) (flatM (R ++ [m])) := by
                  have e1 : flatM (R ++ [m]) = [] ++ flatM R ++ [.int .u8 m.port, .int .u16 m.vid, .int .u8 m.lv] := by rw [flatM_append]; simp [flatM]
                  rw [e1]
                  simpa using own2
                have ks : Keeps (At w.heap.size) w2' (w2'.setCell ⟨w.heap.size, 3, Option.none⟩ (.slice p2 (R.length + 1) c2)) := (Keeps.refl _ _).set _ _ (at_self _) _
                exact ⟨p2, c2, by simp, hid ⟨by have := setCell_block HY.out 3 (.slice p2 (R.length + 1) c2); simpa using this, ownsRow_keep hacc ks (fun g hg e => by rw [At] at e; have := lt_of_block HAw.out; omega), kw2.out.ofNil.trans ks⟩⟩
              · try simp only [Act.put, List.setIfInBounds_toArray, List.set_cons_zero, List.set_cons_succ, List.getElem_toArray, List.getElem_cons_zero, List.getElem_cons_succ]
                go_simp
                refine hK.out _ _ ?_ (fun hHeld => ?_)
                · (try dsimp only); first | exact HS.out _ (kk.alloc _).drew.ofNil | exact HS.out _ (kk.drew.alloc _).ofNil
                clear hK K
                try simp only [Act.put, List.setIfInBounds_toArray, List.set_cons_zero, List.set_cons_succ, List.getElem_toArray, List.getElem_cons_zero, List.getElem_cons_succ]
                refine wpAnyH_ready (rs := [2]) (by kernel_rfl) (by simp) ?_
                refine AllReadyH.cons rfl (fun K hK => ?_) AllReadyH.nil
                refine step_append_wv (o := ⟨some 102, _, _, _, _, _⟩) _ (by rfl) _ _ 32 (by rfl) wr.heap.size 41 i0 (.agg #[.int .u8 0, .int .u16 0, .int .u8 0]) 3 6 Try.underlying32 HIN.out.1 HIN.out.2.1 HIN.out.2.2.1 HIN.out.2.2.2 rfl (by decide) (.slice Option.none 0 0) 0 [] (by rfl) (World.ownsRow_nil _ _ _ _) 0 pM R.length cM (flatM R) (by rfl) (HROW.out.keepN (((Keeps.refl Nil wr).alloc (.cells #[.int .u8 m.port, .int .u16 m.vid, .int .u8 m.lv] 41 (0, 0))).drew)) (flatM_one _) (by unfold maxLen; omega) (by omega) (Keeps.size (S := Nil) (((Keeps.refl Nil wr).alloc (.cells #[.int .u8 m.port, .int .u16 m.vid, .int .u8 m.lv] 41 (0, 0))).drew)) ?_
                intro v1 w1 own1 hg1 hat1
                have kw1 := hid ((((Keeps.refl Nil wr).alloc (.cells #[.int .u8 m.port, .int .u16 m.vid, .int .u8 m.lv] 41 (0, 0))).drew).trans (grown_nil hg1))
                refine hK.out _ _ ?_ (fun hHeld => ?_)
                · (try dsimp only); exact HS.out _ kw1.out.ofNil
                clear hK K
                try simp only [Act.put, List.setIfInBounds_toArray, List.set_cons_zero, List.set_cons_succ, List.getElem_toArray, List.getElem_cons_zero, List.getElem_cons_succ]
                refine wpAnyH_ready (rs := [5]) (by kernel_rfl) (by simp) ?_
                refine AllReadyH.cons rfl (fun K hK => ?_) AllReadyH.nil
                refine step_append_wv (o := ⟨some 105, _, _, _, _, _⟩) _ (by rfl) _ _ 32 (by rfl) wr.heap.size 41 i0 (.agg #[.int .u8 0, .int .u16 0, .int .u8 0]) 3 6 Try.underlying32 HIN.out.1 HIN.out.2.1 HIN.out.2.2.1 HIN.out.2.2.2 rfl (by decide) v1 _ _ (by rfl) own1 0 (some ⟨wr.heap.size, 0, Option.none⟩) 1 1 [.int .u8 m.port, .int .u16 m.vid, .int .u8 m.lv] (by rfl) ((WV.new wr #[.int .u8 m.port, .int .u16 m.vid, .int .u8 m.lv] 41 3 rfl).keepN ((Keeps.refl Nil (wr.alloc (.cells #[.int .u8 m.port, .int .u16 m.vid, .int .u8 m.lv] 41 (0, 0)))).drew.trans (grown_nil hg1))) (by simp [Value.oneCell']) (by unfold maxLen; omega) (by omega) kw1.out.size ?_
                intro v2 w2' own2 hg2 hat2
                have kw2 := hid (grown_own own1 hg2 (Nat.le_refl _) kw1.out)
                have hbA := kw2.out.lies HAw.out
                obtain ⟨y0, y1, y2, y3⟩ := four_block hbA
                obtain ⟨y4, y5, y6, y7⟩ := four_free hbA
                have lbA := lt_of_block hbA
                obtain ⟨p2, c2, hv2⟩ := own_shape own2
                subst hv2
                have HY := hid hbA
                clear hbA
                refine hK.out _ _ ?_ (fun hHeld => ?_)
                · (try dsimp only); exact HS.out _ kw2.out.ofNil
                clear hK K
                try simp only [Act.put, List.setIfInBounds_toArray, List.set_cons_zero, List.set_cons_succ, List.getElem_toArray, List.getElem_cons_zero, List.getElem_cons_succ]
                refine wpAnyH_take (i := 6) (v := ?_) rfl (by kernel_rfl) (by kernel_rfl) (by kernel_rfl) (fun _ _ _ h => h) (Or.inl ⟨by rfl, ?_⟩) (by assumption) ?_
                rotate_left
                · (intro W hSw; (try dsimp only at hSw); go_simp <;> with_reducible rfl)
                try simp only [Act.put, List.setIfInBounds_toArray, List.set_cons_zero, List.set_cons_succ, List.getElem_toArray, List.getElem_cons_zero, List.getElem_cons_succ]
                refine wpAnyH_ready (rs := [7]) (by kernel_rfl) (by simp) ?_
                refine AllReadyH.cons rfl (fun K hK => ?_) AllReadyH.nil
                try simp only [Act.put, List.setIfInBounds_toArray, List.set_cons_zero, List.set_cons_succ, List.getElem_toArray, List.getElem_cons_zero, List.getElem_cons_succ]
                go_simp
                refine hK.out _ _ ?_ (fun hHeld => ?_)
                · (try dsimp only); exact HS.out _ (kw2.out.ofNil.set _ _ (at_self _) _)
                clear hK K
                try simp only [Act.put, List.setIfInBounds_toArray, List.set_cons_zero, List.set_cons_succ, List.getElem_toArray, List.getElem_cons_zero, List.getElem_cons_succ]
                refine wpAnyH_done (by kernel_rfl) ?_ _
                go_wp2_with fail
                go_meet
                have hacc : w2'.ownsRow wr.heap.size 41 3 (.slice p2 (R.length + 1) c2) (R.length + 1) (flatM (R ++ [m])) := by
                  have e1 : flatM (R ++ [m]) = [] ++ flatM R ++ [.int .u8 m.port, .int .u16 m.vid, .int .u8 m.lv] := by rw [flatM_append]; simp [flatM]
                  rw [e1]
                  simpa using own2
                have ks : Keeps (At w.heap.size) w2' (w2'.setCell ⟨w.heap.size, 3, Option.none⟩ (.slice p2 (R.length + 1) c2)) := (Keeps.refl _ _).set _ _ (at_self _) _
                exact ⟨p2, c2, by simp, hid ⟨by have := setCell_block HY.out 3 (.slice p2 (R.length + 1) c2); simpa using this, ownsRow_keep hacc ks (fun g hg e => by rw [At] at e; have := lt_of_block HAw.out; omega), kw2.out.ofNil.trans ks⟩⟩
            · try simp only [Act.put, List.setIfInBounds_toArray, List.set_cons_zero, List.set_cons_succ, List.getElem_toArray, List.getElem_cons_zero, List.getElem_cons_succ]
              go_simp
              refine hK.out _ _ ?_ (fun hHeld => ?_)
              · (try dsimp only); first | exact HS.out _ (kk.alloc _).drew.ofNil | exact HS.out _ (kk.drew.alloc _).ofNil
              clear hK K
              try simp only [Act.put, List.setIfInBounds_toArray, List.set_cons_zero, List.set_cons_succ, List.getElem_toArray, List.getElem_cons_zero, List.getElem_cons_succ]
              refine wpAnyH_ready (rs := [1]) (by kernel_rfl) (by simp) ?_
              refine AllReadyH.cons rfl (fun K hK => ?_) AllReadyH.nil
              try simp only [Act.put, List.setIfInBounds_toArray, List.set_cons_zero, List.set_cons_succ, List.getElem_toArray, List.getElem_cons_zero, List.getElem_cons_succ]
              go_simp
              refine hK.out _ _ ?_ (fun hHeld => ?_)
              · (try dsimp only); first | exact HS.out _ (kk.alloc _).drew.ofNil | exact HS.out _ (kk.drew.alloc _).ofNil
              clear hK K
              try simp only [Act.put, List.setIfInBounds_toArray, List.set_cons_zero, List.set_cons_succ, List.getElem_toArray, List.getElem_cons_zero, List.getElem_cons_succ]
              refine wpAnyH_ready (rs := [2]) (by kernel_rfl) (by simp) ?_
              refine AllReadyH.cons rfl (fun K hK => ?_) AllReadyH.nil
              refine step_append_wv (o := ⟨some 102, _, _, _, _, _⟩) _ (by rfl) _ _ 32 (by rfl) wr.heap.size 41 i0 (.agg #[.int .u8 0, .int .u16 0, .int .u8 0]) 3 6 Try.underlying32 HIN.out.1 HIN.out.2.1 HIN.out.2.2.1 HIN.out.2.2.2 rfl (by decide) (.slice Option.none 0 0) 0 [] (by rfl) (World.ownsRow_nil _ _ _ _) 0 pM R.length cM (flatM R) (by rfl) (HROW.out.keepN (((Keeps.refl Nil wr).alloc (.cells #[.int .u8 m.port, .int .u16 m.vid, .int .u8 m.lv] 41 (0, 0))).drew)) (flatM_one _) (by unfold maxLen; omega) (by omega) (Keeps.size (S := Nil) (((Keeps.refl Nil wr).alloc (.cells #[.int .u8 m.port, .int .u16 m.vid, .int .u8 m.lv] 41 (0, 0))).drew)) ?_
              intro v1 w1 own1 hg1 hat1
              have kw1 := hid ((((Keeps.refl Nil wr).alloc (.cells #[.int .u8 m.port, .int .u16 m.vid, .int .u8 m.lv] 41 (0, 0))).drew).trans (grown_nil hg1))
              refine hK.out _ _ ?_ (fun hHeld => ?_)
              · (try dsimp only); exact HS.out _ kw1.out.ofNil
              clear hK K
              try simp only [Act.put, List.setIfInBounds_toArray, List.set_cons_zero, List.set_cons_succ, List.getElem_toArray, List.getElem_cons_zero, List.getElem_cons_succ]
              refine wpAnyH_ready (rs := [5]) (by kernel_rfl) (by simp) ?_
              refine AllReadyH.cons rfl (fun K hK => ?_) AllReadyH.nil
              refine step_append_wv (o := ⟨some 105, _, _, _, _, _⟩) _ (by rfl) _ _ 32 (by rfl) wr.heap.size 41 i0 (.agg #[.int .u8 0, .int .u16 0, .int .u8 0]) 3 6 Try.underlying32 HIN.out.1 HIN.out.2.1 HIN.out.2.2.1 HIN.out.2.2.2 rfl (by decide) v1 _ _ (by rfl) own1 0 (some ⟨wr.heap.size, 0, Option.none⟩) 1 1 [.int .u8 m.port, .int .u16 m.vid, .int .u8 m.lv] (by rfl) ((WV.new wr #[.int .u8 m.port, .int .u16 m.vid, .int .u8 m.lv] 41 3 rfl).keepN ((Keeps.refl Nil (wr.alloc (.cells #[.int .u8 m.port, .int .u16 m.vid, .int .u8 m.lv] 41 (0, 0)))).drew.trans (grown_nil hg1))) (by simp [Value.oneCell']) (by unfold maxLen; omega) (by omega) kw1.out.size ?_
              intro v2 w2' own2 hg2 hat2
              have kw2 := hid (grown_own own1 hg2 (Nat.le_refl _) kw1.out)
              have hbA := kw2.out.lies HAw.out
              obtain ⟨y0, y1, y2, y3⟩ := four_block hbA
              obtain ⟨y4, y5, y6, y7⟩ := four_free hbA
              have lbA := lt_of_block hbA
              obtain ⟨p2, c2, hv2⟩ := own_shape own2
              subst hv2
              have HY := hid hbA
              clear hbA
              refine hK.out _ _ ?_ (fun hHeld => ?_)
              · (try dsimp only); exact HS.out _ kw2.out.ofNil
              clear hK K
              try simp only [Act.put, List.setIfInBounds_toArray, List.set_cons_zero, List.set_cons_succ, List.getElem_toArray, List.getElem_cons_zero, List.getElem_cons_succ]
              refine wpAnyH_take (i := 6) (v := ?_) rfl (by kernel_rfl) (by kernel_rfl) (by kernel_rfl) (fun _ _ _ h => h) (Or.inl ⟨by rfl, ?_⟩) (by assumption) ?_
              rotate_left
              · (intro W hSw; (try dsimp only at hSw); go_simp <;> with_reducible rfl)
              try simp only [Act.put, List.setIfInBounds_toArray, List.set_cons_zero, List.set_cons_succ, List.getElem_toArray, List.getElem_cons_zero, List.getElem_cons_succ]
              refine wpAnyH_ready (rs := [7]) (by kernel_rfl) (by simp) ?_
              refine AllReadyH.cons rfl (fun K hK => ?_) AllReadyH.nil
              try simp only [Act.put, List.setIfInBounds_toArray, List.set_cons_zero, List.set_cons_succ, List.getElem_toArray, List.getElem_cons_zero, List.getElem_cons_succ]
              go_simp
              refine hK.out _ _ ?_ (fun hHeld => ?_)
              · (try dsimp only); exact HS.out _ (kw2.out.ofNil.set _ _ (at_self _) _)
              clear hK K
              try simp only [Act.put, List.setIfInBounds_toArray, List.set_cons_zero, List.set_cons_succ, List.getElem_toArray, List.getElem_cons_zero, List.getElem_cons_succ]
              refine wpAnyH_done (by kernel_rfl) ?_ _
              go_wp2_with fail
              go_meet
              have hacc : w2'.ownsRow wr.heap.size 41 3 (.slice p2 (R.length + 1) c2) (R.length + 1) (flatM (R ++ [m])) := by
                have e1 : flatM (R ++ [m]) = [] ++ flatM R ++ [.int .u8 m.port, .int .u16 m.vid, .int .u8 m.lv] := by rw [flatM_append]; simp [flatM]
                rw [e1]
                simpa using own2
              have ks : Keeps (At w.heap.size) w2' (w2'.setCell ⟨w.heap.size, 3, Option.none⟩ (.slice p2 (R.length + 1) c2)) := (Keeps.refl _ _).set _ _ (at_self _) _
              exact ⟨p2, c2, by simp, hid ⟨by have := setCell_block HY.out 3 (.slice p2 (R.length + 1) c2); simpa using this, ownsRow_keep hacc ks (fun g hg e => by rw [At] at e; have := lt_of_block HAw.out; omega), kw2.out.ofNil.trans ks⟩⟩
          case rest =>
            obtain ⟨p2, c2, rfl, HO⟩ := hcut
            have hlC := lt_of_block HCw.out
            have hCr := HO.out.2.2.lies HCw.out (fun e => by rw [At] at e; omega)
            obtain ⟨a0, a1, a2, a3⟩ := four_block HO.out.1
            obtain ⟨z0, z1, z2, z3⟩ := four_block hCr
            obtain ⟨f0, f1, f2, f3⟩ := four_free hCr
            have lAr := lt_of_block HO.out.1
            have lCr := lt_of_block hCr
            have HCR := hid hCr
            clear hCr
            go_wp2_with fail
            obtain ⟨w2, hw2, hF, k2⟩ := set4 HCR.out (.int .i64 τ.n) (.slice pA L.length cA) (.slice pE τ.E.length cE) (.slice p2 (R.length + 1) c2)
            rw [hw2]
            obtain ⟨x0, x1, x2, x3⟩ := four_block hF
            clear z0 z1 z2 z3 f0 f1 f2 f3 a0 a1 a2 a3 hw2
            have KF := hid ((((KZ.out.trans KR.out).thenAt HO.out.2.2 (Nat.le_refl _))).thenAt k2 (by omega))
            have hO := own_mono (ownsRow_keep HO.out.2.1 k2 (fun g hg e => by rw [At] at e; omega)) (Nat.zero_le _)
            refine bodyPost_ret (v := .tuple #[.agg #[.int .i64 τ.n, .slice pA L.length cA, .slice pE τ.E.length cE, .slice p2 (R.length + 1) c2], .int .i64 0]) (by simp [results, Try.results26, go_sem, x0, x1, x2, x3]) rfl ?_
            rw [HD.out]
            have HF := H0.out.keepN KF.out
            exact ⟨⟨_, rfl, ⟨_, _, _, _, p2, c2, L, R ++ [m], by simp, HF.base, HF.ownA, HF.bare, HF.nums, HF.ownE, by simpa using hO, HF.mat.put HNO.out⟩⟩, KF.out⟩
end Go.Proofs.Ytbgijlfdgfhceaa
