/-
  Layer 16: the document's table: AddMep. Conditions: it lies so; the numbers are in range.
-/
import Derived.Test.YtbgijlfdgfhceaaRHelp
import Derived.Test.YtbgijlfdgfhceaaAddMep
import Derived.Deep.RegionHeld3
import Derived.BigGuard
namespace Go.Proofs.Ytbgijlfdgfhceaa
open Go.RowKit
set_option linter.unusedVariables false
set_option linter.unusedSimpArgs false
set_option maxRecDepth 8000


set_option maxHeartbeats 16000000 in
theorem r_addmep (m : Me) (hm : m.Ok) (k : Nat) {w0 w : World} {τ : CT} {x : Value} (h : RV w0 w k τ x) (hg : τ.Good) (hk : k ≤ 100) :
    Calls Try.prog 24 #[x, .agg #[.int .i64 m.ai, .int .u16 m.id, .int .u8 m.port, .bool m.up]] w fun e w' => (∃ v', e = .returned (.tuple #[v', .int .i64 (τ.addMep m).2]) ∧ RV w0 w' (k + 1) (τ.addMep m).1 v') ∧ Keeps Nil w w' := by
  obtain ⟨pA, cA, pE, cE, pM, cM, L, R, rfl, h⟩ := h
  obtain ⟨hA, hB, hC⟩ := three_alloc w (.cells #[.int .i64 τ.n, .slice pA L.length cA, .slice pE τ.E.length cE, .slice pM R.length cM] 34 (0, 0)) (.cells #[.int .i64 m.ai, .int .u16 m.id, .int .u8 m.port, .bool m.up] 39 (0, 0)) (.cells #[.int .i64 0, .slice Option.none 0 0, .slice Option.none 0 0, .slice Option.none 0 0] 34 (0, 0))
  have kz : Keeps Nil w (((w.alloc (.cells #[.int .i64 τ.n, .slice pA L.length cA, .slice pE τ.E.length cE, .slice pM R.length cM] 34 (0, 0))).alloc (.cells #[.int .i64 m.ai, .int .u16 m.id, .int .u8 m.port, .bool m.up] 39 (0, 0))).alloc (.cells #[.int .i64 0, .slice Option.none 0 0, .slice Option.none 0 0, .slice Option.none 0 0] 34 (0, 0))) := (((Keeps.refl _ _).alloc _).alloc _).alloc _
  have KZ := hid kz
  have H0 := hid h
  have HG := hid hg
  have hlE := hg.E
  have hlR : R.length ≤ 100 := Nat.le_trans h.mat.len hk
  have hlA : L.length ≤ 8 := by have := h.lenA; have := hg.A; omega
  have hncE := h.rowE.2.1
  have hncA := h.rowA.2.1
  have hncM := h.rowM.2.1
  have HA := hid hA
  have HB := hid hB
  have HC := hid hC
  have hasc : τ.asc m.ai = Option.none ∧ (m.ai < 0 ∨ (L.length : Int) ≤ m.ai) ∨ ∃ (i : Nat) (y : As), m.ai = i ∧ L[i]? = some y ∧ τ.asc m.ai = some y.bare := by
    rcases asc_cases τ m.ai with ⟨h1, h2⟩ | ⟨i, y, h1, h2, h3⟩
    · exact .inl ⟨h1, by rw [h.lenA]; exact h2⟩
    · rw [h.getA] at h2
      cases hy : L[i]? with
      | none => rw [hy] at h2; cases h2
      | some z => rw [hy] at h2; injection h2 with h2; exact .inr ⟨i, z, h1, hy, by rw [h3, ← h2]⟩
  have hp0 : 0 ≤ m.port := hm.1.1
  have hp1 : m.port < 256 := hm.1.2
  clear kz h hg hA hB hC hm
  go_enter Try.func24, Try.ntmps24
  go_upto_region 1 with (fail)
  generalize (((w.alloc (.cells #[.int .i64 τ.n, .slice pA L.length cA, .slice pE τ.E.length cE, .slice pM R.length cM] 34 (0, 0))).alloc (.cells #[.int .i64 m.ai, .int .u16 m.id, .int .u8 m.port, .bool m.up] 39 (0, 0))).alloc (.cells #[.int .i64 0, .slice Option.none 0 0, .slice Option.none 0 0, .slice Option.none 0 0] 34 (0, 0))) = W at *
  generalize hb2 : w.heap.size + 1 + 1 = b2 at *
  generalize hb1 : w.heap.size + 1 = b1 at *
  have hbs : w.heap.size < b1 ∧ b1 < b2 := by omega
  clear hb1 hb2
  obtain ⟨a0, a1, a2, a3⟩ := four_block HA.out
  obtain ⟨m0, m1, m2, m3⟩ := four_block HB.out
  have lA := lt_of_block HA.out
  have lB := lt_of_block HB.out
  have bad : ∀ (hD : τ.addMep m = (τ, 2)), True := fun _ => trivial
  clear bad
  rcases hasc with ⟨h1, h2⟩ | ⟨i, y, hi, hy, h3⟩
  · have HD := hid (show τ.addMep m = (τ, 2) by unfold CT.addMep; rw [h1])
    clear h1
    by_cases c1 : m.ai < 0
    · clear h2
      go_upto_region 2 with (fail)
      clear a0 a1 a2 a3
      have hAr := HA.out
      have hCr := HC.out
      obtain ⟨a0, a1, a2, a3⟩ := four_block hAr
      obtain ⟨z0, z1, z2, z3⟩ := four_block hCr
      obtain ⟨f0, f1, f2, f3⟩ := four_free hCr
      have lAr := lt_of_block hAr
      have lCr := lt_of_block hCr
      have HCR := hid hCr
      have HKC := hid (KZ.out)
      clear hAr hCr
      go_wp2_with fail
      obtain ⟨w2, hw2, hF, k2⟩ := set4 HCR.out (.int .i64 τ.n) (.slice pA L.length cA) (.slice pE τ.E.length cE) (.slice pM R.length cM)
      rw [hw2]
      obtain ⟨y0, y1, y2, y3⟩ := four_block hF
      clear z0 z1 z2 z3 f0 f1 f2 f3 a0 a1 a2 a3 hw2
      have KF := hid (HKC.out.thenAt k2 (by omega))
      refine bodyPost_ret (v := .tuple #[.agg #[.int .i64 τ.n, .slice pA L.length cA, .slice pE τ.E.length cE, .slice pM R.length cM], .int .i64 2]) (by simp [results, Try.results24, go_sem, y0, y1, y2, y3]) rfl ?_
      rw [HD.out]
      exact ⟨⟨_, rfl, ((H0.out.keepN KF.out).more).rv⟩, KF.out⟩
    · have c2 : (L.length : Int) ≤ m.ai := by omega
      clear h2
      go_upto_region 2 with (fail)
      clear a0 a1 a2 a3
      have hAr := HA.out
      have hCr := HC.out
      obtain ⟨a0, a1, a2, a3⟩ := four_block hAr
      obtain ⟨z0, z1, z2, z3⟩ := four_block hCr
      obtain ⟨f0, f1, f2, f3⟩ := four_free hCr
      have lAr := lt_of_block hAr
      have lCr := lt_of_block hCr
      have HCR := hid hCr
      have HKC := hid (KZ.out)
      clear hAr hCr
      go_wp2_with fail
      obtain ⟨w2, hw2, hF, k2⟩ := set4 HCR.out (.int .i64 τ.n) (.slice pA L.length cA) (.slice pE τ.E.length cE) (.slice pM R.length cM)
      rw [hw2]
      obtain ⟨y0, y1, y2, y3⟩ := four_block hF
      clear z0 z1 z2 z3 f0 f1 f2 f3 a0 a1 a2 a3 hw2
      have KF := hid (HKC.out.thenAt k2 (by omega))
      refine bodyPost_ret (v := .tuple #[.agg #[.int .i64 τ.n, .slice pA L.length cA, .slice pE τ.E.length cE, .slice pM R.length cM], .int .i64 2]) (by simp [results, Try.results24, go_sem, y0, y1, y2, y3]) rfl ?_
      rw [HD.out]
      exact ⟨⟨_, rfl, ((H0.out.keepN KF.out).more).rv⟩, KF.out⟩
  · have hil := (List.getElem?_eq_some_iff.1 hy).1
    have c1 : ¬ m.ai < 0 := by omega
    have c2 : ¬ (L.length : Int) ≤ m.ai := by omega
    by_cases c3 : τ.n ≤ m.port
    · have HD := hid (show τ.addMep m = (τ, 2) by unfold CT.addMep; rw [h3]; simp; intro h; omega)
      clear h3 hy hi
      go_upto_region 2 with (fail)
      clear a0 a1 a2 a3
      have hAr := HA.out
      have hCr := HC.out
      obtain ⟨a0, a1, a2, a3⟩ := four_block hAr
      obtain ⟨z0, z1, z2, z3⟩ := four_block hCr
      obtain ⟨f0, f1, f2, f3⟩ := four_free hCr
      have lAr := lt_of_block hAr
      have lCr := lt_of_block hCr
      have HCR := hid hCr
      have HKC := hid (KZ.out)
      clear hAr hCr
      go_wp2_with fail
      obtain ⟨w2, hw2, hF, k2⟩ := set4 HCR.out (.int .i64 τ.n) (.slice pA L.length cA) (.slice pE τ.E.length cE) (.slice pM R.length cM)
      rw [hw2]
      obtain ⟨y0, y1, y2, y3⟩ := four_block hF
      clear z0 z1 z2 z3 f0 f1 f2 f3 a0 a1 a2 a3 hw2
      have KF := hid (HKC.out.thenAt k2 (by omega))
      refine bodyPost_ret (v := .tuple #[.agg #[.int .i64 τ.n, .slice pA L.length cA, .slice pE τ.E.length cE, .slice pM R.length cM], .int .i64 2]) (by simp [results, Try.results24, go_sem, y0, y1, y2, y3]) rfl ?_
      rw [HD.out]
      exact ⟨⟨_, rfl, ((H0.out.keepN KF.out).more).rv⟩, KF.out⟩
    · have HDP := hid (show τ.addMep m = if hasI y.ms m.id then (if τ.E.any (fun x => addB (τ.of x) m y x) then (τ, 8) else if (sget τ.M ⟨m.port, y.vid⟩).isSome && decide ((sget τ.M ⟨m.port, y.vid⟩).getD 0 ≤ y.lv) then (τ, 9) else ({ τ with E := τ.E ++ [m] }, 0)) else (τ, 2) by
        unfold CT.addMep; rw [h3]
        have : decide (m.port < τ.n) = true := by simp; omega
        simp only [this, Bool.true_and]
        rfl)
      have H := hid (H0.out.keepN KZ.out)
      obtain ⟨g', off', hp', _, hgl', _, d0, d1, d2, d3, d4, d5⟩ := H.out.rowA.atA hy
      subst hp'
      have hms := H.out.ms HG.out (List.mem_of_getElem? hy)
      have hl0 : 0 ≤ y.lv := hms.2.1
      have hl7 : y.lv ≤ 7 := hms.2.2
      have hmn : y.ms.length ≤ 8 := hms.1
      have HNU := hid (H0.out.numsW y (List.mem_of_getElem? hy))
      have hil' : (i : Int) < (L.length : Int) := by omega
      rw [hi] at m0 c1 c2
      have HI := hid hi
      have HYY := hid hy
      clear h3 hms hy hi
      go_upto_region 4 with (fail)
      have k3 : Keeps Nil W (W.alloc (.cells #[.int .u8 y.lv, .string y.dom, .string y.own, .int .u16 y.vid, .int .u8 y.iv, .slice y.p y.ms.length y.c] 37 (0, 0))) := (Keeps.refl _ _).alloc _
      have h6 := alloc_block W (.cells #[.int .u8 y.lv, .string y.dom, .string y.own, .int .u16 y.vid, .int .u8 y.iv, .slice y.p y.ms.length y.c] 37 (0, 0))
      generalize (W.alloc (.cells #[.int .u8 y.lv, .string y.dom, .string y.own, .int .u16 y.vid, .int .u8 y.iv, .slice y.p y.ms.length y.c] 37 (0, 0))) = W3 at *
      have hW2 := lt_of_block HC.out
      generalize W.heap.size = b6 at *
      have HA3 := hid (k3.lies HA.out)
      have HB3 := hid (k3.lies HB.out)
      have HC3 := hid (k3.lies HC.out)
      have H6 := hid h6
      have K3 := hid (KZ.out.trans k3)
      have HB3o := HB3
      have HB3 : Hid (W3.heap[b1]? = some (.cells #[.int .i64 (i : Int), .int .u16 m.id, .int .u8 m.port, .bool m.up] 39 (0, 0))) := hid (by have := HB3.out; rwa [HI.out] at this)
      have FR := hid (show ∀ X, Keeps Nil W3 X → (X.cell? ⟨w.heap.size, 0, Option.none⟩ = some (.int .i64 τ.n) ∧ X.cell? ⟨w.heap.size, 1, Option.none⟩ = some (.slice (some ⟨g', off', Option.none⟩) L.length cA) ∧ X.cell? ⟨w.heap.size, 2, Option.none⟩ = some (.slice pE τ.E.length cE) ∧ X.cell? ⟨w.heap.size, 3, Option.none⟩ = some (.slice pM R.length cM)) ∧ (X.cell? ⟨b1, 0, Option.none⟩ = some (.int .i64 (i : Int)) ∧ X.cell? ⟨b1, 1, Option.none⟩ = some (.int .u16 m.id) ∧ X.cell? ⟨b1, 2, Option.none⟩ = some (.int .u8 m.port) ∧ X.cell? ⟨b1, 3, Option.none⟩ = some (.bool m.up)) ∧ (X.cell? ⟨b6, 0, Option.none⟩ = some (.int .u8 y.lv) ∧ X.cell? ⟨b6, 1, Option.none⟩ = some (.string y.dom) ∧ X.cell? ⟨b6, 2, Option.none⟩ = some (.string y.own) ∧ X.cell? ⟨b6, 3, Option.none⟩ = some (.int .u16 y.vid) ∧ X.cell? ⟨b6, 4, Option.none⟩ = some (.int .u8 y.iv) ∧ X.cell? ⟨b6, 5, Option.none⟩ = some (.slice y.p y.ms.length y.c)) ∧ w.heap.size < X.heap.size ∧ b1 < X.heap.size ∧ b6 < X.heap.size from fun X kx =>
        ⟨four_block (kx.lies HA3.out), four_block (kx.lies HB3.out), six_block (kx.lies H6.out), lt_of_block (kx.lies HA3.out), lt_of_block (kx.lies HB3.out), lt_of_block (kx.lies H6.out)⟩)
      clear k3 h6 a0 a1 a2 a3 m0 m1 m2 m3 d0 d1 d2 d3 d4 d5 lA lB
      go_wp2_with fail
      go_loopw [7, 8] (fun s7 s8 wr => ∃ (j : Nat) (r : Bool), j ≤ y.ms.length ∧ s8 = .int .i64 j ∧ s7 = .bool r ∧ Hid (Keeps Nil W3 wr ∧ r = hasI (y.ms.take j) m.id)) (fun _ s8 _ => y.ms.length - (intOf s8).toNat)
      case atStart => exact ⟨0, false, Nat.zero_le _, rfl, rfl, hid ⟨Keeps.refl _ _, rfl⟩⟩
      case round =>
        obtain ⟨j, r, hj, rfl, rfl, HR⟩ := hrel
        obtain ⟨⟨a0, a1, a2, a3⟩, ⟨m0, m1, m2, m3⟩, ⟨y0, y1, y2, y3, y4, y5⟩, lA, lB, l6⟩ := FR.out wr HR.out.1
        by_cases hlt : j < y.ms.length
        · obtain ⟨u, hu⟩ : ∃ u, y.ms[j]? = some u := ⟨_, List.getElem?_eq_getElem hlt⟩
          obtain ⟨gu, ou, hpu, _, hgu, _, e0⟩ := (HNU.out.keepN (K3.out.trans HR.out.1)).atU hu
          rw [hpu] at y5
          have hnu := (HNU.out).2.1
          have HU := hid hu
          have HPU := hid hpu
          clear hu hpu
          cases r with
          | true =>
            go_wp2_with fail
            go_quiet (fail)
            go_wp2_with fail
            go_roundw
            case rel => exact ⟨j + 1, true, by omega, by go_num, rfl, hid ⟨HR.out.1.trans (Keeps.drewN _ _), by rw [hasI_take HU.out, ← HR.out.2]; rfl⟩⟩
            case measure => simp only [intOf]; omega
          | false =>
            cases q : (u == m.id) with
            | true =>
              have HQ := hid (show (m.id == u) = true by simp at q; simp [q])
              go_wp2_with fail
              go_quiet (fail)
              go_wp2_with fail
              go_roundw
              case rel => exact ⟨j + 1, true, by omega, by go_num, rfl, hid ⟨HR.out.1.trans (Keeps.drewN _ _), by rw [hasI_take HU.out, HQ.out]; simp⟩⟩
              case measure => simp only [intOf]; omega
            | false =>
              have HQ := hid (show (m.id == u) = false by simp at q; simp; omega)
              go_wp2_with fail
              go_quiet (fail)
              go_wp2_with fail
              go_roundw
              case rel => exact ⟨j + 1, false, by omega, by go_num, rfl, hid ⟨HR.out.1.trans (Keeps.drewN _ _), by rw [hasI_take HU.out, HQ.out, ← HR.out.2]; rfl⟩⟩
              case measure => simp only [intOf]; omega
        · obtain rfl : j = y.ms.length := by omega
          have HHAS := hid (show r = hasI y.ms m.id by have := HR.out.2; rwa [List.take_length] at this)
          cases r with
          | false =>
            have HD := hid (show τ.addMep m = (τ, 2) by rw [HDP.out, ← HHAS.out]; rfl)
            have KK := hid (HR.out.1)
            have hAr := KK.out.lies HA3.out
            have hCr := KK.out.lies HC3.out
            obtain ⟨z0, z1, z2, z3⟩ := four_block hCr
            obtain ⟨f0, f1, f2, f3⟩ := four_free hCr
            have lCr := lt_of_block hCr
            have HCR := hid hCr
            clear hAr hCr
            go_wp2_with fail
            obtain ⟨w2, hw2, hF, k2⟩ := set4 HCR.out (.int .i64 τ.n) (.slice (some ⟨g', off', Option.none⟩) L.length cA) (.slice pE τ.E.length cE) (.slice pM R.length cM)
            rw [hw2]
            obtain ⟨x0, x1, x2, x3⟩ := four_block hF
            clear z0 z1 z2 z3 f0 f1 f2 f3 a0 a1 a2 a3 hw2
            have KF := hid ((K3.out.trans KK.out).thenAt k2 (by omega))
            refine bodyPost_ret (v := .tuple #[.agg #[.int .i64 τ.n, .slice (some ⟨g', off', Option.none⟩) L.length cA, .slice pE τ.E.length cE, .slice pM R.length cM], .int .i64 2]) (by simp [results, Try.results24, go_sem, x0, x1, x2, x3]) rfl ?_
            rw [HD.out]
            exact ⟨⟨_, rfl, ((H0.out.keepN KF.out).more).rv⟩, KF.out⟩
          | true =>
            have HDP := hid (show τ.addMep m = (if τ.E.any (fun x => addB (τ.of x) m y x) then (τ, 8) else if (sget τ.M ⟨m.port, y.vid⟩).isSome && decide ((sget τ.M ⟨m.port, y.vid⟩).getD 0 ≤ y.lv) then (τ, 9) else ({ τ with E := τ.E ++ [m] }, 0)) by rw [HDP.out, ← HHAS.out, if_pos rfl])
            have K4 := hid HR.out.1
            clear HR HHAS
            go_upto_region 11 with (fail)
            clear a0 a1 a2 a3 m0 m1 m2 m3 y0 y1 y2 y3 y4 y5 lA lB l6
            go_wp2_with fail
            go_loopw [9] (fun s9 wr => ∃ j : Nat, j ≤ τ.E.length ∧ s9 = .int .i64 j ∧ Hid (Keeps Nil W3 wr ∧ ∀ q x, q < j → τ.E[q]? = some x → addB (τ.of x) m y x = false)) (fun s9 _ => τ.E.length - (intOf s9).toNat)
            case atStart => exact ⟨0, Nat.zero_le _, rfl, hid ⟨K4.out, fun q x h => absurd h (Nat.not_lt_zero _)⟩⟩
            case round =>
              obtain ⟨j, hj, rfl, HR⟩ := hrel
              obtain ⟨⟨a0, a1, a2, a3⟩, ⟨m0, m1, m2, m3⟩, ⟨y0, y1, y2, y3, y4, y5⟩, lA, lB, l6⟩ := FR.out wr HR.out.1
              by_cases hlt : j < τ.E.length
              · obtain ⟨x, hx⟩ : ∃ x, τ.E[j]? = some x := ⟨_, List.getElem?_eq_getElem hlt⟩
                obtain ⟨g, off, hp, _, hgl, _, c0, c1, c2, c3⟩ := (H0.out.rowE.keepN (K3.out.trans HR.out.1)).atE hx
                obtain ⟨i2, z, hi2, hz, hil2, hzv, hzl, hzb⟩ := H0.out.ofE HG.out (List.mem_of_getElem? hx)
                rw [hp] at a2
                rw [hi2] at c0
                have hil2' : (i2 : Int) < (L.length : Int) := by omega
                have HADD := hid (show addB z m y x = ((i2 == i) && (x.id == m.id) || (x.port == m.port) && (z.vid == y.vid) && (z.lv == y.lv) && (x.up == m.up)) by
                  have key : ∀ a b p u v l : Bool, (a && b || p && u && v && l) = (a && b || p && v && l && u) := by decide
                  have e1 : (i2 == i) = decide ((i2 : Int) = (i : Int)) := by rw [Bool.eq_iff_iff]; simp; omega
                  rw [e1, ← hi2, ← HI.out]
                  exact key _ _ _ _ _ _)
                have HAD2 := hid (show addB (τ.of x) m y x = addB z m y x by unfold addB; rw [hzv, hzl])
                have HX := hid hx
                have HZ := hid hz
                have HP := hid hp
                clear hx hi2 hz hzv hzl hzb hp
                have k5 : Keeps Nil wr (wr.alloc (.cells #[.int .i64 (i2 : Int), .int .u16 x.id, .int .u8 x.port, .bool x.up] 39 (0, 0))) := (Keeps.refl _ _).alloc _
                have h5 := alloc_block wr (.cells #[.int .i64 (i2 : Int), .int .u16 x.id, .int .u8 x.port, .bool x.up] 39 (0, 0))
                have hgl := Nat.lt_of_lt_of_le hgl k5.size
                go_upto_region 15 with (fail)
                generalize (wr.alloc (.cells #[.int .i64 (i2 : Int), .int .u16 x.id, .int .u8 x.port, .bool x.up] 39 (0, 0))) = W5 at *
                generalize wr.heap.size = b10 at *
                have K5 := hid (HR.out.1.trans k5)
                have H5 := hid h5
                clear a0 a1 a2 a3 m0 m1 m2 m3 y0 y1 y2 y3 y4 y5 lA lB l6 c0 c1 c2 c3 k5 h5
                obtain ⟨⟨a0, a1, a2, a3⟩, ⟨m0, m1, m2, m3⟩, ⟨y0, y1, y2, y3, y4, y5⟩, lA, lB, l6⟩ := FR.out W5 K5.out
                obtain ⟨x0, x1, x2, x3⟩ := four_block H5.out
                have l5 := lt_of_block H5.out
                obtain ⟨g2, off2, hp2, _, hgl2, _, d0, d1, d2, d3, d4, d5⟩ := (H0.out.rowA.keepN (K3.out.trans K5.out)).atA HZ.out
                injection hp2 with hp2; injection hp2 with hp2a hp2b
                subst hp2a hp2b
                have k6 : Keeps Nil W5 (W5.alloc (.cells #[.int .u8 z.lv, .string z.dom, .string z.own, .int .u16 z.vid, .int .u8 z.iv, .slice z.p z.ms.length z.c] 37 (0, 0))) := (Keeps.refl _ _).alloc _
                have h6' := alloc_block W5 (.cells #[.int .u8 z.lv, .string z.dom, .string z.own, .int .u16 z.vid, .int .u8 z.iv, .slice z.p z.ms.length z.c] 37 (0, 0))
                go_upto_region 16 with (fail)
                generalize (W5.alloc (.cells #[.int .u8 z.lv, .string z.dom, .string z.own, .int .u16 z.vid, .int .u8 z.iv, .slice z.p z.ms.length z.c] 37 (0, 0))) = W6 at *
                generalize W5.heap.size = b11 at *
                have K6 := hid (K5.out.trans k6)
                have H11 := hid h6'
                have H10 := hid (k6.lies H5.out)
                clear a0 a1 a2 a3 m0 m1 m2 m3 y0 y1 y2 y3 y4 y5 lA lB l6 x0 x1 x2 x3 l5 d0 d1 d2 d3 d4 d5 k6 h6'
                obtain ⟨⟨a0, a1, a2, a3⟩, ⟨m0, m1, m2, m3⟩, ⟨y0, y1, y2, y3, y4, y5⟩, lA, lB, l6⟩ := FR.out W6 K6.out
                obtain ⟨x0, x1, x2, x3⟩ := four_block H10.out
                obtain ⟨z0, z1, z2, z3, z4, z5⟩ := six_block H11.out
                have l10 := lt_of_block H10.out
                have l11 := lt_of_block H11.out
                go_cut [117] (fun s117 wx => s117 = .bool (addB z m y x) ∧ wx = W6)
                case first =>
                  cases q1 : (i2 == i) with
                  | false =>
                    have q1' : ((i2 : Int) == (i : Int)) = false := by simp at q1; simp; omega
                    cases q3 : (x.port == m.port) with
                    | false =>
                      have HV := hid (show addB z m y x = false by rw [HADD.out, q1, q3]; rfl)
                      go_wp2_with fail
                      go_meet
                      exact ⟨by rw [HV.out], rfl⟩
                    | true =>
                      cases q4 : (z.vid == y.vid) with
                      | false =>
                        have HV := hid (show addB z m y x = false by rw [HADD.out, q1, q3, q4]; rfl)
                        go_wp2_with fail
                        go_meet
                        exact ⟨by rw [HV.out], rfl⟩
                      | true =>
                        cases q5 : (z.lv == y.lv) with
                        | false =>
                          have HV := hid (show addB z m y x = false by rw [HADD.out, q1, q3, q4, q5]; rfl)
                          go_wp2_with fail
                          go_meet
                          exact ⟨by rw [HV.out], rfl⟩
                        | true =>
                          cases q6 : (x.up == m.up) with
                          | false =>
                            have HV := hid (show addB z m y x = false by rw [HADD.out, q1, q3, q4, q5, q6]; rfl)
                            go_wp2_with fail
                            go_meet
                            exact ⟨by rw [HV.out], rfl⟩
                          | true =>
                            have HV := hid (show addB z m y x = true by rw [HADD.out, q1, q3, q4, q5, q6]; rfl)
                            go_wp2_with fail
                            go_meet
                            exact ⟨by rw [HV.out], rfl⟩
                  | true =>
                    have q1' : ((i2 : Int) == (i : Int)) = true := by simp at q1; simp; omega
                    cases q2 : (x.id == m.id) with
                    | false =>
                      cases q3 : (x.port == m.port) with
                      | false =>
                        have HV := hid (show addB z m y x = false by rw [HADD.out, q1, q2, q3]; rfl)
                        go_wp2_with fail
                        go_meet
                        exact ⟨by rw [HV.out], rfl⟩
                      | true =>
                        cases q4 : (z.vid == y.vid) with
                        | false =>
                          have HV := hid (show addB z m y x = false by rw [HADD.out, q1, q2, q3, q4]; rfl)
                          go_wp2_with fail
                          go_meet
                          exact ⟨by rw [HV.out], rfl⟩
                        | true =>
                          cases q5 : (z.lv == y.lv) with
                          | false =>
                            have HV := hid (show addB z m y x = false by rw [HADD.out, q1, q2, q3, q4, q5]; rfl)
                            go_wp2_with fail
                            go_meet
                            exact ⟨by rw [HV.out], rfl⟩
                          | true =>
                            cases q6 : (x.up == m.up) with
                            | false =>
                              have HV := hid (show addB z m y x = false by rw [HADD.out, q1, q2, q3, q4, q5, q6]; rfl)
                              go_wp2_with fail
                              go_meet
                              exact ⟨by rw [HV.out], rfl⟩
                            | true =>
                              have HV := hid (show addB z m y x = true by rw [HADD.out, q1, q2, q3, q4, q5, q6]; rfl)
                              go_wp2_with fail
                              go_meet
                              exact ⟨by rw [HV.out], rfl⟩
                    | true =>
                      have HV := hid (show addB z m y x = true by rw [HADD.out, q1, q2]; rfl)
                      go_wp2_with fail
                      go_meet
                      exact ⟨by rw [HV.out], rfl⟩
                case rest =>
                  obtain ⟨rfl, rfl⟩ := hcut
                  cases hb : addB z m y x with
                  | true =>
                    have HD := hid (show τ.addMep m = (τ, 8) by rw [HDP.out, if_pos (any_at _ HX.out (by rw [HAD2.out, hb]))])
                    clear x0 x1 x2 x3 z0 z1 z2 z3 z4 z5
                    have KK := hid (K6.out)
                    have hAr := KK.out.lies HA3.out
                    have hCr := KK.out.lies HC3.out
                    obtain ⟨z0, z1, z2, z3⟩ := four_block hCr
                    obtain ⟨f0, f1, f2, f3⟩ := four_free hCr
                    have lCr := lt_of_block hCr
                    have HCR := hid hCr
                    clear hAr hCr
                    go_wp2_with fail
                    obtain ⟨w2, hw2, hF, k2⟩ := set4 HCR.out (.int .i64 τ.n) (.slice (some ⟨g', off', Option.none⟩) L.length cA) (.slice pE τ.E.length cE) (.slice pM R.length cM)
                    rw [hw2]
                    obtain ⟨x0, x1, x2, x3⟩ := four_block hF
                    clear z0 z1 z2 z3 f0 f1 f2 f3 a0 a1 a2 a3 hw2
                    have KF := hid ((K3.out.trans KK.out).thenAt k2 (by omega))
                    refine bodyPost_ret (v := .tuple #[.agg #[.int .i64 τ.n, .slice (some ⟨g', off', Option.none⟩) L.length cA, .slice pE τ.E.length cE, .slice pM R.length cM], .int .i64 8]) (by simp [results, Try.results24, go_sem, x0, x1, x2, x3]) rfl ?_
                    rw [HD.out]
                    exact ⟨⟨_, rfl, ((H0.out.keepN KF.out).more).rv⟩, KF.out⟩
                  | false =>
                    have HN := hid (next_no _ HR.out.2 HX.out (by rw [HAD2.out, hb]))
                    go_wp2_with fail
                    go_roundw
                    case rel => exact ⟨j + 1, by omega, by go_num, hid ⟨K6.out, HN.out⟩⟩
                    case measure => simp only [intOf]; omega
              · obtain rfl : j = τ.E.length := by omega
                have HDP2 := hid (show τ.addMep m = (if R.any (lowM m.port y.vid y.lv) then (τ, 9) else ({ τ with E := τ.E ++ [m] }, 0)) by
                  rw [HDP.out, any_of _ (Nat.le_refl _) HR.out.2, H0.out.mat.low]; rfl)
                have K5 := hid HR.out.1
                clear HR HDP hlt hj
                go_upto_region 18 with (fail)
                clear a0 a1 a2 a3 m0 m1 m2 m3 y0 y1 y2 y3 y4 y5 lA lB l6
                go_wp2_with fail
                go_loopw [12] (fun s12 wr => ∃ j : Nat, j ≤ R.length ∧ s12 = .int .i64 j ∧ Hid (Keeps Nil W3 wr ∧ ∀ q x, q < j → R[q]? = some x → lowM m.port y.vid y.lv x = false)) (fun s12 _ => R.length - (intOf s12).toNat)
                case atStart => exact ⟨0, Nat.zero_le _, rfl, hid ⟨K5.out, fun q x h => absurd h (Nat.not_lt_zero _)⟩⟩
                case round =>
                  obtain ⟨j, hj, rfl, HR⟩ := hrel
                  obtain ⟨⟨a0, a1, a2, a3⟩, ⟨m0, m1, m2, m3⟩, ⟨y0, y1, y2, y3, y4, y5⟩, lA, lB, l6⟩ := FR.out wr HR.out.1
                  by_cases hlt : j < R.length
                  · obtain ⟨r, hr⟩ : ∃ r, R[j]? = some r := ⟨_, List.getElem?_eq_getElem hlt⟩
                    obtain ⟨g, off, hp, _, hgl, _, c0, c1, c2⟩ := (H0.out.rowM.keepN (K3.out.trans HR.out.1)).atM hr
                    rw [hp] at a3
                    have hlv := HG.out.lev _ _ (H0.out.mat.mem (List.mem_of_getElem? hr))
                    have hr0 : 0 ≤ r.lv := hlv.1
                    have hr7 : r.lv ≤ 7 := hlv.2
                    have HX := hid hr
                    have HP := hid hp
                    have NX := hid (fun (hf : lowM m.port y.vid y.lv r = false) => hid (next_no _ HR.out.2 HX.out hf))
                    have KR := hid HR.out.1
                    clear hr hlv hp HR
                    cases q1 : (r.port == m.port) with
                    | false =>
                      have HN := NX.out (by simp at q1; simp [lowM, isM, q1])
                      go_wp2_with fail
                      go_quiet (fail)
                      go_wp2_with fail
                      go_roundw
                      case rel => exact ⟨j + 1, by omega, by go_num, hid ⟨KR.out.trans (Keeps.drewN _ _), HN.out⟩⟩
                      case measure => simp only [intOf]; omega
                    | true =>
                      cases q2 : (r.vid == y.vid) with
                      | false =>
                        have HN := NX.out (by simp at q2; simp [lowM, isM, q2])
                        go_wp2_with fail
                        go_quiet (fail)
                        go_wp2_with fail
                        go_roundw
                        case rel => exact ⟨j + 1, by omega, by go_num, hid ⟨KR.out.trans (Keeps.drewN _ _), HN.out⟩⟩
                        case measure => simp only [intOf]; omega
                      | true =>
                        cases q3 : (decide (r.lv ≤ y.lv)) with
                        | false =>
                          have HN := NX.out (by simp [lowM, q3])
                          have q3' : ¬ r.lv ≤ y.lv := by simpa using q3
                          go_wp2_with fail
                          go_quiet (fail)
                          go_wp2_with fail
                          go_roundw
                          case rel => exact ⟨j + 1, by omega, by go_num, hid ⟨KR.out.trans (Keeps.drewN _ _), HN.out⟩⟩
                          case measure => simp only [intOf]; omega
                        | true =>
                          have HD := hid (show τ.addMep m = (τ, 9) by rw [HDP2.out, if_pos (any_at _ HX.out (by simp at q1 q2 q3; simp [lowM, isM, q1, q2, q3]))])
                          have q3' : r.lv ≤ y.lv := by simpa using q3
                          go_wp2_with fail
                          go_quiet (fail)
                          have KN := hid (KR.out.trans (Keeps.drewN wr nq))
                          clear c0 c1 c2 hgl
                          clear a0 a1 a2 a3 m0 m1 m2 m3 y0 y1 y2 y3 y4 y5 lA lB l6
                          generalize wr.drewN nq = W7 at *
                          obtain ⟨⟨a0, a1, a2, a3⟩, ⟨m0, m1, m2, m3⟩, ⟨y0, y1, y2, y3, y4, y5⟩, lA, lB, l6⟩ := FR.out W7 KN.out
                          have KK := hid (KN.out)
                          have hAr := KK.out.lies HA3.out
                          have hCr := KK.out.lies HC3.out
                          obtain ⟨z0, z1, z2, z3⟩ := four_block hCr
                          obtain ⟨f0, f1, f2, f3⟩ := four_free hCr
                          have lCr := lt_of_block hCr
                          have HCR := hid hCr
                          clear hAr hCr
                          go_wp2_with fail
                          obtain ⟨w2, hw2, hF, k2⟩ := set4 HCR.out (.int .i64 τ.n) (.slice (some ⟨g', off', Option.none⟩) L.length cA) (.slice pE τ.E.length cE) (.slice pM R.length cM)
                          rw [hw2]
                          obtain ⟨x0, x1, x2, x3⟩ := four_block hF
                          clear z0 z1 z2 z3 f0 f1 f2 f3 a0 a1 a2 a3 hw2
                          have KF := hid ((K3.out.trans KK.out).thenAt k2 (by omega))
                          refine bodyPost_ret (v := .tuple #[.agg #[.int .i64 τ.n, .slice (some ⟨g', off', Option.none⟩) L.length cA, .slice pE τ.E.length cE, .slice pM R.length cM], .int .i64 9]) (by simp [results, Try.results24, go_sem, x0, x1, x2, x3]) rfl ?_
                          rw [HD.out]
                          exact ⟨⟨_, rfl, ((H0.out.keepN KF.out).more).rv⟩, KF.out⟩
                  · obtain rfl : j = R.length := by omega
                    have HD := hid (show τ.addMep m = ({ τ with E := τ.E ++ [m] }, 0) by rw [HDP2.out, any_of _ (Nat.le_refl _) HR.out.2]; rfl)
                    have KR := hid HR.out.1
                    clear HR hlt hj
                    go_upto_region 23 with (fail)
                    clear a0 a1 a2 a3 m0 m1 m2 m3 y0 y1 y2 y3 y4 y5 lA lB l6
                    have HAw := hid (KR.out.lies HA3.out)
                    have HBw := hid (KR.out.lies HB3o.out)
                    have HCw := hid (KR.out.lies HC3.out)
                    have HROW := hid (H0.out.rowE.keepN (K3.out.trans KR.out))
                    have hlB := lt_of_block HBw.out
                    have hlA0 := lt_of_block HAw.out
                    obtain ⟨i0, hi0, hz0, hz1, hz2⟩ := info_parts rinfoE
                    have HIN := hid (And.intro hi0 (And.intro hz0 (And.intro hz1 hz2)))
                    have hS : ∀ X, Keeps (At w.heap.size) wr X → X.cell? ⟨b1, 0, Option.none⟩ = some (.int .i64 m.ai) ∧ X.cell? ⟨b1, 1, Option.none⟩ = some (.int .u16 m.id) ∧ X.cell? ⟨b1, 2, Option.none⟩ = some (.int .u8 m.port) ∧ X.cell? ⟨b1, 3, Option.none⟩ = some (.bool m.up) := fun X kx =>
                      four_block (kx.lies HBw.out (fun e => by rw [At] at e; omega))
                    have HS := hid hS
                    have kk : Keeps Nil wr wr := Keeps.refl _ _
                    obtain ⟨a0, a1, a2, a3⟩ := four_block HAw.out
                    clear hS hi0 hz0 hz1 hz2
                    go_cut [163] (fun sO wx => ∃ p2 c2, sO = .slice p2 (τ.E.length + 1) c2 ∧ Hid (wx.heap[w.heap.size]? = some (.cells #[.int .i64 τ.n, .slice (some ⟨g', off', Option.none⟩) L.length cA, .slice p2 (τ.E.length + 1) c2, .slice pM R.length cM] 34 (0, 0)) ∧ wx.ownsRow wr.heap.size 39 4 (.slice p2 (τ.E.length + 1) c2) (τ.E.length + 1) (flatE (τ.E ++ [m])) ∧ Keeps (At w.heap.size) wr wx))
                    case first =>
                      refine wp_region_held_drew (S := (fun X => X.cell? ⟨b1, 0, Option.none⟩ = some (.int .i64 m.ai) ∧ X.cell? ⟨b1, 1, Option.none⟩ = some (.int .u16 m.id) ∧ X.cell? ⟨b1, 2, Option.none⟩ = some (.int .u8 m.port) ∧ X.cell? ⟨b1, 3, Option.none⟩ = some (.bool m.up))) (by kernel_rfl) ?_ (fun hHeld => ?_)
                      · (try dsimp only); exact HS.out _ kk.drew.ofNil
                      refine wpAnyH_take (i := 0) (v := ?_) rfl (by kernel_rfl) (by kernel_rfl) (by kernel_rfl) (fun _ _ _ h => h) (Or.inl ⟨by rfl, ?_⟩) (by assumption) ?_
                      rotate_left
                      · (intro W hSw; (try dsimp only at hSw); go_simp <;> with_reducible rfl)
                      try simp only [Act.put, List.setIfInBounds_toArray, List.set_cons_zero, List.set_cons_succ, List.getElem_toArray, List.getElem_cons_zero, List.getElem_cons_succ]
                      refine wpAnyH_take (i := 3) (v := ?_) rfl (by kernel_rfl) (by kernel_rfl) (by kernel_rfl) (fun _ _ _ h => h) (Or.inl ⟨by rfl, ?_⟩) (by assumption) ?_
                      rotate_left
                      · (intro W hSw; (try dsimp only at hSw); go_simp <;> with_reducible rfl)
                      try simp only [Act.put, List.setIfInBounds_toArray, List.set_cons_zero, List.set_cons_succ, List.getElem_toArray, List.getElem_cons_zero, List.getElem_cons_succ]
                      refine wpAnyH_ready (rs := [1, 4]) (by kernel_rfl) (by simp) ?_
                      refine AllReadyH.cons rfl (fun K hK => ?_) (AllReadyH.cons rfl (fun K hK => ?_) AllReadyH.nil)
                      · try simp only [Act.put, List.setIfInBounds_toArray, List.set_cons_zero, List.set_cons_succ, List.getElem_toArray, List.getElem_cons_zero, List.getElem_cons_succ]
                        go_simp
                        refine hK.out _ _ ?_ (fun hHeld => ?_)
                        · (try dsimp only); exact HS.out _ kk.drew.ofNil
                        clear hK K
                        try simp only [Act.put, List.setIfInBounds_toArray, List.set_cons_zero, List.set_cons_succ, List.getElem_toArray, List.getElem_cons_zero, List.getElem_cons_succ]
                        refine wpAnyH_ready (rs := [2, 4]) (by kernel_rfl) (by simp) ?_
                        refine AllReadyH.cons rfl (fun K hK => ?_) (AllReadyH.cons rfl (fun K hK => ?_) AllReadyH.nil)
                        · refine step_append_wv (o := ⟨some 160, _, _, _, _, _⟩) _ (by rfl) _ _ 31 (by rfl) wr.heap.size 39 i0 (.agg #[.int .i64 0, .int .u16 0, .int .u8 0, .bool false]) 4 16 Try.underlying31 HIN.out.1 HIN.out.2.1 HIN.out.2.2.1 HIN.out.2.2.2 rfl (by decide) (.slice Option.none 0 0) 0 [] (by rfl) (World.ownsRow_nil _ _ _ _) 0 pE τ.E.length cE (flatE τ.E) (by rfl) (HROW.out.keepN ((Keeps.refl Nil wr).drew)) (flatE_one _) (by unfold maxLen; omega) (by omega) (Keeps.size (S := Nil) ((Keeps.refl Nil wr).drew)) ?_
                          intro v1 w1 own1 hg1 hat1
                          have kw1 := hid (((Keeps.refl Nil wr).drew).trans (grown_nil hg1))
                          refine hK.out _ _ ?_ (fun hHeld => ?_)
                          · (try dsimp only); exact HS.out _ kw1.out.ofNil
                          clear hK K
                          try simp only [Act.put, List.setIfInBounds_toArray, List.set_cons_zero, List.set_cons_succ, List.getElem_toArray, List.getElem_cons_zero, List.getElem_cons_succ]
                          refine wpAnyH_ready (rs := [4]) (by kernel_rfl) (by simp) ?_
                          refine AllReadyH.cons rfl (fun K hK => ?_) AllReadyH.nil
                          try simp only [Act.put, List.setIfInBounds_toArray, List.set_cons_zero, List.set_cons_succ, List.getElem_toArray, List.getElem_cons_zero, List.getElem_cons_succ]
                          go_simp
                          refine hK.out _ _ ?_ (fun hHeld => ?_)
                          · (try dsimp only); exact HS.out _ (kw1.out.alloc _).ofNil
                          clear hK K
                          try simp only [Act.put, List.setIfInBounds_toArray, List.set_cons_zero, List.set_cons_succ, List.getElem_toArray, List.getElem_cons_zero, List.getElem_cons_succ]
                          refine wpAnyH_ready (rs := [5]) (by kernel_rfl) (by simp) ?_
                          refine AllReadyH.cons rfl (fun K hK => ?_) AllReadyH.nil
                          refine step_append_wv (o := ⟨some 163, _, _, _, _, _⟩) _ (by rfl) _ _ 31 (by rfl) wr.heap.size 39 i0 (.agg #[.int .i64 0, .int .u16 0, .int .u8 0, .bool false]) 4 16 Try.underlying31 HIN.out.1 HIN.out.2.1 HIN.out.2.2.1 HIN.out.2.2.2 rfl (by decide) v1 _ _ (by rfl) (ownsRow_keep own1 ((Keeps.refl Nil w1).alloc _) (fun _ _ e => e)) 0 (some ⟨w1.heap.size, 0, Option.none⟩) 1 1 [.int .i64 m.ai, .int .u16 m.id, .int .u8 m.port, .bool m.up] (by rfl) (WV.new w1 #[.int .i64 m.ai, .int .u16 m.id, .int .u8 m.port, .bool m.up] 39 4 rfl) (by simp [Value.oneCell']) (by unfold maxLen; omega) (by omega) (Nat.le_trans kw1.out.size (by simp)) ?_
                          intro v2 w2' own2 hg2 hat2
                          have kw2 := hid (grown_own own1 hg2 (Nat.le_refl _) (kw1.out.alloc _))
                          have hbA := kw2.out.lies HAw.out
                          obtain ⟨y0, y1, y2, y3⟩ := four_block hbA
                          obtain ⟨y4, y5, y6, y7⟩ := four_free hbA
                          have lbA := lt_of_block hbA
                          obtain ⟨p2, c2, hv2⟩ := own_shape own2
                          subst hv2
                          have HY := hid hbA
                          clear hbA
                          refine hK.out _ _ ?_ (fun hHeld => ?_)
                          · (try dsimp only); exact HS.out _ kw2.out.ofNil
                          clear hK K
                          try simp only [Act.put, List.setIfInBounds_toArray, List.set_cons_zero, List.set_cons_succ, List.getElem_toArray, List.getElem_cons_zero, List.getElem_cons_succ]
                          refine wpAnyH_take (i := 6) (v := ?_) rfl (by kernel_rfl) (by kernel_rfl) (by kernel_rfl) (fun _ _ _ h => h) (Or.inl ⟨by rfl, ?_⟩) (by assumption) ?_
                          rotate_left
                          · (intro W hSw; (try dsimp only at hSw); go_simp <;> with_reducible rfl)
                          try simp only [Act.put, List.setIfInBounds_toArray, List.set_cons_zero, List.set_cons_succ, List.getElem_toArray, List.getElem_cons_zero, List.getElem_cons_succ]
                          refine wpAnyH_ready (rs := [7]) (by kernel_rfl) (by simp) ?_
                          refine AllReadyH.cons rfl (fun K hK => ?_) AllReadyH.nil
                          try simp only [Act.put, List.setIfInBounds_toArray, List.set_cons_zero, List.set_cons_succ, List.getElem_toArray, List.getElem_cons_zero, List.getElem_cons_succ]
                          go_simp
                          refine hK.out _ _ ?_ (fun hHeld => ?_)
                          · (try dsimp only); exact HS.out _ (kw2.out.ofNil.set _ _ (at_self _) _)
                          clear hK K
                          try simp only [Act.put, List.setIfInBounds_toArray, List.set_cons_zero, List.set_cons_succ, List.getElem_toArray, List.getElem_cons_zero, List.getElem_cons_succ]
                          refine wpAnyH_done (by kernel_rfl) ?_ _
                          go_wp2_with fail
                          go_meet
                          have hacc : w2'.ownsRow wr.heap.size 39 4 (.slice p2 (τ.E.length + 1) c2) (τ.E.length + 1) (flatE (τ.E ++ [m])) := by
                            have e1 : flatE (τ.E ++ [m]) = [] ++ flatE τ.E ++ [.int .i64 m.ai, .int .u16 m.id, .int .u8 m.port, .bool m.up] := by rw [flatE_append]; simp [flatE]
                            rw [e1]
                            simpa using own2
                          have ks : Keeps (At w.heap.size) w2' (w2'.setCell ⟨w.heap.size, 2, Option.none⟩ (.slice p2 (τ.E.length + 1) c2)) := (Keeps.refl _ _).set _ _ (at_self _) _
                          exact ⟨p2, c2, by simp, hid ⟨by have := setCell_block HY.out 2 (.slice p2 (τ.E.length + 1) c2); simpa using this, ownsRow_keep hacc ks (fun g hg e => by rw [At] at e; have := lt_of_block HAw.out; omega), kw2.out.ofNil.trans ks⟩⟩
                        · try simp only [Act.put, List.setIfInBounds_toArray, List.set_cons_zero, List.set_cons_succ, List.getElem_toArray, List.getElem_cons_zero, List.getElem_cons_succ]
                          go_simp
                          refine hK.out _ _ ?_ (fun hHeld => ?_)
                          · (try dsimp only); first | exact HS.out _ (kk.alloc _).drew.ofNil | exact HS.out _ (kk.drew.alloc _).ofNil
                          clear hK K
                          try simp only [Act.put, List.setIfInBounds_toArray, List.set_cons_zero, List.set_cons_succ, List.getElem_toArray, List.getElem_cons_zero, List.getElem_cons_succ]
                          refine wpAnyH_ready (rs := [2]) (by kernel_rfl) (by simp) ?_
                          refine AllReadyH.cons rfl (fun K hK => ?_) AllReadyH.nil
                          refine step_append_wv (o := ⟨some 160, _, _, _, _, _⟩) _ (by rfl) _ _ 31 (by rfl) wr.heap.size 39 i0 (.agg #[.int .i64 0, .int .u16 0, .int .u8 0, .bool false]) 4 16 Try.underlying31 HIN.out.1 HIN.out.2.1 HIN.out.2.2.1 HIN.out.2.2.2 rfl (by decide) (.slice Option.none 0 0) 0 [] (by rfl) (World.ownsRow_nil _ _ _ _) 0 pE τ.E.length cE (flatE τ.E) (by rfl) (HROW.out.keepN (((Keeps.refl Nil wr).alloc (.cells #[.int .i64 m.ai, .int .u16 m.id, .int .u8 m.port, .bool m.up] 39 (0, 0))).drew)) (flatE_one _) (by unfold maxLen; omega) (by omega) (Keeps.size (S := Nil) (((Keeps.refl Nil wr).alloc (.cells #[.int .i64 m.ai, .int .u16 m.id, .int .u8 m.port, .bool m.up] 39 (0, 0))).drew)) ?_
                          intro v1 w1 own1 hg1 hat1
                          have kw1 := hid ((((Keeps.refl Nil wr).alloc (.cells #[.int .i64 m.ai, .int .u16 m.id, .int .u8 m.port, .bool m.up] 39 (0, 0))).drew).trans (grown_nil hg1))
                          refine hK.out _ _ ?_ (fun hHeld => ?_)
                          · (try dsimp only); exact HS.out _ kw1.out.ofNil
                          clear hK K
                          try simp only [Act.put, List.setIfInBounds_toArray, List.set_cons_zero, List.set_cons_succ, List.getElem_toArray, List.getElem_cons_zero, List.getElem_cons_succ]
                          refine wpAnyH_ready (rs := [5]) (by kernel_rfl) (by simp) ?_
                          refine AllReadyH.cons rfl (fun K hK => ?_) AllReadyH.nil
                          refine step_append_wv (o := ⟨some 163, _, _, _, _, _⟩) _ (by rfl) _ _ 31 (by rfl) wr.heap.size 39 i0 (.agg #[.int .i64 0, .int .u16 0, .int .u8 0, .bool false]) 4 16 Try.underlying31 HIN.out.1 HIN.out.2.1 HIN.out.2.2.1 HIN.out.2.2.2 rfl (by decide) v1 _ _ (by rfl) own1 0 (some ⟨wr.heap.size, 0, Option.none⟩) 1 1 [.int .i64 m.ai, .int .u16 m.id, .int .u8 m.port, .bool m.up] (by rfl) ((WV.new wr #[.int .i64 m.ai, .int .u16 m.id, .int .u8 m.port, .bool m.up] 39 4 rfl).keepN ((Keeps.refl Nil (wr.alloc (.cells #[.int .i64 m.ai, .int .u16 m.id, .int .u8 m.port, .bool m.up] 39 (0, 0)))).drew.trans (grown_nil hg1))) (by simp [Value.oneCell']) (by unfold maxLen; omega) (by omega) kw1.out.size ?_
                          intro v2 w2' own2 hg2 hat2
                          have kw2 := hid (grown_own own1 hg2 (Nat.le_refl _) kw1.out)
                          have hbA := kw2.out.lies HAw.out
                          obtain ⟨y0, y1, y2, y3⟩ := four_block hbA
                          obtain ⟨y4, y5, y6, y7⟩ := four_free hbA
                          have lbA := lt_of_block hbA
                          obtain ⟨p2, c2, hv2⟩ := own_shape own2
                          subst hv2
                          have HY := hid hbA
                          clear hbA
                          refine hK.out _ _ ?_ (fun hHeld => ?_)
                          · (try dsimp only); exact HS.out _ kw2.out.ofNil
                          clear hK K
                          try simp only [Act.put, List.setIfInBounds_toArray, List.set_cons_zero, List.set_cons_succ, List.getElem_toArray, List.getElem_cons_zero, List.getElem_cons_succ]
                          refine wpAnyH_take (i := 6) (v := ?_) rfl (by kernel_rfl) (by kernel_rfl) (by kernel_rfl) (fun _ _ _ h => h) (Or.inl ⟨by rfl, ?_⟩) (by assumption) ?_
                          rotate_left
                          · (intro W hSw; (try dsimp only at hSw); go_simp <;> with_reducible rfl)
                          try simp only [Act.put, List.setIfInBounds_toArray, List.set_cons_zero, List.set_cons_succ, List.getElem_toArray, List.getElem_cons_zero, List.getElem_cons_succ]
                          refine wpAnyH_ready (rs := [7]) (by kernel_rfl) (by simp) ?_
                          refine AllReadyH.cons rfl (fun K hK => ?_) AllReadyH.nil
                          try simp only [Act.put, List.setIfInBounds_toArray, List.set_cons_zero, List.set_cons_succ, List.getElem_toArray, List.getElem_cons_zero, List.getElem_cons_succ]
                          go_simp
                          refine hK.out _ _ ?_ (fun hHeld => ?_)
                          · (try dsimp only); exact HS.out _ (kw2.out.ofNil.set _ _ (at_self _) _)
                          clear hK K
                          try simp only [Act.put, List.setIfInBounds_toArray, List.set_cons_zero, List.set_cons_succ, List.getElem_toArray, List.getElem_cons_zero, List.getElem_cons_succ]
                          refine wpAnyH_done (by kernel_rfl) ?_ _
                          go_wp2_with fail
                          go_meet
                          have hacc : w2'.ownsRow wr.heap.size 39 4 (.slice p2 (τ.E.length + 1) c2) (τ.E.length + 1) (flatE (τ.E ++ [m])) := by
                            have e1 : flatE (τ.E ++ [m]) = [] ++ flatE τ.E ++ [.int .i64 m.ai, .int .u16 m.id, .int .u8 m.port, .bool m.up] := by rw [flatE_append]; simp [flatE]
                            rw [e1]
                            simpa using own2
                          have ks : Keeps (At w.heap.size) w2' (w2'.setCell ⟨w.heap.size, 2, Option.none⟩ (.slice p2 (τ.E.length + 1) c2)) := (Keeps.refl _ _).set _ _ (at_self _) _
                          exact ⟨p2, c2, by simp, hid ⟨by have := setCell_block HY.out 2 (.slice p2 (τ.E.length + 1) c2); simpa using this, ownsRow_keep hacc ks (fun g hg e => by rw [At] at e; have := lt_of_block HAw.out; omega), kw2.out.ofNil.trans ks⟩⟩
                      · try simp only [Act.put, List.setIfInBounds_toArray, List.set_cons_zero, List.set_cons_succ, List.getElem_toArray, List.getElem_cons_zero, List.getElem_cons_succ]
                        go_simp
                        refine hK.out _ _ ?_ (fun hHeld => ?_)
                        · (try dsimp only); first | exact HS.out _ (kk.alloc _).drew.ofNil | exact HS.out _ (kk.drew.alloc _).ofNil
                        clear hK K
                        try simp only [Act.put, List.setIfInBounds_toArray, List.set_cons_zero, List.set_cons_succ, List.getElem_toArray, List.getElem_cons_zero, List.getElem_cons_succ]
                        refine wpAnyH_ready (rs := [1]) (by kernel_rfl) (by simp) ?_
                        refine AllReadyH.cons rfl (fun K hK => ?_) AllReadyH.nil
                        try simp only [Act.put, List.setIfInBounds_toArray, List.set_cons_zero, List.set_cons_succ, List.getElem_toArray, List.getElem_cons_zero, List.getElem_cons_succ]
                        go_simp
                        refine hK.out _ _ ?_ (fun hHeld => ?_)
                        · (try dsimp only); first | exact HS.out _ (kk.alloc _).drew.ofNil | exact HS.out _ (kk.drew.alloc _).ofNil
                        clear hK K
                        try simp only [Act.put, List.setIfInBounds_toArray, List.set_cons_zero, List.set_cons_succ, List.getElem_toArray, List.getElem_cons_zero, List.getElem_cons_succ]
                        refine wpAnyH_ready (rs := [2]) (by kernel_rfl) (by simp) ?_
                        refine AllReadyH.cons rfl (fun K hK => ?_) AllReadyH.nil
                        refine step_append_wv (o := ⟨some 160, _, _, _, _, _⟩) _ (by rfl) _ _ 31 (by rfl) wr.heap.size 39 i0 (.agg #[.int .i64 0, .int .u16 0, .int .u8 0, .bool false]) 4 16 Try.underlying31 HIN.out.1 HIN.out.2.1 HIN.out.2.2.1 HIN.out.2.2.2 rfl (by decide) (.slice Option.none 0 0) 0 [] (by rfl) (World.ownsRow_nil _ _ _ _) 0 pE τ.E.length cE (flatE τ.E) (by rfl) (HROW.out.keepN (((Keeps.refl Nil wr).alloc (.cells #[.int .i64 m.ai, .int .u16 m.id, .int .u8 m.port, .bool m.up] 39 (0, 0))).drew)) (flatE_one _) (by unfold maxLen; omega) (by omega) (Keeps.size (S := Nil) (((Keeps.refl Nil wr).alloc (.cells #[.int .i64 m.ai, .int .u16 m.id, .int .u8 m.port, .bool m.up] 39 (0, 0))).drew)) ?_
                        intro v1 w1 own1 hg1 hat1
                        have kw1 := hid ((((Keeps.refl Nil wr).alloc (.cells #[.int .i64 m.ai, .int .u16 m.id, .int .u8 m.port, .bool m.up] 39 (0, 0))).drew).trans (grown_nil hg1))
                        refine hK.out _ _ ?_ (fun hHeld => ?_)
                        · (try dsimp only); exact HS.out _ kw1.out.ofNil
                        clear hK K
                        try simp only [Act.put, List.setIfInBounds_toArray, List.set_cons_zero, List.set_cons_succ, List.getElem_toArray, List.getElem_cons_zero, List.getElem_cons_succ]
                        refine wpAnyH_ready (rs := [5]) (by kernel_rfl) (by simp) ?_
                        refine AllReadyH.cons rfl (fun K hK => ?_) AllReadyH.nil
                        refine step_append_wv (o := ⟨some 163, _, _, _, _, _⟩) _ (by rfl) _ _ 31 (by rfl) wr.heap.size 39 i0 (.agg #[.int .i64 0, .int .u16 0, .int .u8 0, .bool false]) 4 16 Try.underlying31 HIN.out.1 HIN.out.2.1 HIN.out.2.2.1 HIN.out.2.2.2 rfl (by decide) v1 _ _ (by rfl) own1 0 (some ⟨wr.heap.size, 0, Option.none⟩) 1 1 [.int .i64 m.ai, .int .u16 m.id, .int .u8 m.port, .bool m.up] (by rfl) ((WV.new wr #[.int .i64 m.ai, .int .u16 m.id, .int .u8 m.port, .bool m.up] 39 4 rfl).keepN ((Keeps.refl Nil (wr.alloc (.cells #[.int .i64 m.ai, .int .u16 m.id, .int .u8 m.port, .bool m.up] 39 (0, 0)))).drew.trans (grown_nil hg1))) (by simp [Value.oneCell']) (by unfold maxLen; omega) (by omega) kw1.out.size ?_
                        intro v2 w2' own2 hg2 hat2
                        have kw2 := hid (grown_own own1 hg2 (Nat.le_refl _) kw1.out)
                        have hbA := kw2.out.lies HAw.out
                        obtain ⟨y0, y1, y2, y3⟩ := four_block hbA
                        obtain ⟨y4, y5, y6, y7⟩ := four_free hbA
                        have lbA := lt_of_block hbA
                        obtain ⟨p2, c2, hv2⟩ := own_shape own2
                        subst hv2
                        have HY := hid hbA
                        clear hbA
                        refine hK.out _ _ ?_ (fun hHeld => ?_)
                        · (try dsimp only); exact HS.out _ kw2.out.ofNil
                        clear hK K
                        try simp only [Act.put, List.setIfInBounds_toArray, List.set_cons_zero, List.set_cons_succ, List.getElem_toArray, List.getElem_cons_zero, List.getElem_cons_succ]
                        refine wpAnyH_take (i := 6) (v := ?_) rfl (by kernel_rfl) (by kernel_rfl) (by kernel_rfl) (fun _ _ _ h => h) (Or.inl ⟨by rfl, ?_⟩) (by assumption) ?_
                        rotate_left
                        · (intro W hSw; (try dsimp only at hSw); go_simp <;> with_reducible rfl)
                        try simp only [Act.put, List.setIfInBounds_toArray, List.set_cons_zero, List.set_cons_succ, List.getElem_toArray, List.getElem_cons_zero, List.getElem_cons_succ]
                        refine wpAnyH_ready (rs := [7]) (by kernel_rfl) (by simp) ?_
                        refine AllReadyH.cons rfl (fun K hK => ?_) AllReadyH.nil
                        try simp only [Act.put, List.setIfInBounds_toArray, List.set_cons_zero, List.set_cons_succ, List.getElem_toArray, List.getElem_cons_zero, List.getElem_cons_succ]
                        go_simp
                        refine hK.out _ _ ?_ (fun hHeld => ?_)
                        · (try dsimp only); exact HS.out _ (kw2.out.ofNil.set _ _ (at_self _) _)
                        clear hK K
                        try simp only [Act.put, List.setIfInBounds_toArray, List.set_cons_zero, List.set_cons_succ, List.getElem_toArray, List.getElem_cons_zero, List.getElem_cons_succ]
                        refine wpAnyH_done (by kernel_rfl) ?_ _
                        go_wp2_with fail
                        go_meet
                        have hacc : w2'.ownsRow wr.heap.size 39 4 (.slice p2 (τ.E.length + 1) c2) (τ.E.length + 1) (flatE (τ.E ++ [m])) := by
                          have e1 : flatE (τ.E ++ [m]) = [] ++ flatE τ.E ++ [.int .i64 m.ai, .int .u16 m.id, .int .u8 m.port, .bool m.up] := by rw [flatE_append]; simp [flatE]
                          rw [e1]
                          simpa using own2
                        have ks : Keeps (At w.heap.size) w2' (w2'.setCell ⟨w.heap.size, 2, Option.none⟩ (.slice p2 (τ.E.length + 1) c2)) := (Keeps.refl _ _).set _ _ (at_self _) _
                        exact ⟨p2, c2, by simp, hid ⟨by have := setCell_block HY.out 2 (.slice p2 (τ.E.length + 1) c2); simpa using this, ownsRow_keep hacc ks (fun g hg e => by rw [At] at e; have := lt_of_block HAw.out; omega), kw2.out.ofNil.trans ks⟩⟩
                    case rest =>
                      obtain ⟨p2, c2, rfl, HO⟩ := hcut
                      have hlC := lt_of_block HCw.out
                      have hCr := HO.out.2.2.lies HCw.out (fun e => by rw [At] at e; omega)
                      obtain ⟨a0, a1, a2, a3⟩ := four_block HO.out.1
                      obtain ⟨z0, z1, z2, z3⟩ := four_block hCr
                      obtain ⟨f0, f1, f2, f3⟩ := four_free hCr
                      have lAr := lt_of_block HO.out.1
                      have lCr := lt_of_block hCr
                      have HCR := hid hCr
                      clear hCr
                      go_wp2_with fail
                      obtain ⟨w2, hw2, hF, k2⟩ := set4 HCR.out (.int .i64 τ.n) (.slice (some ⟨g', off', Option.none⟩) L.length cA) (.slice p2 (τ.E.length + 1) c2) (.slice pM R.length cM)
                      rw [hw2]
                      obtain ⟨x0, x1, x2, x3⟩ := four_block hF
                      clear z0 z1 z2 z3 f0 f1 f2 f3 a0 a1 a2 a3 hw2
                      have KF := hid ((((K3.out.trans KR.out).thenAt HO.out.2.2 (Nat.le_refl _))).thenAt k2 (by omega))
                      have hO := own_mono (ownsRow_keep HO.out.2.1 k2 (fun g hg e => by rw [At] at e; omega)) (Nat.zero_le _)
                      refine bodyPost_ret (v := .tuple #[.agg #[.int .i64 τ.n, .slice (some ⟨g', off', Option.none⟩) L.length cA, .slice p2 (τ.E.length + 1) c2, .slice pM R.length cM], .int .i64 0]) (by simp [results, Try.results24, go_sem, x0, x1, x2, x3]) rfl ?_
                      rw [HD.out]
                      have HF := H0.out.keepN KF.out
                      exact ⟨⟨_, rfl, ⟨_, _, p2, c2, _, _, L, R, by simp, HF.base, HF.ownA, HF.bare, HF.nums, by simpa using hO, HF.ownM, HF.mat.more⟩⟩, KF.out⟩
end Go.Proofs.Ytbgijlfdgfhceaa
