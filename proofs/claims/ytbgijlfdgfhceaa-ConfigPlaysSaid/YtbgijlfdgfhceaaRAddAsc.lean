/-
  Layer 16: the document's table: AddAssoc. Conditions: it lies so; the numbers are in range.
-/
import Derived.Test.YtbgijlfdgfhceaaRHelp
import Derived.Test.YtbgijlfdgfhceaaDoes
import Derived.Test.YtbgijlfdgfhceaaRMay
import Derived.Deep.RegionHeld3
import Derived.IntWalk
namespace Go.Proofs.Ytbgijlfdgfhceaa
open Go.RowKit
set_option linter.unusedVariables false
set_option linter.unusedSimpArgs false
set_option maxRecDepth 8000

theorem rinfoA : (Try.prog.info? 37).map (fun i => (i.zero, i.size, i.bytes)) = some (some (.agg #[.int .u8 0, .string ⟨#[]⟩, .string ⟨#[]⟩, .int .u16 0, .int .u8 0, .slice Option.none 0 0]), 6, 72) := by kernel_rfl

set_option maxHeartbeats 16000000 in
theorem r_addasc (a : As) (k : Nat) {w0 w : World} {τ : CT} {x : Value} (h : RV w0 w k τ x) (hg : τ.Good) (hk : k ≤ 100) (ha : MsV w0 0 a) (hd : a.dom.size ≤ 1000) (ho : a.own.size ≤ 1000) (hm : a.ms.length ≤ 1000) :
    Calls Try.prog 28 #[x, .agg #[.int .u8 a.lv, .string a.dom, .string a.own, .int .u16 a.vid, .int .u8 a.iv, .slice a.p a.ms.length a.c]] w fun e w' => (∃ v', e = .returned (.tuple #[v', .int .i64 (τ.addAsc a).2.1, .int .i64 (τ.addAsc a).2.2]) ∧ RV w0 w' (k + 1) (τ.addAsc a).1 v') ∧ Keeps Nil w w' := by
  obtain ⟨pA, cA, pE, cE, pM, cM, L, R, rfl, h⟩ := h
  obtain ⟨hA, hB, hC⟩ := three_alloc w (.cells #[.int .i64 τ.n, .slice pA L.length cA, .slice pE τ.E.length cE, .slice pM R.length cM] 34 (0, 0)) (.cells #[.int .u8 a.lv, .string a.dom, .string a.own, .int .u16 a.vid, .int .u8 a.iv, .slice a.p a.ms.length a.c] 37 (0, 0)) (.cells #[.int .i64 0, .slice Option.none 0 0, .slice Option.none 0 0, .slice Option.none 0 0] 34 (0, 0))
  have kz : Keeps Nil w (((w.alloc (.cells #[.int .i64 τ.n, .slice pA L.length cA, .slice pE τ.E.length cE, .slice pM R.length cM] 34 (0, 0))).alloc (.cells #[.int .u8 a.lv, .string a.dom, .string a.own, .int .u16 a.vid, .int .u8 a.iv, .slice a.p a.ms.length a.c] 37 (0, 0))).alloc (.cells #[.int .i64 0, .slice Option.none 0 0, .slice Option.none 0 0, .slice Option.none 0 0] 34 (0, 0))) := (((Keeps.refl _ _).alloc _).alloc _).alloc _
  have KZ := hid kz
  have H0 := hid h
  have HG := hid hg
  have HMS := hid ha
  have hlA : L.length ≤ 8 := by have := h.lenA; have := hg.A; omega
  have hlA2 := hid h.lenA
  have hncA := h.rowA.2.1
  have HA := hid hA
  have HB := hid hB
  have HC := hid hC
  have RM := fun W (kW : Keeps Nil w W) => rmay_any a 0 W ((ha.keepN h.base).keepN kW) hd ho hm
  clear kz h hg hA hB hC ha hd ho hm
  go_enter Try.func28, Try.ntmps28
  go_upto_region 1 with (fail)
  generalize (((w.alloc (.cells #[.int .i64 τ.n, .slice pA L.length cA, .slice pE τ.E.length cE, .slice pM R.length cM] 34 (0, 0))).alloc (.cells #[.int .u8 a.lv, .string a.dom, .string a.own, .int .u16 a.vid, .int .u8 a.iv, .slice a.p a.ms.length a.c] 37 (0, 0))).alloc (.cells #[.int .i64 0, .slice Option.none 0 0, .slice Option.none 0 0, .slice Option.none 0 0] 34 (0, 0))) = W at *
  generalize hb2 : w.heap.size + 1 + 1 = b2 at *
  generalize hb1 : w.heap.size + 1 = b1 at *
  have hbs : w.heap.size < b1 ∧ b1 < b2 := by omega
  have RM := hid (RM W KZ.out)
  clear hb1 hb2
  obtain ⟨m0, m1, m2, m3, m4, m5⟩ := six_block HB.out
  have lB := lt_of_block HB.out
  cases hmay : mayA a with
  | false =>
    have HD := hid (show τ.addAsc a = (τ, 0, 2) by unfold CT.addAsc; rw [hmay]; rfl)
    rw [hmay] at RM
    clear hmay
    go_wp2_with fail
    refine RM.out.mono ?_; rintro e w2 ⟨rfl, k2⟩
    clear m0 m1 m2 m3 m4 m5
    go_upto_region 2 with (fail)
    have KK := hid (k2)
    have hAr := KK.out.lies HA.out
    have hCr := KK.out.lies HC.out
    obtain ⟨a0, a1, a2, a3⟩ := four_block hAr
    obtain ⟨z0, z1, z2, z3⟩ := four_block hCr
    obtain ⟨f0, f1, f2, f3⟩ := four_free hCr
    have lAr := lt_of_block hAr
    have lCr := lt_of_block hCr
    have HCR := hid hCr
    clear hAr hCr
    go_wp2_with fail
    obtain ⟨w3, hw2, hF, k2⟩ := set4 HCR.out (.int .i64 τ.n) (.slice pA L.length cA) (.slice pE τ.E.length cE) (.slice pM R.length cM)
    rw [hw2]
    obtain ⟨x0, x1, x2, x3⟩ := four_block hF
    clear z0 z1 z2 z3 f0 f1 f2 f3 a0 a1 a2 a3 hw2
    have KF := hid ((KZ.out.trans KK.out).thenAt k2 (by omega))
    refine bodyPost_ret (v := .tuple #[.agg #[.int .i64 τ.n, .slice pA L.length cA, .slice pE τ.E.length cE, .slice pM R.length cM], .int .i64 0, .int .i64 2]) (by simp [results, Try.results28, go_sem, x0, x1, x2, x3]) rfl ?_
    rw [HD.out]
    exact ⟨⟨_, rfl, ((H0.out.keepN KF.out).more).rv⟩, KF.out⟩
  | true =>
    rw [hmay] at RM
    have HDP := hid (show τ.addAsc a = (if L.any (sameB a.dom a.own) then (τ, 0, 8) else if 8 ≤ L.length then (τ, 0, 6) else ({ τ with A := τ.A ++ [a.bare] }, (L.length : Int), 0)) by
      have e1 : τ.A.any (sameB a.dom a.own) = L.any (sameB a.dom a.own) := by rw [← H0.out.bare, ← any_bare]
      unfold CT.addAsc; rw [hmay, if_pos rfl, e1, hlA2.out])
    clear hmay
    go_wp2_with fail
    refine RM.out.mono ?_; rintro e w2 ⟨rfl, k2⟩
    have K2 := hid k2
    clear m0 m1 m2 m3 m4 m5 k2 lB
    go_upto_region 3 with (fail)
    go_wp2_with fail
    go_loopw [7] (fun s7 wr => ∃ j : Nat, j ≤ L.length ∧ s7 = .int .i64 j ∧ Hid (Keeps Nil W wr ∧ ∀ q x, q < j → L[q]? = some x → sameB a.dom a.own x = false)) (fun s7 _ => L.length - (intOf s7).toNat)
    case atStart => exact ⟨0, Nat.zero_le _, rfl, hid ⟨K2.out, fun q x h => absurd h (Nat.not_lt_zero _)⟩⟩
    case round =>
      obtain ⟨j, hj, rfl, HR⟩ := hrel
      have KR := hid HR.out.1
      obtain ⟨a0, a1, a2, a3⟩ := four_block (KR.out.lies HA.out)
      obtain ⟨m0, m1, m2, m3, m4, m5⟩ := six_block (KR.out.lies HB.out)
      have lA := lt_of_block (KR.out.lies HA.out)
      have lB := lt_of_block (KR.out.lies HB.out)
      by_cases hlt : j < L.length
      · obtain ⟨x, hx⟩ : ∃ x, L[j]? = some x := ⟨_, List.getElem?_eq_getElem hlt⟩
        obtain ⟨g, off, hp, _, hgl, _, d0, d1, d2, d3, d4, d5⟩ := (H0.out.rowA.keepN (KZ.out.trans KR.out)).atA hx
        rw [hp] at a1
        have HX := hid hx
        have HP := hid hp
        have NX := hid (fun (hf : sameB a.dom a.own x = false) => hid (next_no _ HR.out.2 HX.out hf))
        have E1 := str_eq x.dom a.dom
        have E2 := str_eq x.own a.own
        clear hx hp HR
        by_cases e1 : x.dom = a.dom
        · rw [decide_eq_true e1] at E1
          by_cases e2 : x.own = a.own
          · rw [decide_eq_true e2] at E2
            have HD := hid (show τ.addAsc a = (τ, 0, 8) by rw [HDP.out, if_pos (any_at _ HX.out (by simp [sameB, e1, e2]))])
            clear e1 e2
            go_wp2_with fail
            go_quiet (fail)
            have KN := hid (KR.out.trans (Keeps.drewN wr nq))
            clear d0 d1 d2 d3 d4 d5 hgl a0 a1 a2 a3 m0 m1 m2 m3 m4 m5 lA lB
            generalize wr.drewN nq = W7 at *
            go_upto_region 7 with (fail)
            have KK := hid (KN.out)
            have hAr := KK.out.lies HA.out
            have hCr := KK.out.lies HC.out
            obtain ⟨a0, a1, a2, a3⟩ := four_block hAr
            obtain ⟨z0, z1, z2, z3⟩ := four_block hCr
            obtain ⟨f0, f1, f2, f3⟩ := four_free hCr
            have lAr := lt_of_block hAr
            have lCr := lt_of_block hCr
            have HCR := hid hCr
            clear hAr hCr
            go_wp2_with fail
            obtain ⟨w2, hw2, hF, k2⟩ := set4 HCR.out (.int .i64 τ.n) (.slice pA L.length cA) (.slice pE τ.E.length cE) (.slice pM R.length cM)
            rw [hw2]
            obtain ⟨x0, x1, x2, x3⟩ := four_block hF
            clear z0 z1 z2 z3 f0 f1 f2 f3 a0 a1 a2 a3 hw2
            have KF := hid ((KZ.out.trans KK.out).thenAt k2 (by omega))
            refine bodyPost_ret (v := .tuple #[.agg #[.int .i64 τ.n, .slice pA L.length cA, .slice pE τ.E.length cE, .slice pM R.length cM], .int .i64 0, .int .i64 8]) (by simp [results, Try.results28, go_sem, x0, x1, x2, x3]) rfl ?_
            rw [HD.out]
            exact ⟨⟨_, rfl, ((H0.out.keepN KF.out).more).rv⟩, KF.out⟩
          · rw [decide_eq_false e2] at E2
            have HN := NX.out (by simp [sameB]; intro _ e; exact e2 e.symm)
            clear e1 e2
            go_wp2_with fail
            go_quiet (fail)
            go_wp2_with fail
            go_roundw
            case rel => exact ⟨j + 1, by omega, by go_num, hid ⟨KR.out.trans (Keeps.drewN _ _), HN.out⟩⟩
            case measure => simp only [intOf]; omega
        · rw [decide_eq_false e1] at E1
          have HN := NX.out (by simp [sameB]; intro e; exact absurd e.symm e1)
          clear e1
          go_wp2_with fail
          go_quiet (fail)
          go_wp2_with fail
          go_roundw
          case rel => exact ⟨j + 1, by omega, by go_num, hid ⟨KR.out.trans (Keeps.drewN _ _), HN.out⟩⟩
          case measure => simp only [intOf]; omega
      · obtain rfl : j = L.length := by omega
        have HDP2 := hid (show τ.addAsc a = (if 8 ≤ L.length then (τ, 0, 6) else ({ τ with A := τ.A ++ [a.bare] }, (L.length : Int), 0)) by rw [HDP.out, any_of _ (Nat.le_refl _) HR.out.2]; rfl)
        clear HR hj HDP hlt
        by_cases h8 : 8 ≤ L.length
        · have HD := hid (show τ.addAsc a = (τ, 0, 6) by rw [HDP2.out, if_pos h8])
          have q8 : ((L.length : Int) == 8) = true := by simp; omega
          have q8' : (L.length == 8) = true := by simp; omega
          go_upto_region 9 with (fail)
          clear a0 a1 a2 a3 m0 m1 m2 m3 m4 m5 lA lB
          have KK := hid (KR.out)
          have hAr := KK.out.lies HA.out
          have hCr := KK.out.lies HC.out
          obtain ⟨a0, a1, a2, a3⟩ := four_block hAr
          obtain ⟨z0, z1, z2, z3⟩ := four_block hCr
          obtain ⟨f0, f1, f2, f3⟩ := four_free hCr
          have lAr := lt_of_block hAr
          have lCr := lt_of_block hCr
          have HCR := hid hCr
          clear hAr hCr
          go_wp2_with fail
          obtain ⟨w2, hw2, hF, k2⟩ := set4 HCR.out (.int .i64 τ.n) (.slice pA L.length cA) (.slice pE τ.E.length cE) (.slice pM R.length cM)
          rw [hw2]
          obtain ⟨x0, x1, x2, x3⟩ := four_block hF
          clear z0 z1 z2 z3 f0 f1 f2 f3 a0 a1 a2 a3 hw2
          have KF := hid ((KZ.out.trans KK.out).thenAt k2 (by omega))
          refine bodyPost_ret (v := .tuple #[.agg #[.int .i64 τ.n, .slice pA L.length cA, .slice pE τ.E.length cE, .slice pM R.length cM], .int .i64 0, .int .i64 6]) (by simp [results, Try.results28, go_sem, x0, x1, x2, x3]) rfl ?_
          rw [HD.out]
          exact ⟨⟨_, rfl, ((H0.out.keepN KF.out).more).rv⟩, KF.out⟩
        · have HD := hid (show τ.addAsc a = ({ τ with A := τ.A ++ [a.bare] }, (L.length : Int), 0) by rw [HDP2.out, if_neg h8])
          have q8 : ((L.length : Int) == 8) = false := by simp; omega
          have q8' : (L.length == 8) = false := by simp; omega
          go_upto_region 10 with (fail)
          clear a0 a1 a2 a3 m0 m1 m2 m3 m4 m5 lA lB q8 q8'
          have HAw := hid (KR.out.lies HA.out)
          have HBw := hid (KR.out.lies HB.out)
          have HCw := hid (KR.out.lies HC.out)
          have HROW := hid (H0.out.rowA.keepN (KZ.out.trans KR.out))
          have hlB := lt_of_block HBw.out
          have hlA0 := lt_of_block HAw.out
          obtain ⟨i0, hi0, hz0, hz1, hz2⟩ := info_parts rinfoA
          have HIN := hid (And.intro hi0 (And.intro hz0 (And.intro hz1 hz2)))
          have hS : ∀ X, Keeps (At w.heap.size) wr X → X.cell? ⟨b1, 0, Option.none⟩ = some (.int .u8 a.lv) ∧ X.cell? ⟨b1, 1, Option.none⟩ = some (.string a.dom) ∧ X.cell? ⟨b1, 2, Option.none⟩ = some (.string a.own) ∧ X.cell? ⟨b1, 3, Option.none⟩ = some (.int .u16 a.vid) ∧ X.cell? ⟨b1, 4, Option.none⟩ = some (.int .u8 a.iv) ∧ X.cell? ⟨b1, 5, Option.none⟩ = some (.slice a.p a.ms.length a.c) := fun X kx =>
            six_block (kx.lies HBw.out (fun e => by rw [At] at e; omega))
          have HS := hid hS
          have kk : Keeps Nil wr wr := Keeps.refl _ _
          obtain ⟨a0, a1, a2, a3⟩ := four_block HAw.out
          clear hS hi0 hz0 hz1 hz2
          go_cut [50] (fun sO wx => ∃ p2 c2, sO = .slice p2 (L.length + 1) c2 ∧ Hid (wx.heap[w.heap.size]? = some (.cells #[.int .i64 τ.n, .slice p2 (L.length + 1) c2, .slice pE τ.E.length cE, .slice pM R.length cM] 34 (0, 0)) ∧ wx.ownsRow wr.heap.size 37 6 (.slice p2 (L.length + 1) c2) (L.length + 1) (flatA (L ++ [a])) ∧ Keeps (At w.heap.size) wr wx))
          case first =>
            refine wp_region_held_drew (S := (fun X => X.cell? ⟨b1, 0, Option.none⟩ = some (.int .u8 a.lv) ∧ X.cell? ⟨b1, 1, Option.none⟩ = some (.string a.dom) ∧ X.cell? ⟨b1, 2, Option.none⟩ = some (.string a.own) ∧ X.cell? ⟨b1, 3, Option.none⟩ = some (.int .u16 a.vid) ∧ X.cell? ⟨b1, 4, Option.none⟩ = some (.int .u8 a.iv) ∧ X.cell? ⟨b1, 5, Option.none⟩ = some (.slice a.p a.ms.length a.c))) (by kernel_rfl) ?_ (fun hHeld => ?_)
            · (try dsimp only); exact HS.out _ kk.drew.ofNil
            refine wpAnyH_take (i := 0) (v := ?_) rfl (by kernel_rfl) (by kernel_rfl) (by kernel_rfl) (fun _ _ _ h => h) (Or.inl ⟨by rfl, ?_⟩) (by assumption) ?_
            rotate_left
            · (intro W hSw; (try dsimp only at hSw); go_simp <;> with_reducible rfl)
            try simp only [Act.put, List.setIfInBounds_toArray, List.set_cons_zero, List.set_cons_succ, List.getElem_toArray, List.getElem_cons_zero, List.getElem_cons_succ]
            refine wpAnyH_take (i := 3) (v := ?_) rfl (by kernel_rfl) (by kernel_rfl) (by kernel_rfl) (fun _ _ _ h => h) (Or.inl ⟨by rfl, ?_⟩) (by assumption) ?_
            rotate_left
            · (intro W hSw; (try dsimp only at hSw); go_simp <;> with_reducible rfl)
            try simp only [Act.put, List.setIfInBounds_toArray, List.set_cons_zero, List.set_cons_succ, List.getElem_toArray, List.getElem_cons_zero, List.getElem_cons_succ]
            refine wpAnyH_ready (rs := [1, 4]) (by kernel_rfl) (by simp) ?_
            refine AllReadyH.cons rfl (fun K hK => ?_) (AllReadyH.cons rfl (fun K hK => ?_) AllReadyH.nil)
            · try simp only [Act.put, List.setIfInBounds_toArray, List.set_cons_zero, List.set_cons_succ, List.getElem_toArray, List.getElem_cons_zero, List.getElem_cons_succ]
              go_simp
              refine hK.out _ _ ?_ (fun hHeld => ?_)
              · (try dsimp only); exact HS.out _ kk.drew.ofNil
              clear hK K
              try simp only [Act.put, List.setIfInBounds_toArray, List.set_cons_zero, List.set_cons_succ, List.getElem_toArray, List.getElem_cons_zero, List.getElem_cons_succ]
              refine wpAnyH_ready (rs := [2, 4]) (by kernel_rfl) (by simp) ?_
              refine AllReadyH.cons rfl (fun K hK => ?_) (AllReadyH.cons rfl (fun K hK => ?_) AllReadyH.nil)
              · refine step_append_wv (o := ⟨some 47, _, _, _, _, _⟩) _ (by rfl) _ _ 30 (by rfl) wr.heap.size 37 i0 (.agg #[.int .u8 0, .string ⟨#[]⟩, .string ⟨#[]⟩, .int .u16 0, .int .u8 0, .slice Option.none 0 0]) 6 72 Try.underlying30 HIN.out.1 HIN.out.2.1 HIN.out.2.2.1 HIN.out.2.2.2 rfl (by decide) (.slice Option.none 0 0) 0 [] (by rfl) (World.ownsRow_nil _ _ _ _) 0 pA L.length cA (flatA L) (by rfl) (HROW.out.keepN ((Keeps.refl Nil wr).drew)) (flatA_one _) (by unfold maxLen; omega) (by omega) (Keeps.size (S := Nil) ((Keeps.refl Nil wr).drew)) ?_
                intro v1 w1 own1 hg1 hat1
                have kw1 := hid (((Keeps.refl Nil wr).drew).trans (grown_nil hg1))
                refine hK.out _ _ ?_ (fun hHeld => ?_)
                · (try dsimp only); exact HS.out _ kw1.out.ofNil
                clear hK K
                try simp only [Act.put, List.setIfInBounds_toArray, List.set_cons_zero, List.set_cons_succ, List.getElem_toArray, List.getElem_cons_zero, List.getElem_cons_succ]
                refine wpAnyH_ready (rs := [4]) (by kernel_rfl) (by simp) ?_
                refine AllReadyH.cons rfl (fun K hK => ?_) AllReadyH.nil
                try simp only [Act.put, List.setIfInBounds_toArray, List.set_cons_zero, List.set_cons_succ, List.getElem_toArray, List.getElem_cons_zero, List.getElem_cons_succ]
                go_simp
                refine hK.out _ _ ?_ (fun hHeld => ?_)
                · (try dsimp only); exact HS.out _ (kw1.out.alloc _).ofNil
                clear hK K
                try simp only [Act.put, List.setIfInBounds_toArray, List.set_cons_zero, List.set_cons_succ, List.getElem_toArray, List.getElem_cons_zero, List.getElem_cons_succ]
                refine wpAnyH_ready (rs := [5]) (by kernel_rfl) (by simp) ?_
                refine AllReadyH.cons rfl (fun K hK => ?_) AllReadyH.nil
                refine step_append_wv (o := ⟨some 50, _, _, _, _, _⟩) _ (by rfl) _ _ 30 (by rfl) wr.heap.size 37 i0 (.agg #[.int .u8 0, .string ⟨#[]⟩, .string ⟨#[]⟩, .int .u16 0, .int .u8 0, .slice Option.none 0 0]) 6 72 Try.underlying30 HIN.out.1 HIN.out.2.1 HIN.out.2.2.1 HIN.out.2.2.2 rfl (by decide) v1 _ _ (by rfl) (ownsRow_keep own1 ((Keeps.refl Nil w1).alloc _) (fun _ _ e => e)) 0 (some ⟨w1.heap.size, 0, Option.none⟩) 1 1 [.int .u8 a.lv, .string a.dom, .string a.own, .int .u16 a.vid, .int .u8 a.iv, .slice a.p a.ms.length a.c] (by rfl) (WV.new w1 #[.int .u8 a.lv, .string a.dom, .string a.own, .int .u16 a.vid, .int .u8 a.iv, .slice a.p a.ms.length a.c] 37 6 rfl) (by simp [Value.oneCell']) (by unfold maxLen; omega) (by omega) (Nat.le_trans kw1.out.size (by simp)) ?_
                intro v2 w2' own2 hg2 hat2
                have kw2 := hid (grown_own own1 hg2 (Nat.le_refl _) (kw1.out.alloc _))
                have hbA := kw2.out.lies HAw.out
                obtain ⟨y0, y1, y2, y3⟩ := four_block hbA
                obtain ⟨y4, y5, y6, y7⟩ := four_free hbA
                have lbA := lt_of_block hbA
                obtain ⟨p2, c2, hv2⟩ := own_shape own2
                subst hv2
                have HY := hid hbA
                clear hbA
                refine hK.out _ _ ?_ (fun hHeld => ?_)
                · (try dsimp only); exact HS.out _ kw2.out.ofNil
                clear hK K
                try simp only [Act.put, List.setIfInBounds_toArray, List.set_cons_zero, List.set_cons_succ, List.getElem_toArray, List.getElem_cons_zero, List.getElem_cons_succ]
                refine wpAnyH_take (i := 6) (v := ?_) rfl (by kernel_rfl) (by kernel_rfl) (by kernel_rfl) (fun _ _ _ h => h) (Or.inl ⟨by rfl, ?_⟩) (by assumption) ?_
                rotate_left
                · (intro W hSw; (try dsimp only at hSw); go_simp <;> with_reducible rfl)
                try simp only [Act.put, List.setIfInBounds_toArray, List.set_cons_zero, List.set_cons_succ, List.getElem_toArray, List.getElem_cons_zero, List.getElem_cons_succ]
                refine wpAnyH_ready (rs := [7]) (by kernel_rfl) (by simp) ?_
                refine AllReadyH.cons rfl (fun K hK => ?_) AllReadyH.nil
                try simp only [Act.put, List.setIfInBounds_toArray, List.set_cons_zero, List.set_cons_succ, List.getElem_toArray, List.getElem_cons_zero, List.getElem_cons_succ]
                go_simp
                refine hK.out _ _ ?_ (fun hHeld => ?_)
                · (try dsimp only); exact HS.out _ (kw2.out.ofNil.set _ _ (at_self _) _)
                clear hK K
                try simp only [Act.put, List.setIfInBounds_toArray, List.set_cons_zero, List.set_cons_succ, List.getElem_toArray, List.getElem_cons_zero, List.getElem_cons_succ]
                refine wpAnyH_done (by kernel_rfl) ?_ _
                go_wp2_with fail
                go_meet
                have hacc : w2'.ownsRow wr.heap.size 37 6 (.slice p2 (L.length + 1) c2) (L.length + 1) (flatA (L ++ [a])) := by
                  have e1 : flatA (L ++ [a]) = [] ++ flatA L ++ [.int .u8 a.lv, .string a.dom, .string a.own, .int .u16 a.vid, .int .u8 a.iv, .slice a.p a.ms.length a.c] := by rw [flatA_append]; simp [flatA]
                  rw [e1]
                  simpa using own2
                have ks : Keeps (At w.heap.size) w2' (w2'.setCell ⟨w.heap.size, 1, Option.none⟩ (.slice p2 (L.length + 1) c2)) := (Keeps.refl _ _).set _ _ (at_self _) _
                exact ⟨p2, c2, by simp, hid ⟨by have := setCell_block HY.out 1 (.slice p2 (L.length + 1) c2); simpa using this, ownsRow_keep hacc ks (fun g hg e => by rw [At] at e; have := lt_of_block HAw.out; omega), kw2.out.ofNil.trans ks⟩⟩
              · try simp only [Act.put, List.setIfInBounds_toArray, List.set_cons_zero, List.set_cons_succ, List.getElem_toArray, List.getElem_cons_zero, List.getElem_cons_succ]
                go_simp
                refine hK.out _ _ ?_ (fun hHeld => ?_)
                · (try dsimp only); first | exact HS.out _ (kk.alloc _).drew.ofNil | exact HS.out _ (kk.drew.alloc _).ofNil
                clear hK K
                try simp only [Act.put, List.setIfInBounds_toArray, List.set_cons_zero, List.set_cons_succ, List.getElem_toArray, List.getElem_cons_zero, List.getElem_cons_succ]
                refine wpAnyH_ready (rs := [2]) (by kernel_rfl) (by simp) ?_
                refine AllReadyH.cons rfl (fun K hK => ?_) AllReadyH.nil
                refine step_append_wv (o := ⟨some 47, _, _, _, _, _⟩) _ (by rfl) _ _ 30 (by rfl) wr.heap.size 37 i0 (.agg #[.int .u8 0, .string ⟨#[]⟩, .string ⟨#[]⟩, .int .u16 0, .int .u8 0, .slice Option.none 0 0]) 6 72 Try.underlying30 HIN.out.1 HIN.out.2.1 HIN.out.2.2.1 HIN.out.2.2.2 rfl (by decide) (.slice Option.none 0 0) 0 [] (by rfl) (World.ownsRow_nil _ _ _ _) 0 pA L.length cA (flatA L) (by rfl) (HROW.out.keepN (((Keeps.refl Nil wr).alloc (.cells #[.int .u8 a.lv, .string a.dom, .string a.own, .int .u16 a.vid, .int .u8 a.iv, .slice a.p a.ms.length a.c] 37 (0, 0))).drew)) (flatA_one _) (by unfold maxLen; omega) (by omega) (Keeps.size (S := Nil) (((Keeps.refl Nil wr).alloc (.cells #[.int .u8 a.lv, .string a.dom, .string a.own, .int .u16 a.vid, .int .u8 a.iv, .slice a.p a.ms.length a.c] 37 (0, 0))).drew)) ?_
                intro v1 w1 own1 hg1 hat1
                have kw1 := hid ((((Keeps.refl Nil wr).alloc (.cells #[.int .u8 a.lv, .string a.dom, .string a.own, .int .u16 a.vid, .int .u8 a.iv, .slice a.p a.ms.length a.c] 37 (0, 0))).drew).trans (grown_nil hg1))
                refine hK.out _ _ ?_ (fun hHeld => ?_)
                · (try dsimp only); exact HS.out _ kw1.out.ofNil
                clear hK K
                try simp only [Act.put, List.setIfInBounds_toArray, List.set_cons_zero, List.set_cons_succ, List.getElem_toArray, List.getElem_cons_zero, List.getElem_cons_succ]
                refine wpAnyH_ready (rs := [5]) (by kernel_rfl) (by simp) ?_
                refine AllReadyH.cons rfl (fun K hK => ?_) AllReadyH.nil
                refine step_append_wv (o := ⟨some 50, _, _, _, _, _⟩) _ (by rfl) _ _ 30 (by rfl) wr.heap.size 37 i0 (.agg #[.int .u8 0, .string ⟨#[]⟩, .string ⟨#[]⟩, .int .u16 0, .int .u8 0, .slice Option.none 0 0]) 6 72 Try.underlying30 HIN.out.1 HIN.out.2.1 HIN.out.2.2.1 HIN.out.2.2.2 rfl (by decide) v1 _ _ (by rfl) own1 0 (some ⟨wr.heap.size, 0, Option.none⟩) 1 1 [.int .u8 a.lv, .string a.dom, .string a.own, .int .u16 a.vid, .int .u8 a.iv, .slice a.p a.ms.length a.c] (by rfl) ((WV.new wr #[.int .u8 a.lv, .string a.dom, .string a.own, .int .u16 a.vid, .int .u8 a.iv, .slice a.p a.ms.length a.c] 37 6 rfl).keepN ((Keeps.refl Nil (wr.alloc (.cells #[.int .u8 a.lv, .string a.dom, .string a.own, .int .u16 a.vid, .int .u8 a.iv, .slice a.p a.ms.length a.c] 37 (0, 0)))).drew.trans (grown_nil hg1))) (by simp [Value.oneCell']) (by unfold maxLen; omega) (by omega) kw1.out.size ?_
                intro v2 w2' own2 hg2 hat2
                have kw2 := hid (grown_own own1 hg2 (Nat.le_refl _) kw1.out)
                have hbA := kw2.out.lies HAw.out
                obtain ⟨y0, y1, y2, y3⟩ := four_block hbA
                obtain ⟨y4, y5, y6, y7⟩ := four_free hbA
                have lbA := lt_of_block hbA
                obtain ⟨p2, c2, hv2⟩ := own_shape own2
                subst hv2
                have HY := hid hbA
                clear hbA
                refine hK.out _ _ ?_ (fun hHeld => ?_)
                · (try dsimp only); exact HS.out _ kw2.out.ofNil
                clear hK K
                try simp only [Act.put, List.setIfInBounds_toArray, List.set_cons_zero, List.set_cons_succ, List.getElem_toArray, List.getElem_cons_zero, List.getElem_cons_succ]
                refine wpAnyH_take (i := 6) (v := ?_) rfl (by kernel_rfl) (by kernel_rfl) (by kernel_rfl) (fun _ _ _ h => h) (Or.inl ⟨by rfl, ?_⟩) (by assumption) ?_
                rotate_left
                · (intro W hSw; (try dsimp only at hSw); go_simp <;> with_reducible rfl)
                try simp only [Act.put, List.setIfInBounds_toArray, List.set_cons_zero, List.set_cons_succ, List.getElem_toArray, List.getElem_cons_zero, List.getElem_cons_succ]
                refine wpAnyH_ready (rs := [7]) (by kernel_rfl) (by simp) ?_
                refine AllReadyH.cons rfl (fun K hK => ?_) AllReadyH.nil
                try simp only [Act.put, List.setIfInBounds_toArray, List.set_cons_zero, List.set_cons_succ, List.getElem_toArray, List.getElem_cons_zero, List.getElem_cons_succ]
                go_simp
                refine hK.out _ _ ?_ (fun hHeld => ?_)
                · (try dsimp only); exact HS.out _ (kw2.out.ofNil.set _ _ (at_self _) _)
                clear hK K
                try simp only [Act.put, List.setIfInBounds_toArray, List.set_cons_zero, List.set_cons_succ, List.getElem_toArray, List.getElem_cons_zero, List.getElem_cons_succ]
                refine wpAnyH_done (by kernel_rfl) ?_ _
                go_wp2_with fail
                go_meet
                have hacc : w2'.ownsRow wr.heap.size 37 6 (.slice p2 (L.length + 1) c2) (L.length + 1) (flatA (L ++ [a])) := by
                  have e1 : flatA (L ++ [a]) = [] ++ flatA L ++ [.int .u8 a.lv, .string a.dom, .string a.own, .int .u16 a.vid, .int .u8 a.iv, .slice a.p a.ms.length a.c] := by rw [flatA_append]; simp [flatA]
                  rw [e1]
                  simpa using own2
                have ks : Keeps (At w.heap.size) w2' (w2'.setCell ⟨w.heap.size, 1, Option.none⟩ (.slice p2 (L.length + 1) c2)) := (Keeps.refl _ _).set _ _ (at_self _) _
                exact ⟨p2, c2, by simp, hid ⟨by have := setCell_block HY.out 1 (.slice p2 (L.length + 1) c2); simpa using this, ownsRow_keep hacc ks (fun g hg e => by rw [At] at e; have := lt_of_block HAw.out; omega), kw2.out.ofNil.trans ks⟩⟩
            · try simp only [Act.put, List.setIfInBounds_toArray, List.set_cons_zero, List.set_cons_succ, List.getElem_toArray, List.getElem_cons_zero, List.getElem_cons_succ]
              go_simp
              refine hK.out _ _ ?_ (fun hHeld => ?_)
              · (try dsimp only); first | exact HS.out _ (kk.alloc _).drew.ofNil | exact HS.out _ (kk.drew.alloc _).ofNil
              clear hK K
              try simp only [Act.put, List.setIfInBounds_toArray, List.set_cons_zero, List.set_cons_succ, List.getElem_toArray, List.getElem_cons_zero, List.getElem_cons_succ]
              refine wpAnyH_ready (rs := [1]) (by kernel_rfl) (by simp) ?_
              refine AllReadyH.cons rfl (fun K hK => ?_) AllReadyH.nil
              try simp only [Act.put, List.setIfInBounds_toArray, List.set_cons_zero, List.set_cons_succ, List.getElem_toArray, List.getElem_cons_zero, List.getElem_cons_succ]
              go_simp
              refine hK.out _ _ ?_ (fun hHeld => ?_)
              · (try dsimp only); first | exact HS.out _ (kk.alloc _).drew.ofNil | exact HS.out _ (kk.drew.alloc _).ofNil
              clear hK K
              try simp only [Act.put, List.setIfInBounds_toArray, List.set_cons_zero, List.set_cons_succ, List.getElem_toArray, List.getElem_cons_zero, List.getElem_cons_succ]
              refine wpAnyH_ready (rs := [2]) (by kernel_rfl) (by simp) ?_
              refine AllReadyH.cons rfl (fun K hK => ?_) AllReadyH.nil
              refine step_append_wv (o := ⟨some 47, _, _, _, _, _⟩) _ (by rfl) _ _ 30 (by rfl) wr.heap.size 37 i0 (.agg #[.int .u8 0, .string ⟨#[]⟩, .string ⟨#[]⟩, .int .u16 0, .int .u8 0, .slice Option.none 0 0]) 6 72 Try.underlying30 HIN.out.1 HIN.out.2.1 HIN.out.2.2.1 HIN.out.2.2.2 rfl (by decide) (.slice Option.none 0 0) 0 [] (by rfl) (World.ownsRow_nil _ _ _ _) 0 pA L.length cA (flatA L) (by rfl) (HROW.out.keepN (((Keeps.refl Nil wr).alloc (.cells #[.int .u8 a.lv, .string a.dom, .string a.own, .int .u16 a.vid, .int .u8 a.iv, .slice a.p a.ms.length a.c] 37 (0, 0))).drew)) (flatA_one _) (by unfold maxLen; omega) (by omega) (Keeps.size (S := Nil) (((Keeps.refl Nil wr).alloc (.cells #[.int .u8 a.lv, .string a.dom, .string a.own, .int .u16 a.vid, .int .u8 a.iv, .slice a.p a.ms.length a.c] 37 (0, 0))).drew)) ?_
              intro v1 w1 own1 hg1 hat1
              have kw1 := hid ((((Keeps.refl Nil wr).alloc (.cells #[.int .u8 a.lv, .string a.dom, .string a.own, .int .u16 a.vid, .int .u8 a.iv, .slice a.p a.ms.length a.c] 37 (0, 0))).drew).trans (grown_nil hg1))
              refine hK.out _ _ ?_ (fun hHeld => ?_)
              · (try dsimp only); exact HS.out _ kw1.out.ofNil
              clear hK K
              try simp only [Act.put, List.setIfInBounds_toArray, List.set_cons_zero, List.set_cons_succ, List.getElem_toArray, List.getElem_cons_zero, List.getElem_cons_succ]
              refine wpAnyH_ready (rs := [5]) (by kernel_rfl) (by simp) ?_
              refine AllReadyH.cons rfl (fun K hK => ?_) AllReadyH.nil
              refine step_append_wv (o := ⟨some 50, _, _, _, _, _⟩) _ (by rfl) _ _ 30 (by rfl) wr.heap.size 37 i0 (.agg #[.int .u8 0, .string ⟨#[]⟩, .string ⟨#[]⟩, .int .u16 0, .int .u8 0, .slice Option.none 0 0]) 6 72 Try.underlying30 HIN.out.1 HIN.out.2.1 HIN.out.2.2.1 HIN.out.2.2.2 rfl (by decide) v1 _ _ (by rfl) own1 0 (some ⟨wr.heap.size, 0, Option.none⟩) 1 1 [.int .u8 a.lv, .string a.dom, .string a.own, .int .u16 a.vid, .int .u8 a.iv, .slice a.p a.ms.length a.c] (by rfl) ((WV.new wr #[.int .u8 a.lv, .string a.dom, .string a.own, .int .u16 a.vid, .int .u8 a.iv, .slice a.p a.ms.length a.c] 37 6 rfl).keepN ((Keeps.refl Nil (wr.alloc (.cells #[.int .u8 a.lv, .string a.dom, .string a.own, .int .u16 a.vid, .int .u8 a.iv, .slice a.p a.ms.length a.c] 37 (0, 0)))).drew.trans (grown_nil hg1))) (by simp [Value.oneCell']) (by unfold maxLen; omega) (by omega) kw1.out.size ?_
              intro v2 w2' own2 hg2 hat2
              have kw2 := hid (grown_own own1 hg2 (Nat.le_refl _) kw1.out)
              have hbA := kw2.out.lies HAw.out
              obtain ⟨y0, y1, y2, y3⟩ := four_block hbA
              obtain ⟨y4, y5, y6, y7⟩ := four_free hbA
              have lbA := lt_of_block hbA
              obtain ⟨p2, c2, hv2⟩ := own_shape own2
              subst hv2
              have HY := hid hbA
              clear hbA
              refine hK.out _ _ ?_ (fun hHeld => ?_)
              · (try dsimp only); exact HS.out _ kw2.out.ofNil
              clear hK K
              try simp only [Act.put, List.setIfInBounds_toArray, List.set_cons_zero, List.set_cons_succ, List.getElem_toArray, List.getElem_cons_zero, List.getElem_cons_succ]
              refine wpAnyH_take (i := 6) (v := ?_) rfl (by kernel_rfl) (by kernel_rfl) (by kernel_rfl) (fun _ _ _ h => h) (Or.inl ⟨by rfl, ?_⟩) (by assumption) ?_
              rotate_left
              · (intro W hSw; (try dsimp only at hSw); go_simp <;> with_reducible rfl)
              try simp only [Act.put, List.setIfInBounds_toArray, List.set_cons_zero, List.set_cons_succ, List.getElem_toArray, List.getElem_cons_zero, List.getElem_cons_succ]
              refine wpAnyH_ready (rs := [7]) (by kernel_rfl) (by simp) ?_
              refine AllReadyH.cons rfl (fun K hK => ?_) AllReadyH.nil
              try simp only [Act.put, List.setIfInBounds_toArray, List.set_cons_zero, List.set_cons_succ, List.getElem_toArray, List.getElem_cons_zero, List.getElem_cons_succ]
              go_simp
              refine hK.out _ _ ?_ (fun hHeld => ?_)
              · (try dsimp only); exact HS.out _ (kw2.out.ofNil.set _ _ (at_self _) _)
              clear hK K
              try simp only [Act.put, List.setIfInBounds_toArray, List.set_cons_zero, List.set_cons_succ, List.getElem_toArray, List.getElem_cons_zero, List.getElem_cons_succ]
              refine wpAnyH_done (by kernel_rfl) ?_ _
              go_wp2_with fail
              go_meet
              have hacc : w2'.ownsRow wr.heap.size 37 6 (.slice p2 (L.length + 1) c2) (L.length + 1) (flatA (L ++ [a])) := by
                have e1 : flatA (L ++ [a]) = [] ++ flatA L ++ [.int .u8 a.lv, .string a.dom, .string a.own, .int .u16 a.vid, .int .u8 a.iv, .slice a.p a.ms.length a.c] := by rw [flatA_append]; simp [flatA]
                rw [e1]
                simpa using own2
              have ks : Keeps (At w.heap.size) w2' (w2'.setCell ⟨w.heap.size, 1, Option.none⟩ (.slice p2 (L.length + 1) c2)) := (Keeps.refl _ _).set _ _ (at_self _) _
              exact ⟨p2, c2, by simp, hid ⟨by have := setCell_block HY.out 1 (.slice p2 (L.length + 1) c2); simpa using this, ownsRow_keep hacc ks (fun g hg e => by rw [At] at e; have := lt_of_block HAw.out; omega), kw2.out.ofNil.trans ks⟩⟩
          case rest =>
            obtain ⟨p2, c2, rfl, HO⟩ := hcut
            have hlC := lt_of_block HCw.out
            have hCr := HO.out.2.2.lies HCw.out (fun e => by rw [At] at e; omega)
            obtain ⟨a0, a1, a2, a3⟩ := four_block HO.out.1
            obtain ⟨z0, z1, z2, z3⟩ := four_block hCr
            obtain ⟨f0, f1, f2, f3⟩ := four_free hCr
            have lAr := lt_of_block HO.out.1
            have lCr := lt_of_block hCr
            have HCR := hid hCr
            have hsub : ((L.length + 1 : Nat) : Int) - 1 = (L.length : Int) := by omega
            clear hCr
            have hS := hid (show ∀ X, Keeps (At b2) wc X → X.cell? ⟨w.heap.size, 0, Option.none⟩ = some (.int .i64 τ.n) ∧ X.cell? ⟨w.heap.size, 1, Option.none⟩ = some (.slice p2 (L.length + 1) c2) ∧ X.cell? ⟨w.heap.size, 2, Option.none⟩ = some (.slice pE τ.E.length cE) ∧ X.cell? ⟨w.heap.size, 3, Option.none⟩ = some (.slice pM R.length cM) from fun X kx => four_block (kx.lies HO.out.1 (fun e => by rw [At] at e; omega)))
            have kk : Keeps (At b2) wc wc := Keeps.refl _ _
            have hw1 : IntKind.i64.wrap (((L.length + 1 : Nat) : Int) - 1) = (L.length : Int) := by rw [hsub]; exact IntWalk.i64_in _ (by omega)
            have hw3 : IntKind.i64.wrap (L.length : Int) = (L.length : Int) := IntWalk.i64_in _ (by omega)
            have hw2' : IntKind.i64.wrap ((L.length : Int) + 1 - 1) = (L.length : Int) := by rw [Int.add_sub_cancel]; exact IntWalk.i64_in _ (by omega)
            have HW3 := hid hw3
            clear hw3
            go_wp2_with fail
            refine wp_region_held_drew (S := fun X => X.cell? ⟨w.heap.size, 0, Option.none⟩ = some (.int .i64 τ.n) ∧ X.cell? ⟨w.heap.size, 1, Option.none⟩ = some (.slice p2 (L.length + 1) c2) ∧ X.cell? ⟨w.heap.size, 2, Option.none⟩ = some (.slice pE τ.E.length cE) ∧ X.cell? ⟨w.heap.size, 3, Option.none⟩ = some (.slice pM R.length cM)) (by kernel_rfl) ?_ (fun hHeld => ?_)
            · (try dsimp only); exact hS.out _ kk.drew
            refine wpAnyH_take (i := 0) (v := ?_) rfl (by kernel_rfl) (by kernel_rfl) (by kernel_rfl) (fun _ _ _ h => h) (Or.inl ⟨by rfl, ?_⟩) (by assumption) ?_
            rotate_left
            · (intro W hSw; (try dsimp only at hSw); go_simp <;> with_reducible rfl)
            try simp only [Act.put, List.setIfInBounds_toArray, List.set_cons_zero, List.set_cons_succ, List.getElem_toArray, List.getElem_cons_zero, List.getElem_cons_succ]
            refine wpAnyH_take (i := 1) (v := ?_) rfl (by kernel_rfl) (by kernel_rfl) (by kernel_rfl) (fun _ _ _ h => h) (Or.inl ⟨by rfl, ?_⟩) (by assumption) ?_
            rotate_left
            · (intro W hSw; (try dsimp only at hSw); go_simp <;> with_reducible rfl)
            try simp only [Act.put, List.setIfInBounds_toArray, List.set_cons_zero, List.set_cons_succ, List.getElem_toArray, List.getElem_cons_zero, List.getElem_cons_succ]
            refine wpAnyH_take (i := 2) (v := ?_) rfl (by kernel_rfl) (by kernel_rfl) (by kernel_rfl) (fun _ _ _ h => h) (Or.inl ⟨by rfl, ?_⟩) (by assumption) ?_
            rotate_left
            · (intro W hSw; (try dsimp only at hSw); go_simp <;> with_reducible rfl)
            try simp only [Act.put, List.setIfInBounds_toArray, List.set_cons_zero, List.set_cons_succ, List.getElem_toArray, List.getElem_cons_zero, List.getElem_cons_succ]
            refine wpAnyH_take (i := 3) (v := ?_) rfl (by kernel_rfl) (by kernel_rfl) (by kernel_rfl) (fun _ _ _ h => h) (Or.inl ⟨by rfl, ?_⟩) (by assumption) ?_
            rotate_left
            · (intro W hSw; (try dsimp only at hSw); go_simp <;> with_reducible rfl)
            try simp only [Act.put, List.setIfInBounds_toArray, List.set_cons_zero, List.set_cons_succ, List.getElem_toArray, List.getElem_cons_zero, List.getElem_cons_succ]
            refine wpAnyH_take (i := 4) (v := ?_) rfl (by kernel_rfl) (by kernel_rfl) (by kernel_rfl) (fun _ _ _ h => h) (Or.inl ⟨by rfl, ?_⟩) (by assumption) ?_
            rotate_left
            · (intro W hSw; (try dsimp only at hSw); go_simp <;> with_reducible rfl)
            try simp only [Act.put, List.setIfInBounds_toArray, List.set_cons_zero, List.set_cons_succ, List.getElem_toArray, List.getElem_cons_zero, List.getElem_cons_succ]
            refine wpAnyH_ready (rs := [5]) (by kernel_rfl) (by simp) ?_
            refine AllReadyH.cons rfl (fun K hK => ?_) AllReadyH.nil
            try simp only [Act.put, List.setIfInBounds_toArray, List.set_cons_zero, List.set_cons_succ, List.getElem_toArray, List.getElem_cons_zero, List.getElem_cons_succ]
            go_simp
            refine hK.out _ _ ?_ (fun hHeld => ?_)
            · (try dsimp only); exact hS.out _ ((((kk.drew.set _ _ (at_self _) _).set _ _ (at_self _) _).set _ _ (at_self _) _).set _ _ (at_self _) _)
            clear hK K
            try simp only [Act.put, List.setIfInBounds_toArray, List.set_cons_zero, List.set_cons_succ, List.getElem_toArray, List.getElem_cons_zero, List.getElem_cons_succ]
            refine wpAnyH_take (i := 6) (v := ?_) rfl (by kernel_rfl) (by kernel_rfl) (by kernel_rfl) (fun _ _ _ h => h) (Or.inl ⟨by rfl, ?_⟩) (by assumption) ?_
            rotate_left
            · (intro W hSw; (try dsimp only at hSw); go_simp <;> with_reducible rfl)
            try simp only [Act.put, List.setIfInBounds_toArray, List.set_cons_zero, List.set_cons_succ, List.getElem_toArray, List.getElem_cons_zero, List.getElem_cons_succ]
            refine wpAnyH_take (i := 7) (v := ?_) rfl (by kernel_rfl) (by kernel_rfl) (by kernel_rfl) (fun _ _ _ h => h) (Or.inl ⟨by rfl, ?_⟩) (by assumption) ?_
            rotate_left
            · (intro W hSw; (try dsimp only at hSw); go_simp <;> with_reducible rfl)
            try simp only [Act.put, List.setIfInBounds_toArray, List.set_cons_zero, List.set_cons_succ, List.getElem_toArray, List.getElem_cons_zero, List.getElem_cons_succ]
            refine wpAnyH_done (by kernel_rfl) ?_ _
            go_wp2_with fail
            obtain ⟨w3, hw2, hF, k2⟩ := set4 HCR.out (.int .i64 τ.n) (.slice p2 (L.length + 1) c2) (.slice pE τ.E.length cE) (.slice pM R.length cM)
            rw [hw2]
            obtain ⟨x0, x1, x2, x3⟩ := four_block hF
            clear z0 z1 z2 z3 f0 f1 f2 f3 a0 a1 a2 a3 hw2
            have KF := hid ((((KZ.out.trans KR.out).thenAt HO.out.2.2 (Nat.le_refl _)).thenAt k2 (by omega)).drew)
            have hO := own_mono (ownsRow_keep HO.out.2.1 k2 (fun g hg e => by rw [At] at e; omega)) (Nat.zero_le _)
            refine bodyPost_ret (v := .tuple #[.agg #[.int .i64 τ.n, .slice p2 (L.length + 1) c2, .slice pE τ.E.length cE, .slice pM R.length cM], .int .i64 (L.length : Int), .int .i64 0]) (by simp [results, Try.results28, go_sem, x0, x1, x2, x3, HW3.out]) rfl ?_
            rw [HD.out]
            have HF := H0.out.keepN KF.out
            have hMS := HMS.out
            exact ⟨⟨_, rfl, ⟨p2, c2, _, _, _, _, L ++ [a], R, by simp, HF.base, by simpa using own_keepN hO (Keeps.refl Nil w3).drew, by simp [HF.bare], fun x hx => by
              rcases List.mem_append.1 hx with h | h
              · exact HF.nums x h
              · simp at h; subst h; exact hMS, HF.ownE, HF.ownM, HF.mat.more⟩⟩, KF.out⟩
end Go.Proofs.Ytbgijlfdgfhceaa
