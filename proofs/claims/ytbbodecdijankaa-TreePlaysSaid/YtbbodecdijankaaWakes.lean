/-
  Layer 9: the machine that is known (wakes). No condition.
-/
import Derived.Test.YtbbodecdijankaaHear
import Derived.Test.YtbbodecdijankaaNew
import Derived.Test.YtbbodecdijankaaPower
import Derived.Test.YtbbodecdijankaaTells
import Derived.Test.YtbbodecdijankaaKnown
namespace Go.Proofs.Ytbbodecdijankaa
open Go.RowKit
set_option linter.unusedVariables false
set_option linter.unusedSimpArgs false
set_option maxRecDepth 8000

theorem wkb_ok : wkb.Ok := ⟨by decide, by decide, by decide, by decide, by decide, by decide, by decide, by decide⟩
theorem wkc_ok : wkc.Ok := ⟨by decide, by decide, by decide, by decide, by decide, by decide, by decide, by decide⟩
theorem bz_ok : Bp.zero.Ok := ⟨by decide, by decide, by decide, by decide, by decide, by decide, by decide, by decide⟩
theorem wk0_ok : wk0.Ok := ⟨by decide, by decide, by intro p hp; simp [wk0, TM.start] at hp; rcases hp with rfl | rfl <;> exact ⟨by decide, bz_ok, by decide, by decide⟩, by decide, by decide, by decide, by decide, by decide, by decide⟩
set_option maxHeartbeats 8000000 in
theorem wakes_any (w : World) : Calls Try.prog 7 #[] w fun e w' => e = .returned (.bool true) ∧ Keeps Nil w w' := by
  have hwv : WV (w.alloc (.cells #[.int .u32 10, .int .u32 10, .int .u32 0] 33 (0, 0))) 0 1 (some ⟨w.heap.size, 0, Option.none⟩) 3 3 (([10, 10, 0] : List Int).map (Value.int .u32)) :=
    ⟨rfl, by decide, fun _ => ⟨_, _, rfl, Nat.zero_le _, by simp, fun j u hu => by
      have hb := alloc_block w (.cells #[.int .u32 10, .int .u32 10, .int .u32 0] 33 (0, 0))
      simp only [World.cell?, Nat.zero_add]
      rw [hb]
      simpa using hu⟩⟩
  have NW := hid (new_any 5 _ 3 3 [10, 10, 0] _ hwv ⟨by decide, by decide, by decide⟩)
  clear hwv
  go_enter Try.func7, Try.ntmps7
  go_wp2_with fail
  refine NW.out.mono ?_; rintro e w1 ⟨⟨m, g, c, rfl, hm, hg, h1⟩, k1⟩
  have KA : Keeps Nil w w1 := ((Keeps.refl _ _).alloc _).trans k1
  have hm' : w.heap.size ≤ m ∧ w.heap.size ≤ g := by rw [World.size_alloc] at hm hg; omega
  have U1 := hid (up_any (i := 0) h1 (by decide) wk0_ok (by decide))
  have HM := hid hm'
  have K1 := hid KA
  clear hm hg h1 k1 KA hm'
  go_wp2_with fail
  refine U1.out.mono ?_; rintro e w2 ⟨rfl, h2, k2⟩
  have U2 := hid (up_any (i := 1) h2 (by decide) (wk0_ok.power 0 true) (by decide))
  have K2 := hid (K1.out.thenOwn k2 (fun q e => by rcases e with rfl | rfl; exact HM.out.1; exact HM.out.2))
  clear h2 k2
  go_wp2_with fail
  refine U2.out.mono ?_; rintro e w3 ⟨rfl, h3, k3⟩
  have U3 := hid (up_any (i := 2) h3 (by decide) ((wk0_ok.power 0 true).power 1 true) (by decide))
  have K3 := hid (K2.out.thenOwn k3 (fun q e => by rcases e with rfl | rfl; exact HM.out.1; exact HM.out.2))
  clear h3 k3
  go_wp2_with fail
  refine U3.out.mono ?_; rintro e w4 ⟨rfl, h4, k4⟩
  rw [show ((((TM.start 5 [10, 10, 0]).power 0 true).power 1 true).power 2 true) = wk3 from wk_up] at h4
  have hok3 : wk3.Ok := by rw [← wk_up]; exact ((wk0_ok.power 0 true).power 1 true).power 2 true
  have H4 := hid h4
  have K4 := hid (K3.out.thenOwn k4 (fun q e => by rcases e with rfl | rfl; exact HM.out.1; exact HM.out.2))
  have HO3 := hid hok3
  clear h4 k4 hok3
  go_wp2_with fail
  have hbx := alloc_block w4 (.cells #[.int .u64 3, .int .u32 7, .int .u64 3, .int .u8 0, .int .u8 0, .int .u64 9, .int .u8 2, .bool true, .bool false, .bool false, .int .u64 0] 54 (0, 0))
  have kx : Keeps Nil w4 (w4.alloc (.cells #[.int .u64 3, .int .u32 7, .int .u64 3, .int .u8 0, .int .u8 0, .int .u64 9, .int .u8 2, .bool true, .bool false, .bool false, .int .u64 0] 54 (0, 0))) := (Keeps.refl _ _).alloc _
  have hmx := H4.out.alloc (.cells #[.int .u64 3, .int .u32 7, .int .u64 3, .int .u8 0, .int .u8 0, .int .u64 9, .int .u8 2, .bool true, .bool false, .bool false, .int .u64 0] 54 (0, 0))
  have hlt := H4.out.lt
  have hsx : (w4.alloc (.cells #[.int .u64 3, .int .u32 7, .int .u64 3, .int .u8 0, .int .u8 0, .int .u64 9, .int .u8 2, .bool true, .bool false, .bool false, .int .u64 0] 54 (0, 0))).heap.size = w4.heap.size + 1 := by simp
  have HV := hid (hear_on (i := 0) wkb hmx rfl rfl HO3.out wkb_ok (by decide))
  have HSX := hid (show w4.heap.size < (w4.alloc (.cells #[.int .u64 3, .int .u32 7, .int .u64 3, .int .u8 0, .int .u8 0, .int .u64 9, .int .u8 2, .bool true, .bool false, .bool false, .int .u64 0] 54 (0, 0))).heap.size by omega)
  have KX := hid (K4.out.trans kx)
  have HBX := hid hbx
  have HLT := hid hlt
  have HWX := hid (show w.heap.size ≤ w4.heap.size from K4.out.size)
  clear hbx kx hmx hlt hsx
  generalize w4.alloc (.cells #[.int .u64 3, .int .u32 7, .int .u64 3, .int .u8 0, .int .u8 0, .int .u64 9, .int .u8 2, .bool true, .bool false, .bool false, .int .u64 0] 54 (0, 0)) = wx at *
  generalize w4.heap.size = bx at *
  refine HV.out.mono ?_; rintro e w5 ⟨p, n, cp, rfl, hwv, h5, k5⟩
  rw [wk_b] at hwv h5
  have hn1 : n = 1 := by have := hwv.1; rw [flatS_len] at this; simp at this; omega
  subst hn1
  obtain ⟨gs, os, rfl, hgs, hgl, hcs⟩ := hwv.2.2 (by decide)
  have hbx5 := (k5.block bx (lt_of_block HBX.out) (fun e => by have := HLT.out; unfold Of at e; omega)).trans HBX.out
  have K5 := hid (KX.out.thenOwn k5 (fun q e => by rcases e with rfl | rfl; exact HM.out.1; exact HM.out.2))
  have HCS := hid hcs
  have HGS := hid (show bx < gs ∧ gs < w5.heap.size by have := HSX.out; omega)
  have H5 := hid h5
  have hok4 := hear_ok HO3.out wkb_ok (i := 0)
  rw [wk_b] at hok4
  have HO4 := hid hok4
  obtain ⟨d0, d1, d2, d3, d4, d5, d6, d7, d8, d9, d10⟩ := blk11 hbx5
  have fz := free11 hbx5
  obtain ⟨_, _, f2, _⟩ := fz
  have HB5 := hid hbx5
  clear hwv hgs hgl hcs k5 h5 hok4 hbx5
  go_upto_region 10 with (fail)
  have hb6 : (w5.setCell ⟨bx, 2, Option.none⟩ (.int .u64 4)).heap[bx]? = some (.cells #[.int .u64 3, .int .u32 7, .int .u64 4, .int .u8 0, .int .u8 0, .int .u64 9, .int .u8 2, .bool true, .bool false, .bool false, .int .u64 0] 54 (0, 0)) := setCell_block HB5.out 2 (.int .u64 4)
  have k6 : Keeps (At bx) w5 (w5.setCell ⟨bx, 2, Option.none⟩ (.int .u64 4)) := (Keeps.refl _ _).set bx 2 (at_self bx) _
  have h6 := H5.out.keep k6 (fun e => by rw [At] at e; have := HLT.out; omega) (fun e => by rw [At] at e; have := HLT.out; omega)
  have hs6 : ∀ j u, (scells 0 ⟨3, 17, 5, 0, 1, 2, 1, false, true, true, 9⟩).toList[j]? = some u → (w5.setCell ⟨bx, 2, Option.none⟩ (.int .u64 4)).cell? ⟨gs, os + j, Option.none⟩ = some u := fun j u hu => by
    rw [k6.cell (p := ⟨gs, os + j, Option.none⟩) HGS.out.2 (fun e => by simp only [At] at e; have := HGS.out; omega)]
    exact HCS.out j u (by simpa [flatS] using hu)
  have HS6 := hid hs6
  have K6 := hid (K5.out.thenAt k6 HWX.out)
  have H6 := hid h6
  have HG6 := hid (Nat.lt_of_lt_of_le HGS.out.2 k6.size)
  clear h6 hs6 k6 f2 d0 d1 d2 d3 d4 d5 d6 d7 d8 d9 d10
  generalize w5.setCell ⟨bx, 2, Option.none⟩ (.int .u64 4) = w6 at *
  obtain ⟨d0, d1, d2, d3, d4, d5, d6, d7, d8, d9, d10⟩ := blk11 hb6
  have HV2 := hid (hear_on (i := 1) wkc H6.out rfl rfl HO4.out wkc_ok (by decide))
  clear hb6
  go_wp2_with fail
  refine HV2.out.mono ?_; rintro e w7 ⟨p2, n2, c2, rfl, hwv, h7, k7⟩
  rw [wk_c] at h7
  have hc7 : ∀ j u, (scells 0 ⟨3, 17, 5, 0, 1, 2, 1, false, true, true, 9⟩).toList[j]? = some u → w7.cell? ⟨gs, os + j, Option.none⟩ = some u := fun j u hu => by
    rw [k7.cell (p := ⟨gs, os + j, Option.none⟩) HG6.out (fun e => by have := HLT.out; have := HGS.out; simp only [Of] at e; omega)]
    exact HS6.out j u hu
  have r0 := hc7 0 _ rfl
  have r5 := hc7 5 _ rfl
  have r9 := hc7 9 _ rfl
  have r11 := hc7 11 _ rfl
  rw [Nat.add_zero] at r0
  have K7 := hid (K6.out.thenOwn k7 (fun q e => by rcases e with rfl | rfl; exact HM.out.1; exact HM.out.2))
  have HG7 := hid (Nat.lt_of_lt_of_le HG6.out k7.size)
  have H7 := hid h7
  have RO := hid (root_any h7)
  have HR7 := hid (And.intro r0 (And.intro r5 (And.intro r9 r11)))
  clear hwv h7 k7 hc7 d0 d1 d2 d3 d4 d5 d6 d7 d8 d9 d10 r0 r5 r9 r11
  go_wp2_with fail
  refine RO.out.mono ?_; rintro e w8 ⟨rfl, k8⟩
  have h8 := H7.out.keepN k8
  obtain ⟨r0, r5, r9, r11⟩ := HR7.out
  have c0 := (k8.cell (p := ⟨gs, os, Option.none⟩) HG7.out (fun e => e)).trans r0
  have c5 := (k8.cell (p := ⟨gs, os + 5, Option.none⟩) HG7.out (fun e => e)).trans r5
  have c9 := (k8.cell (p := ⟨gs, os + 9, Option.none⟩) HG7.out (fun e => e)).trans r9
  have c11 := (k8.cell (p := ⟨gs, os + 11, Option.none⟩) HG7.out (fun e => e)).trans r11
  have K8 := hid (K7.out.trans k8)
  have H8 := hid h8
  have RL0 := hid (roles_any (i := 0) h8 (by decide))
  rw [wk_r0] at RL0
  clear r0 r5 r9 r11 k8 h8
  go_wp2_with fail
  refine RL0.out.mono ?_; rintro e w9 ⟨rfl, k9⟩
  have H9 := hid (H8.out.keepN k9)
  have K9 := hid (K8.out.trans k9)
  clear k9
  have RL10 := hid (roles_any (i := 1) H9.out (by decide))
  rw [wk_r1] at RL10
  go_wp2_with fail
  refine RL10.out.mono ?_; rintro e w10 ⟨rfl, k10⟩
  have H10 := hid (H9.out.keepN k10)
  have K10 := hid (K9.out.trans k10)
  clear k10
  have RL11 := hid (roles_any (i := 2) H10.out (by decide))
  rw [wk_r2] at RL11
  go_wp2_with fail
  refine RL11.out.mono ?_; rintro e w11 ⟨rfl, k11⟩
  have H11 := hid (H10.out.keepN k11)
  have K11 := hid (K10.out.trans k11)
  clear k11
  have RL12 := hid (forwards_any (i := 0) H11.out (by decide))
  rw [wk_f0] at RL12
  go_wp2_with fail
  refine RL12.out.mono ?_; rintro e w12 ⟨rfl, k12⟩
  have H12 := hid (H11.out.keepN k12)
  have K12 := hid (K11.out.trans k12)
  clear k12
  have RL13 := hid (forwards_any (i := 1) H12.out (by decide))
  rw [wk_f1] at RL13
  go_wp2_with fail
  refine RL13.out.mono ?_; rintro e w13 ⟨rfl, k13⟩
  have H13 := hid (H12.out.keepN k13)
  have K13 := hid (K12.out.trans k13)
  clear k13
  have RL14 := hid (forwards_any (i := 2) H13.out (by decide))
  rw [wk_f2] at RL14
  go_wp2_with fail
  refine RL14.out.mono ?_; rintro e w14 ⟨rfl, k14⟩
  have H14 := hid (H13.out.keepN k14)
  have K14 := hid (K13.out.trans k14)
  clear k14
  have FL15 := hid (flush_any H14.out)
  go_wp2_with fail
  refine FL15.out.mono ?_; rintro e w15 ⟨rfl, h15, k15⟩
  have H15 := hid h15
  have K15 := hid (K14.out.thenOwn k15 (fun q e => by first | (rcases e with rfl | rfl; exact HM.out.1; exact HM.out.2) | (rw [At] at e; subst e; exact HM.out.1)))
  clear k15 h15
  have FL16 := hid (flush_any H15.out)
  go_wp2_with fail
  refine FL16.out.mono ?_; rintro e w16 ⟨rfl, h16, k16⟩
  have H16 := hid h16
  have K16 := hid (K15.out.thenOwn k16 (fun q e => by first | (rcases e with rfl | rfl; exact HM.out.1; exact HM.out.2) | (rw [At] at e; subst e; exact HM.out.1)))
  clear k16 h16
  go_wp2_with fail
  go_ret
  exact ⟨rfl, K16.out⟩
end Go.Proofs.Ytbbodecdijankaa
