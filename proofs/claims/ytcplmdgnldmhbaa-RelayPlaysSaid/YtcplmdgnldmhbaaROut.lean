/-
  Layers 7 and 21, the document: a frame as it goes out by a port. Conditions: the rows lie so; the numbers are in range; data of 2,000 bytes.
-/
import Derived.Test.YtcplmdgnldmhbaaRVin
namespace Go.Proofs.Ytcplmdgnldmhbaa
open Go.RowKit
set_option linter.unusedVariables false
set_option linter.unusedSimpArgs false
set_option maxRecDepth 8000

theorem memB_zero (L : List (Pl × Int)) (port v : Int) (h : vcode L v = 0) : memB L port v = false := by
  unfold memB
  rw [h]
  have e : (0 : Int) / 256 / 2 ^ port.toNat = 0 := by simp
  rw [e, band0]
  simp
set_option maxHeartbeats 8000000 in
theorem rout_any (n : Int) (B : Nat) (p : Option Addr) (c : Nat) (L : List (Pl × Int)) (w : World) (h : WV w B 3 p L.length c (flatV L)) (hk : KeyV L) (ho : VOk L) (hl : L.length ≤ 100) {port v : Int} (hp : 0 ≤ port ∧ port < 256) (hv : 0 ≤ v ∧ v < 65536) (x : Frm) (hd : x.data.size ≤ 2000) (hpr : 0 ≤ x.pri ∧ x.pri < 256) (hfv : 0 ≤ x.fvid ∧ x.fvid < 65536) (hty : 0 ≤ x.ty ∧ x.ty < 65536) :
    Calls Try.prog 28 #[vtab n p L.length c, .int .u8 port, .int .u16 v, x.val] w (OutIs (voutP L port v x) w) := by
  have HP := fun (y : Frm) (e1 : y.data = x.data) (e2 : 0 ≤ y.pri ∧ y.pri < 256) (e3 : 0 ≤ y.fvid ∧ y.fvid < 65536) (e4 : y.ty = x.ty) (W : World) => hid (rput_any y (by rw [e1]; exact hd) e2 e3 (by rw [e4]; exact hty) W)
  have HFI := fun (W : World) (k : Keeps Nil w W) => hid (find_any v n B p c L W (h.keepN k) hk hl)
  have HH := fun (q : Int) (hq : 0 ≤ q ∧ q < 256) (h8 : port < 8) (W : World) => hid (has_any q port hq ⟨hp.1, h8⟩ W)
  have kz : Keeps Nil w (((w.alloc (.cells #[Value.int IntKind.i64 n, Value.slice p L.length c, Value.int IntKind.u16 0, Value.int IntKind.u16 0, Value.int IntKind.u16 0, Value.int IntKind.u16 0, Value.int IntKind.u16 0, Value.int IntKind.u16 0, Value.int IntKind.u16 0, Value.int IntKind.u16 0] 57 (0, 0))).alloc (.cells #[Value.int IntKind.u8 x.dst.a, Value.int IntKind.u8 x.dst.b, Value.int IntKind.u8 x.dst.c, Value.int IntKind.u8 x.dst.d, Value.int IntKind.u8 x.dst.e, Value.int IntKind.u8 x.dst.f, Value.int IntKind.u8 x.src.a, Value.int IntKind.u8 x.src.b, Value.int IntKind.u8 x.src.c, Value.int IntKind.u8 x.src.d, Value.int IntKind.u8 x.src.e, Value.int IntKind.u8 x.src.f, Value.bool x.tag, Value.int IntKind.u8 x.pri, Value.int IntKind.u16 x.fvid, Value.int IntKind.u16 x.ty, Value.string x.data] 33 (0, 0))).alloc (.cells #[Value.int IntKind.u8 0, Value.int IntKind.u8 0, Value.int IntKind.u8 0, Value.int IntKind.u8 0, Value.int IntKind.u8 0, Value.int IntKind.u8 0, Value.int IntKind.u8 0, Value.int IntKind.u8 0, Value.int IntKind.u8 0, Value.int IntKind.u8 0, Value.int IntKind.u8 0, Value.int IntKind.u8 0, Value.bool false, Value.int IntKind.u8 0, Value.int IntKind.u16 0, Value.int IntKind.u16 0, Value.string ⟨#[]⟩] 33 (0, 0))) := (((Keeps.refl _ _).alloc _).alloc _).alloc _
  obtain ⟨hA, hF⟩ := two_allocs w (.cells #[Value.int IntKind.i64 n, Value.slice p L.length c, Value.int IntKind.u16 0, Value.int IntKind.u16 0, Value.int IntKind.u16 0, Value.int IntKind.u16 0, Value.int IntKind.u16 0, Value.int IntKind.u16 0, Value.int IntKind.u16 0, Value.int IntKind.u16 0] 57 (0, 0)) (.cells #[Value.int IntKind.u8 x.dst.a, Value.int IntKind.u8 x.dst.b, Value.int IntKind.u8 x.dst.c, Value.int IntKind.u8 x.dst.d, Value.int IntKind.u8 x.dst.e, Value.int IntKind.u8 x.dst.f, Value.int IntKind.u8 x.src.a, Value.int IntKind.u8 x.src.b, Value.int IntKind.u8 x.src.c, Value.int IntKind.u8 x.src.d, Value.int IntKind.u8 x.src.e, Value.int IntKind.u8 x.src.f, Value.bool x.tag, Value.int IntKind.u8 x.pri, Value.int IntKind.u16 x.fvid, Value.int IntKind.u16 x.ty, Value.string x.data] 33 (0, 0))
  have hZ := alloc_block ((w.alloc (.cells #[Value.int IntKind.i64 n, Value.slice p L.length c, Value.int IntKind.u16 0, Value.int IntKind.u16 0, Value.int IntKind.u16 0, Value.int IntKind.u16 0, Value.int IntKind.u16 0, Value.int IntKind.u16 0, Value.int IntKind.u16 0, Value.int IntKind.u16 0] 57 (0, 0))).alloc (.cells #[Value.int IntKind.u8 x.dst.a, Value.int IntKind.u8 x.dst.b, Value.int IntKind.u8 x.dst.c, Value.int IntKind.u8 x.dst.d, Value.int IntKind.u8 x.dst.e, Value.int IntKind.u8 x.dst.f, Value.int IntKind.u8 x.src.a, Value.int IntKind.u8 x.src.b, Value.int IntKind.u8 x.src.c, Value.int IntKind.u8 x.src.d, Value.int IntKind.u8 x.src.e, Value.int IntKind.u8 x.src.f, Value.bool x.tag, Value.int IntKind.u8 x.pri, Value.int IntKind.u16 x.fvid, Value.int IntKind.u16 x.ty, Value.string x.data] 33 (0, 0))) (.cells #[Value.int IntKind.u8 0, Value.int IntKind.u8 0, Value.int IntKind.u8 0, Value.int IntKind.u8 0, Value.int IntKind.u8 0, Value.int IntKind.u8 0, Value.int IntKind.u8 0, Value.int IntKind.u8 0, Value.int IntKind.u8 0, Value.int IntKind.u8 0, Value.int IntKind.u8 0, Value.int IntKind.u8 0, Value.bool false, Value.int IntKind.u8 0, Value.int IntKind.u16 0, Value.int IntKind.u16 0, Value.string ⟨#[]⟩] 33 (0, 0))
  have hsz : ((w.alloc (.cells #[Value.int IntKind.i64 n, Value.slice p L.length c, Value.int IntKind.u16 0, Value.int IntKind.u16 0, Value.int IntKind.u16 0, Value.int IntKind.u16 0, Value.int IntKind.u16 0, Value.int IntKind.u16 0, Value.int IntKind.u16 0, Value.int IntKind.u16 0] 57 (0, 0))).alloc (.cells #[Value.int IntKind.u8 x.dst.a, Value.int IntKind.u8 x.dst.b, Value.int IntKind.u8 x.dst.c, Value.int IntKind.u8 x.dst.d, Value.int IntKind.u8 x.dst.e, Value.int IntKind.u8 x.dst.f, Value.int IntKind.u8 x.src.a, Value.int IntKind.u8 x.src.b, Value.int IntKind.u8 x.src.c, Value.int IntKind.u8 x.src.d, Value.int IntKind.u8 x.src.e, Value.int IntKind.u8 x.src.f, Value.bool x.tag, Value.int IntKind.u8 x.pri, Value.int IntKind.u16 x.fvid, Value.int IntKind.u16 x.ty, Value.string x.data] 33 (0, 0))).heap.size = w.heap.size + 1 + 1 := by rw [World.size_alloc, World.size_alloc]
  have kx : Keeps Nil ((w.alloc (.cells #[Value.int IntKind.i64 n, Value.slice p L.length c, Value.int IntKind.u16 0, Value.int IntKind.u16 0, Value.int IntKind.u16 0, Value.int IntKind.u16 0, Value.int IntKind.u16 0, Value.int IntKind.u16 0, Value.int IntKind.u16 0, Value.int IntKind.u16 0] 57 (0, 0))).alloc (.cells #[Value.int IntKind.u8 x.dst.a, Value.int IntKind.u8 x.dst.b, Value.int IntKind.u8 x.dst.c, Value.int IntKind.u8 x.dst.d, Value.int IntKind.u8 x.dst.e, Value.int IntKind.u8 x.dst.f, Value.int IntKind.u8 x.src.a, Value.int IntKind.u8 x.src.b, Value.int IntKind.u8 x.src.c, Value.int IntKind.u8 x.src.d, Value.int IntKind.u8 x.src.e, Value.int IntKind.u8 x.src.f, Value.bool x.tag, Value.int IntKind.u8 x.pri, Value.int IntKind.u16 x.fvid, Value.int IntKind.u16 x.ty, Value.string x.data] 33 (0, 0))) (((w.alloc (.cells #[Value.int IntKind.i64 n, Value.slice p L.length c, Value.int IntKind.u16 0, Value.int IntKind.u16 0, Value.int IntKind.u16 0, Value.int IntKind.u16 0, Value.int IntKind.u16 0, Value.int IntKind.u16 0, Value.int IntKind.u16 0, Value.int IntKind.u16 0] 57 (0, 0))).alloc (.cells #[Value.int IntKind.u8 x.dst.a, Value.int IntKind.u8 x.dst.b, Value.int IntKind.u8 x.dst.c, Value.int IntKind.u8 x.dst.d, Value.int IntKind.u8 x.dst.e, Value.int IntKind.u8 x.dst.f, Value.int IntKind.u8 x.src.a, Value.int IntKind.u8 x.src.b, Value.int IntKind.u8 x.src.c, Value.int IntKind.u8 x.src.d, Value.int IntKind.u8 x.src.e, Value.int IntKind.u8 x.src.f, Value.bool x.tag, Value.int IntKind.u8 x.pri, Value.int IntKind.u16 x.fvid, Value.int IntKind.u16 x.ty, Value.string x.data] 33 (0, 0))).alloc (.cells #[Value.int IntKind.u8 0, Value.int IntKind.u8 0, Value.int IntKind.u8 0, Value.int IntKind.u8 0, Value.int IntKind.u8 0, Value.int IntKind.u8 0, Value.int IntKind.u8 0, Value.int IntKind.u8 0, Value.int IntKind.u8 0, Value.int IntKind.u8 0, Value.int IntKind.u8 0, Value.int IntKind.u8 0, Value.bool false, Value.int IntKind.u8 0, Value.int IntKind.u16 0, Value.int IntKind.u16 0, Value.string ⟨#[]⟩] 33 (0, 0))) := (Keeps.refl _ _).alloc _
  have hA := kx.lies hA
  have hF := kx.lies hF
  rw [hsz] at hZ
  clear kx hsz
  obtain ⟨r, hr⟩ : ∃ r, voutP L port v x = r := ⟨_, rfl⟩
  rw [hr]
  have HRR := hid hr
  have H0 := hid h
  have HOK := hid ho
  clear hr h hk ho hl
  go_enter Try.func28, Try.ntmps28
  go_upto_region 1 with (fail)
  generalize (((w.alloc (.cells #[Value.int IntKind.i64 n, Value.slice p L.length c, Value.int IntKind.u16 0, Value.int IntKind.u16 0, Value.int IntKind.u16 0, Value.int IntKind.u16 0, Value.int IntKind.u16 0, Value.int IntKind.u16 0, Value.int IntKind.u16 0, Value.int IntKind.u16 0] 57 (0, 0))).alloc (.cells #[Value.int IntKind.u8 x.dst.a, Value.int IntKind.u8 x.dst.b, Value.int IntKind.u8 x.dst.c, Value.int IntKind.u8 x.dst.d, Value.int IntKind.u8 x.dst.e, Value.int IntKind.u8 x.dst.f, Value.int IntKind.u8 x.src.a, Value.int IntKind.u8 x.src.b, Value.int IntKind.u8 x.src.c, Value.int IntKind.u8 x.src.d, Value.int IntKind.u8 x.src.e, Value.int IntKind.u8 x.src.f, Value.bool x.tag, Value.int IntKind.u8 x.pri, Value.int IntKind.u16 x.fvid, Value.int IntKind.u16 x.ty, Value.string x.data] 33 (0, 0))).alloc (.cells #[Value.int IntKind.u8 0, Value.int IntKind.u8 0, Value.int IntKind.u8 0, Value.int IntKind.u8 0, Value.int IntKind.u8 0, Value.int IntKind.u8 0, Value.int IntKind.u8 0, Value.int IntKind.u8 0, Value.int IntKind.u8 0, Value.int IntKind.u8 0, Value.int IntKind.u8 0, Value.int IntKind.u8 0, Value.bool false, Value.int IntKind.u8 0, Value.int IntKind.u16 0, Value.int IntKind.u16 0, Value.string ⟨#[]⟩] 33 (0, 0))) = wz at *
  generalize hbz : w.heap.size + 1 + 1 = bZ at *
  generalize hbf : w.heap.size + 1 = bF at *
  generalize hbt : w.heap.size = bT at *
  have HBB := hid (And.intro hbt (And.intro hbf hbz))
  clear hbz hbf hbt
  have HA := hid hA
  have HF := hid hF
  have HZ := hid hZ
  have KZ := hid kz
  clear kz hA hF hZ
  obtain ⟨c0, c1, c2, c3, c4, c5, c6, c7, c8, c9⟩ := ten_of HA.out
  go_wp2_with fail
  refine (HFI _ KZ.out).out.mono ?_; rintro ee w2 ⟨rfl, k2⟩
  have A2 := hid (k2.lies HA.out)
  have F2 := hid (k2.lies HF.out)
  have HZB := hid (k2.lies HZ.out)
  have K2 := hid (KZ.out.trans k2)
  have H2 := hid (H0.out.keepN K2.out)
  clear k2 c0 c1 c2 c3 c4 c5 c6 c7 c8 c9
  obtain ⟨c0, c1, c2, c3, c4, c5, c6, c7, c8, c9⟩ := ten_of A2.out
  rcases sidx_spec (vp v) L with ⟨h1, h2⟩ | ⟨k, u, h1, h2, h3⟩
  · have hm : memB L port v = false := memB_zero L port v (by unfold vcode; rw [h1]; rfl)
    rw [h2]
    have e := HRR.out
    rw [voutP, if_neg (by rw [hm]; decide)] at e
    have e : none = r := e
    subst e
    clear HRR

    clear h1 h2 hm
    go_upto_region 3 with (fail)
    go_wp2_with (refine wpList_store_mid rfl 33 _ _ rfl bZ 0 #[Value.int IntKind.u8 0, Value.int IntKind.u8 0, Value.int IntKind.u8 0, Value.int IntKind.u8 0, Value.int IntKind.u8 0, Value.int IntKind.u8 0, Value.int IntKind.u8 0, Value.int IntKind.u8 0, Value.int IntKind.u8 0, Value.int IntKind.u8 0, Value.int IntKind.u8 0, Value.int IntKind.u8 0, Value.bool false, Value.int IntKind.u8 0, Value.int IntKind.u16 0, Value.int IntKind.u16 0, Value.string ⟨#[]⟩] rfl rfl ?_ ?_ ?_ ?_; exact there_block HZB.out; kernel_rfl; (simp [Value.oneCell']); rw [setCells_same HZB.out _ 0 (fun j v hj => by simpa using hj)])
    refine bodyPost_ret (ret_cell rfl _ _ bZ #[Value.int IntKind.u8 0, Value.int IntKind.u8 0, Value.int IntKind.u8 0, Value.int IntKind.u8 0, Value.int IntKind.u8 0, Value.int IntKind.u8 0, Value.int IntKind.u8 0, Value.int IntKind.u8 0, Value.int IntKind.u8 0, Value.int IntKind.u8 0, Value.int IntKind.u8 0, Value.int IntKind.u8 0, Value.bool false, Value.int IntKind.u8 0, Value.int IntKind.u16 0, Value.int IntKind.u16 0, Value.string ⟨#[]⟩] rfl HZB.out rfl) rfl ?_
    exact ⟨rfl, K2.out⟩
  · have hC : vcode L v = u := by unfold vcode; rw [h1]; rfl
    have hq := HOK.out.mem v
    have hq2 := HOK.out.unt v
    rw [hC] at hq hq2
    rw [h2]
    obtain ⟨g, off, hpp, _, hg, d0, d1, d2⟩ := H2.out.vlan h3
    simp only at d1 d2
    subst hpp
    have hkn : k < L.length := (List.getElem?_eq_some_iff.1 h3).1
    have hnc : L.length ≤ c := H2.out.2.1
    have hd0 : decide ((k : Int) < 0) = false := by simp
    have HG := hid hg
    clear h1 h2 h3 d0
    by_cases hp8 : 7 < port
    · have hp8' : decide (7 < port) = true := by simpa using hp8
      have hm : memB L port v = false := by unfold memB; rw [decide_eq_false (by omega)]; rfl
      have e := HRR.out
      rw [voutP, if_neg (by rw [hm]; decide)] at e
      have e : none = r := e
      subst e
      clear HRR

      clear hm hp8 hC
      go_upto_region 3 with (fail)
      go_wp2_with (refine wpList_store_mid rfl 33 _ _ rfl bZ 0 #[Value.int IntKind.u8 0, Value.int IntKind.u8 0, Value.int IntKind.u8 0, Value.int IntKind.u8 0, Value.int IntKind.u8 0, Value.int IntKind.u8 0, Value.int IntKind.u8 0, Value.int IntKind.u8 0, Value.int IntKind.u8 0, Value.int IntKind.u8 0, Value.int IntKind.u8 0, Value.int IntKind.u8 0, Value.bool false, Value.int IntKind.u8 0, Value.int IntKind.u16 0, Value.int IntKind.u16 0, Value.string ⟨#[]⟩] rfl rfl ?_ ?_ ?_ ?_; exact there_block HZB.out; kernel_rfl; (simp [Value.oneCell']); rw [setCells_same HZB.out _ 0 (fun j v hj => by simpa using hj)])
      refine bodyPost_ret (ret_cell rfl _ _ bZ #[Value.int IntKind.u8 0, Value.int IntKind.u8 0, Value.int IntKind.u8 0, Value.int IntKind.u8 0, Value.int IntKind.u8 0, Value.int IntKind.u8 0, Value.int IntKind.u8 0, Value.int IntKind.u8 0, Value.int IntKind.u8 0, Value.int IntKind.u8 0, Value.int IntKind.u8 0, Value.int IntKind.u8 0, Value.bool false, Value.int IntKind.u8 0, Value.int IntKind.u16 0, Value.int IntKind.u16 0, Value.string ⟨#[]⟩] rfl HZB.out rfl) rfl ?_
      exact ⟨rfl, K2.out⟩
    · have hp8' : decide (7 < port) = false := by simpa using hp8
      have HH := fun (q : Int) (hq : 0 ≤ q ∧ q < 256) (W : World) => HH q hq (by omega) W
      have hmb : memB L port v = (bits BinOp.and .u8 (u / 256 / 2 ^ port.toNat) 1 == 1) := by unfold memB; rw [decide_eq_true (by omega), hC, Bool.true_and]
      have hun : untB L port v = (bits BinOp.and .u8 (u % 256 / 2 ^ port.toNat) 1 == 1) := by unfold untB; rw [hC]
      have H1 := fun W => HH (u / 256) hq W
      have H3 := fun W => HH (u % 256) hq2 W
      rw [← hmb] at H1
      rw [← hun] at H3
      have HE := hid (And.intro hmb hun)
      clear hmb hun hC hp8 HH hq hq2
      cases hm : memB L port v with
      | false =>
        have e := HRR.out
        rw [voutP, if_neg (by rw [hm]; decide)] at e
        have e : none = r := e
        subst e
        clear HRR

        rw [hm] at H1
        clear hm
        go_upto_region 3 with (go_at_call 44; refine (H1 _).out.mono ?_; rintro ee wv ⟨rfl, rfl⟩)
        go_wp2_with (refine wpList_store_mid rfl 33 _ _ rfl bZ 0 #[Value.int IntKind.u8 0, Value.int IntKind.u8 0, Value.int IntKind.u8 0, Value.int IntKind.u8 0, Value.int IntKind.u8 0, Value.int IntKind.u8 0, Value.int IntKind.u8 0, Value.int IntKind.u8 0, Value.int IntKind.u8 0, Value.int IntKind.u8 0, Value.int IntKind.u8 0, Value.int IntKind.u8 0, Value.bool false, Value.int IntKind.u8 0, Value.int IntKind.u16 0, Value.int IntKind.u16 0, Value.string ⟨#[]⟩] rfl rfl ?_ ?_ ?_ ?_; exact there_block HZB.out; kernel_rfl; (simp [Value.oneCell']); rw [setCells_same HZB.out _ 0 (fun j v hj => by simpa using hj)])
        refine bodyPost_ret (ret_cell rfl _ _ bZ #[Value.int IntKind.u8 0, Value.int IntKind.u8 0, Value.int IntKind.u8 0, Value.int IntKind.u8 0, Value.int IntKind.u8 0, Value.int IntKind.u8 0, Value.int IntKind.u8 0, Value.int IntKind.u8 0, Value.int IntKind.u8 0, Value.int IntKind.u8 0, Value.int IntKind.u8 0, Value.int IntKind.u8 0, Value.bool false, Value.int IntKind.u8 0, Value.int IntKind.u16 0, Value.int IntKind.u16 0, Value.string ⟨#[]⟩] rfl HZB.out rfl) rfl ?_
        exact ⟨rfl, K2.out⟩
      | true =>
        have hvo : voutP L port v x = if putE (retag x (untB L port v) v) = 0 then some (retag x (untB L port v) v) else none := by unfold voutP; rw [hm]; rfl
        rw [hm] at H1
        have HVO := hid hvo
        clear hm hvo
        have z12 := tail_free F2.out 12
        have z13 := tail_free F2.out 13
        have z14 := tail_free F2.out 14
        obtain ⟨f12, f13, f14, f15, f16⟩ := five_frame F2.out
        have lF := lt_of_block F2.out
        cases hu : untB L port v with
        | true =>
          have HU := HVO.out
          rw [hu] at HU H3
          have HU := hid HU
          clear hu
          go_upto_region 4 with (first | (go_at_call 44; refine (H1 _).out.mono ?_; rintro ee wv ⟨rfl, rfl⟩))
          go_upto_region 10 with (first | (go_at_call 44; refine (H3 _).out.mono ?_; rintro ee wv ⟨rfl, rfl⟩))
          have h4 := setCell_block (setCell_block (setCell_block F2.out 12 (.bool false)) 13 (.int .u8 0)) 14 (.int .u16 0)
          have k4 : Keeps (At bF) w2 (((w2.setCell ⟨bF, 12, Option.none⟩ (.bool false)).setCell ⟨bF, 13, Option.none⟩ (.int .u8 0)).setCell ⟨bF, 14, Option.none⟩ (.int .u16 0)) := (((Keeps.refl _ _).set _ _ (at_self _) _).set _ _ (at_self _) _).set _ _ (at_self _) _
          generalize ((w2.setCell ⟨bF, 12, Option.none⟩ (.bool false)).setCell ⟨bF, 13, Option.none⟩ (.int .u8 0)).setCell ⟨bF, 14, Option.none⟩ (.int .u16 0) = w4 at *
          have F4 := hid h4
          have K4 := hid (K2.out.thenAt k4 (by have := HBB.out; omega))
          have Z4 := hid (k4.lies HZB.out (fun e => by rw [At] at e; have := HBB.out; omega))
          clear h4 k4 HZB K2 f12 f13 f14 f15 f16 z12 z13 z14 lF c0 c1 c2 c3 c4 c5 c6 c7 c8 c9 d1 d2
          obtain ⟨y, FY, HPY, HU2⟩ : ∃ y : Frm, Hid (w4.heap[bF]? = some (.cells #[Value.int IntKind.u8 y.dst.a, Value.int IntKind.u8 y.dst.b, Value.int IntKind.u8 y.dst.c, Value.int IntKind.u8 y.dst.d, Value.int IntKind.u8 y.dst.e, Value.int IntKind.u8 y.dst.f, Value.int IntKind.u8 y.src.a, Value.int IntKind.u8 y.src.b, Value.int IntKind.u8 y.src.c, Value.int IntKind.u8 y.src.d, Value.int IntKind.u8 y.src.e, Value.int IntKind.u8 y.src.f, Value.bool y.tag, Value.int IntKind.u8 y.pri, Value.int IntKind.u16 y.fvid, Value.int IntKind.u16 y.ty, Value.string y.data] 33 (0, 0))) ∧ (∀ W, Hid (Calls Try.prog 54 #[y.val] W (Puts y W))) ∧ Hid (voutP L port v x = if putE y = 0 then some y else none) :=
            ⟨({ x with tag := false, pri := 0, fvid := 0 } : Frm), hid F4.out, fun W => HP ({ x with tag := false, pri := 0, fvid := 0 } : Frm) rfl ⟨Int.le_refl 0, (by decide : (0 : Int) < 256)⟩ ⟨Int.le_refl 0, (by decide : (0 : Int) < 65536)⟩ rfl W, hid HU.out⟩
          clear F4 HU HP
          go_wp2_with (refine wpList_load_mid rfl 33 _ rfl bF 0 rfl y.cells _ (range_frame FY.out) Try.underlying33 rfl (by kernel_rfl) ?_)
          refine (HPY _).out.mono ?_
          rintro ee w5 ⟨s, rfl, k5⟩
          have F5 := hid (k5.lies FY.out)
          have HZB := hid (k5.lies Z4.out)
          have K5 := hid (K4.out.trans k5)
          clear k5 FY Z4 K4
          obtain ⟨z, hz⟩ : ∃ z, putE y = z := ⟨_, rfl⟩
          rw [hz] at HU2 ⊢
          clear hz
          by_cases h0 : z = 0
          · subst h0
            have HTH := hid (there17 HZB.out rfl y)
            go_upto_region 13 with (fail)
            go_wp2_with (first | (refine wpList_load_mid rfl 33 _ rfl bF 0 rfl y.cells _ (range_frame F5.out) Try.underlying33 rfl (by kernel_rfl) ?_) | (refine wpList_store_mid rfl 33 _ _ rfl bZ 0 y.cells.toArray rfl rfl ?_ (by kernel_rfl) ?_ ?_; exact HTH.out; exact frm_one y; generalize hW6 : World.setCells _ _ _ _ = w6; have HW6 := hid hW6; clear hW6))
            refine bodyPost_ret (ret_cell rfl _ _ bZ #[Value.int IntKind.u8 y.dst.a, Value.int IntKind.u8 y.dst.b, Value.int IntKind.u8 y.dst.c, Value.int IntKind.u8 y.dst.d, Value.int IntKind.u8 y.dst.e, Value.int IntKind.u8 y.dst.f, Value.int IntKind.u8 y.src.a, Value.int IntKind.u8 y.src.b, Value.int IntKind.u8 y.src.c, Value.int IntKind.u8 y.src.d, Value.int IntKind.u8 y.src.e, Value.int IntKind.u8 y.src.f, Value.bool y.tag, Value.int IntKind.u8 y.pri, Value.int IntKind.u16 y.fvid, Value.int IntKind.u16 y.ty, Value.string y.data] rfl (by rw [← HW6.out]; exact setCells_frm HZB.out rfl y) rfl) rfl ?_
            rw [← HRR.out, HU2.out, ← HW6.out]
            first | rw [if_pos trivial] | rw [if_pos rfl]
            exact ⟨rfl, Keeps.setCells (fun e => absurd e (by have := HBB.out; omega)) _ _ _ K5.out⟩
          · have hn : (z != 0) = true := by simp [h0]
            have hn2 : (z == 0) = false := by simp [h0]
            have HN := hid h0
            clear h0
            go_upto_region 12 with (fail)
            go_wp2_with (refine wpList_store_mid rfl 33 _ _ rfl bZ 0 #[Value.int IntKind.u8 0, Value.int IntKind.u8 0, Value.int IntKind.u8 0, Value.int IntKind.u8 0, Value.int IntKind.u8 0, Value.int IntKind.u8 0, Value.int IntKind.u8 0, Value.int IntKind.u8 0, Value.int IntKind.u8 0, Value.int IntKind.u8 0, Value.int IntKind.u8 0, Value.int IntKind.u8 0, Value.bool false, Value.int IntKind.u8 0, Value.int IntKind.u16 0, Value.int IntKind.u16 0, Value.string ⟨#[]⟩] rfl rfl ?_ ?_ ?_ ?_; exact there_block HZB.out; kernel_rfl; (simp [Value.oneCell']); rw [setCells_same HZB.out _ 0 (fun j v hj => by simpa using hj)])
            refine bodyPost_ret (ret_cell rfl _ _ bZ #[Value.int IntKind.u8 0, Value.int IntKind.u8 0, Value.int IntKind.u8 0, Value.int IntKind.u8 0, Value.int IntKind.u8 0, Value.int IntKind.u8 0, Value.int IntKind.u8 0, Value.int IntKind.u8 0, Value.int IntKind.u8 0, Value.int IntKind.u8 0, Value.int IntKind.u8 0, Value.int IntKind.u8 0, Value.bool false, Value.int IntKind.u8 0, Value.int IntKind.u16 0, Value.int IntKind.u16 0, Value.string ⟨#[]⟩] rfl HZB.out rfl) rfl ?_
            rw [← HRR.out, HU2.out, if_neg HN.out]
            exact ⟨rfl, K5.out⟩
        | false =>
          have HU := HVO.out
          rw [hu] at HU H3
          have HU := hid HU
          clear hu
          go_upto_region 4 with (first | (go_at_call 44; refine (H1 _).out.mono ?_; rintro ee wv ⟨rfl, rfl⟩))
          go_upto_region 10 with (first | (go_at_call 44; refine (H3 _).out.mono ?_; rintro ee wv ⟨rfl, rfl⟩))
          have h4 := setCell_block (setCell_block F2.out 12 (.bool true)) 14 (.int .u16 v)
          have k4 : Keeps (At bF) w2 ((w2.setCell ⟨bF, 12, Option.none⟩ (.bool true)).setCell ⟨bF, 14, Option.none⟩ (.int .u16 v)) := ((Keeps.refl _ _).set _ _ (at_self _) _).set _ _ (at_self _) _
          generalize (w2.setCell ⟨bF, 12, Option.none⟩ (.bool true)).setCell ⟨bF, 14, Option.none⟩ (.int .u16 v) = w4 at *
          have F4 := hid h4
          have K4 := hid (K2.out.thenAt k4 (by have := HBB.out; omega))
          have Z4 := hid (k4.lies HZB.out (fun e => by rw [At] at e; have := HBB.out; omega))
          clear h4 k4 HZB K2 f12 f13 f14 f15 f16 z12 z13 z14 lF c0 c1 c2 c3 c4 c5 c6 c7 c8 c9 d1 d2
          obtain ⟨y, FY, HPY, HU2⟩ : ∃ y : Frm, Hid (w4.heap[bF]? = some (.cells #[Value.int IntKind.u8 y.dst.a, Value.int IntKind.u8 y.dst.b, Value.int IntKind.u8 y.dst.c, Value.int IntKind.u8 y.dst.d, Value.int IntKind.u8 y.dst.e, Value.int IntKind.u8 y.dst.f, Value.int IntKind.u8 y.src.a, Value.int IntKind.u8 y.src.b, Value.int IntKind.u8 y.src.c, Value.int IntKind.u8 y.src.d, Value.int IntKind.u8 y.src.e, Value.int IntKind.u8 y.src.f, Value.bool y.tag, Value.int IntKind.u8 y.pri, Value.int IntKind.u16 y.fvid, Value.int IntKind.u16 y.ty, Value.string y.data] 33 (0, 0))) ∧ (∀ W, Hid (Calls Try.prog 54 #[y.val] W (Puts y W))) ∧ Hid (voutP L port v x = if putE y = 0 then some y else none) :=
            ⟨({ x with tag := true, fvid := v } : Frm), hid F4.out, fun W => HP ({ x with tag := true, fvid := v } : Frm) rfl hpr hv rfl W, hid HU.out⟩
          clear F4 HU HP
          go_wp2_with (refine wpList_load_mid rfl 33 _ rfl bF 0 rfl y.cells _ (range_frame FY.out) Try.underlying33 rfl (by kernel_rfl) ?_)
          refine (HPY _).out.mono ?_
          rintro ee w5 ⟨s, rfl, k5⟩
          have F5 := hid (k5.lies FY.out)
          have HZB := hid (k5.lies Z4.out)
          have K5 := hid (K4.out.trans k5)
          clear k5 FY Z4 K4
          obtain ⟨z, hz⟩ : ∃ z, putE y = z := ⟨_, rfl⟩
          rw [hz] at HU2 ⊢
          clear hz
          by_cases h0 : z = 0
          · subst h0
            have HTH := hid (there17 HZB.out rfl y)
            go_upto_region 13 with (fail)
            go_wp2_with (first | (refine wpList_load_mid rfl 33 _ rfl bF 0 rfl y.cells _ (range_frame F5.out) Try.underlying33 rfl (by kernel_rfl) ?_) | (refine wpList_store_mid rfl 33 _ _ rfl bZ 0 y.cells.toArray rfl rfl ?_ (by kernel_rfl) ?_ ?_; exact HTH.out; exact frm_one y; generalize hW6 : World.setCells _ _ _ _ = w6; have HW6 := hid hW6; clear hW6))
            refine bodyPost_ret (ret_cell rfl _ _ bZ #[Value.int IntKind.u8 y.dst.a, Value.int IntKind.u8 y.dst.b, Value.int IntKind.u8 y.dst.c, Value.int IntKind.u8 y.dst.d, Value.int IntKind.u8 y.dst.e, Value.int IntKind.u8 y.dst.f, Value.int IntKind.u8 y.src.a, Value.int IntKind.u8 y.src.b, Value.int IntKind.u8 y.src.c, Value.int IntKind.u8 y.src.d, Value.int IntKind.u8 y.src.e, Value.int IntKind.u8 y.src.f, Value.bool y.tag, Value.int IntKind.u8 y.pri, Value.int IntKind.u16 y.fvid, Value.int IntKind.u16 y.ty, Value.string y.data] rfl (by rw [← HW6.out]; exact setCells_frm HZB.out rfl y) rfl) rfl ?_
            rw [← HRR.out, HU2.out, ← HW6.out]
            first | rw [if_pos trivial] | rw [if_pos rfl]
            exact ⟨rfl, Keeps.setCells (fun e => absurd e (by have := HBB.out; omega)) _ _ _ K5.out⟩
          · have hn : (z != 0) = true := by simp [h0]
            have hn2 : (z == 0) = false := by simp [h0]
            have HN := hid h0
            clear h0
            go_upto_region 12 with (fail)
            go_wp2_with (refine wpList_store_mid rfl 33 _ _ rfl bZ 0 #[Value.int IntKind.u8 0, Value.int IntKind.u8 0, Value.int IntKind.u8 0, Value.int IntKind.u8 0, Value.int IntKind.u8 0, Value.int IntKind.u8 0, Value.int IntKind.u8 0, Value.int IntKind.u8 0, Value.int IntKind.u8 0, Value.int IntKind.u8 0, Value.int IntKind.u8 0, Value.int IntKind.u8 0, Value.bool false, Value.int IntKind.u8 0, Value.int IntKind.u16 0, Value.int IntKind.u16 0, Value.string ⟨#[]⟩] rfl rfl ?_ ?_ ?_ ?_; exact there_block HZB.out; kernel_rfl; (simp [Value.oneCell']); rw [setCells_same HZB.out _ 0 (fun j v hj => by simpa using hj)])
            refine bodyPost_ret (ret_cell rfl _ _ bZ #[Value.int IntKind.u8 0, Value.int IntKind.u8 0, Value.int IntKind.u8 0, Value.int IntKind.u8 0, Value.int IntKind.u8 0, Value.int IntKind.u8 0, Value.int IntKind.u8 0, Value.int IntKind.u8 0, Value.int IntKind.u8 0, Value.int IntKind.u8 0, Value.int IntKind.u8 0, Value.int IntKind.u8 0, Value.bool false, Value.int IntKind.u8 0, Value.int IntKind.u16 0, Value.int IntKind.u16 0, Value.string ⟨#[]⟩] rfl HZB.out rfl) rfl ?_
            rw [← HRR.out, HU2.out, if_neg HN.out]
            exact ⟨rfl, K5.out⟩
end Go.Proofs.Ytcplmdgnldmhbaa
