/-
  Layers 7 and 21: a frame as it goes out by a port. Conditions: the table lies so; the numbers are in range; data of 2,000 bytes.
-/
import Derived.Test.YtcplmdgnldmhbaaVIn
import Derived.Test.YtcplmdgnldmhbaaRBase
import Derived.Test.YtcplmdgnldmhbaaRPut3
namespace Go.Proofs.Ytcplmdgnldmhbaa
open Go.RowKit
set_option linter.unusedVariables false
set_option linter.unusedSimpArgs false
set_option maxRecDepth 8000

/-- Is a port one of a VLAN's untagged ones? -/
def untB (S : List (Pl × Int)) (port v : Int) : Bool := (bits BinOp.and .u8 (vcode S v % 256 / 2 ^ port.toNat) 1 == 1)
/-- A frame, tagged anew. -/
def retag (x : Frm) : Bool → Int → Frm
  | true, _ => { x with tag := false, pri := 0, fvid := 0 }
  | false, v => { x with tag := true, fvid := v }
def voutP (S : List (Pl × Int)) (port v : Int) (x : Frm) : Option Frm := if memB S port v then (if putE (retag x (untB S port v) v) = 0 then some (retag x (untB S port v) v) else none) else none
/-- What goes out. -/
def frmO : Option Frm → Value
  | some y => y.val
  | none => .agg #[Value.int IntKind.u8 0, Value.int IntKind.u8 0, Value.int IntKind.u8 0, Value.int IntKind.u8 0, Value.int IntKind.u8 0, Value.int IntKind.u8 0, Value.int IntKind.u8 0, Value.int IntKind.u8 0, Value.int IntKind.u8 0, Value.int IntKind.u8 0, Value.int IntKind.u8 0, Value.int IntKind.u8 0, Value.bool false, Value.int IntKind.u8 0, Value.int IntKind.u16 0, Value.int IntKind.u16 0, Value.string ⟨#[]⟩]
def OutIs (r : Option Frm) (w : World) (e : Ending) (w' : World) : Prop := e = .returned (.tuple #[frmO r, .bool r.isSome]) ∧ Keeps Nil w w'
theorem field85b (x y : Int) (W : World) : (Instr.field 85 (.agg #[.int .u8 x, .int .u8 y]) 1).run Try.prog W = .ok (.int .u8 y) W := by kernel_rfl
theorem frm_size (y : Frm) : y.cells.toArray.size = 17 := rfl
theorem frm_one (y : Frm) : y.cells.toArray.all (·.oneCell') = true := by simp [Value.oneCell']
theorem setCells_frm {w : World} {b : Nat} {c : Array Value} (h : w.heap[b]? = some (.cells c 33 (0, 0))) (hc : c.size = 17) (y : Frm) : (w.setCells b 0 y.cells).heap[b]? = some (.cells #[Value.int IntKind.u8 y.dst.a, Value.int IntKind.u8 y.dst.b, Value.int IntKind.u8 y.dst.c, Value.int IntKind.u8 y.dst.d, Value.int IntKind.u8 y.dst.e, Value.int IntKind.u8 y.dst.f, Value.int IntKind.u8 y.src.a, Value.int IntKind.u8 y.src.b, Value.int IntKind.u8 y.src.c, Value.int IntKind.u8 y.src.d, Value.int IntKind.u8 y.src.e, Value.int IntKind.u8 y.src.f, Value.bool y.tag, Value.int IntKind.u8 y.pri, Value.int IntKind.u16 y.fvid, Value.int IntKind.u16 y.ty, Value.string y.data] 33 (0, 0)) := by
  have h1 := setCells_block (b := b) y.cells 0 _ _ h
  rw [setAll_all _ _ _ (by rw [hc]; rfl)] at h1
  simpa using h1
theorem there17 {w : World} {b : Nat} {c : Array Value} (h : w.heap[b]? = some (.cells c 33 (0, 0))) (hc : c.size = 17) (y : Frm) : w.there b 0 y.cells.toArray.size := by
  have := there_block h
  rw [hc] at this
  exact this
theorem tail_free {w : World} {b : Nat} {c : Array Value} {T : TypeId} (h : w.heap[b]? = some (.cells c T (0, 0))) (i : Nat) : w.frozen? ⟨b, i, Option.none⟩ = false := by
  simp [World.frozen?, h]

set_option maxHeartbeats 8000000 in
theorem vout_any {t mb : Nat} {n : Int} {S : List (Pl × Int)} (w : World) (h : VIs w t mb n S) {port v : Int} (hp : 0 ≤ port ∧ port < 256) (hv : 0 ≤ v ∧ v < 65536) (x : Frm) (hd : x.data.size ≤ 2000) (hpr : 0 ≤ x.pri ∧ x.pri < 256) (hfv : 0 ≤ x.fvid ∧ x.fvid < 65536) (hty : 0 ≤ x.ty ∧ x.ty < 65536) :
    Calls Try.prog 43 #[.pointer (some ⟨t, 0, Option.none⟩), .int .u8 port, .int .u16 v, x.val] w (OutIs (voutP S port v x) w) := by
  have kz : Keeps Nil w (w.alloc (.cells #[Value.int IntKind.u8 x.dst.a, Value.int IntKind.u8 x.dst.b, Value.int IntKind.u8 x.dst.c, Value.int IntKind.u8 x.dst.d, Value.int IntKind.u8 x.dst.e, Value.int IntKind.u8 x.dst.f, Value.int IntKind.u8 x.src.a, Value.int IntKind.u8 x.src.b, Value.int IntKind.u8 x.src.c, Value.int IntKind.u8 x.src.d, Value.int IntKind.u8 x.src.e, Value.int IntKind.u8 x.src.f, Value.bool x.tag, Value.int IntKind.u8 x.pri, Value.int IntKind.u16 x.fvid, Value.int IntKind.u16 x.ty, Value.string x.data] 33 (0, 0))) := (Keeps.refl _ _).alloc _
  have hb := alloc_block w (.cells #[Value.int IntKind.u8 x.dst.a, Value.int IntKind.u8 x.dst.b, Value.int IntKind.u8 x.dst.c, Value.int IntKind.u8 x.dst.d, Value.int IntKind.u8 x.dst.e, Value.int IntKind.u8 x.dst.f, Value.int IntKind.u8 x.src.a, Value.int IntKind.u8 x.src.b, Value.int IntKind.u8 x.src.c, Value.int IntKind.u8 x.src.d, Value.int IntKind.u8 x.src.e, Value.int IntKind.u8 x.src.f, Value.bool x.tag, Value.int IntKind.u8 x.pri, Value.int IntKind.u16 x.fvid, Value.int IntKind.u16 x.ty, Value.string x.data] 33 (0, 0))
  have HP := fun (y : Frm) (e1 : y.data = x.data) (e2 : 0 ≤ y.pri ∧ y.pri < 256) (e3 : 0 ≤ y.fvid ∧ y.fvid < 65536) (e4 : y.ty = x.ty) (W : World) => hid (put_any y (by rw [e1]; exact hd) e2 e3 (by rw [e4]; exact hty) W)
  have HV := hid h
  clear h
  obtain ⟨r, hr⟩ : ∃ r, voutP S port v x = r := ⟨_, rfl⟩
  rw [hr]
  have HRR := hid hr
  clear hr
  go_enter Try.func43, Try.ntmps43
  go_upto_region 1 with (fail)
  have hs : (w.alloc (.cells #[Value.int IntKind.u8 x.dst.a, Value.int IntKind.u8 x.dst.b, Value.int IntKind.u8 x.dst.c, Value.int IntKind.u8 x.dst.d, Value.int IntKind.u8 x.dst.e, Value.int IntKind.u8 x.dst.f, Value.int IntKind.u8 x.src.a, Value.int IntKind.u8 x.src.b, Value.int IntKind.u8 x.src.c, Value.int IntKind.u8 x.src.d, Value.int IntKind.u8 x.src.e, Value.int IntKind.u8 x.src.f, Value.bool x.tag, Value.int IntKind.u8 x.pri, Value.int IntKind.u16 x.fvid, Value.int IntKind.u16 x.ty, Value.string x.data] 33 (0, 0))).heap.size = w.heap.size + 1 := World.size_alloc _ _
  generalize (w.alloc (.cells #[Value.int IntKind.u8 x.dst.a, Value.int IntKind.u8 x.dst.b, Value.int IntKind.u8 x.dst.c, Value.int IntKind.u8 x.dst.d, Value.int IntKind.u8 x.dst.e, Value.int IntKind.u8 x.dst.f, Value.int IntKind.u8 x.src.a, Value.int IntKind.u8 x.src.b, Value.int IntKind.u8 x.src.c, Value.int IntKind.u8 x.src.d, Value.int IntKind.u8 x.src.e, Value.int IntKind.u8 x.src.f, Value.bool x.tag, Value.int IntKind.u8 x.pri, Value.int IntKind.u16 x.fvid, Value.int IntKind.u16 x.ty, Value.string x.data] 33 (0, 0))) = wz at *
  have kx : Keeps Nil wz (wz.alloc (.cells #[Value.int IntKind.u8 0, Value.int IntKind.u8 0, Value.int IntKind.u8 0, Value.int IntKind.u8 0, Value.int IntKind.u8 0, Value.int IntKind.u8 0, Value.int IntKind.u8 0, Value.int IntKind.u8 0, Value.int IntKind.u8 0, Value.int IntKind.u8 0, Value.int IntKind.u8 0, Value.int IntKind.u8 0, Value.bool false, Value.int IntKind.u8 0, Value.int IntKind.u16 0, Value.int IntKind.u16 0, Value.string ⟨#[]⟩] 33 (0, 0))) := (Keeps.refl _ _).alloc _
  have hx := alloc_block wz (.cells #[Value.int IntKind.u8 0, Value.int IntKind.u8 0, Value.int IntKind.u8 0, Value.int IntKind.u8 0, Value.int IntKind.u8 0, Value.int IntKind.u8 0, Value.int IntKind.u8 0, Value.int IntKind.u8 0, Value.int IntKind.u8 0, Value.int IntKind.u8 0, Value.int IntKind.u8 0, Value.int IntKind.u8 0, Value.bool false, Value.int IntKind.u8 0, Value.int IntKind.u16 0, Value.int IntKind.u16 0, Value.string ⟨#[]⟩] 33 (0, 0))
  rw [hs] at hx
  have K2 := hid (kz.trans kx)
  have FB0 := hid (kx.lies hb)
  generalize (wz.alloc (.cells #[Value.int IntKind.u8 0, Value.int IntKind.u8 0, Value.int IntKind.u8 0, Value.int IntKind.u8 0, Value.int IntKind.u8 0, Value.int IntKind.u8 0, Value.int IntKind.u8 0, Value.int IntKind.u8 0, Value.int IntKind.u8 0, Value.int IntKind.u8 0, Value.int IntKind.u8 0, Value.int IntKind.u8 0, Value.bool false, Value.int IntKind.u8 0, Value.int IntKind.u16 0, Value.int IntKind.u16 0, Value.string ⟨#[]⟩] 33 (0, 0))) = wy at *
  have hlt := lt_of_block FB0.out
  have HTB := hid (show t < w.heap.size ∧ mb < w.heap.size from ⟨lt_of_block HV.out.1, HV.out.2.lt⟩)
  generalize hwb : w.heap.size = bF at *
  have HWB := hid hwb
  have HZB := hid hx
  clear hs kz kx hb hx hwb
  have HV2 := hid (HV.out.keepN K2.out)
  have HM := hid (member_any (v := v) (port := port) wy HV2.out hv hp)
  cases hm : memB S port v with
  | false =>
    have HR := hid (show voutP S port v x = none by simp [voutP, hm])
    rw [hm] at HM
    clear hm
    go_wp2_with (first | (go_at_call 59; refine HM.out.mono ?_; rintro ee wv ⟨rfl, rfl⟩) | (refine wpList_store_mid rfl 33 _ _ rfl (bF + 1) 0 #[Value.int IntKind.u8 0, Value.int IntKind.u8 0, Value.int IntKind.u8 0, Value.int IntKind.u8 0, Value.int IntKind.u8 0, Value.int IntKind.u8 0, Value.int IntKind.u8 0, Value.int IntKind.u8 0, Value.int IntKind.u8 0, Value.int IntKind.u8 0, Value.int IntKind.u8 0, Value.int IntKind.u8 0, Value.bool false, Value.int IntKind.u8 0, Value.int IntKind.u16 0, Value.int IntKind.u16 0, Value.string ⟨#[]⟩] rfl rfl (there_block HZB.out) (by kernel_rfl) (by simp [Value.oneCell']) ?_; rw [setCells_same HZB.out _ 0 (fun j v hj => by simpa using hj)]))
    refine bodyPost_ret (ret_cell rfl _ _ (bF + 1) #[Value.int IntKind.u8 0, Value.int IntKind.u8 0, Value.int IntKind.u8 0, Value.int IntKind.u8 0, Value.int IntKind.u8 0, Value.int IntKind.u8 0, Value.int IntKind.u8 0, Value.int IntKind.u8 0, Value.int IntKind.u8 0, Value.int IntKind.u8 0, Value.int IntKind.u8 0, Value.int IntKind.u8 0, Value.bool false, Value.int IntKind.u8 0, Value.int IntKind.u16 0, Value.int IntKind.u16 0, Value.string ⟨#[]⟩] rfl HZB.out rfl) rfl ?_
    rw [← HRR.out, HR.out]
    exact ⟨rfl, K2.out⟩
  | true =>
    have hp8 : port < 8 := by
      unfold memB at hm
      simp only [Bool.and_eq_true, decide_eq_true_eq] at hm
      exact hm.1
    rw [hm] at HM
    have HMB := hid hm
    clear hm
    have HX0 := hid FB0.out
    obtain ⟨f12, f13, f14, f15, f16⟩ := five_frame FB0.out
    have z12 := tail_free FB0.out 12
    have z14 := tail_free FB0.out 14
    go_upto_region 4 with (go_at_call 59; refine HM.out.mono ?_; rintro ee wv ⟨rfl, rfl⟩)
    have h3 := setCell_block (setCell_block FB0.out 12 (.bool true)) 14 (.int .u16 v)
    have k3 : Keeps (At bF) wy ((wy.setCell ⟨bF, 12, Option.none⟩ (.bool true)).setCell ⟨bF, 14, Option.none⟩ (.int .u16 v)) := ((Keeps.refl _ _).set _ _ (at_self _) _).set _ _ (at_self _) _
    generalize (wy.setCell ⟨bF, 12, Option.none⟩ (.bool true)).setCell ⟨bF, 14, Option.none⟩ (.int .u16 v) = w3 at *
    have F3 := hid (show w3.heap[bF]? = some (.cells #[Value.int IntKind.u8 x.dst.a, Value.int IntKind.u8 x.dst.b, Value.int IntKind.u8 x.dst.c, Value.int IntKind.u8 x.dst.d, Value.int IntKind.u8 x.dst.e, Value.int IntKind.u8 x.dst.f, Value.int IntKind.u8 x.src.a, Value.int IntKind.u8 x.src.b, Value.int IntKind.u8 x.src.c, Value.int IntKind.u8 x.src.d, Value.int IntKind.u8 x.src.e, Value.int IntKind.u8 x.src.f, Value.bool true, Value.int IntKind.u8 x.pri, Value.int IntKind.u16 v, Value.int IntKind.u16 x.ty, Value.string x.data] 33 (0, 0)) from h3)
    have K3 := hid (K2.out.thenAt k3 (by have := HWB.out; omega))
    have Z3 := hid (k3.lies HZB.out (fun e => by rw [At] at e; omega))
    have HV3 := hid (HV2.out.keep k3 (fun e => by rw [At] at e; have := HTB.out.1; omega) (fun e => by rw [At] at e; have := HTB.out.2; omega))
    clear h3 k3 f12 f13 f14 f15 f16 z12 z14 HV2 HM HZB FB0 HX0
    obtain ⟨c0, c1, c2, c3, c4, c5, c6, c7, c8, c9⟩ := ten_of HV3.out.1
    have hl := HV3.out.2.get hv
    have hf := field85b
    have HRU : ∀ u, untB S port v = u → voutP S port v x = if putE (retag x u v) = 0 then some (retag x u v) else none := fun u e => by unfold voutP; rw [HMB.out, e]; rfl
    have HRU := hid HRU
    have hp8' : port.toNat < 8 := by omega
    have hF := F3.out
    have z12 := tail_free hF 12
    have z13 := tail_free hF 13
    have z14 := tail_free hF 14
    have f12 : w3.cell? ⟨bF, 12, Option.none⟩ = some (.bool true) := by simp [World.cell?, hF]
    have f13 : w3.cell? ⟨bF, 13, Option.none⟩ = some (.int .u8 x.pri) := by simp [World.cell?, hF]
    have f14 : w3.cell? ⟨bF, 14, Option.none⟩ = some (.int .u16 v) := by simp [World.cell?, hF]
    clear hF
    cases hu : untB S port v with
    | true =>
      have HU := hid (HRU.out true hu)
      unfold untB at hu
      generalize hc : vcode S v = C at *
      clear hc
      go_upto_region 6 with (fail)
      have h4 := setCell_block (setCell_block (setCell_block F3.out 12 (.bool false)) 13 (.int .u8 0)) 14 (.int .u16 0)
      have k4 : Keeps (At bF) w3 (((w3.setCell ⟨bF, 12, Option.none⟩ (.bool false)).setCell ⟨bF, 13, Option.none⟩ (.int .u8 0)).setCell ⟨bF, 14, Option.none⟩ (.int .u16 0)) := (((Keeps.refl _ _).set _ _ (at_self _) _).set _ _ (at_self _) _).set _ _ (at_self _) _
      generalize ((w3.setCell ⟨bF, 12, Option.none⟩ (.bool false)).setCell ⟨bF, 13, Option.none⟩ (.int .u8 0)).setCell ⟨bF, 14, Option.none⟩ (.int .u16 0) = w4 at *
      have K4 := hid (K3.out.thenAt k4 (by have := HWB.out; omega))
      have Z4 := hid (k4.lies Z3.out (fun e => by rw [At] at e; omega))
      have F4 := hid h4
      clear h4 k4 F3 Z3 K3
      obtain ⟨y, FY, HPY, HU2⟩ : ∃ y : Frm, Hid (w4.heap[bF]? = some (.cells #[Value.int IntKind.u8 y.dst.a, Value.int IntKind.u8 y.dst.b, Value.int IntKind.u8 y.dst.c, Value.int IntKind.u8 y.dst.d, Value.int IntKind.u8 y.dst.e, Value.int IntKind.u8 y.dst.f, Value.int IntKind.u8 y.src.a, Value.int IntKind.u8 y.src.b, Value.int IntKind.u8 y.src.c, Value.int IntKind.u8 y.src.d, Value.int IntKind.u8 y.src.e, Value.int IntKind.u8 y.src.f, Value.bool y.tag, Value.int IntKind.u8 y.pri, Value.int IntKind.u16 y.fvid, Value.int IntKind.u16 y.ty, Value.string y.data] 33 (0, 0))) ∧ (∀ W, Hid (Calls Try.prog 60 #[y.val] W (Puts y W))) ∧ Hid (voutP S port v x = if putE y = 0 then some y else none) :=
        ⟨({ x with tag := false, pri := 0, fvid := 0 } : Frm), hid F4.out, fun W => HP ({ x with tag := false, pri := 0, fvid := 0 } : Frm) rfl ⟨Int.le_refl 0, (by decide : (0 : Int) < 256)⟩ ⟨Int.le_refl 0, (by decide : (0 : Int) < 65536)⟩ rfl W, hid HU.out⟩
      clear f12 f13 f14 z12 z13 z14 F4 hl hf c0 c1 c2 c3 c4 c5 c6 c7 c8 c9 HU HRU HP
      go_wp2_with (refine wpList_load_mid rfl 33 _ rfl bF 0 rfl y.cells _ (range_frame FY.out) Try.underlying33 rfl (by kernel_rfl) ?_)
      refine (HPY _).out.mono ?_
      rintro ee w5 ⟨s, rfl, k5⟩
      have F5 := hid (k5.lies FY.out)
      have HZB := hid (k5.lies Z4.out)
      have K5 := hid (K4.out.trans k5)
      clear k5 FY Z4 K4
      obtain ⟨z, hz⟩ : ∃ z, putE y = z := ⟨_, rfl⟩
      rw [hz] at HU2 ⊢
      clear hz
      by_cases h0 : z = 0
      · subst h0
        have HTH := hid (there17 HZB.out rfl y)
        go_wp2_with (first | (refine wpList_load_mid rfl 33 _ rfl bF 0 rfl y.cells _ (range_frame F5.out) Try.underlying33 rfl (by kernel_rfl) ?_) | (refine wpList_store_mid rfl 33 _ _ rfl (bF + 1) 0 y.cells.toArray rfl rfl ?_ (by kernel_rfl) ?_ ?_; exact HTH.out; exact frm_one y; generalize hW6 : World.setCells _ _ _ _ = w6; have HW6 := hid hW6; clear hW6))
        refine bodyPost_ret (ret_cell rfl _ _ (bF + 1) #[Value.int IntKind.u8 y.dst.a, Value.int IntKind.u8 y.dst.b, Value.int IntKind.u8 y.dst.c, Value.int IntKind.u8 y.dst.d, Value.int IntKind.u8 y.dst.e, Value.int IntKind.u8 y.dst.f, Value.int IntKind.u8 y.src.a, Value.int IntKind.u8 y.src.b, Value.int IntKind.u8 y.src.c, Value.int IntKind.u8 y.src.d, Value.int IntKind.u8 y.src.e, Value.int IntKind.u8 y.src.f, Value.bool y.tag, Value.int IntKind.u8 y.pri, Value.int IntKind.u16 y.fvid, Value.int IntKind.u16 y.ty, Value.string y.data] rfl (by rw [← HW6.out]; exact setCells_frm HZB.out rfl y) rfl) rfl ?_
        rw [← HRR.out, HU2.out, ← HW6.out]
        first | rw [if_pos trivial] | rw [if_pos rfl]
        exact ⟨rfl, Keeps.setCells (fun e => absurd e (by have := HWB.out; omega)) _ _ _ K5.out⟩
      · have hn : (z != 0) = true := by simp [h0]
        have hn2 : (z == 0) = false := by simp [h0]
        have HN := hid h0
        clear h0
        go_wp2_with (refine wpList_store_mid rfl 33 _ _ rfl (bF + 1) 0 #[Value.int IntKind.u8 0, Value.int IntKind.u8 0, Value.int IntKind.u8 0, Value.int IntKind.u8 0, Value.int IntKind.u8 0, Value.int IntKind.u8 0, Value.int IntKind.u8 0, Value.int IntKind.u8 0, Value.int IntKind.u8 0, Value.int IntKind.u8 0, Value.int IntKind.u8 0, Value.int IntKind.u8 0, Value.bool false, Value.int IntKind.u8 0, Value.int IntKind.u16 0, Value.int IntKind.u16 0, Value.string ⟨#[]⟩] rfl rfl (there_block HZB.out) (by kernel_rfl) (by simp [Value.oneCell']) ?_; rw [setCells_same HZB.out _ 0 (fun j v hj => by simpa using hj)])
        refine bodyPost_ret (ret_cell rfl _ _ (bF + 1) #[Value.int IntKind.u8 0, Value.int IntKind.u8 0, Value.int IntKind.u8 0, Value.int IntKind.u8 0, Value.int IntKind.u8 0, Value.int IntKind.u8 0, Value.int IntKind.u8 0, Value.int IntKind.u8 0, Value.int IntKind.u8 0, Value.int IntKind.u8 0, Value.int IntKind.u8 0, Value.int IntKind.u8 0, Value.bool false, Value.int IntKind.u8 0, Value.int IntKind.u16 0, Value.int IntKind.u16 0, Value.string ⟨#[]⟩] rfl HZB.out rfl) rfl ?_
        rw [← HRR.out, HU2.out, if_neg HN.out]
        exact ⟨rfl, K5.out⟩

    | false =>
      have HU := hid (HRU.out false hu)
      unfold untB at hu
      generalize hc : vcode S v = C at *
      clear hc
      go_upto_region 6 with (fail)
      have F4 := F3
      have K4 := K3
      have Z4 := Z3
      generalize w3 = w4 at *
      obtain ⟨y, FY, HPY, HU2⟩ : ∃ y : Frm, Hid (w4.heap[bF]? = some (.cells #[Value.int IntKind.u8 y.dst.a, Value.int IntKind.u8 y.dst.b, Value.int IntKind.u8 y.dst.c, Value.int IntKind.u8 y.dst.d, Value.int IntKind.u8 y.dst.e, Value.int IntKind.u8 y.dst.f, Value.int IntKind.u8 y.src.a, Value.int IntKind.u8 y.src.b, Value.int IntKind.u8 y.src.c, Value.int IntKind.u8 y.src.d, Value.int IntKind.u8 y.src.e, Value.int IntKind.u8 y.src.f, Value.bool y.tag, Value.int IntKind.u8 y.pri, Value.int IntKind.u16 y.fvid, Value.int IntKind.u16 y.ty, Value.string y.data] 33 (0, 0))) ∧ (∀ W, Hid (Calls Try.prog 60 #[y.val] W (Puts y W))) ∧ Hid (voutP S port v x = if putE y = 0 then some y else none) :=
        ⟨({ x with tag := true, fvid := v } : Frm), hid F4.out, fun W => HP ({ x with tag := true, fvid := v } : Frm) rfl hpr hv rfl W, hid HU.out⟩
      clear f12 f13 f14 z12 z13 z14 F4 hl hf c0 c1 c2 c3 c4 c5 c6 c7 c8 c9 HU HRU HP
      go_wp2_with (refine wpList_load_mid rfl 33 _ rfl bF 0 rfl y.cells _ (range_frame FY.out) Try.underlying33 rfl (by kernel_rfl) ?_)
      refine (HPY _).out.mono ?_
      rintro ee w5 ⟨s, rfl, k5⟩
      have F5 := hid (k5.lies FY.out)
      have HZB := hid (k5.lies Z4.out)
      have K5 := hid (K4.out.trans k5)
      clear k5 FY Z4 K4
      obtain ⟨z, hz⟩ : ∃ z, putE y = z := ⟨_, rfl⟩
      rw [hz] at HU2 ⊢
      clear hz
      by_cases h0 : z = 0
      · subst h0
        have HTH := hid (there17 HZB.out rfl y)
        go_wp2_with (first | (refine wpList_load_mid rfl 33 _ rfl bF 0 rfl y.cells _ (range_frame F5.out) Try.underlying33 rfl (by kernel_rfl) ?_) | (refine wpList_store_mid rfl 33 _ _ rfl (bF + 1) 0 y.cells.toArray rfl rfl ?_ (by kernel_rfl) ?_ ?_; exact HTH.out; exact frm_one y; generalize hW6 : World.setCells _ _ _ _ = w6; have HW6 := hid hW6; clear hW6))
        refine bodyPost_ret (ret_cell rfl _ _ (bF + 1) #[Value.int IntKind.u8 y.dst.a, Value.int IntKind.u8 y.dst.b, Value.int IntKind.u8 y.dst.c, Value.int IntKind.u8 y.dst.d, Value.int IntKind.u8 y.dst.e, Value.int IntKind.u8 y.dst.f, Value.int IntKind.u8 y.src.a, Value.int IntKind.u8 y.src.b, Value.int IntKind.u8 y.src.c, Value.int IntKind.u8 y.src.d, Value.int IntKind.u8 y.src.e, Value.int IntKind.u8 y.src.f, Value.bool y.tag, Value.int IntKind.u8 y.pri, Value.int IntKind.u16 y.fvid, Value.int IntKind.u16 y.ty, Value.string y.data] rfl (by rw [← HW6.out]; exact setCells_frm HZB.out rfl y) rfl) rfl ?_
        rw [← HRR.out, HU2.out, ← HW6.out]
        first | rw [if_pos trivial] | rw [if_pos rfl]
        exact ⟨rfl, Keeps.setCells (fun e => absurd e (by have := HWB.out; omega)) _ _ _ K5.out⟩
      · have hn : (z != 0) = true := by simp [h0]
        have hn2 : (z == 0) = false := by simp [h0]
        have HN := hid h0
        clear h0
        go_wp2_with (refine wpList_store_mid rfl 33 _ _ rfl (bF + 1) 0 #[Value.int IntKind.u8 0, Value.int IntKind.u8 0, Value.int IntKind.u8 0, Value.int IntKind.u8 0, Value.int IntKind.u8 0, Value.int IntKind.u8 0, Value.int IntKind.u8 0, Value.int IntKind.u8 0, Value.int IntKind.u8 0, Value.int IntKind.u8 0, Value.int IntKind.u8 0, Value.int IntKind.u8 0, Value.bool false, Value.int IntKind.u8 0, Value.int IntKind.u16 0, Value.int IntKind.u16 0, Value.string ⟨#[]⟩] rfl rfl (there_block HZB.out) (by kernel_rfl) (by simp [Value.oneCell']) ?_; rw [setCells_same HZB.out _ 0 (fun j v hj => by simpa using hj)])
        refine bodyPost_ret (ret_cell rfl _ _ (bF + 1) #[Value.int IntKind.u8 0, Value.int IntKind.u8 0, Value.int IntKind.u8 0, Value.int IntKind.u8 0, Value.int IntKind.u8 0, Value.int IntKind.u8 0, Value.int IntKind.u8 0, Value.int IntKind.u8 0, Value.int IntKind.u8 0, Value.int IntKind.u8 0, Value.int IntKind.u8 0, Value.int IntKind.u8 0, Value.bool false, Value.int IntKind.u8 0, Value.int IntKind.u16 0, Value.int IntKind.u16 0, Value.string ⟨#[]⟩] rfl HZB.out rfl) rfl ?_
        rw [← HRR.out, HU2.out, if_neg HN.out]
        exact ⟨rfl, K5.out⟩


set_option maxHeartbeats 8000000 in
theorem out_any {B r vt vm t mb m c : Nat} {p : Option Addr} {n : Int} {V : List (Pl × Int)} {τ : Tb} (w : World) (h : RIs w B r vt vm t mb p m c n V τ) {port v : Int} (hp : 0 ≤ port ∧ port < 256) (hv : 0 ≤ v ∧ v < 65536) (x : Frm) (hd : x.data.size ≤ 2000) (hpr : 0 ≤ x.pri ∧ x.pri < 256) (hfv : 0 ≤ x.fvid ∧ x.fvid < 65536) (hty : 0 ≤ x.ty ∧ x.ty < 65536) :
    Calls Try.prog 20 #[.pointer (some ⟨r, 0, Option.none⟩), .int .u8 port, .int .u16 v, x.val] w (OutIs (voutP V port v x) w) := by
  have HO := fun (W : World) (k : Keeps Nil w W) => hid (vout_any W (h.keepN k).2.1 hp hv x hd hpr hfv hty)
  have HVL := fun (W : World) (k : Keeps Nil w W) => hid (vlans_any W (h.keepN k))
  have kz : Keeps Nil w (w.alloc (.cells #[Value.int IntKind.u8 x.dst.a, Value.int IntKind.u8 x.dst.b, Value.int IntKind.u8 x.dst.c, Value.int IntKind.u8 x.dst.d, Value.int IntKind.u8 x.dst.e, Value.int IntKind.u8 x.dst.f, Value.int IntKind.u8 x.src.a, Value.int IntKind.u8 x.src.b, Value.int IntKind.u8 x.src.c, Value.int IntKind.u8 x.src.d, Value.int IntKind.u8 x.src.e, Value.int IntKind.u8 x.src.f, Value.bool x.tag, Value.int IntKind.u8 x.pri, Value.int IntKind.u16 x.fvid, Value.int IntKind.u16 x.ty, Value.string x.data] 33 (0, 0))) := (Keeps.refl _ _).alloc _
  have hb := alloc_block w (.cells #[Value.int IntKind.u8 x.dst.a, Value.int IntKind.u8 x.dst.b, Value.int IntKind.u8 x.dst.c, Value.int IntKind.u8 x.dst.d, Value.int IntKind.u8 x.dst.e, Value.int IntKind.u8 x.dst.f, Value.int IntKind.u8 x.src.a, Value.int IntKind.u8 x.src.b, Value.int IntKind.u8 x.src.c, Value.int IntKind.u8 x.src.d, Value.int IntKind.u8 x.src.e, Value.int IntKind.u8 x.src.f, Value.bool x.tag, Value.int IntKind.u8 x.pri, Value.int IntKind.u16 x.fvid, Value.int IntKind.u16 x.ty, Value.string x.data] 33 (0, 0))
  clear h
  generalize voutP V port v x = r0 at *
  go_enter Try.func20, Try.ntmps20
  go_upto_region 1 with (fail)
  have hs : (w.alloc (.cells #[Value.int IntKind.u8 x.dst.a, Value.int IntKind.u8 x.dst.b, Value.int IntKind.u8 x.dst.c, Value.int IntKind.u8 x.dst.d, Value.int IntKind.u8 x.dst.e, Value.int IntKind.u8 x.dst.f, Value.int IntKind.u8 x.src.a, Value.int IntKind.u8 x.src.b, Value.int IntKind.u8 x.src.c, Value.int IntKind.u8 x.src.d, Value.int IntKind.u8 x.src.e, Value.int IntKind.u8 x.src.f, Value.bool x.tag, Value.int IntKind.u8 x.pri, Value.int IntKind.u16 x.fvid, Value.int IntKind.u16 x.ty, Value.string x.data] 33 (0, 0))).heap.size = w.heap.size + 1 := World.size_alloc _ _
  generalize (w.alloc (.cells #[Value.int IntKind.u8 x.dst.a, Value.int IntKind.u8 x.dst.b, Value.int IntKind.u8 x.dst.c, Value.int IntKind.u8 x.dst.d, Value.int IntKind.u8 x.dst.e, Value.int IntKind.u8 x.dst.f, Value.int IntKind.u8 x.src.a, Value.int IntKind.u8 x.src.b, Value.int IntKind.u8 x.src.c, Value.int IntKind.u8 x.src.d, Value.int IntKind.u8 x.src.e, Value.int IntKind.u8 x.src.f, Value.bool x.tag, Value.int IntKind.u8 x.pri, Value.int IntKind.u16 x.fvid, Value.int IntKind.u16 x.ty, Value.string x.data] 33 (0, 0))) = wz at *
  have kx : Keeps Nil wz (wz.alloc (.cells #[Value.int IntKind.u8 0, Value.int IntKind.u8 0, Value.int IntKind.u8 0, Value.int IntKind.u8 0, Value.int IntKind.u8 0, Value.int IntKind.u8 0, Value.int IntKind.u8 0, Value.int IntKind.u8 0, Value.int IntKind.u8 0, Value.int IntKind.u8 0, Value.int IntKind.u8 0, Value.int IntKind.u8 0, Value.bool false, Value.int IntKind.u8 0, Value.int IntKind.u16 0, Value.int IntKind.u16 0, Value.string ⟨#[]⟩] 33 (0, 0))) := (Keeps.refl _ _).alloc _
  have hx := alloc_block wz (.cells #[Value.int IntKind.u8 0, Value.int IntKind.u8 0, Value.int IntKind.u8 0, Value.int IntKind.u8 0, Value.int IntKind.u8 0, Value.int IntKind.u8 0, Value.int IntKind.u8 0, Value.int IntKind.u8 0, Value.int IntKind.u8 0, Value.int IntKind.u8 0, Value.int IntKind.u8 0, Value.int IntKind.u8 0, Value.bool false, Value.int IntKind.u8 0, Value.int IntKind.u16 0, Value.int IntKind.u16 0, Value.string ⟨#[]⟩] 33 (0, 0))
  rw [hs] at hx
  have K2 := hid (kz.trans kx)
  have FB0 := hid (kx.lies hb)
  generalize (wz.alloc (.cells #[Value.int IntKind.u8 0, Value.int IntKind.u8 0, Value.int IntKind.u8 0, Value.int IntKind.u8 0, Value.int IntKind.u8 0, Value.int IntKind.u8 0, Value.int IntKind.u8 0, Value.int IntKind.u8 0, Value.int IntKind.u8 0, Value.int IntKind.u8 0, Value.int IntKind.u8 0, Value.int IntKind.u8 0, Value.bool false, Value.int IntKind.u8 0, Value.int IntKind.u16 0, Value.int IntKind.u16 0, Value.string ⟨#[]⟩] 33 (0, 0))) = wy at *
  generalize hwb : w.heap.size = bF at *
  have HWB := hid hwb
  have HZB := hid hx
  clear hs kz kx hb hx hwb
  have HH : Hid (∀ X, Keeps Nil wy X → (fun X : World => X.rangeAt bF 0 x.cells ∧ True) X) := hid (fun X kX => ⟨range_frame (kX.lies FB0.out), trivial⟩)
  have kk : Keeps Nil wy wy := Keeps.refl _ _
  have hfr : ∃ y : Frm, frmO r0 = y.val := by
    cases r0 with
    | some y => exact ⟨y, rfl⟩
    | none => exact ⟨⟨⟨0, 0, 0, 0, 0, 0, 0⟩, ⟨0, 0, 0, 0, 0, 0, 0⟩, false, 0, 0, 0, ⟨#[]⟩⟩, rfl⟩
  obtain ⟨y, hy⟩ := hfr
  have HY := hid hy
  clear hy
  refine wp_region_held_drew (S := (fun X : World => X.rangeAt bF 0 x.cells ∧ True)) (by kernel_rfl) ?_ (fun hHeld => ?_)
  · (try dsimp only); (first | exact HH.out _ kk | exact HH.out _ kk.drew | exact HH.out _ kk.drew.drew)
  refine wpAnyH_take (i := 0) (v := ?_) rfl (by kernel_rfl) (by kernel_rfl) (by kernel_rfl) (fun _ _ _ h => h) (Or.inl ⟨by rfl, ?_⟩) (by assumption) ?_
  rotate_left
  · (intro W hSw; (try dsimp only at hSw); go_simp <;> with_reducible rfl)
  try simp only [Act.put, List.setIfInBounds_toArray, List.set_cons_zero, List.set_cons_succ, List.getElem_toArray, List.getElem_cons_zero, List.getElem_cons_succ]
  refine wpAnyH_take (i := 2) (v := ?_) rfl (by kernel_rfl) (by kernel_rfl) (by kernel_rfl) (fun _ _ _ h => h) (Or.inl ⟨by rfl, ?_⟩) (by assumption) ?_
  rotate_left
  · (intro W hSw; (try dsimp only at hSw); go_simp <;> with_reducible rfl)
  try simp only [Act.put, List.setIfInBounds_toArray, List.set_cons_zero, List.set_cons_succ, List.getElem_toArray, List.getElem_cons_zero, List.getElem_cons_succ]
  refine wpAnyH_take (i := 3) (v := ?_) rfl (by kernel_rfl) (by kernel_rfl) (by kernel_rfl) (fun _ _ _ h => h) (Or.inl ⟨by rfl, ?_⟩) (by assumption) ?_
  rotate_left
  · (intro W hSw; (try dsimp only at hSw); go_simp <;> with_reducible rfl)
  try simp only [Act.put, List.setIfInBounds_toArray, List.set_cons_zero, List.set_cons_succ, List.getElem_toArray, List.getElem_cons_zero, List.getElem_cons_succ]
  refine' wpAnyH_take (i := 4) (v := _) rfl (by kernel_rfl) (by kernel_rfl) (by kernel_rfl) (fun _ _ _ h => h) (yieldsIf_load_mid (by rfl) 33 _ rfl bF 0 rfl x.cells _ (fun W hS => hS.1) Try.underlying33 rfl (by kernel_rfl)) (by assumption) ?_
  try simp only [Act.put, List.setIfInBounds_toArray, List.set_cons_zero, List.set_cons_succ, List.getElem_toArray, List.getElem_cons_zero, List.getElem_cons_succ]
  refine wpAnyH_ready (rs := [1]) (by kernel_rfl) (by simp) ?_
  refine AllReadyH.cons rfl (fun K hK => ?_) AllReadyH.nil
  try simp only [Act.put, List.setIfInBounds_toArray, List.set_cons_zero, List.set_cons_succ, List.getElem_toArray, List.getElem_cons_zero, List.getElem_cons_succ]
  go_simp
  (go_at_call 9; refine (HVL _ (K2.out.trans kk.drew)).out.mono ?_; rintro ee wv ⟨rfl, rfl⟩)
  (try go_wp2_with fail)
  refine hK.out _ _ ?_ (fun hHeld => ?_)
  · (try dsimp only); (first | exact HH.out _ kk | exact HH.out _ kk.drew | exact HH.out _ kk.drew.drew)
  clear hK K
  try simp only [Act.put, List.setIfInBounds_toArray, List.set_cons_zero, List.set_cons_succ, List.getElem_toArray, List.getElem_cons_zero, List.getElem_cons_succ]
  refine wpAnyH_ready (rs := [5]) (by kernel_rfl) (by simp) ?_
  refine AllReadyH.cons rfl (fun K hK => ?_) AllReadyH.nil
  try simp only [Act.put, List.setIfInBounds_toArray, List.set_cons_zero, List.set_cons_succ, List.getElem_toArray, List.getElem_cons_zero, List.getElem_cons_succ]
  go_simp
  (go_at_call 43; refine (HO _ (K2.out.trans kk.drew)).out.mono ?_; rintro ee wv ⟨rfl, kv⟩; rw [HY.out]; have kk : Keeps Nil wy wv := by first | exact kk.trans kv | exact kk.drew.trans kv)
  (try go_wp2_with fail)
  refine hK.out _ _ ?_ (fun hHeld => ?_)
  · (try dsimp only); (first | exact HH.out _ kk | exact HH.out _ kk.drew | exact HH.out _ kk.drew.drew)
  clear hK K
  try simp only [Act.put, List.setIfInBounds_toArray, List.set_cons_zero, List.set_cons_succ, List.getElem_toArray, List.getElem_cons_zero, List.getElem_cons_succ]
  refine wpAnyH_take (i := 6) (v := ?_) rfl (by kernel_rfl) (by kernel_rfl) (by kernel_rfl) (fun _ _ _ h => h) (Or.inl ⟨by rfl, ?_⟩) (by assumption) ?_
  rotate_left
  · (intro W hSw; (try dsimp only at hSw); go_simp <;> with_reducible rfl)
  try simp only [Act.put, List.setIfInBounds_toArray, List.set_cons_zero, List.set_cons_succ, List.getElem_toArray, List.getElem_cons_zero, List.getElem_cons_succ]
  refine wpAnyH_take (i := 7) (v := ?_) rfl (by kernel_rfl) (by kernel_rfl) (by kernel_rfl) (fun _ _ _ h => h) (Or.inl ⟨by rfl, ?_⟩) (by assumption) ?_
  rotate_left
  · (intro W hSw; (try dsimp only at hSw); go_simp <;> with_reducible rfl)
  try simp only [Act.put, List.setIfInBounds_toArray, List.set_cons_zero, List.set_cons_succ, List.getElem_toArray, List.getElem_cons_zero, List.getElem_cons_succ]

  have hx := kk.lies HZB.out
  have HX4 := hid hx
  have HTH := hid (there17 hx rfl y)
  clear hx
  refine wpAnyH_ready (rs := [8]) (by kernel_rfl) (by simp) ?_
  refine AllReadyH.cons rfl (fun K hK => ?_) AllReadyH.nil
  try simp only [Act.put, List.setIfInBounds_toArray, List.set_cons_zero, List.set_cons_succ, List.getElem_toArray, List.getElem_cons_zero, List.getElem_cons_succ]
  rw [if_pos (by rfl)]
  refine wp_store_mid 33 _ _ rfl (bF + 1) 0 y.cells.toArray rfl rfl ?_ (by kernel_rfl) ?_ ?_
  · exact HTH.out
  · exact frm_one y
  generalize hW6 : World.setCells _ _ _ _ = w6
  have hx6 : w6.heap[bF + 1]? = some (.cells #[Value.int IntKind.u8 y.dst.a, Value.int IntKind.u8 y.dst.b, Value.int IntKind.u8 y.dst.c, Value.int IntKind.u8 y.dst.d, Value.int IntKind.u8 y.dst.e, Value.int IntKind.u8 y.dst.f, Value.int IntKind.u8 y.src.a, Value.int IntKind.u8 y.src.b, Value.int IntKind.u8 y.src.c, Value.int IntKind.u8 y.src.d, Value.int IntKind.u8 y.src.e, Value.int IntKind.u8 y.src.f, Value.bool y.tag, Value.int IntKind.u8 y.pri, Value.int IntKind.u16 y.fvid, Value.int IntKind.u16 y.ty, Value.string y.data] 33 (0, 0)) := by rw [← hW6]; exact setCells_frm HX4.out rfl y
  have HX6 := hid hx6
  have K6 := hid (show Keeps Nil w w6 by rw [← hW6]; exact Keeps.setCells (fun e => absurd e (by have := HWB.out; omega)) _ _ _ (K2.out.trans kk))
  have hne : bF + 1 ≠ bF := by omega
  have k6 : Keeps (At (bF + 1)) wv w6 := by rw [← hW6]; exact Keeps.setCells (fun _ => at_self _) _ _ _ (Keeps.refl _ _)
  clear hW6 hx6
  try simp only [Act.put, List.setIfInBounds_toArray, List.set_cons_zero, List.set_cons_succ, List.getElem_toArray, List.getElem_cons_zero, List.getElem_cons_succ]
  refine hK.out _ _ ?_ (fun hHeld => ?_)
  · (try dsimp only); exact ⟨range_frame (k6.lies (kk.lies FB0.out) (fun e => by rw [At] at e; omega)), trivial⟩
  clear hK K
  try simp only [Act.put, List.setIfInBounds_toArray, List.set_cons_zero, List.set_cons_succ, List.getElem_toArray, List.getElem_cons_zero, List.getElem_cons_succ]
  refine wpAnyH_take (i := 9) (v := ?_) rfl (by kernel_rfl) (by kernel_rfl) (by kernel_rfl) (fun _ _ _ h => h) (Or.inl ⟨by rfl, ?_⟩) (by assumption) ?_
  rotate_left
  · (intro W hSw; (try dsimp only at hSw); go_simp <;> with_reducible rfl)
  try simp only [Act.put, List.setIfInBounds_toArray, List.set_cons_zero, List.set_cons_succ, List.getElem_toArray, List.getElem_cons_zero, List.getElem_cons_succ]

  refine wpAnyH_done (by kernel_rfl) ?_ _
  go_wp2_with fail
  refine bodyPost_ret (ret_cell rfl _ _ (bF + 1) #[Value.int IntKind.u8 y.dst.a, Value.int IntKind.u8 y.dst.b, Value.int IntKind.u8 y.dst.c, Value.int IntKind.u8 y.dst.d, Value.int IntKind.u8 y.dst.e, Value.int IntKind.u8 y.dst.f, Value.int IntKind.u8 y.src.a, Value.int IntKind.u8 y.src.b, Value.int IntKind.u8 y.src.c, Value.int IntKind.u8 y.src.d, Value.int IntKind.u8 y.src.e, Value.int IntKind.u8 y.src.f, Value.bool y.tag, Value.int IntKind.u8 y.pri, Value.int IntKind.u16 y.fvid, Value.int IntKind.u16 y.ty, Value.string y.data] rfl HX6.out rfl) rfl ?_
  exact ⟨by rw [HY.out]; rfl, K6.out⟩
end Go.Proofs.Ytcplmdgnldmhbaa
