/-
  The statement RelayNil, walked. Condition: the frame's numbers are in range.
-/
import Derived.Test.YtcplmdgnldmhbaaRNil
namespace Go.Proofs.Ytcplmdgnldmhbaa
open Go.RowKit
set_option linter.unusedVariables false
set_option linter.unusedSimpArgs false
set_option maxRecDepth 8000

theorem wpList_load_wanted {P : Program} {ops : Array Oper} {rest : List Oper} {op : Oper} {a : Act} {w : World} {Q : Exit → Act → World → Prop} (hw : Region.wanted op (yielded ops a.tmps) = true) (ty : TypeId) (x : Operand) (ho : op.op = .load ty x)
    (b o : Nat) (hx : a.eval x = .pointer (some ⟨b, o, Option.none⟩)) (cs : List Value) (d : TypeDesc) (hc : w.rangeAt b o cs)
    (hu : P.underlying ty = some d) (hd : d.isRow = true) (hi : (P.info? ty).map (·.size) = some cs.length)
    (h : wpList P ops Q rest (a.put op.dst (.agg cs.toArray)) w) : wpList P ops Q (op :: rest) a w :=
  wpList_step fun _ hK => by
    simp only [hw, if_true]
    exact wp_load_mid ty x ho b o hx cs d hc hu hd hi (hK _ _ h)
set_option maxHeartbeats 8000000 in
theorem goes_nil (inn v set : Int) (x : Frm) (w : World) : Calls Try.prog 16 #[.pointer Option.none, .int .i64 inn, .int .u16 v, x.val, .int .u8 set] w fun e w' => e = .returned (.int .u8 0) ∧ Keeps Nil w w' := by
  have kz : Keeps Nil w (w.alloc (.cells #[Value.int IntKind.u8 x.dst.a, Value.int IntKind.u8 x.dst.b, Value.int IntKind.u8 x.dst.c, Value.int IntKind.u8 x.dst.d, Value.int IntKind.u8 x.dst.e, Value.int IntKind.u8 x.dst.f, Value.int IntKind.u8 x.src.a, Value.int IntKind.u8 x.src.b, Value.int IntKind.u8 x.src.c, Value.int IntKind.u8 x.src.d, Value.int IntKind.u8 x.src.e, Value.int IntKind.u8 x.src.f, Value.bool x.tag, Value.int IntKind.u8 x.pri, Value.int IntKind.u16 x.fvid, Value.int IntKind.u16 x.ty, Value.string x.data] 33 (0, 0))) := (Keeps.refl _ _).alloc _
  have hb := alloc_block w (.cells #[Value.int IntKind.u8 x.dst.a, Value.int IntKind.u8 x.dst.b, Value.int IntKind.u8 x.dst.c, Value.int IntKind.u8 x.dst.d, Value.int IntKind.u8 x.dst.e, Value.int IntKind.u8 x.dst.f, Value.int IntKind.u8 x.src.a, Value.int IntKind.u8 x.src.b, Value.int IntKind.u8 x.src.c, Value.int IntKind.u8 x.src.d, Value.int IntKind.u8 x.src.e, Value.int IntKind.u8 x.src.f, Value.bool x.tag, Value.int IntKind.u8 x.pri, Value.int IntKind.u16 x.fvid, Value.int IntKind.u16 x.ty, Value.string x.data] 33 (0, 0))
  have hb0 := band0 set
  go_enter Try.func16, Try.ntmps16
  go_upto_region 1 with (fail)
  generalize (w.alloc (.cells #[Value.int IntKind.u8 x.dst.a, Value.int IntKind.u8 x.dst.b, Value.int IntKind.u8 x.dst.c, Value.int IntKind.u8 x.dst.d, Value.int IntKind.u8 x.dst.e, Value.int IntKind.u8 x.dst.f, Value.int IntKind.u8 x.src.a, Value.int IntKind.u8 x.src.b, Value.int IntKind.u8 x.src.c, Value.int IntKind.u8 x.src.d, Value.int IntKind.u8 x.src.e, Value.int IntKind.u8 x.src.f, Value.bool x.tag, Value.int IntKind.u8 x.pri, Value.int IntKind.u16 x.fvid, Value.int IntKind.u16 x.ty, Value.string x.data] 33 (0, 0))) = wz at *
  generalize w.heap.size = bF at *
  obtain ⟨f0, f1, f2, f3, f4, f5⟩ := six_frame hb
  have FB := hid hb
  have K1 := hid kz
  clear hb kz
  go_wp2_with (first | (go_at_call 9; refine (vlans_nil _).mono ?_; rintro ee wq ⟨rfl, rfl⟩) | (go_at_call 11; refine (base_nil _).mono ?_; rintro ee wq ⟨rfl, rfl⟩) | (go_at_call 17; refine (members_nil v _).mono ?_; rintro ee wq ⟨rfl, rfl⟩))
  refine (resv_any x.dst wz).mono ?_; rintro ee w2 ⟨rfl, k2⟩
  have F2 := hid (k2.lies FB.out)
  have K2 := hid (K1.out.trans k2)
  clear k2 f0 f1 f2 f3 f4 f5
  obtain ⟨f0, f1, f2, f3, f4, f5⟩ := six_frame F2.out
  cases resvB x.dst with
  | true =>
    go_wp2_with fail
    go_ret
    exact ⟨rfl, K2.out⟩
  | false =>
    by_cases h0 : 0 ≤ inn
    · by_cases h8 : 8 ≤ inn
      · go_wp2_with (first | (go_at_call 9; refine (vlans_nil _).mono ?_; rintro ee wq ⟨rfl, rfl⟩) | (go_at_call 11; refine (base_nil _).mono ?_; rintro ee wq ⟨rfl, rfl⟩) | (go_at_call 17; refine (members_nil v _).mono ?_; rintro ee wq ⟨rfl, rfl⟩))
        go_ret
        exact ⟨rfl, K2.out⟩
      · have hz : (0 : Int) / 2 ^ inn.toNat = 0 := Int.zero_ediv _
        have hz1 := band0 1
        go_wp2_with (first | (go_at_call 9; refine (vlans_nil _).mono ?_; rintro ee wq ⟨rfl, rfl⟩) | (go_at_call 11; refine (base_nil _).mono ?_; rintro ee wq ⟨rfl, rfl⟩) | (go_at_call 17; refine (members_nil v _).mono ?_; rintro ee wq ⟨rfl, rfl⟩))
        go_ret
        exact ⟨rfl, K2.out⟩
    · go_wp2_with (first | (go_at_call 9; refine (vlans_nil _).mono ?_; rintro ee wq ⟨rfl, rfl⟩) | (go_at_call 11; refine (base_nil _).mono ?_; rintro ee wq ⟨rfl, rfl⟩) | (go_at_call 17; refine (members_nil v _).mono ?_; rintro ee wq ⟨rfl, rfl⟩))
      refine (look_nil x.dst v _).mono ?_; rintro ee w5 ⟨rfl, k5⟩
      go_wp2_with fail
      go_ret
      exact ⟨rfl, K2.out.trans k5⟩
theorem open_frame0 {H : Type} {enc : TypeId × Value → H} {W : World} {r : Reach} {b0 : Nat} {v : Value} {d : DataW H} {ps : List MemPlace}
    (hval : Value.okWide Try.prog W r b0 33 v) (hd : DataW.Trod enc Try.prog W 0 (fun _ => true) true 33 v d ps) : ∃ x : Frm, v = x.val ∧ x.Ok := by
  obtain ⟨x, h1, h2, _⟩ := open_frame hval hd 0 (by decide)
  exact ⟨x, h1, h2⟩
theorem nils {w w' : World} (k : Keeps Nil w w') : Below w.heap.size w w' := k.below (fun _ _ h => h)
theorem str_frame {w : World} {b : Nat} {x : Frm} (h : w.heap[b]? = some (.cells #[Value.int IntKind.u8 x.dst.a, Value.int IntKind.u8 x.dst.b, Value.int IntKind.u8 x.dst.c, Value.int IntKind.u8 x.dst.d, Value.int IntKind.u8 x.dst.e, Value.int IntKind.u8 x.dst.f, Value.int IntKind.u8 x.src.a, Value.int IntKind.u8 x.src.b, Value.int IntKind.u8 x.src.c, Value.int IntKind.u8 x.src.d, Value.int IntKind.u8 x.src.e, Value.int IntKind.u8 x.src.f, Value.bool x.tag, Value.int IntKind.u8 x.pri, Value.int IntKind.u16 x.fvid, Value.int IntKind.u16 x.ty, Value.string x.data] 33 (0, 0))) : w.cell? ⟨b, 16, Option.none⟩ = some (.string x.data) := by
  simp [World.cell?, h]
set_option maxHeartbeats 16000000 in
theorem rnil_any (port v set : Int) (x : Frm) (hx : x.Ok) (hport : 0 ≤ port ∧ port < 256) (w : World) : Calls Try.prog 4 #[.int .u8 port, .int .u16 v, x.val, .int .u8 set] w fun e w' => e = .returned (.bool true) ∧ Keeps Nil w w' := by
  have kz : Keeps Nil w (w.alloc (.cells #[Value.int IntKind.u8 x.dst.a, Value.int IntKind.u8 x.dst.b, Value.int IntKind.u8 x.dst.c, Value.int IntKind.u8 x.dst.d, Value.int IntKind.u8 x.dst.e, Value.int IntKind.u8 x.dst.f, Value.int IntKind.u8 x.src.a, Value.int IntKind.u8 x.src.b, Value.int IntKind.u8 x.src.c, Value.int IntKind.u8 x.src.d, Value.int IntKind.u8 x.src.e, Value.int IntKind.u8 x.src.f, Value.bool x.tag, Value.int IntKind.u8 x.pri, Value.int IntKind.u16 x.fvid, Value.int IntKind.u16 x.ty, Value.string x.data] 33 (0, 0))) := (Keeps.refl _ _).alloc _
  have hb := alloc_block w (.cells #[Value.int IntKind.u8 x.dst.a, Value.int IntKind.u8 x.dst.b, Value.int IntKind.u8 x.dst.c, Value.int IntKind.u8 x.dst.d, Value.int IntKind.u8 x.dst.e, Value.int IntKind.u8 x.dst.f, Value.int IntKind.u8 x.src.a, Value.int IntKind.u8 x.src.b, Value.int IntKind.u8 x.src.c, Value.int IntKind.u8 x.src.d, Value.int IntKind.u8 x.src.e, Value.int IntKind.u8 x.src.f, Value.bool x.tag, Value.int IntKind.u8 x.pri, Value.int IntKind.u16 x.fvid, Value.int IntKind.u16 x.ty, Value.string x.data] 33 (0, 0))
  have hdm := hx.2.2.2.2.2
  unfold maxLen at hdm
  go_enter Try.func4, Try.ntmps4
  go_upto_region 1 with (fail)
  generalize (w.alloc (.cells #[Value.int IntKind.u8 x.dst.a, Value.int IntKind.u8 x.dst.b, Value.int IntKind.u8 x.dst.c, Value.int IntKind.u8 x.dst.d, Value.int IntKind.u8 x.dst.e, Value.int IntKind.u8 x.dst.f, Value.int IntKind.u8 x.src.a, Value.int IntKind.u8 x.src.b, Value.int IntKind.u8 x.src.c, Value.int IntKind.u8 x.src.d, Value.int IntKind.u8 x.src.e, Value.int IntKind.u8 x.src.f, Value.bool x.tag, Value.int IntKind.u8 x.pri, Value.int IntKind.u16 x.fvid, Value.int IntKind.u16 x.ty, Value.string x.data] 33 (0, 0))) = wz at *
  generalize w.heap.size = bF at *
  have s0 := str_frame hb
  have FB := hid hb
  have K1 := hid kz
  clear hb kz
  by_cases hg : 2000 < x.data.size
  · have hg' : decide ((2000 : Int) < (x.data.size : Int)) = true := by simp; omega
    go_wp2_with fail
    refine (wakes_any _).mono ?_; rintro ee w2 ⟨rfl, k2⟩
    go_wp2_with fail
    go_ret
    exact ⟨rfl, K1.out.trans k2⟩
  · have hg' : decide ((2000 : Int) < (x.data.size : Int)) = false := by simp; omega
    go_wp2_with (refine wpList_load_wanted (by rfl) 33 _ rfl bF 0 rfl x.cells _ (range_frame FB.out) Try.underlying33 rfl (by kernel_rfl) ?_)
    refine (vid_nil port x _).mono ?_; rintro ee w2 ⟨rfl, k2⟩
    have F2 := hid (k2.lies FB.out)
    have K2 := hid (K1.out.trans k2)
    clear k2 s0
    go_wp2_with (refine wpList_load_wanted (by rfl) 33 _ rfl bF 0 rfl x.cells _ (range_frame F2.out) Try.underlying33 rfl (by kernel_rfl) ?_)
    refine (out_nil port v x _).mono ?_; rintro ee w3 ⟨rfl, k3⟩
    have F3 := hid (k3.lies F2.out)
    have K3 := hid (K2.out.trans k3)
    clear k3
    go_upto_region 6 with (refine wpList_store_mid rfl 33 _ _ rfl w3.heap.size 0 #[Value.int IntKind.u8 0, Value.int IntKind.u8 0, Value.int IntKind.u8 0, Value.int IntKind.u8 0, Value.int IntKind.u8 0, Value.int IntKind.u8 0, Value.int IntKind.u8 0, Value.int IntKind.u8 0, Value.int IntKind.u8 0, Value.int IntKind.u8 0, Value.int IntKind.u8 0, Value.int IntKind.u8 0, Value.bool false, Value.int IntKind.u8 0, Value.int IntKind.u16 0, Value.int IntKind.u16 0, Value.string ⟨#[]⟩] rfl rfl (there_block (alloc_block w3 (.cells #[Value.int IntKind.u8 0, Value.int IntKind.u8 0, Value.int IntKind.u8 0, Value.int IntKind.u8 0, Value.int IntKind.u8 0, Value.int IntKind.u8 0, Value.int IntKind.u8 0, Value.int IntKind.u8 0, Value.int IntKind.u8 0, Value.int IntKind.u8 0, Value.int IntKind.u8 0, Value.int IntKind.u8 0, Value.bool false, Value.int IntKind.u8 0, Value.int IntKind.u16 0, Value.int IntKind.u16 0, Value.string ⟨#[]⟩] 33 (0, 0)))) (by kernel_rfl) (by simp [Value.oneCell']) ?_; rw [setCells_same (alloc_block w3 (.cells #[Value.int IntKind.u8 0, Value.int IntKind.u8 0, Value.int IntKind.u8 0, Value.int IntKind.u8 0, Value.int IntKind.u8 0, Value.int IntKind.u8 0, Value.int IntKind.u8 0, Value.int IntKind.u8 0, Value.int IntKind.u8 0, Value.int IntKind.u8 0, Value.int IntKind.u8 0, Value.int IntKind.u8 0, Value.bool false, Value.int IntKind.u8 0, Value.int IntKind.u16 0, Value.int IntKind.u16 0, Value.string ⟨#[]⟩] 33 (0, 0))) _ 0 (fun j v hj => by simpa using hj)])
    have k4 : Keeps Nil w3 (w3.alloc (.cells #[Value.int IntKind.u8 0, Value.int IntKind.u8 0, Value.int IntKind.u8 0, Value.int IntKind.u8 0, Value.int IntKind.u8 0, Value.int IntKind.u8 0, Value.int IntKind.u8 0, Value.int IntKind.u8 0, Value.int IntKind.u8 0, Value.int IntKind.u8 0, Value.int IntKind.u8 0, Value.int IntKind.u8 0, Value.bool false, Value.int IntKind.u8 0, Value.int IntKind.u16 0, Value.int IntKind.u16 0, Value.string ⟨#[]⟩] 33 (0, 0))) := (Keeps.refl _ _).alloc _
    have F4 := hid (k4.lies F3.out)
    have K4 := hid (K3.out.trans k4)
    clear k4 F3
    generalize (w3.alloc (.cells #[Value.int IntKind.u8 0, Value.int IntKind.u8 0, Value.int IntKind.u8 0, Value.int IntKind.u8 0, Value.int IntKind.u8 0, Value.int IntKind.u8 0, Value.int IntKind.u8 0, Value.int IntKind.u8 0, Value.int IntKind.u8 0, Value.int IntKind.u8 0, Value.int IntKind.u8 0, Value.int IntKind.u8 0, Value.bool false, Value.int IntKind.u8 0, Value.int IntKind.u16 0, Value.int IntKind.u16 0, Value.string ⟨#[]⟩] 33 (0, 0))) = w4 at *
    have hcv : IntKind.i64.wrap port = port := by rw [IntKind.wrap_i64]; omega
    go_wp2_with (refine wpList_load_wanted (by rfl) 33 _ rfl bF 0 rfl x.cells _ (range_frame F4.out) Try.underlying33 rfl (by kernel_rfl) ?_)
    refine (goes_nil port v set x _).mono ?_; rintro ee w5 ⟨rfl, k5⟩
    have F5 := hid (k5.lies F4.out)
    have K5 := hid (K4.out.trans k5)
    clear k5
    go_wp2_with (refine wpList_load_wanted (by rfl) 33 _ rfl bF 0 rfl x.cells _ (range_frame F5.out) Try.underlying33 rfl (by kernel_rfl) ?_)
    refine (goes_nil (-1) v set x _).mono ?_; rintro ee w6 ⟨rfl, k6⟩
    have K6 := hid (K5.out.trans k6)
    clear k6
    go_wp2_with (first | (go_at_call 9; refine (vlans_nil _).mono ?_; rintro ee wq ⟨rfl, rfl⟩) | (go_at_call 11; refine (base_nil _).mono ?_; rintro ee wq ⟨rfl, rfl⟩))
    refine (wakes_any _).mono ?_; rintro ee w7 ⟨rfl, k7⟩
    go_wp2_with fail
    go_ret
    exact ⟨rfl, K6.out.trans k7⟩
end Go.Proofs.Ytcplmdgnldmhbaa
