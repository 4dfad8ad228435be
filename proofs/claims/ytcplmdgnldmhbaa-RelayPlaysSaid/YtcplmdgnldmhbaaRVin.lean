/-
  Layers 7 and 21, the document: the VLAN of a frame that came in. Conditions: the rows lie so; the numbers are in range.
-/
import Derived.Test.YtcplmdgnldmhbaaVVid
import Derived.Test.YtcplmdgnldmhbaaD7W
import Derived.Test.YtcplmdgnldmhbaaRFlush
namespace Go.Proofs.Ytcplmdgnldmhbaa
open Go.RowKit
set_option linter.unusedVariables false
set_option linter.unusedSimpArgs false
set_option maxRecDepth 8000

/-- Codes in range. -/
def VOk (L : List (Pl × Int)) : Prop := ∀ x ∈ L, 0 ≤ x.2 ∧ x.2 < 65536
theorem VOk.code {L : List (Pl × Int)} (h : VOk L) (v : Int) : 0 ≤ vcode L v ∧ vcode L v < 65536 := by
  unfold vcode
  cases hg : sget L (vp v) with
  | none => exact ⟨Int.le_refl 0, by decide⟩
  | some u =>
    unfold sget at hg
    rw [Option.map_eq_some_iff] at hg
    obtain ⟨x, hx, e⟩ := hg
    have := h x (List.mem_of_find?_eq_some hx)
    subst e
    exact this
theorem VOk.mem {L : List (Pl × Int)} (h : VOk L) (v : Int) : 0 ≤ vcode L v / 256 ∧ vcode L v / 256 < 256 := by have := h.code v; omega
theorem VOk.unt {L : List (Pl × Int)} (h : VOk L) (v : Int) : 0 ≤ vcode L v % 256 ∧ vcode L v % 256 < 256 := by omega
set_option maxHeartbeats 8000000 in
theorem rin_any (n : Int) (B : Nat) (p : Option Addr) (c : Nat) (L : List (Pl × Int)) (w : World) (h : WV w B 3 p L.length c (flatV L)) (hk : KeyV L) (ho : VOk L) (hl : L.length ≤ 100) (h1 : 1 ≤ n) (h8 : n ≤ 8) {port : Int} (hp : 0 ≤ port ∧ port < 256) (x : Frm) (hx : 0 ≤ x.fvid ∧ x.fvid < 65536) :
    Calls Try.prog 53 #[vtab n p L.length c, .int .u8 port, x.val] w fun e w' => e = .returned (.tuple #[.int .u16 (vinP n L port x).1, .bool (vinP n L port x).2]) ∧ Keeps Nil w w' := by
  have kz : Keeps Nil w ((w.alloc (.cells #[Value.int IntKind.i64 n, Value.slice p L.length c, Value.int IntKind.u16 0, Value.int IntKind.u16 0, Value.int IntKind.u16 0, Value.int IntKind.u16 0, Value.int IntKind.u16 0, Value.int IntKind.u16 0, Value.int IntKind.u16 0, Value.int IntKind.u16 0] 57 (0, 0))).alloc (.cells #[Value.int IntKind.u8 x.dst.a, Value.int IntKind.u8 x.dst.b, Value.int IntKind.u8 x.dst.c, Value.int IntKind.u8 x.dst.d, Value.int IntKind.u8 x.dst.e, Value.int IntKind.u8 x.dst.f, Value.int IntKind.u8 x.src.a, Value.int IntKind.u8 x.src.b, Value.int IntKind.u8 x.src.c, Value.int IntKind.u8 x.src.d, Value.int IntKind.u8 x.src.e, Value.int IntKind.u8 x.src.f, Value.bool x.tag, Value.int IntKind.u8 x.pri, Value.int IntKind.u16 x.fvid, Value.int IntKind.u16 x.ty, Value.string x.data] 33 (0, 0))) := ((Keeps.refl _ _).alloc _).alloc _
  obtain ⟨hA, hF⟩ := two_allocs w (.cells #[Value.int IntKind.i64 n, Value.slice p L.length c, Value.int IntKind.u16 0, Value.int IntKind.u16 0, Value.int IntKind.u16 0, Value.int IntKind.u16 0, Value.int IntKind.u16 0, Value.int IntKind.u16 0, Value.int IntKind.u16 0, Value.int IntKind.u16 0] 57 (0, 0)) (.cells #[Value.int IntKind.u8 x.dst.a, Value.int IntKind.u8 x.dst.b, Value.int IntKind.u8 x.dst.c, Value.int IntKind.u8 x.dst.d, Value.int IntKind.u8 x.dst.e, Value.int IntKind.u8 x.dst.f, Value.int IntKind.u8 x.src.a, Value.int IntKind.u8 x.src.b, Value.int IntKind.u8 x.src.c, Value.int IntKind.u8 x.src.d, Value.int IntKind.u8 x.src.e, Value.int IntKind.u8 x.src.f, Value.bool x.tag, Value.int IntKind.u8 x.pri, Value.int IntKind.u16 x.fvid, Value.int IntKind.u16 x.ty, Value.string x.data] 33 (0, 0))
  have hw : IntKind.i64.wrap port = port := IntWalk.i64_in _ (by omega)
  have HC := fun (v : Int) (W : World) (k : Keeps Nil w W) => hid (rmembers_any v n B p c L W (h.keepN k) hk hl)
  have HH := fun (v : Int) (h8 : port < 8) (W : World) => hid (has_any (vcode L v / 256) port (ho.mem v) ⟨hp.1, h8⟩ W)
  obtain ⟨rv, rb, hr⟩ : ∃ rv rb, vinP n L port x = (rv, rb) := ⟨_, _, rfl⟩
  rw [hr]
  have HR := hid hr
  clear hr h hk ho hl
  go_enter Try.func53, Try.ntmps53
  go_upto_region 1 with (fail)
  generalize ((w.alloc (.cells #[Value.int IntKind.i64 n, Value.slice p L.length c, Value.int IntKind.u16 0, Value.int IntKind.u16 0, Value.int IntKind.u16 0, Value.int IntKind.u16 0, Value.int IntKind.u16 0, Value.int IntKind.u16 0, Value.int IntKind.u16 0, Value.int IntKind.u16 0] 57 (0, 0))).alloc (.cells #[Value.int IntKind.u8 x.dst.a, Value.int IntKind.u8 x.dst.b, Value.int IntKind.u8 x.dst.c, Value.int IntKind.u8 x.dst.d, Value.int IntKind.u8 x.dst.e, Value.int IntKind.u8 x.dst.f, Value.int IntKind.u8 x.src.a, Value.int IntKind.u8 x.src.b, Value.int IntKind.u8 x.src.c, Value.int IntKind.u8 x.src.d, Value.int IntKind.u8 x.src.e, Value.int IntKind.u8 x.src.f, Value.bool x.tag, Value.int IntKind.u8 x.pri, Value.int IntKind.u16 x.fvid, Value.int IntKind.u16 x.ty, Value.string x.data] 33 (0, 0))) = wz at *
  generalize hbf : w.heap.size + 1 = bF at *
  have HBF := hid hbf
  clear hbf
  generalize w.heap.size = bT at *
  have KZ := hid kz
  have HA := hid hA
  clear kz
  obtain ⟨f0, f1, f2, f3, f4⟩ := tail_frame hF
  obtain ⟨c0, c1, c2, c3, c4, c5, c6, c7, c8, c9⟩ := ten_of hA
  clear hA hF
  by_cases hpn : n ≤ port
  · have e := HR.out
    unfold vinP at e
    rw [if_pos hpn] at e
    injection e with e1 e2
    subst e1 e2
    clear HC HH
    go_wp2_with fail
    go_ret2
    exact ⟨rfl, KZ.out⟩
  · have hport : 0 ≤ port ∧ port < 8 := by omega
    have HAK : Hid (∀ v b, askV x = v → (bits BinOp.and .u8 (vcode L v / 256 / 2 ^ port.toNat) 1 == 1) = b → (rv, rb) = (if b then (v, true) else (0, false))) := hid (fun v b e1 e2 => by
      rw [← HR.out]; unfold vinP memB; rw [if_neg hpn, e1, e2, decide_eq_true hport.2, Bool.true_and])
    have HH := fun (v : Int) (W : World) => HH v hport.2 W
    have hask : askV x = (if x.tag && x.fvid != 0 then x.fvid else 0) := rfl
    obtain ⟨tg, htg⟩ : ∃ tg, tg = x.tag := ⟨_, rfl⟩
    obtain ⟨fv, hfv⟩ : ∃ fv, fv = x.fvid := ⟨_, rfl⟩
    rw [← htg, ← hfv] at hask
    rw [← htg] at f0
    rw [← hfv] at f2 hx
    clear htg hfv
    have HASK := hid hask
    clear hask
    have cO : wz.cell? ⟨bT, 2 + port.toNat, Option.none⟩ = some (.int .u16 0) := by
      rcases (by omega : port.toNat = 0 ∨ port.toNat = 1 ∨ port.toNat = 2 ∨ port.toNat = 3 ∨ port.toNat = 4 ∨ port.toNat = 5 ∨ port.toNat = 6 ∨ port.toNat = 7) with e | e | e | e | e | e | e | e <;> rw [e] <;> assumption
    cases tg with
    | false =>
      have e1 : askV x = 0 := by rw [HASK.out]; rfl
      have HE := hid (fun b e2 => HAK.out (0) b e1 e2)
      clear HAK e1
      obtain ⟨b, hb⟩ : ∃ b, (bits BinOp.and .u8 (vcode L (0) / 256 / 2 ^ port.toNat) 1 == 1) = b := ⟨_, rfl⟩
      have HHv := fun W => HH (0) W
      rw [hb] at HHv
      have HE := hid (HE.out b hb)
      clear hb HH
      go_wp2_with fail
      refine (HC (0) _ KZ.out).out.mono ?_
      rintro ee w2 ⟨rfl, k2⟩
      cases b
      · have h := HE.out
        injection h with h1' h2'
        subst h1' h2'
        go_wp2_with (go_at_call 44; refine (HHv _).out.mono ?_; rintro ee wv ⟨rfl, rfl⟩)
        go_ret2
        exact ⟨rfl, KZ.out.trans k2⟩
      · have h := HE.out
        injection h with h1' h2'
        subst h1' h2'
        clear HR
        go_wp2_with (go_at_call 44; refine (HHv _).out.mono ?_; rintro ee wv ⟨rfl, rfl⟩)
        go_ret2
        exact ⟨rfl, KZ.out.trans k2⟩
    | true =>
     by_cases h0 : fv = 0
     · subst h0
       have e1 : askV x = 0 := by rw [HASK.out]; rfl
       have HE := hid (fun b e2 => HAK.out (0) b e1 e2)
       clear HAK e1
       obtain ⟨b, hb⟩ : ∃ b, (bits BinOp.and .u8 (vcode L (0) / 256 / 2 ^ port.toNat) 1 == 1) = b := ⟨_, rfl⟩
       have HHv := fun W => HH (0) W
       rw [hb] at HHv
       have HE := hid (HE.out b hb)
       clear hb HH
       go_wp2_with fail
       refine (HC (0) _ KZ.out).out.mono ?_
       rintro ee w2 ⟨rfl, k2⟩
       cases b
       · have h := HE.out
         injection h with h1' h2'
         subst h1' h2'
         go_wp2_with (go_at_call 44; refine (HHv _).out.mono ?_; rintro ee wv ⟨rfl, rfl⟩)
         go_ret2
         exact ⟨rfl, KZ.out.trans k2⟩
       · have h := HE.out
         injection h with h1' h2'
         subst h1' h2'
         clear HR
         go_wp2_with (go_at_call 44; refine (HHv _).out.mono ?_; rintro ee wv ⟨rfl, rfl⟩)
         go_ret2
         exact ⟨rfl, KZ.out.trans k2⟩
     · have hne : decide (0 < fv) = true := by simp; omega
       have e1 : askV x = fv := by rw [HASK.out]; simp [h0]
       have HE := hid (fun b e2 => HAK.out (fv) b e1 e2)
       clear HAK e1
       obtain ⟨b, hb⟩ : ∃ b, (bits BinOp.and .u8 (vcode L (fv) / 256 / 2 ^ port.toNat) 1 == 1) = b := ⟨_, rfl⟩
       have HHv := fun W => HH (fv) W
       rw [hb] at HHv
       have HE := hid (HE.out b hb)
       clear hb HH
       go_wp2_with fail
       refine (HC (fv) _ KZ.out).out.mono ?_
       rintro ee w2 ⟨rfl, k2⟩
       cases b
       · have h := HE.out
         injection h with h1' h2'
         subst h1' h2'
         go_wp2_with (go_at_call 44; refine (HHv _).out.mono ?_; rintro ee wv ⟨rfl, rfl⟩)
         go_ret2
         exact ⟨rfl, KZ.out.trans k2⟩
       · have h := HE.out
         injection h with h1' h2'
         subst h1' h2'
         clear HR
         go_wp2_with (go_at_call 44; refine (HHv _).out.mono ?_; rintro ee wv ⟨rfl, rfl⟩)
         go_ret2
         exact ⟨rfl, KZ.out.trans k2⟩

set_option maxHeartbeats 8000000 in
theorem rvid_any (n : Int) (B : Nat) (p : Option Addr) (c : Nat) (L : List (Pl × Int)) (w : World) (h : WV w B 3 p L.length c (flatV L)) (hk : KeyV L) (ho : VOk L) (hl : L.length ≤ 100) (h1 : 1 ≤ n) (h8 : n ≤ 8) {port : Int} (hp : 0 ≤ port ∧ port < 256) (x : Frm) (hx : 0 ≤ x.fvid ∧ x.fvid < 65536) (hf : 0 ≤ x.dst.f ∧ x.dst.f < 256) :
    Calls Try.prog 27 #[vtab n p L.length c, .int .u8 port, x.val] w fun e w' => e = .returned (.tuple #[.int .u16 (vidP n L port x).1, .bool (vidP n L port x).2]) ∧ Keeps Nil w w' := by
  have kz : Keeps Nil w ((w.alloc (.cells #[Value.int IntKind.i64 n, Value.slice p L.length c, Value.int IntKind.u16 0, Value.int IntKind.u16 0, Value.int IntKind.u16 0, Value.int IntKind.u16 0, Value.int IntKind.u16 0, Value.int IntKind.u16 0, Value.int IntKind.u16 0, Value.int IntKind.u16 0] 57 (0, 0))).alloc (.cells #[Value.int IntKind.u8 x.dst.a, Value.int IntKind.u8 x.dst.b, Value.int IntKind.u8 x.dst.c, Value.int IntKind.u8 x.dst.d, Value.int IntKind.u8 x.dst.e, Value.int IntKind.u8 x.dst.f, Value.int IntKind.u8 x.src.a, Value.int IntKind.u8 x.src.b, Value.int IntKind.u8 x.src.c, Value.int IntKind.u8 x.src.d, Value.int IntKind.u8 x.src.e, Value.int IntKind.u8 x.src.f, Value.bool x.tag, Value.int IntKind.u8 x.pri, Value.int IntKind.u16 x.fvid, Value.int IntKind.u16 x.ty, Value.string x.data] 33 (0, 0))) := ((Keeps.refl _ _).alloc _).alloc _
  obtain ⟨hA, hF⟩ := two_allocs w (.cells #[Value.int IntKind.i64 n, Value.slice p L.length c, Value.int IntKind.u16 0, Value.int IntKind.u16 0, Value.int IntKind.u16 0, Value.int IntKind.u16 0, Value.int IntKind.u16 0, Value.int IntKind.u16 0, Value.int IntKind.u16 0, Value.int IntKind.u16 0] 57 (0, 0)) (.cells #[Value.int IntKind.u8 x.dst.a, Value.int IntKind.u8 x.dst.b, Value.int IntKind.u8 x.dst.c, Value.int IntKind.u8 x.dst.d, Value.int IntKind.u8 x.dst.e, Value.int IntKind.u8 x.dst.f, Value.int IntKind.u8 x.src.a, Value.int IntKind.u8 x.src.b, Value.int IntKind.u8 x.src.c, Value.int IntKind.u8 x.src.d, Value.int IntKind.u8 x.src.e, Value.int IntKind.u8 x.src.f, Value.bool x.tag, Value.int IntKind.u8 x.pri, Value.int IntKind.u16 x.fvid, Value.int IntKind.u16 x.ty, Value.string x.data] 33 (0, 0))
  have HI := fun (W : World) (k : Keeps Nil w W) => hid (rin_any n B p c L W (h.keepN k) hk ho hl h1 h8 hp x hx)
  obtain ⟨rv, rb, hr⟩ : ∃ rv rb, vidP n L port x = (rv, rb) := ⟨_, _, rfl⟩
  rw [hr]
  have HR := hid hr
  clear hr h hk ho hl
  go_enter Try.func27, Try.ntmps27
  go_upto_region 1 with (fail)
  generalize ((w.alloc (.cells #[Value.int IntKind.i64 n, Value.slice p L.length c, Value.int IntKind.u16 0, Value.int IntKind.u16 0, Value.int IntKind.u16 0, Value.int IntKind.u16 0, Value.int IntKind.u16 0, Value.int IntKind.u16 0, Value.int IntKind.u16 0, Value.int IntKind.u16 0] 57 (0, 0))).alloc (.cells #[Value.int IntKind.u8 x.dst.a, Value.int IntKind.u8 x.dst.b, Value.int IntKind.u8 x.dst.c, Value.int IntKind.u8 x.dst.d, Value.int IntKind.u8 x.dst.e, Value.int IntKind.u8 x.dst.f, Value.int IntKind.u8 x.src.a, Value.int IntKind.u8 x.src.b, Value.int IntKind.u8 x.src.c, Value.int IntKind.u8 x.src.d, Value.int IntKind.u8 x.src.e, Value.int IntKind.u8 x.src.f, Value.bool x.tag, Value.int IntKind.u8 x.pri, Value.int IntKind.u16 x.fvid, Value.int IntKind.u16 x.ty, Value.string x.data] 33 (0, 0))) = wz at *
  generalize hbf : w.heap.size + 1 = bF at *
  have HBF := hid hbf
  clear hbf
  generalize w.heap.size = bT at *
  obtain ⟨f0, f1, f2, f3, f4, f5⟩ := six_frame hF
  have FB := hid hF
  have HA := hid hA
  have K1 := hid kz
  clear hF kz hA
  go_wp2_with fail
  refine (rresv_any x.dst hf wz).mono ?_; rintro ee w2 ⟨rfl, k2⟩
  have F2 := hid (k2.lies FB.out)
  have A2 := hid (k2.lies HA.out)
  have K2 := hid (K1.out.trans k2)
  clear k2 f0 f1 f2 f3 f4 f5
  obtain ⟨c0, c1, c2, c3, c4, c5, c6, c7, c8, c9⟩ := ten_of A2.out
  cases hres : resvB x.dst with
  | true =>
    have e := HR.out
    rw [vidP, hres, if_pos rfl] at e
    injection e with e1 e2
    subst e1 e2
    clear hres
    go_wp2_with fail
    go_ret2
    exact ⟨rfl, K2.out⟩
  | false =>
    have e := HR.out
    rw [vidP, hres, if_neg (by decide)] at e
    rw [e] at HI
    clear hres e HR
    go_wp2_with (refine wpList_load_mid rfl 33 _ rfl bF 0 rfl x.cells _ (range_frame F2.out) Try.underlying33 rfl (by kernel_rfl) ?_)
    refine (HI _ K2.out).out.mono ?_
    rintro ee w3 ⟨rfl, k3⟩
    go_wp2_with fail
    go_ret2
    exact ⟨rfl, K2.out.trans k3⟩
end Go.Proofs.Ytcplmdgnldmhbaa
