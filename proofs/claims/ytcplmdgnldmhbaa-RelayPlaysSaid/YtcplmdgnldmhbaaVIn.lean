/-
  Layer 21: the VLAN of a frame that came in. Conditions: the table lies so; numbers in range.
-/
import Derived.Test.YtcplmdgnldmhbaaRResv
import Derived.Test.YtcplmdgnldmhbaaRNil
import Derived.Test.YtcplmdgnldmhbaaWander
namespace Go.Proofs.Ytcplmdgnldmhbaa
open Go.RowKit
set_option linter.unusedVariables false
set_option linter.unusedSimpArgs false
set_option maxRecDepth 8000

/-- Is a port one of a VLAN? -/
def memB (S : List (Pl × Int)) (port v : Int) : Bool := decide (port < 8) && (bits BinOp.and .u8 (vcode S v / 256 / 2 ^ port.toNat) 1 == 1)
set_option maxHeartbeats 4000000 in
theorem member_any {t mb : Nat} {n : Int} {S : List (Pl × Int)} (w : World) (h : VIs w t mb n S) {v port : Int} (hv : 0 ≤ v ∧ v < 65536) (hp : 0 ≤ port ∧ port < 256) :
    Calls Try.prog 59 #[.pointer (some ⟨t, 0, Option.none⟩), .int .u8 port, .int .u16 v] w fun e w' => e = .returned (.bool (memB S port v)) ∧ w = w' := by
  have hM := hid (members_any w h hv)
  have hw : IntKind.i64.wrap port = port := IntWalk.i64_in _ (by omega)
  unfold memB
  by_cases h8 : port < 8
  · obtain ⟨r, hr⟩ : ∃ r, (bits BinOp.and .u8 (vcode S v / 256 / 2 ^ port.toNat) 1 == 1) = r := ⟨_, rfl⟩
    rw [hr, decide_eq_true h8, Bool.true_and]
    go_enter Try.func59, Try.ntmps59
    go_wp2_with (go_at_call 17; refine hM.out.mono ?_; rintro ee wv ⟨rfl, rfl⟩)
    go_ret
    exact ⟨rfl, rfl⟩
  · rw [decide_eq_false h8, Bool.false_and]
    go_enter Try.func59, Try.ntmps59
    go_wp2_with (go_at_call 17; refine hM.out.mono ?_; rintro ee wv ⟨rfl, rfl⟩)
    go_ret
    exact ⟨rfl, rfl⟩
theorem tail_frame {w : World} {b : Nat} {x : Frm} (h : w.heap[b]? = some (.cells #[Value.int IntKind.u8 x.dst.a, Value.int IntKind.u8 x.dst.b, Value.int IntKind.u8 x.dst.c, Value.int IntKind.u8 x.dst.d, Value.int IntKind.u8 x.dst.e, Value.int IntKind.u8 x.dst.f, Value.int IntKind.u8 x.src.a, Value.int IntKind.u8 x.src.b, Value.int IntKind.u8 x.src.c, Value.int IntKind.u8 x.src.d, Value.int IntKind.u8 x.src.e, Value.int IntKind.u8 x.src.f, Value.bool x.tag, Value.int IntKind.u8 x.pri, Value.int IntKind.u16 x.fvid, Value.int IntKind.u16 x.ty, Value.string x.data] 33 (0, 0))) :
    w.cell? ⟨b, 12, Option.none⟩ = some (.bool x.tag) ∧ w.cell? ⟨b, 13, Option.none⟩ = some (.int .u8 x.pri) ∧ w.cell? ⟨b, 14, Option.none⟩ = some (.int .u16 x.fvid) ∧ w.cell? ⟨b, 15, Option.none⟩ = some (.int .u16 x.ty) ∧ w.cell? ⟨b, 16, Option.none⟩ = some (.string x.data) := by
  obtain ⟨_, _, _, _, _, _, _, _, _, _, _, _, h12, h13, h14, h15, h16⟩ := f17_of h
  exact ⟨h12, h13, h14, h15, h16⟩
/-- The VLAN's number that a frame asks for. -/
def askV (x : Frm) : Int := if x.tag && x.fvid != 0 then x.fvid else 0
def vinP (n : Int) (S : List (Pl × Int)) (port : Int) (x : Frm) : Int × Bool := if n ≤ port then (0, false) else if memB S port (askV x) then (askV x, true) else (0, false)
set_option maxHeartbeats 8000000 in
theorem vin_any {t mb : Nat} {n : Int} {S : List (Pl × Int)} (w : World) (h : VIs w t mb n S) (h1 : 1 ≤ n) (h8 : n ≤ 8) {port : Int} (hp : 0 ≤ port ∧ port < 256) (x : Frm) (hx : 0 ≤ x.fvid ∧ x.fvid < 65536) :
    Calls Try.prog 42 #[.pointer (some ⟨t, 0, Option.none⟩), .int .u8 port, x.val] w fun e w' => e = .returned (.tuple #[.int .u16 (vinP n S port x).1, .bool (vinP n S port x).2]) ∧ Keeps Nil w w' := by
  have kz : Keeps Nil w (w.alloc (.cells #[Value.int IntKind.u8 x.dst.a, Value.int IntKind.u8 x.dst.b, Value.int IntKind.u8 x.dst.c, Value.int IntKind.u8 x.dst.d, Value.int IntKind.u8 x.dst.e, Value.int IntKind.u8 x.dst.f, Value.int IntKind.u8 x.src.a, Value.int IntKind.u8 x.src.b, Value.int IntKind.u8 x.src.c, Value.int IntKind.u8 x.src.d, Value.int IntKind.u8 x.src.e, Value.int IntKind.u8 x.src.f, Value.bool x.tag, Value.int IntKind.u8 x.pri, Value.int IntKind.u16 x.fvid, Value.int IntKind.u16 x.ty, Value.string x.data] 33 (0, 0))) := (Keeps.refl _ _).alloc _
  have hb := alloc_block w (.cells #[Value.int IntKind.u8 x.dst.a, Value.int IntKind.u8 x.dst.b, Value.int IntKind.u8 x.dst.c, Value.int IntKind.u8 x.dst.d, Value.int IntKind.u8 x.dst.e, Value.int IntKind.u8 x.dst.f, Value.int IntKind.u8 x.src.a, Value.int IntKind.u8 x.src.b, Value.int IntKind.u8 x.src.c, Value.int IntKind.u8 x.src.d, Value.int IntKind.u8 x.src.e, Value.int IntKind.u8 x.src.f, Value.bool x.tag, Value.int IntKind.u8 x.pri, Value.int IntKind.u16 x.fvid, Value.int IntKind.u16 x.ty, Value.string x.data] 33 (0, 0))
  have hw : IntKind.i64.wrap port = port := IntWalk.i64_in _ (by omega)
  have HV := hid h
  clear h
  obtain ⟨rv, rb, hr⟩ : ∃ rv rb, vinP n S port x = (rv, rb) := ⟨_, _, rfl⟩
  rw [hr]
  have HR := hid hr
  clear hr
  go_enter Try.func42, Try.ntmps42
  go_upto_region 1 with (fail)
  generalize (w.alloc (.cells #[Value.int IntKind.u8 x.dst.a, Value.int IntKind.u8 x.dst.b, Value.int IntKind.u8 x.dst.c, Value.int IntKind.u8 x.dst.d, Value.int IntKind.u8 x.dst.e, Value.int IntKind.u8 x.dst.f, Value.int IntKind.u8 x.src.a, Value.int IntKind.u8 x.src.b, Value.int IntKind.u8 x.src.c, Value.int IntKind.u8 x.src.d, Value.int IntKind.u8 x.src.e, Value.int IntKind.u8 x.src.f, Value.bool x.tag, Value.int IntKind.u8 x.pri, Value.int IntKind.u16 x.fvid, Value.int IntKind.u16 x.ty, Value.string x.data] 33 (0, 0))) = wz at *
  generalize w.heap.size = bF at *
  have KZ := hid kz
  have HV2 := hid (HV.out.keepN kz)
  clear kz
  obtain ⟨f0, f1, f2, f3, f4⟩ := tail_frame hb
  obtain ⟨c0, c1, c2, c3, c4, c5, c6, c7, c8, c9⟩ := ten_of HV2.out.1
  clear hb
  by_cases hpn : n ≤ port
  · have e := HR.out
    unfold vinP at e
    rw [if_pos hpn] at e
    injection e with e1 e2
    subst e1 e2
    go_wp2_with fail
    go_ret2
    exact ⟨rfl, KZ.out⟩
  · have HA : Hid (∀ v b, askV x = v → memB S port v = b → (rv, rb) = (if b then (v, true) else (0, false))) := hid (fun v b e1 e2 => by
      rw [← HR.out]; unfold vinP; rw [if_neg hpn, e1, e2])
    have hask : askV x = (if x.tag && x.fvid != 0 then x.fvid else 0) := rfl
    have hport : 0 ≤ port ∧ port < 8 := by omega
    obtain ⟨tg, htg⟩ : ∃ tg, tg = x.tag := ⟨_, rfl⟩
    obtain ⟨fv, hfv⟩ : ∃ fv, fv = x.fvid := ⟨_, rfl⟩
    rw [← htg, ← hfv] at hask
    rw [← htg] at f0
    rw [← hfv] at f2 hx
    clear htg hfv
    have HASK := hid hask
    clear hask
    have own8 : ∀ v b, askV x = v → memB S port v = b → Hid ((rv, rb) = (if b then (v, true) else (0, false))) := fun v b e1 e2 => hid (HA.out v b e1 e2)
    have cO : wz.cell? ⟨t, 2 + port.toNat, Option.none⟩ = some (.int .u16 0) := by
      rcases (by omega : port.toNat = 0 ∨ port.toNat = 1 ∨ port.toNat = 2 ∨ port.toNat = 3 ∨ port.toNat = 4 ∨ port.toNat = 5 ∨ port.toNat = 6 ∨ port.toNat = 7) with e | e | e | e | e | e | e | e <;> rw [e] <;> assumption
    clear c2 c3 c4 c5 c6 c7 c8 c9
    cases tg with
    | false =>
      have HM := hid (member_any (v := 0) (port := port) wz HV2.out (by omega) hp)
      have e1 : askV x = 0 := by rw [HASK.out]; rfl
      obtain ⟨b, hb⟩ : ∃ b, memB S port 0 = b := ⟨_, rfl⟩
      have HE := own8 0 b e1 hb
      rw [hb] at HM
      clear own8 hb
      cases b
      · have h := HE.out
        injection h with h1' h2'
        subst h1' h2'
        go_wp2_with (go_at_call 59; refine HM.out.mono ?_; rintro ee wv ⟨rfl, rfl⟩)
        go_ret2
        exact ⟨rfl, KZ.out⟩
      · have h := HE.out
        injection h with h1' h2'
        subst h1' h2'
        go_wp2_with (go_at_call 59; refine HM.out.mono ?_; rintro ee wv ⟨rfl, rfl⟩)
        go_ret2
        exact ⟨rfl, KZ.out⟩
    | true =>
     by_cases h0 : fv = 0
     · subst h0
       have HM := hid (member_any (v := 0) (port := port) wz HV2.out (by omega) hp)
       have e1 : askV x = 0 := by rw [HASK.out]; rfl
       obtain ⟨b, hb⟩ : ∃ b, memB S port 0 = b := ⟨_, rfl⟩
       have HE := own8 0 b e1 hb
       rw [hb] at HM
       clear own8 hb
       cases b
       · have h := HE.out
         injection h with h1' h2'
         subst h1' h2'
         go_wp2_with (go_at_call 59; refine HM.out.mono ?_; rintro ee wv ⟨rfl, rfl⟩)
         go_ret2
         exact ⟨rfl, KZ.out⟩
       · have h := HE.out
         injection h with h1' h2'
         subst h1' h2'
         go_wp2_with (go_at_call 59; refine HM.out.mono ?_; rintro ee wv ⟨rfl, rfl⟩)
         go_ret2
         exact ⟨rfl, KZ.out⟩
     · have hne : (fv == 0) = false := by simp [h0]
       have HM := hid (member_any (v := fv) (port := port) wz HV2.out (by omega) hp)
       have e1 : askV x = fv := by rw [HASK.out]; simp [h0]
       obtain ⟨b, hb⟩ : ∃ b, memB S port fv = b := ⟨_, rfl⟩
       have HE := own8 fv b e1 hb
       rw [hb] at HM
       clear own8 hb
       cases b
       · have h := HE.out
         injection h with h1' h2'
         subst h1' h2'
         go_wp2_with (go_at_call 59; refine HM.out.mono ?_; rintro ee wv ⟨rfl, rfl⟩)
         go_ret2
         exact ⟨rfl, KZ.out⟩
       · have h := HE.out
         injection h with h1' h2'
         subst h1' h2'
         go_wp2_with (go_at_call 59; refine HM.out.mono ?_; rintro ee wv ⟨rfl, rfl⟩)
         go_ret2
         exact ⟨rfl, KZ.out⟩
end Go.Proofs.Ytcplmdgnldmhbaa
