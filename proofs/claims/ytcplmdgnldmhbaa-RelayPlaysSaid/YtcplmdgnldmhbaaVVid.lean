/-
  Layer 21: the VLAN of a frame that comes to a relay. Conditions: the relay lies so; the numbers are in range.
-/
import Derived.Test.YtcplmdgnldmhbaaVOut
namespace Go.Proofs.Ytcplmdgnldmhbaa
open Go.RowKit
set_option linter.unusedVariables false
set_option linter.unusedSimpArgs false
set_option maxRecDepth 8000

def vidP (n : Int) (S : List (Pl × Int)) (port : Int) (x : Frm) : Int × Bool := if resvB x.dst then (0, false) else vinP n S port x
set_option maxHeartbeats 8000000 in
theorem vid_any {B r vt vm t mb m c : Nat} {p : Option Addr} {n : Int} {V : List (Pl × Int)} {τ : Tb} (w : World) (h : RIs w B r vt vm t mb p m c n V τ) (h1 : 1 ≤ n) (h8 : n ≤ 8) {port : Int} (hp : 0 ≤ port ∧ port < 256) (x : Frm) (hfv : 0 ≤ x.fvid ∧ x.fvid < 65536) :
    Calls Try.prog 19 #[.pointer (some ⟨r, 0, Option.none⟩), .int .u8 port, x.val] w fun e w' => e = .returned (.tuple #[.int .u16 (vidP n V port x).1, .bool (vidP n V port x).2]) ∧ Keeps Nil w w' := by
  have HI := fun (W : World) (k : Keeps Nil w W) => hid (vin_any W (h.keepN k).2.1 h1 h8 hp x hfv)
  have HVL := fun (W : World) (k : Keeps Nil w W) => hid (vlans_any W (h.keepN k))
  have kz : Keeps Nil w (w.alloc (.cells #[Value.int IntKind.u8 x.dst.a, Value.int IntKind.u8 x.dst.b, Value.int IntKind.u8 x.dst.c, Value.int IntKind.u8 x.dst.d, Value.int IntKind.u8 x.dst.e, Value.int IntKind.u8 x.dst.f, Value.int IntKind.u8 x.src.a, Value.int IntKind.u8 x.src.b, Value.int IntKind.u8 x.src.c, Value.int IntKind.u8 x.src.d, Value.int IntKind.u8 x.src.e, Value.int IntKind.u8 x.src.f, Value.bool x.tag, Value.int IntKind.u8 x.pri, Value.int IntKind.u16 x.fvid, Value.int IntKind.u16 x.ty, Value.string x.data] 33 (0, 0))) := (Keeps.refl _ _).alloc _
  have hb := alloc_block w (.cells #[Value.int IntKind.u8 x.dst.a, Value.int IntKind.u8 x.dst.b, Value.int IntKind.u8 x.dst.c, Value.int IntKind.u8 x.dst.d, Value.int IntKind.u8 x.dst.e, Value.int IntKind.u8 x.dst.f, Value.int IntKind.u8 x.src.a, Value.int IntKind.u8 x.src.b, Value.int IntKind.u8 x.src.c, Value.int IntKind.u8 x.src.d, Value.int IntKind.u8 x.src.e, Value.int IntKind.u8 x.src.f, Value.bool x.tag, Value.int IntKind.u8 x.pri, Value.int IntKind.u16 x.fvid, Value.int IntKind.u16 x.ty, Value.string x.data] 33 (0, 0))
  obtain ⟨rv, rb, hr⟩ : ∃ rv rb, vidP n V port x = (rv, rb) := ⟨_, _, rfl⟩
  rw [hr]
  have HR := hid hr
  clear hr h
  go_enter Try.func19, Try.ntmps19
  go_upto_region 1 with (fail)
  generalize (w.alloc (.cells #[Value.int IntKind.u8 x.dst.a, Value.int IntKind.u8 x.dst.b, Value.int IntKind.u8 x.dst.c, Value.int IntKind.u8 x.dst.d, Value.int IntKind.u8 x.dst.e, Value.int IntKind.u8 x.dst.f, Value.int IntKind.u8 x.src.a, Value.int IntKind.u8 x.src.b, Value.int IntKind.u8 x.src.c, Value.int IntKind.u8 x.src.d, Value.int IntKind.u8 x.src.e, Value.int IntKind.u8 x.src.f, Value.bool x.tag, Value.int IntKind.u8 x.pri, Value.int IntKind.u16 x.fvid, Value.int IntKind.u16 x.ty, Value.string x.data] 33 (0, 0))) = wz at *
  generalize w.heap.size = bF at *
  obtain ⟨f0, f1, f2, f3, f4, f5⟩ := six_frame hb
  have FB := hid hb
  have K1 := hid kz
  clear hb kz
  go_wp2_with fail
  refine (resv_any x.dst wz).mono ?_; rintro ee w2 ⟨rfl, k2⟩
  have F2 := hid (k2.lies FB.out)
  have K2 := hid (K1.out.trans k2)
  clear k2 f0 f1 f2 f3 f4 f5
  cases hres : resvB x.dst with
  | true =>
    have e := HR.out
    rw [vidP, hres, if_pos rfl] at e
    injection e with e1 e2
    subst e1 e2
    clear hres
    go_wp2_with fail
    go_ret2
    exact ⟨rfl, K2.out⟩
  | false =>
    have e := HR.out
    rw [vidP, hres, if_neg (by decide)] at e
    rw [e] at HI
    clear hres e HR
    have HH : Hid (∀ X, Keeps Nil w2 X → (fun X : World => X.rangeAt bF 0 x.cells ∧ True) X) := hid (fun X kX => ⟨range_frame (kX.lies F2.out), trivial⟩)
    have kk : Keeps Nil w2 w2 := Keeps.refl _ _
    go_wp2_with fail
    refine wp_region_held_drew (S := (fun X : World => X.rangeAt bF 0 x.cells ∧ True)) (by kernel_rfl) ?_ (fun hHeld => ?_)
    · (try dsimp only); (first | exact HH.out _ kk | exact HH.out _ kk.drew | exact HH.out _ kk.drew.drew)
    refine wpAnyH_take (i := 0) (v := ?_) rfl (by kernel_rfl) (by kernel_rfl) (by kernel_rfl) (fun _ _ _ h => h) (Or.inl ⟨by rfl, ?_⟩) (by assumption) ?_
    rotate_left
    · (intro W hSw; (try dsimp only at hSw); go_simp <;> with_reducible rfl)
    try simp only [Act.put, List.setIfInBounds_toArray, List.set_cons_zero, List.set_cons_succ, List.getElem_toArray, List.getElem_cons_zero, List.getElem_cons_succ]
    refine wpAnyH_take (i := 2) (v := ?_) rfl (by kernel_rfl) (by kernel_rfl) (by kernel_rfl) (fun _ _ _ h => h) (Or.inl ⟨by rfl, ?_⟩) (by assumption) ?_
    rotate_left
    · (intro W hSw; (try dsimp only at hSw); go_simp <;> with_reducible rfl)
    try simp only [Act.put, List.setIfInBounds_toArray, List.set_cons_zero, List.set_cons_succ, List.getElem_toArray, List.getElem_cons_zero, List.getElem_cons_succ]
    refine' wpAnyH_take (i := 3) (v := _) rfl (by kernel_rfl) (by kernel_rfl) (by kernel_rfl) (fun _ _ _ h => h) (yieldsIf_load_mid (by rfl) 33 _ rfl bF 0 rfl x.cells _ (fun W hS => hS.1) Try.underlying33 rfl (by kernel_rfl)) (by assumption) ?_
    try simp only [Act.put, List.setIfInBounds_toArray, List.set_cons_zero, List.set_cons_succ, List.getElem_toArray, List.getElem_cons_zero, List.getElem_cons_succ]
    refine wpAnyH_ready (rs := [1]) (by kernel_rfl) (by simp) ?_
    refine AllReadyH.cons rfl (fun K hK => ?_) AllReadyH.nil
    try simp only [Act.put, List.setIfInBounds_toArray, List.set_cons_zero, List.set_cons_succ, List.getElem_toArray, List.getElem_cons_zero, List.getElem_cons_succ]
    go_simp
    (go_at_call 9; refine (HVL _ (K2.out.trans kk.drew)).out.mono ?_; rintro ee wv ⟨rfl, rfl⟩)
    (try go_wp2_with fail)
    refine hK.out _ _ ?_ (fun hHeld => ?_)
    · (try dsimp only); (first | exact HH.out _ kk | exact HH.out _ kk.drew | exact HH.out _ kk.drew.drew)
    clear hK K
    try simp only [Act.put, List.setIfInBounds_toArray, List.set_cons_zero, List.set_cons_succ, List.getElem_toArray, List.getElem_cons_zero, List.getElem_cons_succ]
    refine wpAnyH_ready (rs := [4]) (by kernel_rfl) (by simp) ?_
    refine AllReadyH.cons rfl (fun K hK => ?_) AllReadyH.nil
    try simp only [Act.put, List.setIfInBounds_toArray, List.set_cons_zero, List.set_cons_succ, List.getElem_toArray, List.getElem_cons_zero, List.getElem_cons_succ]
    go_simp
    (go_at_call 42; refine (HI _ (K2.out.trans kk.drew)).out.mono ?_; rintro ee wv ⟨rfl, kv⟩; have kk : Keeps Nil w2 wv := by first | exact kk.trans kv | exact kk.drew.trans kv)
    (try go_wp2_with fail)
    refine hK.out _ _ ?_ (fun hHeld => ?_)
    · (try dsimp only); (first | exact HH.out _ kk | exact HH.out _ kk.drew | exact HH.out _ kk.drew.drew)
    clear hK K
    try simp only [Act.put, List.setIfInBounds_toArray, List.set_cons_zero, List.set_cons_succ, List.getElem_toArray, List.getElem_cons_zero, List.getElem_cons_succ]
    refine wpAnyH_take (i := 5) (v := ?_) rfl (by kernel_rfl) (by kernel_rfl) (by kernel_rfl) (fun _ _ _ h => h) (Or.inl ⟨by rfl, ?_⟩) (by assumption) ?_
    rotate_left
    · (intro W hSw; (try dsimp only at hSw); go_simp <;> with_reducible rfl)
    try simp only [Act.put, List.setIfInBounds_toArray, List.set_cons_zero, List.set_cons_succ, List.getElem_toArray, List.getElem_cons_zero, List.getElem_cons_succ]
    refine wpAnyH_take (i := 6) (v := ?_) rfl (by kernel_rfl) (by kernel_rfl) (by kernel_rfl) (fun _ _ _ h => h) (Or.inl ⟨by rfl, ?_⟩) (by assumption) ?_
    rotate_left
    · (intro W hSw; (try dsimp only at hSw); go_simp <;> with_reducible rfl)
    try simp only [Act.put, List.setIfInBounds_toArray, List.set_cons_zero, List.set_cons_succ, List.getElem_toArray, List.getElem_cons_zero, List.getElem_cons_succ]
    refine wpAnyH_take (i := 7) (v := ?_) rfl (by kernel_rfl) (by kernel_rfl) (by kernel_rfl) (fun _ _ _ h => h) (Or.inl ⟨by rfl, ?_⟩) (by assumption) ?_
    rotate_left
    · (intro W hSw; (try dsimp only at hSw); go_simp <;> with_reducible rfl)
    try simp only [Act.put, List.setIfInBounds_toArray, List.set_cons_zero, List.set_cons_succ, List.getElem_toArray, List.getElem_cons_zero, List.getElem_cons_succ]
    refine wpAnyH_take (i := 8) (v := ?_) rfl (by kernel_rfl) (by kernel_rfl) (by kernel_rfl) (fun _ _ _ h => h) (Or.inl ⟨by rfl, ?_⟩) (by assumption) ?_
    rotate_left
    · (intro W hSw; (try dsimp only at hSw); go_simp <;> with_reducible rfl)
    try simp only [Act.put, List.setIfInBounds_toArray, List.set_cons_zero, List.set_cons_succ, List.getElem_toArray, List.getElem_cons_zero, List.getElem_cons_succ]
    refine wpAnyH_done (by kernel_rfl) ?_ _

    go_wp2_with fail
    go_ret2
    exact ⟨rfl, K2.out.trans kk⟩
end Go.Proofs.Ytcplmdgnldmhbaa
