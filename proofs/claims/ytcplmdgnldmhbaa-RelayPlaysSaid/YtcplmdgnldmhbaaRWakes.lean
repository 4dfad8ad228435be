/-
  Layer 21: a relay that is known; great acts. Conditions: as each lemma says.
-/
import Derived.Test.YtcplmdgnldmhbaaRelay
namespace Go.Proofs.Ytcplmdgnldmhbaa
open Go.RowKit
set_option linter.unusedVariables false
set_option linter.unusedSimpArgs false
set_option maxRecDepth 8000

theorem RIs.vset {w : World} {B r vt vm t mb m c : Nat} {p : Option Addr} {n : Int} {V : List (Pl × Int)} {τ : Tb} {w' : World} {V' : List (Pl × Int)} (h : RIs w B r vt vm t mb p m c n V τ) (k : Keeps (At vm) w w') (v : VIs w' vt vm n V') : RIs w' B r vt vm t mb p m c n V' τ := by
  have hb := h.2.1.2.raw
  obtain ⟨es, cl, hb⟩ := hb
  have hr : ¬ At vm r := fun e => by
    have := h.1
    rw [At] at e
    rw [e, hb] at this
    cases this
  have ht : ¬ At vm t := fun e => by
    have := h.2.2.1.1
    rw [At] at e
    rw [e, hb] at this
    cases this
  refine ⟨k.lies h.1 hr, v, h.2.2.1.keep k ht (fun e => h.2.2.2.1 (by rw [At] at e; exact e.symm)) (fun g hg _ e => ?_), h.2.2.2⟩
  rw [At] at e
  subst e
  exact h.2.2.1.2.1.ne_map hb hg

abbrev qa : Pl := ⟨1, 2, 1, 0, 0, 0, 0⟩
abbrev qb : Pl := ⟨1, 2, 2, 0, 0, 0, 0⟩
abbrev qc : Pl := ⟨1, 2, 3, 0, 0, 0, 0⟩
abbrev V0 : List (Pl × Int) := [(vp 1, 1792)]
theorem set0 : vsetP 3 [] 1 7 0 = (V0, 0) := by
  unfold vsetP
  rw [if_neg (by decide), if_neg (by decide)]
  rfl
theorem learn_eq {τ : Tb} {q : Pl} {port : Int} (h : mayLearn q port) (hs : sget τ.S q = none) (hl : (τ.L.filter (fun x => !(decide (q = x.p)))).length < 32) : τ.learn q port = ⟨τ.L.filter (fun x => !(decide (q = x.p))) ++ [⟨q, port, 0⟩], τ.S⟩ := by
  unfold Tb.learn
  rw [if_pos ⟨h, hs⟩, if_pos hl]
theorem goes1 : goesP V0 ⟨[], []⟩ 0 qb qa 7 = (6, ⟨[⟨qa, 0, 0⟩], []⟩) := by
  have hl : (⟨[], []⟩ : Tb).learn qa 0 = ⟨[⟨qa, 0, 0⟩], []⟩ := learn_eq ⟨by decide, by decide, by decide, by decide⟩ rfl (by decide)
  have hk : (⟨[⟨qa, 0, 0⟩], []⟩ : Tb).look qb = (0, false) := by decide
  unfold goesP
  rw [if_neg (by decide), if_pos (by decide), if_neg (by decide), hl, hk]
  exact Prod.ext (by decide) rfl
theorem goes2 : goesP V0 ⟨[⟨qa, 0, 0⟩], []⟩ 1 qa qb 7 = (1, ⟨[⟨qa, 0, 0⟩, ⟨qb, 1, 0⟩], []⟩) := by
  have hl : (⟨[⟨qa, 0, 0⟩], []⟩ : Tb).learn qb 1 = ⟨[⟨qa, 0, 0⟩, ⟨qb, 1, 0⟩], []⟩ := learn_eq ⟨by decide, by decide, by decide, by decide⟩ rfl (by decide)
  have hk : (⟨[⟨qa, 0, 0⟩, ⟨qb, 1, 0⟩], []⟩ : Tb).look qa = (1, true) := by decide
  unfold goesP
  rw [if_neg (by decide), if_pos (by decide), if_neg (by decide), hl, hk]
  exact Prod.ext (by decide) rfl
theorem goes3 : goesP V0 ⟨[⟨qa, 0, 0⟩, ⟨qb, 1, 0⟩], []⟩ 0 qa qc 7 = (0, ⟨[⟨qa, 0, 0⟩, ⟨qb, 1, 0⟩, ⟨qc, 0, 0⟩], []⟩) := by
  have hl : (⟨[⟨qa, 0, 0⟩, ⟨qb, 1, 0⟩], []⟩ : Tb).learn qc 0 = ⟨[⟨qa, 0, 0⟩, ⟨qb, 1, 0⟩, ⟨qc, 0, 0⟩], []⟩ := learn_eq ⟨by decide, by decide, by decide, by decide⟩ rfl (by decide)
  have hk : (⟨[⟨qa, 0, 0⟩, ⟨qb, 1, 0⟩, ⟨qc, 0, 0⟩], []⟩ : Tb).look qa = (1, true) := by decide
  unfold goesP
  rw [if_neg (by decide), if_pos (by decide), if_neg (by decide), hl, hk]
  exact Prod.ext (by decide) rfl

theorem good1 : (⟨[⟨qa, 0, 0⟩], []⟩ : Tb).Good 0 := ⟨by decide, by decide, by simp [Once], by simp [InR]⟩
theorem good2 : (⟨[⟨qa, 0, 0⟩, ⟨qb, 1, 0⟩], []⟩ : Tb).Good 0 := ⟨by decide, by decide, by simp [Once], by simp [InR]⟩
set_option maxHeartbeats 16000000 in
theorem wakes_any (w : World) : Calls Try.prog 7 #[] w fun e w' => e = .returned (.bool true) ∧ Keeps Nil w w' := by
  go_enter Try.func7, Try.ntmps7
  go_wp2_with fail
  refine (rnew_any 3 (by decide) (by decide) w).mono ?_; rintro e w1 ⟨r, vt, vm, t, mb, rfl, i1, k1⟩
  have R1 := hid i1
  have K1 := hid k1
  clear i1 k1
  go_wp2_with (go_at_call 9; refine (vlans_any _ R1.out).mono ?_; rintro ee wq ⟨rfl, rfl⟩)
  refine (vset_any w1 R1.out.2.1 (by simp) (v := 1) (a := 7) (b := 0) (by decide) (by decide) (by decide) (by decide) (by decide)).mono ?_
  rintro ee w2 ⟨rfl, v2, k2⟩
  rw [set0] at v2 ⊢
  have R2 := hid (R1.out.vset k2 v2)
  have K2 := hid (K1.out.thenAt k2 R1.out.2.2.2.2.1)
  clear v2 k2
  go_upto_region 5 with (fail)
  have ka : Keeps Nil w2 (w2.alloc (.cells #[Value.int IntKind.u8 2, Value.int IntKind.u8 1, Value.int IntKind.u8 0, Value.int IntKind.u8 0, Value.int IntKind.u8 0, Value.int IntKind.u8 0] 31 (0, 0))) := (Keeps.refl _ _).alloc _
  have ha := alloc_block w2 (.cells #[Value.int IntKind.u8 2, Value.int IntKind.u8 1, Value.int IntKind.u8 0, Value.int IntKind.u8 0, Value.int IntKind.u8 0, Value.int IntKind.u8 0] 31 (0, 0))
  have sa : (w2.alloc (.cells #[Value.int IntKind.u8 2, Value.int IntKind.u8 1, Value.int IntKind.u8 0, Value.int IntKind.u8 0, Value.int IntKind.u8 0, Value.int IntKind.u8 0] 31 (0, 0))).heap.size = w2.heap.size + 1 := World.size_alloc _ _
  generalize (w2.alloc (.cells #[Value.int IntKind.u8 2, Value.int IntKind.u8 1, Value.int IntKind.u8 0, Value.int IntKind.u8 0, Value.int IntKind.u8 0, Value.int IntKind.u8 0] 31 (0, 0))) = wa at *
  generalize w2.heap.size = ba at *
  have kb : Keeps Nil wa (wa.alloc (.cells #[Value.int IntKind.u8 2, Value.int IntKind.u8 2, Value.int IntKind.u8 0, Value.int IntKind.u8 0, Value.int IntKind.u8 0, Value.int IntKind.u8 0] 31 (0, 0))) := (Keeps.refl _ _).alloc _
  have hb := alloc_block wa (.cells #[Value.int IntKind.u8 2, Value.int IntKind.u8 2, Value.int IntKind.u8 0, Value.int IntKind.u8 0, Value.int IntKind.u8 0, Value.int IntKind.u8 0] 31 (0, 0))
  have sb : (wa.alloc (.cells #[Value.int IntKind.u8 2, Value.int IntKind.u8 2, Value.int IntKind.u8 0, Value.int IntKind.u8 0, Value.int IntKind.u8 0, Value.int IntKind.u8 0] 31 (0, 0))).heap.size = wa.heap.size + 1 := World.size_alloc _ _
  rw [sa] at hb sb
  generalize (wa.alloc (.cells #[Value.int IntKind.u8 2, Value.int IntKind.u8 2, Value.int IntKind.u8 0, Value.int IntKind.u8 0, Value.int IntKind.u8 0, Value.int IntKind.u8 0] 31 (0, 0))) = wb at *
  have kc : Keeps Nil wb (wb.alloc (.cells #[Value.int IntKind.u8 2, Value.int IntKind.u8 3, Value.int IntKind.u8 0, Value.int IntKind.u8 0, Value.int IntKind.u8 0, Value.int IntKind.u8 0] 31 (0, 0))) := (Keeps.refl _ _).alloc _
  have hc := alloc_block wb (.cells #[Value.int IntKind.u8 2, Value.int IntKind.u8 3, Value.int IntKind.u8 0, Value.int IntKind.u8 0, Value.int IntKind.u8 0, Value.int IntKind.u8 0] 31 (0, 0))
  rw [sb] at hc
  generalize (wb.alloc (.cells #[Value.int IntKind.u8 2, Value.int IntKind.u8 3, Value.int IntKind.u8 0, Value.int IntKind.u8 0, Value.int IntKind.u8 0, Value.int IntKind.u8 0] 31 (0, 0))) = w3 at *
  have A3 := hid (kc.lies (kb.lies ha))
  have B3 := hid (kc.lies hb)
  have C3 := hid hc
  have K3 := hid (((K2.out.trans ka).trans kb).trans kc)
  have R3 := hid (((R2.out.keepN ka).keepN kb).keepN kc)
  clear ka kb kc ha hb hc sa sb R2 K2
  obtain ⟨a0, a1, a2, a3, a4, a5⟩ := six_of A3.out
  obtain ⟨b0, b1, b2, b3, b4, b5⟩ := six_of B3.out
  obtain ⟨c0, c1, c2, c3, c4, c5⟩ := six_of C3.out
  go_wp2_with fail
  refine (goes_any w3 R3.out (Tb.Good.start) K3.out.size 0 qb qa (by simp [Pl.Ok]) (by simp [Pl.Ok]) rfl 7 (by decide) (.bool false) (.int .u8 0) (.int .u16 0) (.int .u16 0) (.string ⟨#[]⟩)).mono ?_
  rintro ee w4 ⟨rfl, ⟨pp4, mm4, cc4, i4⟩, k4⟩
  rw [goes1] at i4 ⊢
  have A4 := hid (k4.lies A3.out (R3.out.2.2.1.not_own A3.out (by decide) (by decide)))
  have B4 := hid (k4.lies B3.out (R3.out.2.2.1.not_own B3.out (by decide) (by decide)))
  have C4 := hid (k4.lies C3.out (R3.out.2.2.1.not_own C3.out (by decide) (by decide)))
  have K4 := hid (K3.out.thenOwn k4 (R3.out.2.2.1.own_ge R3.out.2.2.2.2.2.1 R3.out.2.2.2.2.2.2))
  have R4 := hid i4
  clear i4 k4 a0 a1 a2 a3 a4 a5 b0 b1 b2 b3 b4 b5 c0 c1 c2 c3 c4 c5
  obtain ⟨a0, a1, a2, a3, a4, a5⟩ := six_of A4.out
  obtain ⟨b0, b1, b2, b3, b4, b5⟩ := six_of B4.out
  obtain ⟨c0, c1, c2, c3, c4, c5⟩ := six_of C4.out
  go_wp2_with fail
  refine (goes_any w4 R4.out good1 K4.out.size 1 qa qb (by simp [Pl.Ok]) (by simp [Pl.Ok]) rfl 7 (by decide) (.bool false) (.int .u8 0) (.int .u16 0) (.int .u16 0) (.string ⟨#[]⟩)).mono ?_
  rintro ee w5 ⟨rfl, ⟨pp5, mm5, cc5, i5⟩, k5⟩
  rw [goes2] at i5 ⊢
  have A5 := hid (k5.lies A4.out (R4.out.2.2.1.not_own A4.out (by decide) (by decide)))
  have B5 := hid (k5.lies B4.out (R4.out.2.2.1.not_own B4.out (by decide) (by decide)))
  have C5 := hid (k5.lies C4.out (R4.out.2.2.1.not_own C4.out (by decide) (by decide)))
  have K5 := hid (K4.out.thenOwn k5 (R4.out.2.2.1.own_ge R4.out.2.2.2.2.2.1 R4.out.2.2.2.2.2.2))
  have R5 := hid i5
  clear i5 k5 a0 a1 a2 a3 a4 a5 b0 b1 b2 b3 b4 b5 c0 c1 c2 c3 c4 c5
  obtain ⟨a0, a1, a2, a3, a4, a5⟩ := six_of A5.out
  obtain ⟨b0, b1, b2, b3, b4, b5⟩ := six_of B5.out
  obtain ⟨c0, c1, c2, c3, c4, c5⟩ := six_of C5.out
  go_wp2_with fail
  refine (goes_any w5 R5.out good2 K5.out.size 0 qa qc (by simp [Pl.Ok]) (by simp [Pl.Ok]) rfl 7 (by decide) (.bool false) (.int .u8 0) (.int .u16 0) (.int .u16 0) (.string ⟨#[]⟩)).mono ?_
  rintro ee w6 ⟨rfl, ⟨pp6, mm6, cc6, i6⟩, k6⟩
  rw [goes3] at i6 ⊢
  have A6 := hid (k6.lies A5.out (R5.out.2.2.1.not_own A5.out (by decide) (by decide)))
  have B6 := hid (k6.lies B5.out (R5.out.2.2.1.not_own B5.out (by decide) (by decide)))
  have C6 := hid (k6.lies C5.out (R5.out.2.2.1.not_own C5.out (by decide) (by decide)))
  have K6 := hid (K5.out.thenOwn k6 (R5.out.2.2.1.own_ge R5.out.2.2.2.2.2.1 R5.out.2.2.2.2.2.2))
  have R6 := hid i6
  clear i6 k6 a0 a1 a2 a3 a4 a5 b0 b1 b2 b3 b4 b5 c0 c1 c2 c3 c4 c5
  obtain ⟨a0, a1, a2, a3, a4, a5⟩ := six_of A6.out
  obtain ⟨b0, b1, b2, b3, b4, b5⟩ := six_of B6.out
  obtain ⟨c0, c1, c2, c3, c4, c5⟩ := six_of C6.out
  go_wp2_with fail
  go_ret
  exact ⟨rfl, K6.out⟩
end Go.Proofs.Ytcplmdgnldmhbaa
