/-
  Layer 16: has the table what the document says? Conditions: both lie so; the numbers are in range.
-/
import Derived.Test.YtbgijlfdgfhceaaRLev
import Derived.Test.YtbgijlfdgfhceaaRMid
import Derived.Test.YtbgijlfdgfhceaaWander
import Derived.Test.YtbgijlfdgfhceaaEq16
import Derived.Test.YtbgijlfdgfhceaaDoes
import Derived.Deep.RegionHeld3
import Derived.BigGuard
namespace Go.Proofs.Ytbgijlfdgfhceaa
open Go.RowKit
set_option linter.unusedVariables false
set_option linter.unusedSimpArgs false
set_option maxRecDepth 8000

theorem RTAt.ascs {w0 w : World} {k : Nat} {τ : CT} {pA pE pM : Option Addr} {cA cE cM : Nat} {L : List As} {R : List Mi} (h : RTAt w0 w k τ pA cA pE cE pM cM L R) (i : Int) :
    (τ.asc i = Option.none ∧ (i < 0 ∨ (L.length : Int) ≤ i)) ∨ ∃ (q : Nat) (x : As) (p : Option Addr) (c : Nat), i = q ∧ q < L.length ∧ L[q]? = some ⟨x.lv, x.dom, x.own, x.vid, x.iv, x.ms, p, c⟩ ∧ τ.asc i = some x := by
  rcases asc_cases τ i with ⟨h1, h2⟩ | ⟨q, x, h1, h2, h3⟩
  · exact .inl ⟨h1, by rw [h.lenA]; exact h2⟩
  · rw [h.getA] at h2
    cases hy : L[q]? with
    | none => rw [hy] at h2; cases h2
    | some z =>
      rw [hy] at h2
      injection h2 with h2
      refine .inr ⟨q, x, z.p, z.c, h1, (List.getElem?_eq_some_iff.1 hy).1, ?_, h3⟩
      rw [← h2]
      exact hy
set_option maxHeartbeats 16000000 in
theorem r_same (port vid i : Int) (hpv : ALv port vid) (k : Nat) {w0 w : World} {S : Nat → Prop} {t : Nat} {τ : CT} {v : Value} (hT : Tbl w S t τ) (h : RV w0 w k τ v) (hg : τ.Good) (hk : k ≤ 100) :
    Calls Try.prog 11 #[.pointer (some ⟨t, 0, Option.none⟩), v, .int .u8 port, .int .u16 vid, .int .i64 i] w fun e w' => e = .returned (.bool true) ∧ Keeps Nil w w' := by
  have hRV := h
  obtain ⟨pA, cA, pE, cE, pM, cM, L, R, rfl, h⟩ := h
  have hA := alloc_block w (.cells #[.int .i64 τ.n, .slice pA L.length cA, .slice pE τ.E.length cE, .slice pM R.length cM] 34 (0, 0))
  have kz : Keeps Nil w (w.alloc (.cells #[.int .i64 τ.n, .slice pA L.length cA, .slice pE τ.E.length cE, .slice pM R.length cM] 34 (0, 0))) := (Keeps.refl _ _).alloc _
  have KZ := hid kz
  have H0 := hid h
  have HRV := hid hRV
  have HG := hid hg
  have HT := hid hT
  have HA := hid hA
  have hlE := hg.E
  have hlA : L.length ≤ 8 := by have := h.lenA; have := hg.A; omega
  have hncE := h.rowE.2.1
  have hncA := h.rowA.2.1
  have HASC := hid (h.ascs i)
  clear kz h hRV hg hT hA
  go_enter Try.func11, Try.ntmps11
  go_upto_region 1 with (fail)
  generalize (w.alloc (.cells #[.int .i64 τ.n, .slice pA L.length cA, .slice pE τ.E.length cE, .slice pM R.length cM] 34 (0, 0))) = W at *
  generalize w.heap.size = b0 at *
  go_wp2_with fail
  refine (p_meps (HT.out.keepN KZ.out) HG.out).mono ?_; rintro e w1 ⟨⟨p1, c1, rfl, own1⟩, k1⟩
  have HA1 := hid (k1.lies HA.out)
  have K1 := hid (KZ.out.trans k1)
  have HW1 := hid (WV.of_own own1)
  have hnc1 := (WV.of_own own1).2.1
  obtain ⟨a0, a1, a2, a3⟩ := four_block HA1.out
  have lA := lt_of_block HA1.out
  clear own1 k1
  go_upto_region 4 with (fail)
  clear a0 a1 a2 a3 lA
  go_wp2_with fail
  go_loopw [12] (fun s12 wr => ∃ j : Nat, j ≤ τ.E.length ∧ s12 = .int .i64 j ∧ Hid (Keeps Nil w1 wr)) (fun s12 _ => τ.E.length - (intOf s12).toNat)
  case atStart => exact ⟨0, Nat.zero_le _, rfl, hid (Keeps.refl _ _)⟩
  case round =>
    obtain ⟨j, hj, rfl, HR⟩ := hrel
    obtain ⟨a0, a1, a2, a3⟩ := four_block (HR.out.lies HA1.out)
    have lA := lt_of_block (HR.out.lies HA1.out)
    by_cases hlt : j < τ.E.length
    · obtain ⟨x, hx⟩ : ∃ x, τ.E[j]? = some x := ⟨_, List.getElem?_eq_getElem hlt⟩
      obtain ⟨g, off, hp, _, hgl, _, c0, c1', c2, c3⟩ := (H0.out.rowE.keepN (K1.out.trans HR.out)).atE hx
      obtain ⟨g1, off1, hp1, _, hgl1, _, d0, d1, d2, d3⟩ := (HW1.out.keepN HR.out).atE hx
      subst hp1
      rw [hp] at a2
      have HX := hid hx
      have HP := hid hp
      have hE : ∀ X, (binOp .neq 59 (.agg #[.int .i64 x.ai, .int .u16 x.id, .int .u8 x.port, .bool x.up]) (.agg #[.int .i64 x.ai, .int .u16 x.id, .int .u8 x.port, .bool x.up])).run Try.prog X = .ok (.bool false) X := fun X => neq59 _ _ _ _ _ _ _ _ true (by simp) X
      have hS : ∀ X, Keeps Nil wr X → X.cell? ⟨b0, 2, Option.none⟩ = some (.slice (some ⟨g, off, Option.none⟩) τ.E.length cE) ∧ (X.cell? ⟨g, off + j * 4, Option.none⟩ = some (.int .i64 x.ai) ∧ X.cell? ⟨g, off + j * 4 + 1, Option.none⟩ = some (.int .u16 x.id) ∧ X.cell? ⟨g, off + j * 4 + 2, Option.none⟩ = some (.int .u8 x.port) ∧ X.cell? ⟨g, off + j * 4 + 3, Option.none⟩ = some (.bool x.up)) ∧ (X.cell? ⟨g1, off1 + j * 4, Option.none⟩ = some (.int .i64 x.ai) ∧ X.cell? ⟨g1, off1 + j * 4 + 1, Option.none⟩ = some (.int .u16 x.id) ∧ X.cell? ⟨g1, off1 + j * 4 + 2, Option.none⟩ = some (.int .u8 x.port) ∧ X.cell? ⟨g1, off1 + j * 4 + 3, Option.none⟩ = some (.bool x.up)) := fun X kx =>
        ⟨(kx.cell lA (fun e => e)).trans a2, ⟨(kx.cell hgl (fun e => e)).trans c0, (kx.cell hgl (fun e => e)).trans c1', (kx.cell hgl (fun e => e)).trans c2, (kx.cell hgl (fun e => e)).trans c3⟩, ⟨(kx.cell hgl1 (fun e => e)).trans d0, (kx.cell hgl1 (fun e => e)).trans d1, (kx.cell hgl1 (fun e => e)).trans d2, (kx.cell hgl1 (fun e => e)).trans d3⟩⟩
      have HS := hid hS
      clear hx hp hS
      go_wp2_with fail
      go_cut [42] (fun s42 wx => s42 = .bool false ∧ Hid (Keeps Nil wr wx))
      case first =>
        go_region_held3 (fun X => X.cell? ⟨b0, 2, Option.none⟩ = some (.slice (some ⟨g, off, Option.none⟩) τ.E.length cE) ∧ (X.cell? ⟨g, off + j * 4, Option.none⟩ = some (.int .i64 x.ai) ∧ X.cell? ⟨g, off + j * 4 + 1, Option.none⟩ = some (.int .u16 x.id) ∧ X.cell? ⟨g, off + j * 4 + 2, Option.none⟩ = some (.int .u8 x.port) ∧ X.cell? ⟨g, off + j * 4 + 3, Option.none⟩ = some (.bool x.up)) ∧ (X.cell? ⟨g1, off1 + j * 4, Option.none⟩ = some (.int .i64 x.ai) ∧ X.cell? ⟨g1, off1 + j * 4 + 1, Option.none⟩ = some (.int .u16 x.id) ∧ X.cell? ⟨g1, off1 + j * 4 + 2, Option.none⟩ = some (.int .u8 x.port) ∧ X.cell? ⟨g1, off1 + j * 4 + 3, Option.none⟩ = some (.bool x.up))) (first | exact HS.out _ (Keeps.refl _ _).drew | exact HS.out _ ((Keeps.refl _ _).drew.trans kv)) ((go_at_call 15; refine (mep_any x.ai x.id x.port x.up _).mono ?_; rintro ee wv ⟨rfl, kv⟩))
        all_goals (go_wp2_with fail; go_meet)
        exact ⟨rfl, hid ((Keeps.refl _ _).drew.trans kv)⟩
      case rest =>
        obtain ⟨rfl, HC⟩ := hcut
        go_wp2_with fail
        go_roundw
        case rel => exact ⟨j + 1, by omega, by go_num, hid (HR.out.trans HC.out)⟩
        case measure => simp only [intOf]; omega
    · obtain rfl : j = τ.E.length := by omega
      have K2 := hid (K1.out.trans HR.out)
      have HA2 := hid (HR.out.lies HA1.out)
      clear a0 a1 a2 a3 HR hlt hj
      have lA0 := lA
      clear lA
      obtain ⟨a0, a1, a2, a3⟩ := four_block HA2.out
      have lA := lt_of_block HA2.out
      go_upto_region 9 with (fail)
      clear a0 a1 a2 a3 lA
      have HS := hid (show ∀ X, Keeps Nil wr X → X.cell? ⟨b0, 0, Option.none⟩ = some (.int .i64 τ.n) ∧ X.cell? ⟨b0, 1, Option.none⟩ = some (.slice pA L.length cA) ∧ X.cell? ⟨b0, 2, Option.none⟩ = some (.slice pE τ.E.length cE) ∧ X.cell? ⟨b0, 3, Option.none⟩ = some (.slice pM R.length cM) from fun X kx => four_block (kx.lies HA2.out))
      go_cut [13] (fun s13 wx => ∃ b, s13 = .pointer (some ⟨b, 0, Option.none⟩) ∧ Hid (wx.heap[b]? = some (.cells #[.int .u8 (τ.lset port vid false τ.E), .int .u8 (τ.lset port vid true τ.E), .int .i64 (τ.mid port vid)] 56 (0, 0)) ∧ Keeps Nil wr wx))
      case first =>
        have CL := hid (fun (up : Bool) (W : World) (hW : Keeps Nil wr W) => r_levels port vid up hpv k (HRV.out.keepN (K2.out.trans hW)) HG.out)
        have CM := hid (fun (W : World) (hW : Keeps Nil wr W) => r_middle port vid hpv k (HRV.out.keepN (K2.out.trans hW)) HG.out hk)
        refine wp_region_R (fun w => Keeps.refl Nil w) 16 (by kernel_rfl) ?_
        refine wpAnyR_take (i := 0) (v := ?_) (fun w => Keeps.refl Nil w) (fun a b c h k => h.trans k) rfl (by kernel_rfl) (by kernel_rfl) (by kernel_rfl) (by kernel_rfl) (fun _ _ _ h => h) (Or.inl ⟨by rfl, fun W hW => Or.inl ?_⟩) ?_
        rotate_left
        · (obtain ⟨u0, u1, u2, u3⟩ := HS.out W ((Keeps.refl _ _).drew.trans hW); go_simp <;> with_reducible rfl)
        try simp only [Act.put, List.setIfInBounds_toArray, List.set_cons_zero, List.set_cons_succ, List.getElem_toArray, List.getElem_cons_zero, List.getElem_cons_succ]
        refine wpAnyR_take (i := 1) (v := ?_) (fun w => Keeps.refl Nil w) (fun a b c h k => h.trans k) rfl (by kernel_rfl) (by kernel_rfl) (by kernel_rfl) (by kernel_rfl) (fun _ _ _ h => h) (Or.inl ⟨by rfl, fun W hW => Or.inl ?_⟩) ?_
        rotate_left
        · (obtain ⟨u0, u1, u2, u3⟩ := HS.out W ((Keeps.refl _ _).drew.trans hW); go_simp <;> with_reducible rfl)
        try simp only [Act.put, List.setIfInBounds_toArray, List.set_cons_zero, List.set_cons_succ, List.getElem_toArray, List.getElem_cons_zero, List.getElem_cons_succ]
        refine wpAnyR_take (i := 2) (v := ?_) (fun w => Keeps.refl Nil w) (fun a b c h k => h.trans k) rfl (by kernel_rfl) (by kernel_rfl) (by kernel_rfl) (by kernel_rfl) (fun _ _ _ h => h) (Or.inl ⟨by rfl, fun W hW => Or.inl ?_⟩) ?_
        rotate_left
        · (obtain ⟨u0, u1, u2, u3⟩ := HS.out W ((Keeps.refl _ _).drew.trans hW); go_simp <;> with_reducible rfl)
        try simp only [Act.put, List.setIfInBounds_toArray, List.set_cons_zero, List.set_cons_succ, List.getElem_toArray, List.getElem_cons_zero, List.getElem_cons_succ]
        refine wpAnyR_take (i := 3) (v := .agg (bcells (τ.lsetV port vid false τ.E))) (fun w => Keeps.refl Nil w) (fun a b c h k => h.trans k) rfl (by kernel_rfl) (by kernel_rfl) (by kernel_rfl) (by kernel_rfl) (fun _ _ _ h => h) (Or.inl ⟨by rfl, fun W hW => Or.inr ⟨30, #[.agg #[.int .i64 τ.n, .slice pA L.length cA, .slice pE τ.E.length cE, .slice pM R.length cM], .int .u8 port, .int .u16 vid, .bool false], ?_, CL.out false W ((Keeps.refl _ _).drew.trans hW)⟩⟩) ?_
        · (go_simp <;> with_reducible rfl)
        try simp only [Act.put, List.setIfInBounds_toArray, List.set_cons_zero, List.set_cons_succ, List.getElem_toArray, List.getElem_cons_zero, List.getElem_cons_succ]
        refine wpAnyR_take (i := 4) (v := .int .u8 ((τ.lsetV port vid false τ.E).toNat : Int)) (fun w => Keeps.refl Nil w) (fun a b c h k => h.trans k) rfl (by kernel_rfl) (by kernel_rfl) (by kernel_rfl) (by kernel_rfl) (fun _ _ _ h => h) (Or.inl ⟨by rfl, fun W hW => Or.inr ⟨29, #[.agg (bcells (τ.lsetV port vid false τ.E))], ?_, r_set (τ.lsetV port vid false τ.E) W⟩⟩) ?_
        · (go_simp <;> with_reducible rfl)
        try simp only [Act.put, List.setIfInBounds_toArray, List.set_cons_zero, List.set_cons_succ, List.getElem_toArray, List.getElem_cons_zero, List.getElem_cons_succ]
        refine wpAnyR_take (i := 5) (v := ?_) (fun w => Keeps.refl Nil w) (fun a b c h k => h.trans k) rfl (by kernel_rfl) (by kernel_rfl) (by kernel_rfl) (by kernel_rfl) (fun _ _ _ h => h) (Or.inl ⟨by rfl, fun W hW => Or.inl ?_⟩) ?_
        rotate_left
        · (obtain ⟨u0, u1, u2, u3⟩ := HS.out W ((Keeps.refl _ _).drew.trans hW); go_simp <;> with_reducible rfl)
        try simp only [Act.put, List.setIfInBounds_toArray, List.set_cons_zero, List.set_cons_succ, List.getElem_toArray, List.getElem_cons_zero, List.getElem_cons_succ]
        refine wpAnyR_take (i := 6) (v := ?_) (fun w => Keeps.refl Nil w) (fun a b c h k => h.trans k) rfl (by kernel_rfl) (by kernel_rfl) (by kernel_rfl) (by kernel_rfl) (fun _ _ _ h => h) (Or.inl ⟨by rfl, fun W hW => Or.inl ?_⟩) ?_
        rotate_left
        · (obtain ⟨u0, u1, u2, u3⟩ := HS.out W ((Keeps.refl _ _).drew.trans hW); go_simp <;> with_reducible rfl)
        try simp only [Act.put, List.setIfInBounds_toArray, List.set_cons_zero, List.set_cons_succ, List.getElem_toArray, List.getElem_cons_zero, List.getElem_cons_succ]
        refine wpAnyR_take (i := 7) (v := ?_) (fun w => Keeps.refl Nil w) (fun a b c h k => h.trans k) rfl (by kernel_rfl) (by kernel_rfl) (by kernel_rfl) (by kernel_rfl) (fun _ _ _ h => h) (Or.inl ⟨by rfl, fun W hW => Or.inl ?_⟩) ?_
        rotate_left
        · (obtain ⟨u0, u1, u2, u3⟩ := HS.out W ((Keeps.refl _ _).drew.trans hW); go_simp <;> with_reducible rfl)
        try simp only [Act.put, List.setIfInBounds_toArray, List.set_cons_zero, List.set_cons_succ, List.getElem_toArray, List.getElem_cons_zero, List.getElem_cons_succ]
        refine wpAnyR_take (i := 8) (v := .agg (bcells (τ.lsetV port vid true τ.E))) (fun w => Keeps.refl Nil w) (fun a b c h k => h.trans k) rfl (by kernel_rfl) (by kernel_rfl) (by kernel_rfl) (by kernel_rfl) (fun _ _ _ h => h) (Or.inl ⟨by rfl, fun W hW => Or.inr ⟨30, #[.agg #[.int .i64 τ.n, .slice pA L.length cA, .slice pE τ.E.length cE, .slice pM R.length cM], .int .u8 port, .int .u16 vid, .bool true], ?_, CL.out true W ((Keeps.refl _ _).drew.trans hW)⟩⟩) ?_
        · (go_simp <;> with_reducible rfl)
        try simp only [Act.put, List.setIfInBounds_toArray, List.set_cons_zero, List.set_cons_succ, List.getElem_toArray, List.getElem_cons_zero, List.getElem_cons_succ]
        refine wpAnyR_take (i := 9) (v := .int .u8 ((τ.lsetV port vid true τ.E).toNat : Int)) (fun w => Keeps.refl Nil w) (fun a b c h k => h.trans k) rfl (by kernel_rfl) (by kernel_rfl) (by kernel_rfl) (by kernel_rfl) (fun _ _ _ h => h) (Or.inl ⟨by rfl, fun W hW => Or.inr ⟨29, #[.agg (bcells (τ.lsetV port vid true τ.E))], ?_, r_set (τ.lsetV port vid true τ.E) W⟩⟩) ?_
        · (go_simp <;> with_reducible rfl)
        try simp only [Act.put, List.setIfInBounds_toArray, List.set_cons_zero, List.set_cons_succ, List.getElem_toArray, List.getElem_cons_zero, List.getElem_cons_succ]
        refine wpAnyR_take (i := 10) (v := ?_) (fun w => Keeps.refl Nil w) (fun a b c h k => h.trans k) rfl (by kernel_rfl) (by kernel_rfl) (by kernel_rfl) (by kernel_rfl) (fun _ _ _ h => h) (Or.inl ⟨by rfl, fun W hW => Or.inl ?_⟩) ?_
        rotate_left
        · (obtain ⟨u0, u1, u2, u3⟩ := HS.out W ((Keeps.refl _ _).drew.trans hW); go_simp <;> with_reducible rfl)
        try simp only [Act.put, List.setIfInBounds_toArray, List.set_cons_zero, List.set_cons_succ, List.getElem_toArray, List.getElem_cons_zero, List.getElem_cons_succ]
        refine wpAnyR_take (i := 11) (v := ?_) (fun w => Keeps.refl Nil w) (fun a b c h k => h.trans k) rfl (by kernel_rfl) (by kernel_rfl) (by kernel_rfl) (by kernel_rfl) (fun _ _ _ h => h) (Or.inl ⟨by rfl, fun W hW => Or.inl ?_⟩) ?_
        rotate_left
        · (obtain ⟨u0, u1, u2, u3⟩ := HS.out W ((Keeps.refl _ _).drew.trans hW); go_simp <;> with_reducible rfl)
        try simp only [Act.put, List.setIfInBounds_toArray, List.set_cons_zero, List.set_cons_succ, List.getElem_toArray, List.getElem_cons_zero, List.getElem_cons_succ]
        refine wpAnyR_take (i := 12) (v := ?_) (fun w => Keeps.refl Nil w) (fun a b c h k => h.trans k) rfl (by kernel_rfl) (by kernel_rfl) (by kernel_rfl) (by kernel_rfl) (fun _ _ _ h => h) (Or.inl ⟨by rfl, fun W hW => Or.inl ?_⟩) ?_
        rotate_left
        · (obtain ⟨u0, u1, u2, u3⟩ := HS.out W ((Keeps.refl _ _).drew.trans hW); go_simp <;> with_reducible rfl)
        try simp only [Act.put, List.setIfInBounds_toArray, List.set_cons_zero, List.set_cons_succ, List.getElem_toArray, List.getElem_cons_zero, List.getElem_cons_succ]
        refine wpAnyR_take (i := 13) (v := .int .i64 (τ.mid port vid)) (fun w => Keeps.refl Nil w) (fun a b c h k => h.trans k) rfl (by kernel_rfl) (by kernel_rfl) (by kernel_rfl) (by kernel_rfl) (fun _ _ _ h => h) (Or.inl ⟨by rfl, fun W hW => Or.inr ⟨31, #[.agg #[.int .i64 τ.n, .slice pA L.length cA, .slice pE τ.E.length cE, .slice pM R.length cM], .int .u8 port, .int .u16 vid], ?_, CM.out W ((Keeps.refl _ _).drew.trans hW)⟩⟩) ?_
        · (go_simp <;> with_reducible rfl)
        try simp only [Act.put, List.setIfInBounds_toArray, List.set_cons_zero, List.set_cons_succ, List.getElem_toArray, List.getElem_cons_zero, List.getElem_cons_succ]
        refine wpAnyR_take (i := 14) (v := ?_) (fun w => Keeps.refl Nil w) (fun a b c h k => h.trans k) rfl (by kernel_rfl) (by kernel_rfl) (by kernel_rfl) (by kernel_rfl) (fun _ _ _ h => h) (Or.inl ⟨by rfl, fun W hW => Or.inl ?_⟩) ?_
        rotate_left
        · (obtain ⟨u0, u1, u2, u3⟩ := HS.out W ((Keeps.refl _ _).drew.trans hW); go_simp <;> with_reducible rfl)
        try simp only [Act.put, List.setIfInBounds_toArray, List.set_cons_zero, List.set_cons_succ, List.getElem_toArray, List.getElem_cons_zero, List.getElem_cons_succ]
        refine wpAnyR_one (i := 15) (by kernel_rfl) rfl (fun X15 hX15 K hK => ?_)
        try simp only [Act.put, List.setIfInBounds_toArray, List.set_cons_zero, List.set_cons_succ, List.getElem_toArray, List.getElem_cons_zero, List.getElem_cons_succ]
        go_simp
        refine hK.out _ _ (fun _ => (Keeps.refl _ _).alloc _) ?_
        clear hK K
        try simp only [Act.put, List.setIfInBounds_toArray, List.set_cons_zero, List.set_cons_succ, List.getElem_toArray, List.getElem_cons_zero, List.getElem_cons_succ]
        refine wpAnyR_one (i := 16) (by kernel_rfl) rfl (fun X16 hX16 K hK => ?_)
        try simp only [Act.put, List.setIfInBounds_toArray, List.set_cons_zero, List.set_cons_succ, List.getElem_toArray, List.getElem_cons_zero, List.getElem_cons_succ]
        have hb := hX16.lies (alloc_block X15 (.cells #[.int .u8 0, .int .u8 0, .int .i64 0] 56 (0, 0)))
        obtain ⟨q0, q1, q2⟩ := three_block hb
        obtain ⟨q3, q4, q5, q6⟩ := four_free hb
        have lb := lt_of_block hb
        go_simp
        refine hK.out _ _ (fun e => absurd rfl e) ?_
        clear hK K
        try simp only [Act.put, List.setIfInBounds_toArray, List.set_cons_zero, List.set_cons_succ, List.getElem_toArray, List.getElem_cons_zero, List.getElem_cons_succ]
        refine wpAnyR_done (by kernel_rfl) (by kernel_rfl) ?_ _
        go_wp2_with fail
        go_meet
        rw [lset_bits, lset_bits]
        have hn : wr.heap.size ≤ X15.heap.size := hX15.size
        exact ⟨_, rfl, hid ⟨store_3 hb _ _ _, ((((((Keeps.refl Nil wr).drew.trans hX15).alloc _).trans hX16).setCell (p := ⟨X15.heap.size, 0, Option.none⟩) (fun h => absurd h (by simp only; omega)) _).setCell (p := ⟨X15.heap.size, 1, Option.none⟩) (fun h => absurd h (by simp only; omega)) _).setCell (p := ⟨X15.heap.size, 2, Option.none⟩) (fun h => absurd h (by simp only; omega)) _⟩⟩
      case rest =>
        obtain ⟨b13, rfl, HC⟩ := hcut
        have HA3 := hid (HC.out.2.lies HA2.out)
        have K3 := hid (K2.out.trans HC.out.2)
        have PA := p_assoc i (HT.out.keepN K3.out) HG.out
        have hE : ∀ X, (binOp .neq 56 (.agg #[.int .u8 (τ.lset port vid false τ.E), .int .u8 (τ.lset port vid true τ.E), .int .i64 (τ.mid port vid)]) (.agg #[.int .u8 (τ.lset port vid false τ.E), .int .u8 (τ.lset port vid true τ.E), .int .i64 (τ.mid port vid)])).run Try.prog X = .ok (.bool false) X := fun X => neq56 _ _ _ _ _ _ true (by simp) X
        rcases HASC.out with ⟨h1, h2⟩ | ⟨q, x, px, cx, hq, hql, hx, h1⟩
        · rw [h1] at PA
          simp only [Option.getD_none, Option.isSome_none, ascCells, zeroA, List.length_nil] at PA
          clear h1
          go_wp2_with fail
          refine PA.mono ?_; rintro e w3 ⟨⟨p3, c3, rfl, own3⟩, k3⟩
          clear own3
          have k4 : Keeps Nil w3 (w3.alloc (.cells #[.int .u8 0, .string ⟨#[]⟩, .string ⟨#[]⟩, .int .u16 0, .int .u8 0, .slice p3 0 c3] 50 (0, 0))) := (Keeps.refl _ _).alloc _
          have h14 := alloc_block w3 (.cells #[.int .u8 0, .string ⟨#[]⟩, .string ⟨#[]⟩, .int .u16 0, .int .u8 0, .slice p3 0 c3] 50 (0, 0))
          go_upto_region 11 with (fail)
          generalize (w3.alloc (.cells #[.int .u8 0, .string ⟨#[]⟩, .string ⟨#[]⟩, .int .u16 0, .int .u8 0, .slice p3 0 c3] 50 (0, 0))) = w4 at *
          generalize w3.heap.size = b14 at *
          have K4 := hid (K3.out.trans (k3.trans k4))
          have H13 := hid ((k3.trans k4).lies HC.out.1)
          have HA4 := hid ((k3.trans k4).lies HA3.out)
          have H14 := hid h14
          have HS2 := hid (show ∀ X, Keeps Nil w4 X → X.cell? ⟨b13, 0, Option.none⟩ = some (.int .u8 (τ.lset port vid false τ.E)) ∧ X.cell? ⟨b13, 1, Option.none⟩ = some (.int .u8 (τ.lset port vid true τ.E)) ∧ X.cell? ⟨b13, 2, Option.none⟩ = some (.int .i64 (τ.mid port vid)) ∧ X.cell? ⟨b0, 1, Option.none⟩ = some (.slice pA L.length cA) from fun X kx => by
            obtain ⟨u0, u1, u2⟩ := three_block (kx.lies H13.out)
            exact ⟨u0, u1, u2, (four_block (kx.lies HA4.out)).2.1⟩)
          have CP := hid (fun (W : World) (hW : Keeps Nil w4 W) => p_at port vid hpv (HT.out.keepN (K4.out.trans hW)) HG.out)
          have KW34 := hid k4
          clear k3 k4 h14
          by_cases hi : i < 0
          · have hi' : ¬ 0 ≤ i := by omega
            clear h2
            refine wp_region_R (fun w => Keeps.refl Nil w) 18 (by kernel_rfl) ?_
            refine wpAnyR_take (i := 0) (v := ?_) (fun w => Keeps.refl Nil w) (fun a b c h k => h.trans k) rfl (by kernel_rfl) (by kernel_rfl) (by kernel_rfl) (by kernel_rfl) (fun _ _ _ h => h) (Or.inl ⟨by rfl, fun W hW => Or.inl ?_⟩) ?_
            rotate_left
            · (obtain ⟨u0, u1, u2, u3⟩ := HS2.out W ((Keeps.refl _ _).drew.trans hW); go_simp <;> with_reducible rfl)
            try simp only [Act.put, List.setIfInBounds_toArray, List.set_cons_zero, List.set_cons_succ, List.getElem_toArray, List.getElem_cons_zero, List.getElem_cons_succ]
            refine wpAnyR_take (i := 1) (v := ?_) (fun w => Keeps.refl Nil w) (fun a b c h k => h.trans k) rfl (by kernel_rfl) (by kernel_rfl) (by kernel_rfl) (by kernel_rfl) (fun _ _ _ h => h) (Or.inl ⟨by rfl, fun W hW => Or.inl ?_⟩) ?_
            rotate_left
            · (obtain ⟨u0, u1, u2, u3⟩ := HS2.out W ((Keeps.refl _ _).drew.trans hW); go_simp <;> with_reducible rfl)
            try simp only [Act.put, List.setIfInBounds_toArray, List.set_cons_zero, List.set_cons_succ, List.getElem_toArray, List.getElem_cons_zero, List.getElem_cons_succ]
            refine wpAnyR_take (i := 2) (v := ?_) (fun w => Keeps.refl Nil w) (fun a b c h k => h.trans k) rfl (by kernel_rfl) (by kernel_rfl) (by kernel_rfl) (by kernel_rfl) (fun _ _ _ h => h) (Or.inl ⟨by rfl, fun W hW => Or.inl ?_⟩) ?_
            rotate_left
            · (obtain ⟨u0, u1, u2, u3⟩ := HS2.out W ((Keeps.refl _ _).drew.trans hW); go_simp <;> with_reducible rfl)
            try simp only [Act.put, List.setIfInBounds_toArray, List.set_cons_zero, List.set_cons_succ, List.getElem_toArray, List.getElem_cons_zero, List.getElem_cons_succ]
            refine wpAnyR_take (i := 3) (v := .agg #[.int .u8 (τ.lset port vid false τ.E), .int .u8 (τ.lset port vid true τ.E), .int .i64 (τ.mid port vid)]) (fun w => Keeps.refl Nil w) (fun a b c h k => h.trans k) rfl (by kernel_rfl) (by kernel_rfl) (by kernel_rfl) (by kernel_rfl) (fun _ _ _ h => h) (Or.inl ⟨by rfl, fun W hW => Or.inr ⟨14, #[.pointer (some ⟨t, 0, Option.none⟩), .int .u8 port, .int .u16 vid], ?_, CP.out W ((Keeps.refl _ _).drew.trans hW)⟩⟩) ?_
            · (go_simp <;> with_reducible rfl)
            try simp only [Act.put, List.setIfInBounds_toArray, List.set_cons_zero, List.set_cons_succ, List.getElem_toArray, List.getElem_cons_zero, List.getElem_cons_succ]
            refine wpAnyR_take (i := 4) (v := ?_) (fun w => Keeps.refl Nil w) (fun a b c h k => h.trans k) rfl (by kernel_rfl) (by kernel_rfl) (by kernel_rfl) (by kernel_rfl) (fun _ _ _ h => h) (Or.inl ⟨by rfl, fun W hW => Or.inl ?_⟩) ?_
            rotate_left
            · (obtain ⟨u0, u1, u2, u3⟩ := HS2.out W ((Keeps.refl _ _).drew.trans hW); go_simp <;> with_reducible rfl)
            try simp only [Act.put, List.setIfInBounds_toArray, List.set_cons_zero, List.set_cons_succ, List.getElem_toArray, List.getElem_cons_zero, List.getElem_cons_succ]
            refine wpAnyR_take (i := 5) (v := ?_) (fun w => Keeps.refl Nil w) (fun a b c h k => h.trans k) rfl (by kernel_rfl) (by kernel_rfl) (by kernel_rfl) (by kernel_rfl) (fun _ _ _ h => h) (Or.inl ⟨by rfl, fun W hW => Or.inl ?_⟩) ?_
            rotate_left
            · (obtain ⟨u0, u1, u2, u3⟩ := HS2.out W ((Keeps.refl _ _).drew.trans hW); go_simp <;> with_reducible rfl)
            try simp only [Act.put, List.setIfInBounds_toArray, List.set_cons_zero, List.set_cons_succ, List.getElem_toArray, List.getElem_cons_zero, List.getElem_cons_succ]
            refine wpAnyR_take (i := 6) (v := ?_) (fun w => Keeps.refl Nil w) (fun a b c h k => h.trans k) rfl (by kernel_rfl) (by kernel_rfl) (by kernel_rfl) (by kernel_rfl) (fun _ _ _ h => h) (Or.inl ⟨by rfl, fun W hW => Or.inl ?_⟩) ?_
            rotate_left
            · (obtain ⟨u0, u1, u2, u3⟩ := HS2.out W ((Keeps.refl _ _).drew.trans hW); go_simp <;> with_reducible rfl)
            try simp only [Act.put, List.setIfInBounds_toArray, List.set_cons_zero, List.set_cons_succ, List.getElem_toArray, List.getElem_cons_zero, List.getElem_cons_succ]
            refine wpAnyR_take (i := 7) (v := ?_) (fun w => Keeps.refl Nil w) (fun a b c h k => h.trans k) rfl (by kernel_rfl) (by kernel_rfl) (by kernel_rfl) (by kernel_rfl) (fun _ _ _ h => h) (Or.inl ⟨by rfl, fun W hW => Or.inl ?_⟩) ?_
            rotate_left
            · (obtain ⟨u0, u1, u2, u3⟩ := HS2.out W ((Keeps.refl _ _).drew.trans hW); go_simp <;> with_reducible rfl)
            try simp only [Act.put, List.setIfInBounds_toArray, List.set_cons_zero, List.set_cons_succ, List.getElem_toArray, List.getElem_cons_zero, List.getElem_cons_succ]
            refine wpAnyR_take (i := 8) (v := ?_) (fun w => Keeps.refl Nil w) (fun a b c h k => h.trans k) rfl (by kernel_rfl) (by kernel_rfl) (by kernel_rfl) (by kernel_rfl) (fun _ _ _ h => h) (Or.inl ⟨by rfl, fun W hW => Or.inl ?_⟩) ?_
            rotate_left
            · (obtain ⟨u0, u1, u2, u3⟩ := HS2.out W ((Keeps.refl _ _).drew.trans hW); go_simp <;> with_reducible rfl)
            try simp only [Act.put, List.setIfInBounds_toArray, List.set_cons_zero, List.set_cons_succ, List.getElem_toArray, List.getElem_cons_zero, List.getElem_cons_succ]
            refine wpAnyR_take (i := 9) (v := ?_) (fun w => Keeps.refl Nil w) (fun a b c h k => h.trans k) rfl (by kernel_rfl) (by kernel_rfl) (by kernel_rfl) (by kernel_rfl) (fun _ _ _ h => h) (Or.inl ⟨by rfl, fun W hW => Or.inl ?_⟩) ?_
            rotate_left
            · (obtain ⟨u0, u1, u2, u3⟩ := HS2.out W ((Keeps.refl _ _).drew.trans hW); go_simp <;> with_reducible rfl)
            try simp only [Act.put, List.setIfInBounds_toArray, List.set_cons_zero, List.set_cons_succ, List.getElem_toArray, List.getElem_cons_zero, List.getElem_cons_succ]
            refine wpAnyR_take (i := 10) (v := ?_) (fun w => Keeps.refl Nil w) (fun a b c h k => h.trans k) rfl (by kernel_rfl) (by kernel_rfl) (by kernel_rfl) (by kernel_rfl) (fun _ _ _ h => h) (Or.inl ⟨by rfl, fun W hW => Or.inl ?_⟩) ?_
            rotate_left
            · (obtain ⟨u0, u1, u2, u3⟩ := HS2.out W ((Keeps.refl _ _).drew.trans hW); go_simp <;> with_reducible rfl)
            try simp only [Act.put, List.setIfInBounds_toArray, List.set_cons_zero, List.set_cons_succ, List.getElem_toArray, List.getElem_cons_zero, List.getElem_cons_succ]
            refine wpAnyR_take (i := 11) (v := undef) (fun w => Keeps.refl Nil w) (fun a b c h k => h.trans k) rfl (by kernel_rfl) (by kernel_rfl) (by kernel_rfl) (by kernel_rfl) (fun _ _ _ h => h) (Or.inr ⟨by rfl, rfl⟩) ?_
            try simp only [Act.put, List.setIfInBounds_toArray, List.set_cons_zero, List.set_cons_succ, List.getElem_toArray, List.getElem_cons_zero, List.getElem_cons_succ]
            refine wpAnyR_take (i := 12) (v := undef) (fun w => Keeps.refl Nil w) (fun a b c h k => h.trans k) rfl (by kernel_rfl) (by kernel_rfl) (by kernel_rfl) (by kernel_rfl) (fun _ _ _ h => h) (Or.inr ⟨by rfl, rfl⟩) ?_
            try simp only [Act.put, List.setIfInBounds_toArray, List.set_cons_zero, List.set_cons_succ, List.getElem_toArray, List.getElem_cons_zero, List.getElem_cons_succ]
            refine wpAnyR_take (i := 13) (v := undef) (fun w => Keeps.refl Nil w) (fun a b c h k => h.trans k) rfl (by kernel_rfl) (by kernel_rfl) (by kernel_rfl) (by kernel_rfl) (fun _ _ _ h => h) (Or.inr ⟨by rfl, rfl⟩) ?_
            try simp only [Act.put, List.setIfInBounds_toArray, List.set_cons_zero, List.set_cons_succ, List.getElem_toArray, List.getElem_cons_zero, List.getElem_cons_succ]
            refine wpAnyR_take (i := 14) (v := undef) (fun w => Keeps.refl Nil w) (fun a b c h k => h.trans k) rfl (by kernel_rfl) (by kernel_rfl) (by kernel_rfl) (by kernel_rfl) (fun _ _ _ h => h) (Or.inr ⟨by rfl, rfl⟩) ?_
            try simp only [Act.put, List.setIfInBounds_toArray, List.set_cons_zero, List.set_cons_succ, List.getElem_toArray, List.getElem_cons_zero, List.getElem_cons_succ]
            refine wpAnyR_take (i := 15) (v := undef) (fun w => Keeps.refl Nil w) (fun a b c h k => h.trans k) rfl (by kernel_rfl) (by kernel_rfl) (by kernel_rfl) (by kernel_rfl) (fun _ _ _ h => h) (Or.inr ⟨by rfl, rfl⟩) ?_
            try simp only [Act.put, List.setIfInBounds_toArray, List.set_cons_zero, List.set_cons_succ, List.getElem_toArray, List.getElem_cons_zero, List.getElem_cons_succ]
            refine wpAnyR_take (i := 16) (v := ?_) (fun w => Keeps.refl Nil w) (fun a b c h k => h.trans k) rfl (by kernel_rfl) (by kernel_rfl) (by kernel_rfl) (by kernel_rfl) (fun _ _ _ h => h) (Or.inl ⟨by rfl, fun W hW => Or.inl ?_⟩) ?_
            rotate_left
            · (obtain ⟨u0, u1, u2, u3⟩ := HS2.out W ((Keeps.refl _ _).drew.trans hW); go_simp <;> with_reducible rfl)
            try simp only [Act.put, List.setIfInBounds_toArray, List.set_cons_zero, List.set_cons_succ, List.getElem_toArray, List.getElem_cons_zero, List.getElem_cons_succ]
            refine wpAnyR_take (i := 17) (v := ?_) (fun w => Keeps.refl Nil w) (fun a b c h k => h.trans k) rfl (by kernel_rfl) (by kernel_rfl) (by kernel_rfl) (by kernel_rfl) (fun _ _ _ h => h) (Or.inl ⟨by rfl, fun W hW => Or.inl ?_⟩) ?_
            rotate_left
            · (obtain ⟨u0, u1, u2, u3⟩ := HS2.out W ((Keeps.refl _ _).drew.trans hW); go_simp <;> with_reducible rfl)
            try simp only [Act.put, List.setIfInBounds_toArray, List.set_cons_zero, List.set_cons_succ, List.getElem_toArray, List.getElem_cons_zero, List.getElem_cons_succ]
            refine wpAnyR_one (i := 18) (by kernel_rfl) rfl (fun X18 hX18 K hK => ?_)
            try simp only [Act.put, List.setIfInBounds_toArray, List.set_cons_zero, List.set_cons_succ, List.getElem_toArray, List.getElem_cons_zero, List.getElem_cons_succ]
            go_simp
            refine hK.out _ _ (fun e => absurd rfl e) ?_
            clear hK K
            try simp only [Act.put, List.setIfInBounds_toArray, List.set_cons_zero, List.set_cons_succ, List.getElem_toArray, List.getElem_cons_zero, List.getElem_cons_succ]
            refine wpAnyR_done (by kernel_rfl) (by kernel_rfl) ?_ _
            obtain ⟨y0, y1, y2, y3, y4, y5⟩ := six_block (hX18.lies H14.out)
            have l14 := lt_of_block (hX18.lies H14.out)
            go_wp2_with fail
            go_ret
            exact ⟨rfl, K4.out.trans ((Keeps.refl _ _).drew.trans hX18)⟩
          · have hi' : 0 ≤ i := by omega
            have hi2 : ¬ i < (L.length : Int) := by omega
            clear h2
            refine wp_region_R (fun w => Keeps.refl Nil w) 18 (by kernel_rfl) ?_
            refine wpAnyR_take (i := 0) (v := ?_) (fun w => Keeps.refl Nil w) (fun a b c h k => h.trans k) rfl (by kernel_rfl) (by kernel_rfl) (by kernel_rfl) (by kernel_rfl) (fun _ _ _ h => h) (Or.inl ⟨by rfl, fun W hW => Or.inl ?_⟩) ?_
            rotate_left
            · (obtain ⟨u0, u1, u2, u3⟩ := HS2.out W ((Keeps.refl _ _).drew.trans hW); go_simp <;> with_reducible rfl)
            try simp only [Act.put, List.setIfInBounds_toArray, List.set_cons_zero, List.set_cons_succ, List.getElem_toArray, List.getElem_cons_zero, List.getElem_cons_succ]
            refine wpAnyR_take (i := 1) (v := ?_) (fun w => Keeps.refl Nil w) (fun a b c h k => h.trans k) rfl (by kernel_rfl) (by kernel_rfl) (by kernel_rfl) (by kernel_rfl) (fun _ _ _ h => h) (Or.inl ⟨by rfl, fun W hW => Or.inl ?_⟩) ?_
            rotate_left
            · (obtain ⟨u0, u1, u2, u3⟩ := HS2.out W ((Keeps.refl _ _).drew.trans hW); go_simp <;> with_reducible rfl)
            try simp only [Act.put, List.setIfInBounds_toArray, List.set_cons_zero, List.set_cons_succ, List.getElem_toArray, List.getElem_cons_zero, List.getElem_cons_succ]
            refine wpAnyR_take (i := 2) (v := ?_) (fun w => Keeps.refl Nil w) (fun a b c h k => h.trans k) rfl (by kernel_rfl) (by kernel_rfl) (by kernel_rfl) (by kernel_rfl) (fun _ _ _ h => h) (Or.inl ⟨by rfl, fun W hW => Or.inl ?_⟩) ?_
            rotate_left
            · (obtain ⟨u0, u1, u2, u3⟩ := HS2.out W ((Keeps.refl _ _).drew.trans hW); go_simp <;> with_reducible rfl)
            try simp only [Act.put, List.setIfInBounds_toArray, List.set_cons_zero, List.set_cons_succ, List.getElem_toArray, List.getElem_cons_zero, List.getElem_cons_succ]
            refine wpAnyR_take (i := 3) (v := .agg #[.int .u8 (τ.lset port vid false τ.E), .int .u8 (τ.lset port vid true τ.E), .int .i64 (τ.mid port vid)]) (fun w => Keeps.refl Nil w) (fun a b c h k => h.trans k) rfl (by kernel_rfl) (by kernel_rfl) (by kernel_rfl) (by kernel_rfl) (fun _ _ _ h => h) (Or.inl ⟨by rfl, fun W hW => Or.inr ⟨14, #[.pointer (some ⟨t, 0, Option.none⟩), .int .u8 port, .int .u16 vid], ?_, CP.out W ((Keeps.refl _ _).drew.trans hW)⟩⟩) ?_
            · (go_simp <;> with_reducible rfl)
            try simp only [Act.put, List.setIfInBounds_toArray, List.set_cons_zero, List.set_cons_succ, List.getElem_toArray, List.getElem_cons_zero, List.getElem_cons_succ]
            refine wpAnyR_take (i := 4) (v := ?_) (fun w => Keeps.refl Nil w) (fun a b c h k => h.trans k) rfl (by kernel_rfl) (by kernel_rfl) (by kernel_rfl) (by kernel_rfl) (fun _ _ _ h => h) (Or.inl ⟨by rfl, fun W hW => Or.inl ?_⟩) ?_
            rotate_left
            · (obtain ⟨u0, u1, u2, u3⟩ := HS2.out W ((Keeps.refl _ _).drew.trans hW); go_simp <;> with_reducible rfl)
            try simp only [Act.put, List.setIfInBounds_toArray, List.set_cons_zero, List.set_cons_succ, List.getElem_toArray, List.getElem_cons_zero, List.getElem_cons_succ]
            refine wpAnyR_take (i := 5) (v := ?_) (fun w => Keeps.refl Nil w) (fun a b c h k => h.trans k) rfl (by kernel_rfl) (by kernel_rfl) (by kernel_rfl) (by kernel_rfl) (fun _ _ _ h => h) (Or.inl ⟨by rfl, fun W hW => Or.inl ?_⟩) ?_
            rotate_left
            · (obtain ⟨u0, u1, u2, u3⟩ := HS2.out W ((Keeps.refl _ _).drew.trans hW); go_simp <;> with_reducible rfl)
            try simp only [Act.put, List.setIfInBounds_toArray, List.set_cons_zero, List.set_cons_succ, List.getElem_toArray, List.getElem_cons_zero, List.getElem_cons_succ]
            refine wpAnyR_take (i := 6) (v := ?_) (fun w => Keeps.refl Nil w) (fun a b c h k => h.trans k) rfl (by kernel_rfl) (by kernel_rfl) (by kernel_rfl) (by kernel_rfl) (fun _ _ _ h => h) (Or.inl ⟨by rfl, fun W hW => Or.inl ?_⟩) ?_
            rotate_left
            · (obtain ⟨u0, u1, u2, u3⟩ := HS2.out W ((Keeps.refl _ _).drew.trans hW); go_simp <;> with_reducible rfl)
            try simp only [Act.put, List.setIfInBounds_toArray, List.set_cons_zero, List.set_cons_succ, List.getElem_toArray, List.getElem_cons_zero, List.getElem_cons_succ]
            refine wpAnyR_take (i := 7) (v := ?_) (fun w => Keeps.refl Nil w) (fun a b c h k => h.trans k) rfl (by kernel_rfl) (by kernel_rfl) (by kernel_rfl) (by kernel_rfl) (fun _ _ _ h => h) (Or.inl ⟨by rfl, fun W hW => Or.inl ?_⟩) ?_
            rotate_left
            · (obtain ⟨u0, u1, u2, u3⟩ := HS2.out W ((Keeps.refl _ _).drew.trans hW); go_simp <;> with_reducible rfl)
            try simp only [Act.put, List.setIfInBounds_toArray, List.set_cons_zero, List.set_cons_succ, List.getElem_toArray, List.getElem_cons_zero, List.getElem_cons_succ]
            refine wpAnyR_take (i := 8) (v := ?_) (fun w => Keeps.refl Nil w) (fun a b c h k => h.trans k) rfl (by kernel_rfl) (by kernel_rfl) (by kernel_rfl) (by kernel_rfl) (fun _ _ _ h => h) (Or.inl ⟨by rfl, fun W hW => Or.inl ?_⟩) ?_
            rotate_left
            · (obtain ⟨u0, u1, u2, u3⟩ := HS2.out W ((Keeps.refl _ _).drew.trans hW); go_simp <;> with_reducible rfl)
            try simp only [Act.put, List.setIfInBounds_toArray, List.set_cons_zero, List.set_cons_succ, List.getElem_toArray, List.getElem_cons_zero, List.getElem_cons_succ]
            refine wpAnyR_take (i := 9) (v := ?_) (fun w => Keeps.refl Nil w) (fun a b c h k => h.trans k) rfl (by kernel_rfl) (by kernel_rfl) (by kernel_rfl) (by kernel_rfl) (fun _ _ _ h => h) (Or.inl ⟨by rfl, fun W hW => Or.inl ?_⟩) ?_
            rotate_left
            · (obtain ⟨u0, u1, u2, u3⟩ := HS2.out W ((Keeps.refl _ _).drew.trans hW); go_simp <;> with_reducible rfl)
            try simp only [Act.put, List.setIfInBounds_toArray, List.set_cons_zero, List.set_cons_succ, List.getElem_toArray, List.getElem_cons_zero, List.getElem_cons_succ]
            refine wpAnyR_take (i := 10) (v := ?_) (fun w => Keeps.refl Nil w) (fun a b c h k => h.trans k) rfl (by kernel_rfl) (by kernel_rfl) (by kernel_rfl) (by kernel_rfl) (fun _ _ _ h => h) (Or.inl ⟨by rfl, fun W hW => Or.inl ?_⟩) ?_
            rotate_left
            · (obtain ⟨u0, u1, u2, u3⟩ := HS2.out W ((Keeps.refl _ _).drew.trans hW); go_simp <;> with_reducible rfl)
            try simp only [Act.put, List.setIfInBounds_toArray, List.set_cons_zero, List.set_cons_succ, List.getElem_toArray, List.getElem_cons_zero, List.getElem_cons_succ]
            refine wpAnyR_take (i := 11) (v := ?_) (fun w => Keeps.refl Nil w) (fun a b c h k => h.trans k) rfl (by kernel_rfl) (by kernel_rfl) (by kernel_rfl) (by kernel_rfl) (fun _ _ _ h => h) (Or.inl ⟨by rfl, fun W hW => Or.inl ?_⟩) ?_
            rotate_left
            · (obtain ⟨u0, u1, u2, u3⟩ := HS2.out W ((Keeps.refl _ _).drew.trans hW); go_simp <;> with_reducible rfl)
            try simp only [Act.put, List.setIfInBounds_toArray, List.set_cons_zero, List.set_cons_succ, List.getElem_toArray, List.getElem_cons_zero, List.getElem_cons_succ]
            refine wpAnyR_take (i := 12) (v := ?_) (fun w => Keeps.refl Nil w) (fun a b c h k => h.trans k) rfl (by kernel_rfl) (by kernel_rfl) (by kernel_rfl) (by kernel_rfl) (fun _ _ _ h => h) (Or.inl ⟨by rfl, fun W hW => Or.inl ?_⟩) ?_
            rotate_left
            · (obtain ⟨u0, u1, u2, u3⟩ := HS2.out W ((Keeps.refl _ _).drew.trans hW); go_simp <;> with_reducible rfl)
            try simp only [Act.put, List.setIfInBounds_toArray, List.set_cons_zero, List.set_cons_succ, List.getElem_toArray, List.getElem_cons_zero, List.getElem_cons_succ]
            refine wpAnyR_take (i := 13) (v := ?_) (fun w => Keeps.refl Nil w) (fun a b c h k => h.trans k) rfl (by kernel_rfl) (by kernel_rfl) (by kernel_rfl) (by kernel_rfl) (fun _ _ _ h => h) (Or.inl ⟨by rfl, fun W hW => Or.inl ?_⟩) ?_
            rotate_left
            · (obtain ⟨u0, u1, u2, u3⟩ := HS2.out W ((Keeps.refl _ _).drew.trans hW); go_simp <;> with_reducible rfl)
            try simp only [Act.put, List.setIfInBounds_toArray, List.set_cons_zero, List.set_cons_succ, List.getElem_toArray, List.getElem_cons_zero, List.getElem_cons_succ]
            refine wpAnyR_take (i := 14) (v := ?_) (fun w => Keeps.refl Nil w) (fun a b c h k => h.trans k) rfl (by kernel_rfl) (by kernel_rfl) (by kernel_rfl) (by kernel_rfl) (fun _ _ _ h => h) (Or.inl ⟨by rfl, fun W hW => Or.inl ?_⟩) ?_
            rotate_left
            · (obtain ⟨u0, u1, u2, u3⟩ := HS2.out W ((Keeps.refl _ _).drew.trans hW); go_simp <;> with_reducible rfl)
            try simp only [Act.put, List.setIfInBounds_toArray, List.set_cons_zero, List.set_cons_succ, List.getElem_toArray, List.getElem_cons_zero, List.getElem_cons_succ]
            refine wpAnyR_take (i := 15) (v := ?_) (fun w => Keeps.refl Nil w) (fun a b c h k => h.trans k) rfl (by kernel_rfl) (by kernel_rfl) (by kernel_rfl) (by kernel_rfl) (fun _ _ _ h => h) (Or.inl ⟨by rfl, fun W hW => Or.inl ?_⟩) ?_
            rotate_left
            · (obtain ⟨u0, u1, u2, u3⟩ := HS2.out W ((Keeps.refl _ _).drew.trans hW); go_simp <;> with_reducible rfl)
            try simp only [Act.put, List.setIfInBounds_toArray, List.set_cons_zero, List.set_cons_succ, List.getElem_toArray, List.getElem_cons_zero, List.getElem_cons_succ]
            refine wpAnyR_take (i := 16) (v := ?_) (fun w => Keeps.refl Nil w) (fun a b c h k => h.trans k) rfl (by kernel_rfl) (by kernel_rfl) (by kernel_rfl) (by kernel_rfl) (fun _ _ _ h => h) (Or.inl ⟨by rfl, fun W hW => Or.inl ?_⟩) ?_
            rotate_left
            · (obtain ⟨u0, u1, u2, u3⟩ := HS2.out W ((Keeps.refl _ _).drew.trans hW); go_simp <;> with_reducible rfl)
            try simp only [Act.put, List.setIfInBounds_toArray, List.set_cons_zero, List.set_cons_succ, List.getElem_toArray, List.getElem_cons_zero, List.getElem_cons_succ]
            refine wpAnyR_take (i := 17) (v := ?_) (fun w => Keeps.refl Nil w) (fun a b c h k => h.trans k) rfl (by kernel_rfl) (by kernel_rfl) (by kernel_rfl) (by kernel_rfl) (fun _ _ _ h => h) (Or.inl ⟨by rfl, fun W hW => Or.inl ?_⟩) ?_
            rotate_left
            · (obtain ⟨u0, u1, u2, u3⟩ := HS2.out W ((Keeps.refl _ _).drew.trans hW); go_simp <;> with_reducible rfl)
            try simp only [Act.put, List.setIfInBounds_toArray, List.set_cons_zero, List.set_cons_succ, List.getElem_toArray, List.getElem_cons_zero, List.getElem_cons_succ]
            refine wpAnyR_one (i := 18) (by kernel_rfl) rfl (fun X18 hX18 K hK => ?_)
            try simp only [Act.put, List.setIfInBounds_toArray, List.set_cons_zero, List.set_cons_succ, List.getElem_toArray, List.getElem_cons_zero, List.getElem_cons_succ]
            go_simp
            refine hK.out _ _ (fun e => absurd rfl e) ?_
            clear hK K
            try simp only [Act.put, List.setIfInBounds_toArray, List.set_cons_zero, List.set_cons_succ, List.getElem_toArray, List.getElem_cons_zero, List.getElem_cons_succ]
            refine wpAnyR_done (by kernel_rfl) (by kernel_rfl) ?_ _
            obtain ⟨y0, y1, y2, y3, y4, y5⟩ := six_block (hX18.lies H14.out)
            have l14 := lt_of_block (hX18.lies H14.out)
            go_wp2_with fail
            go_ret
            exact ⟨rfl, K4.out.trans ((Keeps.refl _ _).drew.trans hX18)⟩
        · subst hq
          rw [h1] at PA
          simp only [Option.getD_some, Option.isSome_some, ascCells] at PA
          clear h1
          go_wp2_with fail
          refine PA.mono ?_; rintro e w3 ⟨⟨p3, c3, rfl, own3⟩, k3⟩
          have HO3 := hid (own_keepN own3 (Keeps.refl Nil w3))
          have HX := hid hx
          clear own3 hx
          have KK3 := hid k3
          have k4 : Keeps Nil w3 (w3.alloc (.cells #[.int .u8 x.lv, .string x.dom, .string x.own, .int .u16 x.vid, .int .u8 x.iv, .slice p3 x.ms.length c3] 50 (0, 0))) := (Keeps.refl _ _).alloc _
          have h14 := alloc_block w3 (.cells #[.int .u8 x.lv, .string x.dom, .string x.own, .int .u16 x.vid, .int .u8 x.iv, .slice p3 x.ms.length c3] 50 (0, 0))
          go_upto_region 11 with (fail)
          generalize (w3.alloc (.cells #[.int .u8 x.lv, .string x.dom, .string x.own, .int .u16 x.vid, .int .u8 x.iv, .slice p3 x.ms.length c3] 50 (0, 0))) = w4 at *
          generalize w3.heap.size = b14 at *
          have K4 := hid (K3.out.trans (k3.trans k4))
          have H13 := hid ((k3.trans k4).lies HC.out.1)
          have HA4 := hid ((k3.trans k4).lies HA3.out)
          have H14 := hid h14
          have HS2 := hid (show ∀ X, Keeps Nil w4 X → X.cell? ⟨b13, 0, Option.none⟩ = some (.int .u8 (τ.lset port vid false τ.E)) ∧ X.cell? ⟨b13, 1, Option.none⟩ = some (.int .u8 (τ.lset port vid true τ.E)) ∧ X.cell? ⟨b13, 2, Option.none⟩ = some (.int .i64 (τ.mid port vid)) ∧ X.cell? ⟨b0, 1, Option.none⟩ = some (.slice pA L.length cA) from fun X kx => by
            obtain ⟨u0, u1, u2⟩ := three_block (kx.lies H13.out)
            exact ⟨u0, u1, u2, (four_block (kx.lies HA4.out)).2.1⟩)
          have CP := hid (fun (W : World) (hW : Keeps Nil w4 W) => p_at port vid hpv (HT.out.keepN (K4.out.trans hW)) HG.out)
          have KW34 := hid k4
          clear k3 k4 h14
          have hi' : (0 : Int) ≤ (q : Int) := by omega
          have hi2 : (q : Int) < (L.length : Int) := by omega
          refine wp_region_R (fun w => Keeps.refl Nil w) 18 (by kernel_rfl) ?_
          refine wpAnyR_take (i := 0) (v := ?_) (fun w => Keeps.refl Nil w) (fun a b c h k => h.trans k) rfl (by kernel_rfl) (by kernel_rfl) (by kernel_rfl) (by kernel_rfl) (fun _ _ _ h => h) (Or.inl ⟨by rfl, fun W hW => Or.inl ?_⟩) ?_
          rotate_left
          · (obtain ⟨u0, u1, u2, u3⟩ := HS2.out W ((Keeps.refl _ _).drew.trans hW); go_simp <;> with_reducible rfl)
          try simp only [Act.put, List.setIfInBounds_toArray, List.set_cons_zero, List.set_cons_succ, List.getElem_toArray, List.getElem_cons_zero, List.getElem_cons_succ]
          refine wpAnyR_take (i := 1) (v := ?_) (fun w => Keeps.refl Nil w) (fun a b c h k => h.trans k) rfl (by kernel_rfl) (by kernel_rfl) (by kernel_rfl) (by kernel_rfl) (fun _ _ _ h => h) (Or.inl ⟨by rfl, fun W hW => Or.inl ?_⟩) ?_
          rotate_left
          · (obtain ⟨u0, u1, u2, u3⟩ := HS2.out W ((Keeps.refl _ _).drew.trans hW); go_simp <;> with_reducible rfl)
          try simp only [Act.put, List.setIfInBounds_toArray, List.set_cons_zero, List.set_cons_succ, List.getElem_toArray, List.getElem_cons_zero, List.getElem_cons_succ]
          refine wpAnyR_take (i := 2) (v := ?_) (fun w => Keeps.refl Nil w) (fun a b c h k => h.trans k) rfl (by kernel_rfl) (by kernel_rfl) (by kernel_rfl) (by kernel_rfl) (fun _ _ _ h => h) (Or.inl ⟨by rfl, fun W hW => Or.inl ?_⟩) ?_
          rotate_left
          · (obtain ⟨u0, u1, u2, u3⟩ := HS2.out W ((Keeps.refl _ _).drew.trans hW); go_simp <;> with_reducible rfl)
          try simp only [Act.put, List.setIfInBounds_toArray, List.set_cons_zero, List.set_cons_succ, List.getElem_toArray, List.getElem_cons_zero, List.getElem_cons_succ]
          refine wpAnyR_take (i := 3) (v := .agg #[.int .u8 (τ.lset port vid false τ.E), .int .u8 (τ.lset port vid true τ.E), .int .i64 (τ.mid port vid)]) (fun w => Keeps.refl Nil w) (fun a b c h k => h.trans k) rfl (by kernel_rfl) (by kernel_rfl) (by kernel_rfl) (by kernel_rfl) (fun _ _ _ h => h) (Or.inl ⟨by rfl, fun W hW => Or.inr ⟨14, #[.pointer (some ⟨t, 0, Option.none⟩), .int .u8 port, .int .u16 vid], ?_, CP.out W ((Keeps.refl _ _).drew.trans hW)⟩⟩) ?_
          · (go_simp <;> with_reducible rfl)
          try simp only [Act.put, List.setIfInBounds_toArray, List.set_cons_zero, List.set_cons_succ, List.getElem_toArray, List.getElem_cons_zero, List.getElem_cons_succ]
          refine wpAnyR_take (i := 4) (v := ?_) (fun w => Keeps.refl Nil w) (fun a b c h k => h.trans k) rfl (by kernel_rfl) (by kernel_rfl) (by kernel_rfl) (by kernel_rfl) (fun _ _ _ h => h) (Or.inl ⟨by rfl, fun W hW => Or.inl ?_⟩) ?_
          rotate_left
          · (obtain ⟨u0, u1, u2, u3⟩ := HS2.out W ((Keeps.refl _ _).drew.trans hW); go_simp <;> with_reducible rfl)
          try simp only [Act.put, List.setIfInBounds_toArray, List.set_cons_zero, List.set_cons_succ, List.getElem_toArray, List.getElem_cons_zero, List.getElem_cons_succ]
          refine wpAnyR_take (i := 5) (v := ?_) (fun w => Keeps.refl Nil w) (fun a b c h k => h.trans k) rfl (by kernel_rfl) (by kernel_rfl) (by kernel_rfl) (by kernel_rfl) (fun _ _ _ h => h) (Or.inl ⟨by rfl, fun W hW => Or.inl ?_⟩) ?_
          rotate_left
          · (obtain ⟨u0, u1, u2, u3⟩ := HS2.out W ((Keeps.refl _ _).drew.trans hW); go_simp <;> with_reducible rfl)
          try simp only [Act.put, List.setIfInBounds_toArray, List.set_cons_zero, List.set_cons_succ, List.getElem_toArray, List.getElem_cons_zero, List.getElem_cons_succ]
          refine wpAnyR_take (i := 6) (v := ?_) (fun w => Keeps.refl Nil w) (fun a b c h k => h.trans k) rfl (by kernel_rfl) (by kernel_rfl) (by kernel_rfl) (by kernel_rfl) (fun _ _ _ h => h) (Or.inl ⟨by rfl, fun W hW => Or.inl ?_⟩) ?_
          rotate_left
          · (obtain ⟨u0, u1, u2, u3⟩ := HS2.out W ((Keeps.refl _ _).drew.trans hW); go_simp <;> with_reducible rfl)
          try simp only [Act.put, List.setIfInBounds_toArray, List.set_cons_zero, List.set_cons_succ, List.getElem_toArray, List.getElem_cons_zero, List.getElem_cons_succ]
          refine wpAnyR_take (i := 7) (v := ?_) (fun w => Keeps.refl Nil w) (fun a b c h k => h.trans k) rfl (by kernel_rfl) (by kernel_rfl) (by kernel_rfl) (by kernel_rfl) (fun _ _ _ h => h) (Or.inl ⟨by rfl, fun W hW => Or.inl ?_⟩) ?_
          rotate_left
          · (obtain ⟨u0, u1, u2, u3⟩ := HS2.out W ((Keeps.refl _ _).drew.trans hW); go_simp <;> with_reducible rfl)
          try simp only [Act.put, List.setIfInBounds_toArray, List.set_cons_zero, List.set_cons_succ, List.getElem_toArray, List.getElem_cons_zero, List.getElem_cons_succ]
          refine wpAnyR_take (i := 8) (v := ?_) (fun w => Keeps.refl Nil w) (fun a b c h k => h.trans k) rfl (by kernel_rfl) (by kernel_rfl) (by kernel_rfl) (by kernel_rfl) (fun _ _ _ h => h) (Or.inl ⟨by rfl, fun W hW => Or.inl ?_⟩) ?_
          rotate_left
          · (obtain ⟨u0, u1, u2, u3⟩ := HS2.out W ((Keeps.refl _ _).drew.trans hW); go_simp <;> with_reducible rfl)
          try simp only [Act.put, List.setIfInBounds_toArray, List.set_cons_zero, List.set_cons_succ, List.getElem_toArray, List.getElem_cons_zero, List.getElem_cons_succ]
          refine wpAnyR_take (i := 9) (v := ?_) (fun w => Keeps.refl Nil w) (fun a b c h k => h.trans k) rfl (by kernel_rfl) (by kernel_rfl) (by kernel_rfl) (by kernel_rfl) (fun _ _ _ h => h) (Or.inl ⟨by rfl, fun W hW => Or.inl ?_⟩) ?_
          rotate_left
          · (obtain ⟨u0, u1, u2, u3⟩ := HS2.out W ((Keeps.refl _ _).drew.trans hW); go_simp <;> with_reducible rfl)
          try simp only [Act.put, List.setIfInBounds_toArray, List.set_cons_zero, List.set_cons_succ, List.getElem_toArray, List.getElem_cons_zero, List.getElem_cons_succ]
          refine wpAnyR_take (i := 10) (v := ?_) (fun w => Keeps.refl Nil w) (fun a b c h k => h.trans k) rfl (by kernel_rfl) (by kernel_rfl) (by kernel_rfl) (by kernel_rfl) (fun _ _ _ h => h) (Or.inl ⟨by rfl, fun W hW => Or.inl ?_⟩) ?_
          rotate_left
          · (obtain ⟨u0, u1, u2, u3⟩ := HS2.out W ((Keeps.refl _ _).drew.trans hW); go_simp <;> with_reducible rfl)
          try simp only [Act.put, List.setIfInBounds_toArray, List.set_cons_zero, List.set_cons_succ, List.getElem_toArray, List.getElem_cons_zero, List.getElem_cons_succ]
          refine wpAnyR_take (i := 11) (v := ?_) (fun w => Keeps.refl Nil w) (fun a b c h k => h.trans k) rfl (by kernel_rfl) (by kernel_rfl) (by kernel_rfl) (by kernel_rfl) (fun _ _ _ h => h) (Or.inl ⟨by rfl, fun W hW => Or.inl ?_⟩) ?_
          rotate_left
          · (obtain ⟨u0, u1, u2, u3⟩ := HS2.out W ((Keeps.refl _ _).drew.trans hW); go_simp <;> with_reducible rfl)
          try simp only [Act.put, List.setIfInBounds_toArray, List.set_cons_zero, List.set_cons_succ, List.getElem_toArray, List.getElem_cons_zero, List.getElem_cons_succ]
          refine wpAnyR_take (i := 12) (v := ?_) (fun w => Keeps.refl Nil w) (fun a b c h k => h.trans k) rfl (by kernel_rfl) (by kernel_rfl) (by kernel_rfl) (by kernel_rfl) (fun _ _ _ h => h) (Or.inl ⟨by rfl, fun W hW => Or.inl ?_⟩) ?_
          rotate_left
          · (obtain ⟨u0, u1, u2, u3⟩ := HS2.out W ((Keeps.refl _ _).drew.trans hW); go_simp <;> with_reducible rfl)
          try simp only [Act.put, List.setIfInBounds_toArray, List.set_cons_zero, List.set_cons_succ, List.getElem_toArray, List.getElem_cons_zero, List.getElem_cons_succ]
          refine wpAnyR_take (i := 13) (v := ?_) (fun w => Keeps.refl Nil w) (fun a b c h k => h.trans k) rfl (by kernel_rfl) (by kernel_rfl) (by kernel_rfl) (by kernel_rfl) (fun _ _ _ h => h) (Or.inl ⟨by rfl, fun W hW => Or.inl ?_⟩) ?_
          rotate_left
          · (obtain ⟨u0, u1, u2, u3⟩ := HS2.out W ((Keeps.refl _ _).drew.trans hW); go_simp <;> with_reducible rfl)
          try simp only [Act.put, List.setIfInBounds_toArray, List.set_cons_zero, List.set_cons_succ, List.getElem_toArray, List.getElem_cons_zero, List.getElem_cons_succ]
          refine wpAnyR_take (i := 14) (v := ?_) (fun w => Keeps.refl Nil w) (fun a b c h k => h.trans k) rfl (by kernel_rfl) (by kernel_rfl) (by kernel_rfl) (by kernel_rfl) (fun _ _ _ h => h) (Or.inl ⟨by rfl, fun W hW => Or.inl ?_⟩) ?_
          rotate_left
          · (obtain ⟨u0, u1, u2, u3⟩ := HS2.out W ((Keeps.refl _ _).drew.trans hW); go_simp <;> with_reducible rfl)
          try simp only [Act.put, List.setIfInBounds_toArray, List.set_cons_zero, List.set_cons_succ, List.getElem_toArray, List.getElem_cons_zero, List.getElem_cons_succ]
          refine wpAnyR_take (i := 15) (v := ?_) (fun w => Keeps.refl Nil w) (fun a b c h k => h.trans k) rfl (by kernel_rfl) (by kernel_rfl) (by kernel_rfl) (by kernel_rfl) (fun _ _ _ h => h) (Or.inl ⟨by rfl, fun W hW => Or.inl ?_⟩) ?_
          rotate_left
          · (obtain ⟨u0, u1, u2, u3⟩ := HS2.out W ((Keeps.refl _ _).drew.trans hW); go_simp <;> with_reducible rfl)
          try simp only [Act.put, List.setIfInBounds_toArray, List.set_cons_zero, List.set_cons_succ, List.getElem_toArray, List.getElem_cons_zero, List.getElem_cons_succ]
          refine wpAnyR_take (i := 16) (v := ?_) (fun w => Keeps.refl Nil w) (fun a b c h k => h.trans k) rfl (by kernel_rfl) (by kernel_rfl) (by kernel_rfl) (by kernel_rfl) (fun _ _ _ h => h) (Or.inl ⟨by rfl, fun W hW => Or.inl ?_⟩) ?_
          rotate_left
          · (obtain ⟨u0, u1, u2, u3⟩ := HS2.out W ((Keeps.refl _ _).drew.trans hW); go_simp <;> with_reducible rfl)
          try simp only [Act.put, List.setIfInBounds_toArray, List.set_cons_zero, List.set_cons_succ, List.getElem_toArray, List.getElem_cons_zero, List.getElem_cons_succ]
          refine wpAnyR_take (i := 17) (v := ?_) (fun w => Keeps.refl Nil w) (fun a b c h k => h.trans k) rfl (by kernel_rfl) (by kernel_rfl) (by kernel_rfl) (by kernel_rfl) (fun _ _ _ h => h) (Or.inl ⟨by rfl, fun W hW => Or.inl ?_⟩) ?_
          rotate_left
          · (obtain ⟨u0, u1, u2, u3⟩ := HS2.out W ((Keeps.refl _ _).drew.trans hW); go_simp <;> with_reducible rfl)
          try simp only [Act.put, List.setIfInBounds_toArray, List.set_cons_zero, List.set_cons_succ, List.getElem_toArray, List.getElem_cons_zero, List.getElem_cons_succ]
          refine wpAnyR_one (i := 18) (by kernel_rfl) rfl (fun X18 hX18 K hK => ?_)
          try simp only [Act.put, List.setIfInBounds_toArray, List.set_cons_zero, List.set_cons_succ, List.getElem_toArray, List.getElem_cons_zero, List.getElem_cons_succ]
          go_simp
          refine hK.out _ _ (fun e => absurd rfl e) ?_
          clear hK K
          try simp only [Act.put, List.setIfInBounds_toArray, List.set_cons_zero, List.set_cons_succ, List.getElem_toArray, List.getElem_cons_zero, List.getElem_cons_succ]
          refine wpAnyR_done (by kernel_rfl) (by kernel_rfl) ?_ _
          have K45 := hid (((Keeps.refl Nil w4).drew).trans hX18)
          have K5 := hid (K4.out.trans K45.out)
          have hms : x.ms.length ≤ 8 := (H0.out.ms HG.out (List.mem_of_getElem? HX.out)).1
          obtain ⟨y0, y1, y2, y3, y4, y5⟩ := six_block (K45.out.lies H14.out)
          have l14 := lt_of_block (K45.out.lies H14.out)
          obtain ⟨a0, a1, a2, a3⟩ := four_block (K45.out.lies HA4.out)
          have lA := lt_of_block (K45.out.lies HA4.out)
          obtain ⟨g, off, hp, _, hgl, _, d0, d1, d2, d3, d4, d5⟩ := (H0.out.rowA.keepN K5.out).atA HX.out
          rw [hp] at a1
          have HP := hid hp
          clear hp hX18
          have k6 : Keeps Nil X18 (X18.alloc (.cells #[.int .u8 x.lv, .string x.dom, .string x.own, .int .u16 x.vid, .int .u8 x.iv, .slice px x.ms.length cx] 37 (0, 0))) := (Keeps.refl _ _).alloc _
          have h16 := alloc_block X18 (.cells #[.int .u8 x.lv, .string x.dom, .string x.own, .int .u16 x.vid, .int .u8 x.iv, .slice px x.ms.length cx] 37 (0, 0))
          go_upto_region 16 with (fail)
          generalize (X18.alloc (.cells #[.int .u8 x.lv, .string x.dom, .string x.own, .int .u16 x.vid, .int .u8 x.iv, .slice px x.ms.length cx] 37 (0, 0))) = w6 at *
          generalize X18.heap.size = b16 at *
          have K56 := hid (K45.out.trans k6)
          have K6 := hid (K4.out.trans K56.out)
          have H16 := hid h16
          clear a0 a1 a2 a3 lA d0 d1 d2 d3 d4 d5 hgl y0 y1 y2 y3 y4 y5 l14 k6 h16
          obtain ⟨y0, y1, y2, y3, y4, y5⟩ := six_block (K56.out.lies H14.out)
          have l14 := lt_of_block (K56.out.lies H14.out)
          obtain ⟨z0, z1, z2, z3, z4, z5⟩ := six_block H16.out
          have l16 := lt_of_block H16.out
          go_upto_region 18 with (fail)
          clear y0 y1 y2 y3 y4 y5 l14 z0 z1 z2 z3 z4 z5 l16
          go_wp2_with fail
          go_loopw [17] (fun s17 wr => ∃ j : Nat, j ≤ x.ms.length ∧ s17 = .int .i64 j ∧ Hid (Keeps Nil w6 wr)) (fun s17 _ => x.ms.length - (intOf s17).toNat)
          case atStart => exact ⟨0, Nat.zero_le _, rfl, hid (Keeps.refl _ _)⟩
          case round =>
            obtain ⟨j, hj, rfl, HR⟩ := hrel
            have KR := hid (K56.out.trans HR.out)
            obtain ⟨y0, y1, y2, y3, y4, y5⟩ := six_block (KR.out.lies H14.out)
            have l14 := lt_of_block (KR.out.lies H14.out)
            obtain ⟨z0, z1, z2, z3, z4, z5⟩ := six_block (HR.out.lies H16.out)
            have l16 := lt_of_block (HR.out.lies H16.out)
            by_cases hlt : j < x.ms.length
            · obtain ⟨u, hu⟩ : ∃ u, x.ms[j]? = some u := ⟨_, List.getElem?_eq_getElem hlt⟩
              have n3 := (WV.of_own HO3.out).2.1
              have nd := (H0.out.numsW _ (List.mem_of_getElem? HX.out)).2.1
              obtain ⟨gu, ou, hpu, _, hgu, _, e0⟩ := ((WV.of_own HO3.out).keepN (KW34.out.trans KR.out)).atU hu
              obtain ⟨gv, ov, hpv', _, hgv, _, e1⟩ := ((H0.out.numsW _ (List.mem_of_getElem? HX.out)).keepN (K4.out.trans KR.out)).atU hu
              simp only at hpv' nd
              rw [hpu] at y5
              rw [hpv'] at z5
              have HU := hid hu
              have HPU := hid hpu
              have HPV := hid hpv'
              clear hu hpu hpv'
              go_wp2_with fail
              go_quiet (fail)
              go_wp2_with fail
              go_roundw
              case rel => exact ⟨j + 1, by omega, by go_num, hid (HR.out.trans (Keeps.drewN _ _))⟩
              case measure => simp only [intOf]; omega
            · obtain rfl : j = x.ms.length := by omega
              go_wp2_with fail
              go_ret
              exact ⟨rfl, K4.out.trans KR.out⟩
end Go.Proofs.Ytbgijlfdgfhceaa
