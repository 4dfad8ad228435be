/-
  Layer 16: the known table (wakes); Great. No condition.
-/
import Derived.Test.YtbgijlfdgfhceaaCtOk
import Derived.Test.YtbgijlfdgfhceaaEq16
namespace Go.Proofs.Ytbgijlfdgfhceaa
open Go.RowKit
set_option linter.unusedVariables false
set_option linter.unusedSimpArgs false
set_option maxRecDepth 8000

abbrev K0 : CT := ⟨2, [], [], []⟩
abbrev KA : As := ⟨3, ⟨#[]⟩, ⟨#[97]⟩, 1, 4, [1, 2], Option.none, 0⟩
abbrev K1 : CT := ⟨2, [KA], [], []⟩
abbrev KM : Me := ⟨0, 1, 0, true⟩
abbrev K2 : CT := ⟨2, [KA], [KM], []⟩
abbrev K3 : CT := ⟨2, [KA], [KM], [(⟨0, 1⟩, 4)]⟩
theorem ka_may : mayA KA = true := by decide +kernel
theorem k01 (p : Option Addr) (c : Nat) : K0.addAsc { KA with p := p, c := c } = (K1, 0, 0) := by
  unfold CT.addAsc
  rw [show mayA { KA with p := p, c := c } = true from ka_may]
  rfl
theorem k12 : K1.addMep KM = (K2, 0) := by kernel_rfl
theorem k22 : K2.addMip ⟨0, 1, 3⟩ = (K2, 9) := by kernel_rfl
theorem k23 : K2.addMip ⟨0, 1, 4⟩ = (K3, 0) := by kernel_rfl
theorem kl0 : K3.lset 0 1 false K3.E = 0 := by kernel_rfl
theorem kl1 : K3.lset 0 1 true K3.E = 8 := by kernel_rfl
theorem kmi : K3.mid 0 1 = 4 := by kernel_rfl
theorem ok0 : K0.Ok 0 := CT.Ok.start (by decide) (by decide)
theorem ok1 : K1.Ok 1 := by have := ok0.addAsc (x := { KA with p := Option.none, c := 0 }) ⟨by decide, by decide⟩; rwa [k01] at this
theorem ok2 : K2.Ok 2 := by have := ok1.addMep (m := KM) ⟨by decide, by decide⟩; rwa [k12] at this
theorem ok3 : K3.Ok 3 := by have := ok2.addMip (m := ⟨0, 1, 4⟩) (by decide); rwa [k23] at this
/-- A table all of whose blocks were made since w. -/
def OwnT (w W : World) (t : Nat) (τ : CT) : Prop := Tbl W (fun g => w.heap.size ≤ g ∧ g < W.heap.size) t τ ∧ Keeps Nil w W
theorem OwnT.keep {w W W' : World} {t : Nat} {τ : CT} (h : OwnT w W t τ) (k : Keeps Nil W W') : OwnT w W' t τ :=
  ⟨(h.1.keepN k).mono (fun g hg => ⟨hg.1, Nat.lt_of_lt_of_le hg.2 k.size⟩) (fun g hg => hg.2), h.2.trans k⟩
theorem OwnT.step {w W W' : World} {t : Nat} {τ τ' : CT} (h : OwnT w W t τ) (h2 : After W W' (fun g => w.heap.size ≤ g ∧ g < W.heap.size) t τ') (k : Keeps (fun g => w.heap.size ≤ g ∧ g < W.heap.size) W W') : OwnT w W' t τ' :=
  ⟨h2.mono (fun g hg => hg.elim (fun h => ⟨h.1, Nat.lt_of_lt_of_le h.2 k.size⟩) (fun e => ⟨Nat.le_trans h.2.size e.1, e.2⟩)) (fun g hg => hg.2), h.2.thenOwn k (fun g e => e.1)⟩
theorem OwnT.made {w W : World} {t : Nat} {τ : CT} (h : Tbl W (fun g => w.heap.size ≤ g ∧ g < W.heap.size) t τ) (k : Keeps Nil w W) : OwnT w W t τ := ⟨h, k⟩

set_option maxHeartbeats 8000000 in
theorem wakes_any (w : World) : Calls Try.prog 7 #[] w fun e w' => e = .returned (.bool true) ∧ Keeps Nil w w' := by
  go_enter Try.func7, Try.ntmps7
  go_wp2_with fail
  refine (p_new 2 (by decide) (by decide) _).mono ?_; rintro e w1 ⟨⟨t, rfl, T1⟩, k1⟩
  have hms : MsV (w1.alloc (.cells #[.int .u16 1, .int .u16 2] 23 (0, 0))) 0 { KA with p := some ⟨w1.heap.size, 0, Option.none⟩, c := 2 } :=
    ⟨rfl, Nat.le_refl _, fun _ => ⟨_, _, rfl, Nat.zero_le _, by simp, fun j u hu => by
      have hb := alloc_block w1 (.cells #[.int .u16 1, .int .u16 2] 23 (0, 0))
      simp only [World.cell?, Nat.zero_add]
      rw [hb]
      simpa [flatU, cellsU] using hu⟩⟩
  have T2 := hid ((OwnT.made T1 k1).keep (show Keeps Nil w1 (w1.alloc (.cells #[.int .u16 1, .int .u16 2] 23 (0, 0))) from (Keeps.refl _ _).alloc _))
  have MS := hid hms
  clear hms T1 k1
  go_wp2_with fail
  refine (p_addasc { KA with p := some ⟨w1.heap.size, 0, Option.none⟩, c := 2 } 0 T2.out.1 (ok0.good (by decide)) MS.out).mono ?_; rintro e w2 ⟨rfl, h2, k2⟩
  have T3 := T2.out.step h2 k2
  rw [k01] at T3 ⊢
  have T3 := hid T3
  clear h2 k2
  go_wp2_with fail
  refine (p_addmep KM ⟨by decide, by decide⟩ T3.out.1 (ok1.good (by decide))).mono ?_; rintro e w3 ⟨rfl, h3, k3⟩
  have T4 := T3.out.step h3 k3
  rw [k12] at T4 ⊢
  have T4 := hid T4
  clear h3 k3
  go_wp2_with fail
  refine (p_addmip ⟨0, 1, 3⟩ ⟨by decide, by decide, by decide⟩ T4.out.1 (ok2.good (by decide))).mono ?_; rintro e w4 ⟨rfl, h4, k4⟩
  have T5 := T4.out.step h4 k4
  rw [k22] at T5 ⊢
  have T5 := hid T5
  clear h4 k4
  go_wp2_with fail
  refine (p_addmip ⟨0, 1, 4⟩ ⟨by decide, by decide, by decide⟩ T5.out.1 (ok2.good (by decide))).mono ?_; rintro e w5 ⟨rfl, h5, k5⟩
  have T6 := T5.out.step h5 k5
  rw [k23] at T6 ⊢
  have T6 := hid T6
  clear h5 k5
  have PA := p_at 0 1 ⟨by decide, by decide⟩ T6.out.1 (ok3.good (by decide))
  rw [kl0, kl1, kmi] at PA
  have hq := eql56 0 8 4 0 8 4 true (by decide)
  go_wp2_with fail
  refine PA.mono ?_; rintro e w6 ⟨rfl, k6⟩
  have T7 := hid (T6.out.keep k6)
  clear k6
  have PM := p_meps T7.out.1 (ok3.good (by decide))
  go_wp2_with fail
  refine PM.mono ?_; rintro e w7 ⟨⟨p, c, rfl, own⟩, k7⟩
  have T8 := hid (T7.out.keep k7)
  clear k7 own
  go_wp2_with fail
  go_ret
  exact ⟨rfl, T8.out.2⟩
end Go.Proofs.Ytbgijlfdgfhceaa
