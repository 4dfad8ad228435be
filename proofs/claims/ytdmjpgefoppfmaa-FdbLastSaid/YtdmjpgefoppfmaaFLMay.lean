/-
  FdbLast's little functions: may an act teach; an act done. Conditions: as each lemma says.
-/
import Derived.Test.YtdmjpgefoppfmaaFLMaps
import Derived.Deep.DeepCutAuto
import Derived.Deep.CutBlock
namespace Go.Proofs.Ytdmjpgefoppfmaa
open Go.RowKit
set_option linter.unusedVariables false

abbrev FAct.val (a : FAct) : Value := .agg #[Value.int IntKind.u8 a.d, Value.int IntKind.u16 a.q.v, Value.int IntKind.u8 a.q.a, Value.int IntKind.u8 a.q.b, Value.int IntKind.u8 a.q.c, Value.int IntKind.u8 a.q.d, Value.int IntKind.u8 a.q.e, Value.int IntKind.u8 a.q.f, Value.int IntKind.u8 a.port, Value.int IntKind.u8 a.ports]
set_option maxHeartbeats 2000000 in
theorem fmay_any (a : FAct) (ok : a.Ok) (w : World) : Calls Try.prog 37 #[a.val] w fun e w' => e = .returned (.bool a.mayB) ∧ Keeps Nil w w' := by
  have hz : (bits BinOp.and .u8 a.q.a 1 == 0) = decide (¬ a.q.a % 2 = 1) := by
    rw [and_zero _ ok.2.1.2.1.1 ok.2.1.2.1.2, and_one _ ok.2.1.2.1.1 ok.2.1.2.1.2]; simp
  go_enter Try.func37, Try.ntmps37
  go_upto_region 1 with (fail)
  have kz : Keeps Nil w (w.alloc (.cells #[Value.int IntKind.u8 a.d, Value.int IntKind.u16 a.q.v, Value.int IntKind.u8 a.q.a, Value.int IntKind.u8 a.q.b, Value.int IntKind.u8 a.q.c, Value.int IntKind.u8 a.q.d, Value.int IntKind.u8 a.q.e, Value.int IntKind.u8 a.q.f, Value.int IntKind.u8 a.port, Value.int IntKind.u8 a.ports] 34 (0, 0))) := (Keeps.refl _ _).alloc _
  have hb := alloc_block w (.cells #[Value.int IntKind.u8 a.d, Value.int IntKind.u16 a.q.v, Value.int IntKind.u8 a.q.a, Value.int IntKind.u8 a.q.b, Value.int IntKind.u8 a.q.c, Value.int IntKind.u8 a.q.d, Value.int IntKind.u8 a.q.e, Value.int IntKind.u8 a.q.f, Value.int IntKind.u8 a.port, Value.int IntKind.u8 a.ports] 34 (0, 0))
  generalize (w.alloc (.cells #[Value.int IntKind.u8 a.d, Value.int IntKind.u16 a.q.v, Value.int IntKind.u8 a.q.a, Value.int IntKind.u8 a.q.b, Value.int IntKind.u8 a.q.c, Value.int IntKind.u8 a.q.d, Value.int IntKind.u8 a.q.e, Value.int IntKind.u8 a.q.f, Value.int IntKind.u8 a.port, Value.int IntKind.u8 a.ports] 34 (0, 0))) = wz at *
  generalize w.heap.size = bA at *
  obtain ⟨t0, t1, t2, t3, t4, t5, t6, t7, t8, t9⟩ := ten_of hb
  clear hb ok
  by_cases h1 : 3 < a.d
  · by_cases h2 : a.port < 8
    · by_cases h3 : 1 ≤ a.q.v
      · by_cases h4 : a.q.v ≤ 4094
        · go_wp2
          go_ret
          exact ⟨by simp [FAct.mayB, h1, h2, h3, h4, hz], kz⟩
        · go_wp2
          go_ret
          exact ⟨by simp [FAct.mayB, h1, h2, h3, h4]; try omega, kz⟩
      · go_wp2
        go_ret
        exact ⟨by simp [FAct.mayB, h1, h2, h3]; try omega, kz⟩
    · go_wp2
      go_ret
      exact ⟨by simp [FAct.mayB, h1, h2]; try omega, kz⟩
  · go_wp2
    go_ret
    exact ⟨by simp [FAct.mayB, h1]; try omega, kz⟩

theorem After.past {w w1 w' : World} {B t mb : Nat} {p : Option Addr} {τ : Tb} (h : After w1 w' B t mb p τ) (hs : w.heap.size ≤ w1.heap.size) : After w w' B t mb p τ := by
  obtain ⟨p', n', c', h1, h2⟩ := h
  exact ⟨p', n', c', h1, fun y hy => (h2 y hy).imp id (fun e => Nat.le_trans hs e)⟩
theorem does0 {τ : Tb} {a : FAct} (h : a.d = 0) : τ.does a = τ.tick := by unfold Tb.does; rw [if_pos h]
theorem does1 {τ : Tb} {a : FAct} (h : a.d = 1) : τ.does a = τ.flush a.ports := by unfold Tb.does; rw [if_neg (by omega), if_pos h]
theorem does2 {τ : Tb} {a : FAct} (h : a.d = 2) : τ.does a = (τ.set a.q a.ports).1 := by unfold Tb.does; rw [if_neg (by omega), if_neg (by omega), if_pos h]
theorem does3 {τ : Tb} {a : FAct} (h : a.d = 3) : τ.does a = (τ.unset a.q).1 := by unfold Tb.does; rw [if_neg (by omega), if_neg (by omega), if_neg (by omega), if_pos h]
theorem does4 {τ : Tb} {a : FAct} (h : 4 ≤ a.d) : τ.does a = τ.learn a.q a.port := by unfold Tb.does; rw [if_neg (by omega), if_neg (by omega), if_neg (by omega), if_neg (by omega)]
set_option maxHeartbeats 4000000 in
theorem does_any {B t mb n c k : Nat} {p : Option Addr} {τ : Tb} (a : FAct) (ok : a.Ok) (w : World) (h : TbIs w B t mb p n c τ) (g : τ.Good k) (hB : B ≤ w.heap.size) (hk : k ≤ 300) :
    Calls Try.prog 40 #[.pointer (some ⟨t, 0, Option.none⟩), a.val] w fun e w' => e = .returned (.tuple #[]) ∧ After w w' B t mb p (τ.does a) ∧ Keeps (TOwn t mb p) w w' := by
  have H := hid h
  have HG := hid g
  have HOK := hid ok
  have HSZ := hid hB
  clear h g ok hB
  go_enter Try.func40, Try.ntmps40
  go_upto_region 1 with (fail)
  have kz : Keeps Nil w (w.alloc (.cells #[Value.int IntKind.u8 a.d, Value.int IntKind.u16 a.q.v, Value.int IntKind.u8 a.q.a, Value.int IntKind.u8 a.q.b, Value.int IntKind.u8 a.q.c, Value.int IntKind.u8 a.q.d, Value.int IntKind.u8 a.q.e, Value.int IntKind.u8 a.q.f, Value.int IntKind.u8 a.port, Value.int IntKind.u8 a.ports] 34 (0, 0))) := (Keeps.refl _ _).alloc _
  have hsz := Nat.le_trans HSZ.out kz.size
  have hgr := kz.size
  have hb := alloc_block w (.cells #[Value.int IntKind.u8 a.d, Value.int IntKind.u16 a.q.v, Value.int IntKind.u8 a.q.a, Value.int IntKind.u8 a.q.b, Value.int IntKind.u8 a.q.c, Value.int IntKind.u8 a.q.d, Value.int IntKind.u8 a.q.e, Value.int IntKind.u8 a.q.f, Value.int IntKind.u8 a.port, Value.int IntKind.u8 a.ports] 34 (0, 0))
  generalize (w.alloc (.cells #[Value.int IntKind.u8 a.d, Value.int IntKind.u16 a.q.v, Value.int IntKind.u8 a.q.a, Value.int IntKind.u8 a.q.b, Value.int IntKind.u8 a.q.c, Value.int IntKind.u8 a.q.d, Value.int IntKind.u8 a.q.e, Value.int IntKind.u8 a.q.f, Value.int IntKind.u8 a.port, Value.int IntKind.u8 a.ports] 34 (0, 0))) = wz at *
  generalize w.heap.size = bA at *
  obtain ⟨t0, t1, t2, t3, t4, t5, t6, t7, t8, t9⟩ := ten_of hb
  have H2 := hid (H.out.keepN kz)
  clear hb
  by_cases d0 : a.d = 0
  · have hd := @does0 τ a d0
    go_wp2_with fail
    refine (p_tick H2.out HG.out hk).mono ?_; rintro ee w2 ⟨rfl, hA, k2⟩
    have hA := hid (hA.past kz.size)
    go_wp2_with fail
    go_returns
    exact ⟨rfl, by rw [hd]; exact hA.out, kz.ofNil.trans k2⟩
  by_cases d1 : a.d = 1
  · have hd := @does1 τ a d1
    go_wp2_with fail
    refine (p_flush H2.out HG.out a.ports HOK.out.2.2.2).mono ?_; rintro ee w2 ⟨rfl, hA, k2⟩
    have hA := hid (hA.past kz.size)
    go_wp2_with fail
    go_returns
    exact ⟨rfl, by rw [hd]; exact hA.out, kz.ofNil.trans k2⟩
  by_cases d2 : a.d = 2
  · have hd := @does2 τ a d2
    go_wp2_with fail
    refine (p_set H2.out HG.out a.q HOK.out.2.1 a.ports HOK.out.2.2.2).mono ?_; rintro ee w2 ⟨rfl, hA, k2⟩
    have hA := hid (hA.past kz.size)
    go_wp2_with fail
    go_returns
    exact ⟨rfl, by rw [hd]; exact hA.out, kz.ofNil.trans k2⟩
  by_cases d3 : a.d = 3
  · have hd := @does3 τ a d3
    go_wp2_with fail
    refine (p_unset H2.out HG.out a.q HOK.out.2.1).mono ?_; rintro ee w2 ⟨rfl, hA, k2⟩
    have hA := hid (hA.past kz.size)
    go_wp2_with fail
    go_returns
    exact ⟨rfl, by rw [hd]; exact hA.out, kz.ofNil.trans k2⟩
  have h0 : 0 ≤ a.d := HOK.out.1
  have h4 : 4 ≤ a.d := by omega
  have hd := @does4 τ a h4
  go_wp2_with fail
  refine (p_learn H2.out HG.out hsz a.q HOK.out.2.1 a.port).mono ?_; rintro ee w2 ⟨rfl, hA, k2⟩
  have hA := hid (hA.past kz.size)
  go_wp2_with fail
  go_returns
  exact ⟨rfl, by rw [hd]; exact hA.out, kz.ofNil.trans k2⟩
end Go.Proofs.Ytdmjpgefoppfmaa
