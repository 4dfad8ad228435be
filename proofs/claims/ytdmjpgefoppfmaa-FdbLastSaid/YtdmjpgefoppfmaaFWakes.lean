/-
  Layer 8: the known database (wakes); no database. No condition.
-/
import Derived.Test.YtdmjpgefoppfmaaList
namespace Go.Proofs.Ytdmjpgefoppfmaa
open Go.RowKit
set_option linter.unusedVariables false

theorem TbIs.not_own {w : World} {B t mb n c : Nat} {p : Option Addr} {τ : Tb} (h : TbIs w B t mb p n c τ) {k : Nat} {cs : Array Value} {T : TypeId} {f : Nat × Nat} (hk : w.heap[k]? = some (.cells cs T f)) (h1 : T ≠ 62) (h2 : T ≠ 64) : ¬ TOwn t mb p k := by
  rintro (e | e | e)
  · subst e
    have := h.1
    rw [hk] at this
    injection this with this
    injection this with _ this
    exact h1 this
  · subst e
    obtain ⟨es, cl, hb⟩ := h.2.2.raw
    rw [hk] at hb
    cases hb
  · exact h.2.1.ne_cells hk h2 e
theorem TbIs.own_ge {w : World} {B t mb n c : Nat} {p : Option Addr} {τ : Tb} (h : TbIs w B t mb p n c τ) (ht : B ≤ t) (hm : B ≤ mb) : ∀ g, TOwn t mb p g → B ≤ g := by
  rintro g (e | e | e)
  · omega
  · omega
  · obtain ⟨_, ⟨h1, _⟩ | ⟨y, h1, hb, _⟩⟩ := h.2.1
    · unfold InP at e; rw [h1] at e; cases e
    · unfold InP at e
      rw [h1] at e
      injection e with e
      injection e with e
      omega
abbrev q0 : Pl := ⟨1, 2, 0, 0, 0, 0, 1⟩
theorem q0ok : q0.Ok := by simp [Pl.Ok]
abbrev acells : Obj := .cells #[.int .u8 2, .int .u8 0, .int .u8 0, .int .u8 0, .int .u8 0, .int .u8 1] 25 (0, 0)

set_option maxHeartbeats 8000000 in
theorem wakes_any (w : World) : Calls Try.prog 6 #[] w fun e w' => e = .returned (.bool true) ∧ Keeps Nil w w' := by
  go_enter Try.func6, Try.ntmps6
  go_wp2_with fail
  refine (new_any w).mono ?_; rintro e w1 ⟨t, mb, rfl, T1, ht, hm, k1⟩
  have HTM := hid (And.intro ht hm)
  have T1 := hid T1
  clear ht hm
  go_upto_region 3 with (fail)
  have ka : Keeps Nil w1 (w1.alloc acells) := (Keeps.refl _ _).alloc _
  have ha := alloc_block w1 acells
  simp only [acells] at ka ha
  generalize (w1.alloc _) = w2 at *
  generalize w1.heap.size = ab at *
  have T2 := hid (T1.out.keepN ka)
  have K2 := hid (k1.trans ka)
  obtain ⟨x0, x1, x2, x3, x4, x5⟩ := six_of ha
  have A2 := hid ha
  clear ka ha k1 T1
  go_wp2_with fail
  refine (learn_room q0 q0ok 2 w.heap.size t mb _ _ _ _ w2 T2.out K2.out.size ⟨by decide, by decide, by decide, by decide⟩ rfl (by omega) (by decide)).mono ?_; rintro ee w3 ⟨rfl, ⟨p3, n3, c3, T3, _⟩, k3⟩
  have ha := (k3.block _ (lt_of_block A2.out) (T2.out.not_own A2.out (by decide) (by decide))).trans A2.out
  have K3 := hid (K2.out.thenOwn k3 (T2.out.own_ge HTM.out.1 HTM.out.2))
  have T3 := hid (T3)
  clear x0 x1 x2 x3 x4 x5
  obtain ⟨x0, x1, x2, x3, x4, x5⟩ := six_of ha
  have A3 := hid ha
  clear ha k3
  have hn3 : n3 ≤ 1000 := by have h1 := T3.out.2.1.1; simp at h1; omega
  go_wp2_with fail
  refine (learn_room q0 q0ok 3 w.heap.size t mb _ _ _ _ w3 T3.out K3.out.size ⟨by decide, by decide, by decide, by decide⟩ rfl hn3 (by decide)).mono ?_; rintro ee w4 ⟨rfl, ⟨p4, n4, c4, T4, _⟩, k4⟩
  have ha := (k4.block _ (lt_of_block A3.out) (T3.out.not_own A3.out (by decide) (by decide))).trans A3.out
  have K4 := hid (K3.out.thenOwn k4 (T3.out.own_ge HTM.out.1 HTM.out.2))
  have T4 := hid (T4)
  clear x0 x1 x2 x3 x4 x5
  obtain ⟨x0, x1, x2, x3, x4, x5⟩ := six_of ha
  have A4 := hid ha
  clear ha k4
  have hn4 : n4 ≤ 1000 := by have h1 := T4.out.2.1.1; simp at h1; omega
  go_wp2_with fail
  refine (look_some q0 q0ok w.heap.size t mb _ _ _ _ w4 T4.out rfl 0 ⟨q0, 3, 0⟩ (by decide) (by rfl) ⟨by decide, by decide⟩).mono ?_; rintro ee w5 ⟨rfl, k5⟩
  have ha := (k5.block _ (lt_of_block A4.out) (fun e => e)).trans A4.out
  have K5 := hid (K4.out.trans k5)
  have T5 := hid (T4.out.keepN k5)
  clear x0 x1 x2 x3 x4 x5
  obtain ⟨x0, x1, x2, x3, x4, x5⟩ := six_of ha
  have A5 := hid ha
  clear ha k5
  go_wp2_with fail
  refine (set_new q0 q0ok 5 w.heap.size t mb _ _ _ _ w5 T5.out ⟨by decide, by decide⟩ rfl ⟨by decide, by decide⟩ (by decide) hn4 (by decide)).mono ?_; rintro ee w6 ⟨rfl, ⟨n6, T6⟩, k6⟩
  have ha := (k6.block _ (lt_of_block A5.out) (T5.out.not_own A5.out (by decide) (by decide))).trans A5.out
  have K6 := hid (K5.out.thenOwn k6 (T5.out.own_ge HTM.out.1 HTM.out.2))
  have T6 := hid (T6)
  clear x0 x1 x2 x3 x4 x5
  obtain ⟨x0, x1, x2, x3, x4, x5⟩ := six_of ha
  have A6 := hid ha
  clear ha k6
  have hn6 : n6 ≤ 1000 := by have h1 := T6.out.2.1.1; simp at h1; omega
  go_wp2_with fail
  refine (look_static q0 q0ok 5 w.heap.size t mb _ _ _ _ w6 T6.out (by rfl)).mono ?_; rintro ee w7 ⟨rfl, k7⟩
  have ha := (k7.block _ (lt_of_block A6.out) (fun e => e)).trans A6.out
  have K7 := hid (K6.out.trans k7)
  have T7 := hid (T6.out.keepN k7)
  clear x0 x1 x2 x3 x4 x5
  obtain ⟨x0, x1, x2, x3, x4, x5⟩ := six_of ha
  have A7 := hid ha
  clear ha k7
  go_wp2_with fail
  refine (unset_some q0 q0ok w.heap.size t mb _ _ _ _ w7 T7.out ⟨by decide, by decide⟩ 5 (by rfl)).mono ?_; rintro ee w8 ⟨rfl, T8, k8⟩
  have ha := (k8.block _ (lt_of_block A7.out) (T7.out.not_own A7.out (by decide) (by decide))).trans A7.out
  have K8 := hid (K7.out.thenOwn k8 (T7.out.own_ge HTM.out.1 HTM.out.2))
  have T8 := hid (T8)
  clear x0 x1 x2 x3 x4 x5
  obtain ⟨x0, x1, x2, x3, x4, x5⟩ := six_of ha
  have A8 := hid ha
  clear ha k8
  go_wp2_with fail
  refine (look_none q0 q0ok w.heap.size t mb _ _ _ _ w8 T8.out (by rfl) (by decide)).mono ?_; rintro ee w9 ⟨rfl, k9⟩
  have ha := (k9.block _ (lt_of_block A8.out) (fun e => e)).trans A8.out
  have K9 := hid (K8.out.trans k9)
  have T9 := hid (T8.out.keepN k9)
  clear x0 x1 x2 x3 x4 x5
  obtain ⟨x0, x1, x2, x3, x4, x5⟩ := six_of ha
  have A9 := hid ha
  clear ha k9
  obtain rfl : n6 = 0 := by have h1 := T9.out.2.1.1; simp at h1; omega
  have hp8 : (2 : Int) ^ (3 : Int).toNat = 8 := by decide
  go_wp2_with fail
  refine (list_any w.heap.size t mb _ _ _ _ w9 T9.out (by omega)).mono ?_; rintro ee w10 ⟨⟨p', c', rfl, s10⟩, k10⟩
  go_wp2_with fail
  go_ret
  exact ⟨rfl, K9.out.trans k10⟩
end Go.Proofs.Ytdmjpgefoppfmaa
