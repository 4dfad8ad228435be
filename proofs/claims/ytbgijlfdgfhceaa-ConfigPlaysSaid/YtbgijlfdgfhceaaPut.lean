/-
  Layer 10: Put: whether it is refused. No condition.
-/
import Derived.Test.YtbgijlfdgfhceaaPut0
namespace Go.Proofs.Ytbgijlfdgfhceaa
open Go.RowKit
set_option linter.unusedVariables false
set_option linter.unusedSimpArgs false

/-- May these be names? -/
def nameB (dom own : ByteArray) : Bool := !decide (own = ⟨#[]⟩) && plainS own && plainS dom && decide (dom.size + own.size ≤ 44)

theorem Byt.keepB {w w' : World} {B n : Nat} {v : Value} (h : Byt w B v n) (k : Keeps Nil w w') : Byt w' B v n := h.keep k (fun _ _ e => e)

theorem str_eq (a b : ByteArray) : (a.toList == b.toList) = decide (a = b) := by
  rw [ByteArray.toList_eq, ByteArray.toList_eq]
  by_cases h : a = b
  · simp [h]
  · have : ¬ a.data = b.data := fun e => h (ByteArray.ext e)
    simp [h, this]
theorem str_some {s : ByteArray} (h : ¬ s = ⟨#[]⟩) : s.toList.isEmpty = false := by
  have h1 := str_eq s ⟨#[]⟩
  simp [h] at h1
  rw [ByteArray.toList_eq] at h1 ⊢
  simpa using h1
set_option maxHeartbeats 4000000 in
theorem put_names (dom own : ByteArray) (w : World) : Calls Try.prog 45 #[.string dom, .string own] w fun e w' => (∃ s er, e = .returned (.tuple #[.string s, .int .i64 er]) ∧ ((er != 0) = !nameB dom own)) ∧ Keeps Nil w w' := by
  have PO := fun W => plain_any own W
  have PD := fun W => plain_any dom W
  by_cases h0 : own = ⟨#[]⟩
  · have HN : nameB dom own = false := by simp [nameB, h0]
    have HN := hid HN
    subst h0
    go_enter Try.func45, Try.ntmps45
    go_wp2_with fail
    go_returns
    exact ⟨⟨_, _, rfl, by rw [HN.out]; rfl⟩, Keeps.refl _ _⟩
  have e0 : own.toList.isEmpty = false := str_some h0
  have e1 : ¬ own.toList = [] := by simpa using e0
  cases h1 : plainS own with
  | false =>
    have HN : nameB dom own = false := by simp [nameB, h1]
    have HN := hid HN
    simp only [h1] at PO
    go_enter Try.func45, Try.ntmps45
    go_wp2_with fail
    refine (PO _).mono ?_; rintro e w1 ⟨rfl, k1⟩
    go_wp2_with fail
    go_returns
    exact ⟨⟨_, _, rfl, by rw [HN.out]; rfl⟩, k1⟩
  | true =>
  simp only [h1] at PO
  cases h2 : plainS dom with
  | false =>
    have HN : nameB dom own = false := by simp [nameB, h2]
    have HN := hid HN
    simp only [h2] at PD
    go_enter Try.func45, Try.ntmps45
    go_wp2_with fail
    refine (PO _).mono ?_; rintro e w1 ⟨rfl, k1⟩
    go_wp2_with fail
    refine (PD _).mono ?_; rintro e w2 ⟨rfl, k2⟩
    go_wp2_with fail
    go_returns
    exact ⟨⟨_, _, rfl, by rw [HN.out]; rfl⟩, k1.trans k2⟩
  | true =>
  simp only [h2] at PD
  by_cases h3 : 44 < dom.size
  · have HN : nameB dom own = false := by simp [nameB]; omega
    have HN := hid HN
    have i3 : (44 : Int) < (dom.size : Int) := by omega
    go_enter Try.func45, Try.ntmps45
    go_wp2_with fail
    refine (PO _).mono ?_; rintro e w1 ⟨rfl, k1⟩
    go_wp2_with fail
    refine (PD _).mono ?_; rintro e w2 ⟨rfl, k2⟩
    go_wp2_with fail
    go_returns
    exact ⟨⟨_, _, rfl, by rw [HN.out]; rfl⟩, k1.trans k2⟩
  have i3 : ¬ (44 : Int) < (dom.size : Int) := by omega
  have e3 : IntKind.i64.wrap (44 - (dom.size : Int)) = 44 - (dom.size : Int) := by rw [IntKind.wrap_i64]; omega
  by_cases h4 : 44 < dom.size + own.size
  · have HN : nameB dom own = false := by simp [nameB]; omega
    have HN := hid HN
    have i4 : (44 : Int) - (dom.size : Int) < (own.size : Int) := by omega
    go_enter Try.func45, Try.ntmps45
    go_wp2_with fail
    refine (PO _).mono ?_; rintro e w1 ⟨rfl, k1⟩
    go_wp2_with fail
    refine (PD _).mono ?_; rintro e w2 ⟨rfl, k2⟩
    go_wp2_with fail
    go_returns
    exact ⟨⟨_, _, rfl, by rw [HN.out]; rfl⟩, k1.trans k2⟩
  have i4 : ¬ (44 : Int) - (dom.size : Int) < (own.size : Int) := by omega
  have HN : nameB dom own = true := by simp [nameB, h0, h1, h2]; omega
  have HN := hid HN
  by_cases h5 : dom = ⟨#[]⟩
  · subst h5
    have hsz : own.size ≤ 44 := by omega
    go_enter Try.func45, Try.ntmps45
    go_wp2_with fail
    refine (PO _).mono ?_; rintro e w1 ⟨rfl, k1⟩
    go_wp2_with fail
    refine (PD _).mono ?_; rintro e w2 ⟨rfl, k2⟩
    go_wp2_with fail
    have by0 : Byt (w2.alloc (.cells #[.int .u8 1] 5 (0, 0))) w2.heap.size (.slice (some ⟨w2.heap.size, 0, Option.none⟩) 1 1) 1 := ⟨[1], rfl, .inr ⟨_, 1, #[.int .u8 1], rfl, Nat.le_refl _, alloc_block _ _, Nat.le_refl _, by unfold maxLen; omega, rfl, rfl⟩⟩
    refine (put_any w2.heap.size 1 _ 2 own _ by0 (by omega) (by simp)).mono ?_
    rintro e w3 ⟨v3, rfl, by3, hnn, k3⟩
    have hB3 : w2.heap.size ≤ w3.heap.size := by have := k3.size; simp at this; omega
    obtain ⟨N, hN⟩ : ∃ N, 1 + 2 + own.size = N := ⟨_, rfl⟩
    rw [hN] at by3
    have hN48 : N ≤ 48 := by omega
    clear by0
    have eN : IntKind.i64.wrap (48 - (N : Int)) = ((48 - N : Nat) : Int) := by rw [IntKind.wrap_i64]; omega
    obtain ⟨v4, w4, hr, by4, hg4⟩ := run_append_zeros_own w3 w2.heap.size N (48 - N) v3 hnn by3 (by omega) hB3
    obtain ⟨st, hst⟩ := by4.to_string
    have hst := hst 9 Try.underlying9
    have k4 : Keeps Nil w w4 := ((((k1.trans k2).alloc (.cells #[.int .u8 1] 5 (0, 0))).trans' k3 (fun x hx e => by have h1 := k1.size; have h2 := k2.size; omega)).grown hg4 (fun g hg hlt => by
      have h1 := k1.size; have h2 := k2.size
      obtain ⟨zs, h3⟩ := by3
      rcases own_shape_ge h3 with e | ⟨b, e, hb⟩
      · rw [e] at hg; cases hg
      · rw [e] at hg; injection hg with hg; omega))
    obtain ⟨p3, c3, rfl⟩ := by3.shape
    have HR := hid hr
    have K4 := hid k4
    clear hr k4 k1 k2 k3 hg4 by4 by3
    go_wp2_with (at_builtin; refine Lib.wpList_append_run _ rfl _ _ _ _ rfl _ _ rfl rfl _ _ HR.out ?_)
    go_wp2_with fail
    go_returns
    exact ⟨⟨_, _, rfl, by rw [HN.out]; rfl⟩, K4.out⟩
  · have e5 : dom.toList.isEmpty = false := str_some h5
    have e6 : ¬ dom.toList = [] := by simpa using e5
    go_enter Try.func45, Try.ntmps45
    go_wp2_with fail
    refine (PO _).mono ?_; rintro e w1 ⟨rfl, k1⟩
    go_wp2_with fail
    refine (PD _).mono ?_; rintro e w2 ⟨rfl, k2⟩
    go_wp2_with fail
    refine (put_any w2.heap.size 0 _ 4 dom _ ⟨[], World.ownsRow_nil _ _ _ _⟩ (by omega) (by simp)).mono ?_
    rintro e w0 ⟨v0, rfl, by0, hn0, k0⟩
    have hB0 : w2.heap.size ≤ w0.heap.size := by have := k0.size; simp at this; omega
    have HK0 := hid k0
    clear k0
    go_wp2_with fail
    refine (put_any w2.heap.size (0 + 2 + dom.size) _ 2 own _ by0 (by omega) hB0).mono ?_
    rintro e w3 ⟨v3, rfl, by3, hnn, k3⟩
    have k3 := HK0.out.trans k3
    have hB3 : w2.heap.size ≤ w3.heap.size := by have := k3.size; simp at this; omega
    obtain ⟨N, hN⟩ : ∃ N, 0 + 2 + dom.size + 2 + own.size = N := ⟨_, rfl⟩
    rw [hN] at by3
    have hN48 : N ≤ 48 := by omega
    clear by0
    have eN : IntKind.i64.wrap (48 - (N : Int)) = ((48 - N : Nat) : Int) := by rw [IntKind.wrap_i64]; omega
    obtain ⟨v4, w4, hr, by4, hg4⟩ := run_append_zeros_own w3 w2.heap.size N (48 - N) v3 hnn by3 (by omega) hB3
    obtain ⟨st, hst⟩ := by4.to_string
    have hst := hst 9 Try.underlying9
    have k4 : Keeps Nil w w4 := ((((k1.trans k2).alloc (.cells #[.int .u8 1] 5 (0, 0))).trans' k3 (fun x hx e => by have h1 := k1.size; have h2 := k2.size; omega)).grown hg4 (fun g hg hlt => by
      have h1 := k1.size; have h2 := k2.size
      obtain ⟨zs, h3⟩ := by3
      rcases own_shape_ge h3 with e | ⟨b, e, hb⟩
      · rw [e] at hg; cases hg
      · rw [e] at hg; injection hg with hg; omega))
    obtain ⟨p3, c3, rfl⟩ := by3.shape
    have HR := hid hr
    have K4 := hid k4
    clear hr k4 k1 k2 k3 hg4 by4 by3
    go_wp2_with (at_builtin; refine Lib.wpList_append_run _ rfl _ _ _ _ rfl _ _ rfl rfl _ _ HR.out ?_)
    go_wp2_with fail
    go_returns
    exact ⟨⟨_, _, rfl, by rw [HN.out]; rfl⟩, K4.out⟩
end Go.Proofs.Ytbgijlfdgfhceaa
