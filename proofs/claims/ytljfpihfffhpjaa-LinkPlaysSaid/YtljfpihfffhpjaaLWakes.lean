/-
  A link that is known (wakes); no link. No condition.
-/
import Derived.Test.YtljfpihfffhpjaaLink3
namespace Go.Proofs.Ytljfpihfffhpjaa
open Go.RowKit Go.Conc
set_option linter.unusedVariables false

theorem own_le {x c0 c1 n : Nat} (h : n ≤ x) (h0 : n ≤ c0) (h1 : n ≤ c1) : ∀ g, Own x c0 c1 g → n ≤ g := by
  rintro g (rfl | rfl | rfl) <;> assumption

set_option maxRecDepth 4000 in
set_option maxHeartbeats 3200000 in
theorem wakes_any (w : World) : Calls Try.prog 6 #[] w fun e w' => e = .returned (.bool true) ∧ Keeps Nil w w' := by
  go_enter Try.func6, Try.ntmps6
  go_wp2_with fail
  refine (new_any _).mono ?_; rintro e w1 ⟨x, q0, c0, q1, c1, rfl, i1, hx, hc0, hc1, k1⟩
  have HO := hid (own_le hx hc0 hc1)
  clear hx hc0 hc1
  go_wp2_with fail
  refine (send0_down _ _ _ _ _ _ _ _ _ _ _ _ _ i1 _ (by decide) rfl).mono ?_; rintro e w2 ⟨rfl, k2⟩
  have i2 := i1.keepN k2
  go_wp2_with fail
  refine (up_any _ _ _ _ _ _ _ _ _ _ _ _ _ i2).mono ?_; rintro e w3 ⟨rfl, i3, k3⟩
  go_wp2_with fail
  refine (send0_room _ _ _ _ _ _ _ _ _ _ _ _ _ i3 _ (by decide) rfl (by simp)).mono ?_; rintro e w4 ⟨rfl, i4, k4⟩
  go_wp2_with fail
  refine (send0_room _ _ _ _ _ _ _ _ _ _ _ _ _ i4 _ (by decide) rfl (by simp)).mono ?_; rintro e w5 ⟨rfl, i5, k5⟩
  go_wp2_with fail
  refine (come1_none _ _ _ _ _ _ _ _ _ _ _ _ _ i5 rfl).mono ?_; rintro e w6 ⟨rfl, k6⟩
  have i6 := i5.keepN k6
  go_wp2_with fail
  refine (come0_some _ _ _ _ _ _ _ _ _ _ _ _ _ i6 _ _ rfl).mono ?_; rintro e w7 ⟨rfl, i7, k7⟩
  go_wp2_with fail
  refine (down_any _ _ _ _ _ _ _ _ _ _ _ _ _ i7 (by simp) (by simp) (by omega) (by omega) (by omega) (by omega)).mono ?_; rintro e w8 ⟨rfl, i8, k8⟩
  go_wp2_with fail
  refine (come0_none _ _ _ _ _ _ _ _ _ _ _ _ _ i8 rfl).mono ?_; rintro e w9 ⟨rfl, k9⟩
  have i9 := i8.keepN k9
  go_wp2_with fail
  refine (lost0 _ _ _ _ _ _ _ _ _ _ _ _ _ i9).mono ?_; rintro e w10 ⟨rfl, k10⟩
  have i10 := i9.keepN k10
  go_wp2_with fail
  refine (isup_any _ _ _ _ _ _ _ _ _ _ _ _ _ i10).mono ?_; rintro e w11 ⟨rfl, rfl⟩
  go_wp2_with fail
  go_ret
  exact ⟨rfl, (((((((((k1.thenNil k2).thenOwn k3 HO.out).thenOwn k4 HO.out).thenOwn k5 HO.out).thenNil k6).thenOwn k7 HO.out).thenOwn k8 HO.out).thenNil k9).thenNil k10)⟩

set_option maxRecDepth 4000 in
set_option maxHeartbeats 3200000 in
theorem linkNil_any (e : Int) (s : ByteArray) (hs : s.size ≤ maxLen) (w : World) : Calls Try.prog 5 #[.int .i64 e, .string s] w fun e w' => e = .returned (.bool true) ∧ Keeps Nil w w' := by
  by_cases h : 2000 < s.size
  · have hb : decide (2000 < (s.size : Int)) = true := by simp; omega
    go_enter Try.func5, Try.ntmps5
    go_wp2_with (go_at_call 6; refine (wakes_any _).mono ?_; rintro e w1 ⟨rfl, k1⟩)
    go_ret
    exact ⟨rfl, k1⟩
  · have hb : decide (2000 < (s.size : Int)) = false := by simp; omega
    go_enter Try.func5, Try.ntmps5
    go_wp2_with (first | (go_at_call 6; refine (wakes_any _).mono ?_; rintro e w1 ⟨rfl, k1⟩) | go_in)
    go_ret
    exact ⟨rfl, by repeat' (first | exact Keeps.refl _ _ | refine Keeps.drew ?_ | refine Keeps.alloc ?_ _ | refine Keeps.setCell ?_ (fun h => absurd h (by simp)) _ | refine Keeps.thenNil ?_ k1)⟩
end Go.Proofs.Ytljfpihfffhpjaa
