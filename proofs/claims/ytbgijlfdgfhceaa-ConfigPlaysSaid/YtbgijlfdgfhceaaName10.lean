/-
  Layer 10 in the document: names, and Put: whether it is refused. No condition.
-/
import Derived.Test.YtbgijlfdgfhceaaPut
import Derived.Deep.DeepCutAuto
namespace Go.Proofs.Ytbgijlfdgfhceaa
open Go.RowKit
set_option linter.unusedVariables false
set_option linter.unusedSimpArgs false
set_option maxRecDepth 8000

def nmB (s : ByteArray) (none : Bool) : Bool := plainS s && (none || decide (0 < s.size))
set_option maxHeartbeats 4000000 in
theorem name_any (s : ByteArray) (none : Bool) (w : World) (hs : s.size ≤ 9223372036854775807) : Calls Try.prog 53 #[.string s, .bool none] w fun e w' => e = .returned (.bool (nmB s none)) ∧ w = w' := by
  go_enter Try.func53, Try.ntmps53
  go_wp2_with fail
  go_loop [5] (fun i => ∃ k : Nat, k ≤ s.size ∧ i = .int .i64 k ∧ Hid (∀ (i : Nat) (hi : i < s.size), i < k → okb (s[i]'hi) = true)) (fun i => s.size - (intOf i).toNat)
  case atStart => exact ⟨0, Nat.zero_le _, rfl, hid (fun i _ h => absurd h (Nat.not_lt_zero _))⟩
  case round =>
    obtain ⟨k, hk, rfl, hall⟩ := hrel
    by_cases hlt : k < s.size
    · have HPL := hid (fun h : okb (s[k]'hlt) = false => plain_not hlt h)
      have HOK := hid (show okb (s[k]'hlt) = (decide (32 ≤ (s[k]'hlt).toNat) && decide ((s[k]'hlt).toNat ≤ 126)) from rfl)
      have HB := hid hall.out
      by_cases h1 : (s[k]'hlt).toNat < 32
      · have HN := hid (show nmB s none = false by unfold nmB; rw [HPL.out (by rw [HOK.out]; simp; omega)]; rfl)
        have i1 : ((s[k]'hlt).toNat : Int) < 32 := by omega
        go_wp2_with fail
        go_ret
        exact ⟨by rw [HN.out]; rfl, rfl⟩
      · by_cases h2 : 126 < (s[k]'hlt).toNat
        · have HN := hid (show nmB s none = false by unfold nmB; rw [HPL.out (by rw [HOK.out]; simp; omega)]; rfl)
          have i1 : ¬ ((s[k]'hlt).toNat : Int) < 32 := by omega
          have i2 : (126 : Int) < ((s[k]'hlt).toNat : Int) := by omega
          go_wp2_with fail
          go_ret
          exact ⟨by rw [HN.out]; rfl, rfl⟩
        · have i1 : ¬ ((s[k]'hlt).toNat : Int) < 32 := by omega
          have i2 : ¬ (126 : Int) < ((s[k]'hlt).toNat : Int) := by omega
          have HT := hid (show okb (s[k]'hlt) = true by rw [HOK.out]; simp; omega)
          go_wp2_with fail
          go_round
          case rel =>
            refine ⟨k + 1, by omega, by go_num, hid (fun i hi h => ?_)⟩
            by_cases e : i = k
            · subst e; exact HT.out
            · exact hall.out i hi (by omega)
          case measure => simp only [intOf]; omega
    · obtain rfl : k = s.size := by omega
      have HP := hid (show plainS s = true from plain_all (fun i hi => hall.out i hi hi))
      cases none with
      | true =>
        have HN := hid (show nmB s true = true by unfold nmB; rw [HP.out]; rfl)
        go_wp2_with fail
        go_ret
        exact ⟨by rw [HN.out]; rfl, rfl⟩
      | false =>
        have HN := hid (show nmB s false = decide (0 < s.size) by unfold nmB; rw [HP.out]; simp)
        go_wp2_with fail
        go_ret
        exact ⟨by rw [HN.out]; simp, rfl⟩
end Go.Proofs.Ytbgijlfdgfhceaa
