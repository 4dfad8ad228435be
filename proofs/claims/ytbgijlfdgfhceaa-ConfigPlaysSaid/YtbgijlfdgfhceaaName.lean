/-
  Layer 10: names: plain, put, Put; may. No condition.
-/
import Derived.Test.YtbgijlfdgfhceaaMapP
import Derived.Laws.RangeAny
import Derived.LoopTactic
import Derived.WalkArith
namespace Go.Proofs.Ytbgijlfdgfhceaa
open Go.RowKit
set_option linter.unusedVariables false
set_option linter.unusedSimpArgs false

def okb (b : UInt8) : Bool := decide (32 ≤ b.toNat) && decide (b.toNat ≤ 126)
def plainS (s : ByteArray) : Bool := s.data.toList.all okb
theorem plain_not {s : ByteArray} {i : Nat} (hi : i < s.size) (h : okb (s[i]'hi) = false) : plainS s = false := by
  unfold plainS
  rw [List.all_eq_false]
  exact ⟨s[i]'hi, by show s.data[i] ∈ _; exact Array.getElem_mem_toList _, by simp [h]⟩
theorem plain_all {s : ByteArray} (h : ∀ (i : Nat) (hi : i < s.size), okb (s[i]'hi) = true) : plainS s = true := by
  unfold plainS
  rw [List.all_eq_true]
  intro x hx
  obtain ⟨i, hi, rfl⟩ := List.mem_iff_getElem.1 hx
  exact h i (by simpa using hi)

set_option maxHeartbeats 2000000 in
theorem plain_any (s : ByteArray) (w : World) : Calls Try.prog 51 #[.string s] w fun e w' => e = .returned (.bool (plainS s)) ∧ Keeps Nil w w' := by
  go_enter Try.func51, Try.ntmps51
  go_wp2_with fail
  go_loopw [4] (fun _ wr => ∃ pos : Nat, pos ≤ s.size ∧ wr = w.iter s pos ∧ Hid (∀ (i : Nat) (hi : i < s.size), i < pos → okb (s[i]'hi) = true)) (fun _ wr => s.size - wr.iterPos w.heap.size)
  case atStart => exact ⟨0, Nat.zero_le _, rfl, hid (fun i _ h => absurd h (Nat.not_lt_zero _))⟩
  case round =>
    obtain ⟨pos, hpos, rfl, hall⟩ := hrel
    by_cases hp : pos < s.size
    · by_cases ha : (s[pos]'hp).toNat < 128
      · have hnx : ∀ ty, (Instr.next (.pointer (some ⟨w.heap.size, 0, Option.none⟩)) true ty).run Try.prog (w.iter s pos) = _ := fun ty => run_next_ascii w s pos ty hp ha
        have HP := hid hp
        have HPL := hid (fun h : okb (s[pos]'hp) = false => plain_not hp h)
        have HOK := hid (show okb (s[pos]'hp) = (decide (32 ≤ (s[pos]'hp).toNat) && decide ((s[pos]'hp).toNat ≤ 126)) from rfl)
        generalize hb : s[pos]'hp = b at *
        have HB := hid hb
        clear hb
        generalize b.toNat = n at *
        by_cases h1 : n < 32
        · have i1 : (n : Int) < 32 := by omega
          go_wp2_with fail
          go_ret
          rw [HPL.out (by rw [HOK.out]; simp; omega)]
          exact ⟨rfl, (Keeps.refl _ _).alloc _⟩
        · by_cases h2 : 126 < n
          · have i1 : ¬ (n : Int) < 32 := by omega
            have i2 : (126 : Int) < (n : Int) := by omega
            go_wp2_with fail
            go_ret
            rw [HPL.out (by rw [HOK.out]; simp; omega)]
            exact ⟨rfl, (Keeps.refl _ _).alloc _⟩
          · have i1 : ¬ (n : Int) < 32 := by omega
            have i2 : ¬ (126 : Int) < (n : Int) := by omega
            go_wp2_with fail
            go_roundw
            case rel =>
              refine ⟨pos + 1, by have := HP.out; omega, rfl, hid (fun i hi h => ?_)⟩
              by_cases e : i = pos
              · subst e
                rw [HB.out, HOK.out]
                simp; omega
              · exact hall.out i hi (by omega)
            case measure => have := HP.out; simp; omega
      · have hnx : ∀ ty, (Instr.next (.pointer (some ⟨w.heap.size, 0, Option.none⟩)) true ty).run Try.prog (w.iter s pos) = _ := fun ty => run_next_any w s pos ty hp
        have hd := decode_high s pos hp (by omega)
        have HPL := hid (plain_not hp (by unfold okb; simp; omega))
        generalize Utf8.decode s pos = d at *
        obtain ⟨r, n⟩ := d
        have i1 : ¬ (r : Int) < 32 := by simp only at hd; omega
        have i2 : (126 : Int) < (r : Int) := by simp only at hd; omega
        clear hd
        go_wp2_with fail
        go_ret
        rw [HPL.out]
        exact ⟨rfl, (Keeps.refl _ _).alloc _⟩
    · have hnx : ∀ ty, (Instr.next (.pointer (some ⟨w.heap.size, 0, Option.none⟩)) true ty).run Try.prog (w.iter s pos) = _ := fun ty => run_next_end w s pos ty hp
      have HPL := hid (plain_all (fun i hi => hall.out i hi (by omega)))
      go_wp2_with fail
      go_ret
      rw [HPL.out]
      exact ⟨rfl, (Keeps.refl _ _).alloc _⟩
end Go.Proofs.Ytbgijlfdgfhceaa
