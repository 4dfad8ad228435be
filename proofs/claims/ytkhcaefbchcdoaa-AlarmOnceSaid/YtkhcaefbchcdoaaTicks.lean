/-
  AlarmTicks walked: for every row of defects the call returns true and turns nothing that was there. Conditions: the row's numbers lie in its cells and are bytes.
-/
import Derived.Test.YtkhcaefbchcdoaaWakes
namespace Go.Proofs.Ytkhcaefbchcdoaa
open Go.RowKit Plain

theorem run_take {lo : Int} {xs : List Int} {n : Nat} (hn : n < xs.length) : run lo (xs.take (n + 1)).reverse = (tick lo (run lo (xs.take n).reverse) (xs.getD n 0)).1 := by
  rw [at_cons hn]; rfl

set_option maxHeartbeats 400000 in
theorem ticks_great (lo : Int) (p : Option Addr) (len cap : Nat) (w : World) (hl : 100 < len) (hm : len ≤ 9223372036854775807) :
    Calls Try.prog 3 #[.int .u8 lo, .slice p len cap] w fun e w' => e = .returned (.bool true) ∧ Keeps Nil w w' := by
  go_enter Try.func3, Try.ntmps3
  go_wp2_with (go_at_call 6; refine (wakes_any _).mono ?_; rintro e w1 ⟨rfl, k1⟩)
  go_ret
  exact ⟨rfl, k1⟩

set_option maxHeartbeats 400000 in
theorem ticks_none (lo : Int) (p : Option Addr) (len cap : Nat) (w : World) (hl : len ≤ 100) (h : lo < 1 ∨ 4 < lo) :
    Calls Try.prog 3 #[.int .u8 lo, .slice p len cap] w fun e w' => e = .returned (.bool true) ∧ Keeps Nil w w' := by
  have HN := fun w => hid (new_no lo w h)
  rcases h with h | h
  · go_enter Try.func3, Try.ntmps3
    go_wp2_with (first | (go_at_call 7; refine (HN _).out.mono ?_; rintro e w1 ⟨rfl, rfl⟩) | (go_at_call 6; refine (wakes_any _).mono ?_; rintro e w1 ⟨rfl, k1⟩))
    go_ret
    exact ⟨rfl, k1⟩
  · have h' : ¬ lo < 1 := by omega
    go_enter Try.func3, Try.ntmps3
    go_wp2_with (first | (go_at_call 7; refine (HN _).out.mono ?_; rintro e w1 ⟨rfl, rfl⟩) | (go_at_call 6; refine (wakes_any _).mono ?_; rintro e w1 ⟨rfl, k1⟩))
    go_ret
    exact ⟨rfl, k1⟩

theorem row_le (lo : Int) (is : Bool) (l : List Int) : row lo is l ≤ l.length := by
  induction l with
  | nil => simp [row]
  | cons x l ih => simp only [row, List.length_cons]; split <;> omega

structure Rel (w : World) (lo : Int) (xs : List Int) (len : Nat) (k : Nat) (wr : World) : Prop where
  keeps : Keeps Nil w wr
  lies : Lies wr w.heap.size lo (run lo (xs.take k).reverse)
  le : k ≤ len

set_option maxHeartbeats 1000000 in
theorem ticks_any (lo : Int) (p : Option Addr) (len cap : Nat) (xs : List Int) (w : World) (hl : len ≤ 100) (hcap : len ≤ cap) (h1 : 1 ≤ lo) (h4 : lo ≤ 4) (hn : len ≤ xs.length)
    (hp : 0 < len → ∃ b off, p = some ⟨b, off, Option.none⟩ ∧ b < w.heap.size ∧ Bytes w b off len xs) (hx : ∀ j, 0 ≤ xs.getD j 0 ∧ xs.getD j 0 ≤ 255) :
    Calls Try.prog 3 #[.int .u8 lo, .slice p len cap] w fun e w' => e = .returned (.bool true) ∧ Keeps Nil w w' := by
  have HP := hid hp
  have HX := hid hx
  clear hp hx
  go_enter Try.func3, Try.ntmps3
  go_wp2_with (go_at_call 7; refine (new_ok lo _ h1 h4).mono ?_; rintro e w1 ⟨rfl, l1, k1⟩)
  go_loopw [7] (fun i wr => ∃ k : Nat, i = .int .i64 k ∧ Rel w lo xs len k wr) (fun i _ => len - (intOf i).toNat)
  case atStart => exact ⟨0, rfl, k1, l1, Nat.zero_le _⟩
  case round =>
    obtain ⟨k, rfl, hk, hL, hle⟩ := hrel
    by_cases hlt : k < len
    · obtain ⟨b, off, rfl, hb, hB⟩ := HP.out (by omega)
      have hI := inv_run h1 h4 (xs.take k).reverse
      have hst := Plain.step h1 h4 hI (xs.getD k 0)
      have hI' := hst.1
      rw [← at_cons (by omega), ← run_take (by omega)] at hI'
      have hat : at_ lo (xs.take (k + 1)).reverse = ((run lo (xs.take (k + 1)).reverse).st, (run lo (xs.take (k + 1)).reverse).to, (tick lo (run lo (xs.take k).reverse) (xs.getD k 0)).2) := by
        rw [hst.2, ← at_cons (by omega), hI'.st, hI'.to]
      have hAT := at_any lo b off cap xs (k + 1)
      rw [hat] at hAT
      have htick := tick_any w.heap.size lo (run lo (xs.take k).reverse) (xs.getD k 0) wr hL
      rw [← run_take (by omega)] at htick
      have hti : 0 ≤ (run lo (xs.take k).reverse).ti ∧ (run lo (xs.take k).reverse).ti ≤ 1000000 := by
        have := row_nonneg lo false (xs.take k).reverse
        have := row_le lo false (xs.take k).reverse
        have e : (xs.take k).reverse.length ≤ k := by simp; omega
        rcases hI.cases with h | h | h <;> omega
      have htick := htick hti.1 hti.2 (HX.out k).1 (HX.out k).2
      have hv : wr.cell? ⟨b, off + k, Option.none⟩ = some (.int .u8 (xs.getD k 0)) := by rw [hk.cell (p := ⟨b, off + k, Option.none⟩) hb (fun h => h)]; exact hB k hlt
      have HT := hid htick
      have HA := hid hAT
      have HB := hid hB
      have HL := hid hL
      clear htick hAT hB hat hst hI' hI hti hL
      have HS : Hid (∀ x r, Rel w lo xs len (k + 1) x → r → r) := fun x r _ h => h
      obtain ⟨v, ev⟩ : ∃ v, xs.getD k 0 = v := ⟨_, rfl⟩
      obtain ⟨s', es⟩ : ∃ s', run lo (xs.take (k + 1)).reverse = s' := ⟨_, rfl⟩
      obtain ⟨r, er⟩ : ∃ r, (tick lo (run lo (xs.take k).reverse) v).2 = r := ⟨_, rfl⟩
      rw [ev] at hv HT HA
      rw [es, er] at HT HA
      have ES := hid es
      clear ev er es
      go_wp2_with fail
      refine HT.out.mono ?_; rintro e w2 ⟨rfl, l2, k2⟩
      have HB2 : Hid (Bytes w2 b off (k + 1) xs) := fun j hj => by
        rw [k2.cell (p := ⟨b, off + j, Option.none⟩) (by have := hk.size; show b < _; omega) (by simp only [At]; omega), hk.cell (p := ⟨b, off + j, Option.none⟩) hb (fun h => h)]; exact HB.out j (by omega)
      go_wp2_with fail
      refine (HA.out w2 HB2.out (by omega) (by omega) (by omega)).mono ?_; rintro e w' ⟨rfl, rfl⟩
      go_wp2_with fail
      refine (state_any _ _ _ _ l2).mono ?_; rintro e w' ⟨rfl, rfl⟩
      go_wp2_with fail
      refine (told_any _ _ _ _ l2).mono ?_; rintro e w' ⟨rfl, rfl⟩
      go_wp2_with fail
      go_roundw
      case rel => exact ⟨k + 1, by go_num, hk.trans' k2 (fun x hx e => by simp only [At] at e; omega), by rw [ES.out]; exact l2, by omega⟩
      case measure => simp only [intOf]; omega
    · go_wp2_with (go_at_call 6; refine (wakes_any _).mono ?_; rintro e w1 ⟨rfl, k2⟩)
      go_ret
      exact ⟨rfl, hk.trans k2⟩
end Go.Proofs.Ytkhcaefbchcdoaa
