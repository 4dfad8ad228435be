/-
  The contracts of the reference of layer 19: There, Row, At. Conditions: the slice's numbers lie in its cells.
-/
import Derived.Test.YtkhcaefbchcdoaaAlarm
namespace Go.Proofs.Ytkhcaefbchcdoaa
open Go.RowKit Plain

set_option maxHeartbeats 400000 in
theorem there_any (lo x : Int) (w : World) :
    Calls Try.prog 13 #[.int .u8 lo, .int .u8 x] w fun e w' => e = .returned (.bool (decide (lo ≤ x))) ∧ w = w' := by
  go_enter Try.func13, Try.ntmps13
  go_wp2
  go_ret
  exact ⟨rfl, rfl⟩

/-- The numbers of a row of bytes lie in its cells. -/
def Bytes (w : World) (b off n : Nat) (xs : List Int) : Prop := ∀ j, j < n → w.cell? ⟨b, off + j, Option.none⟩ = some (.int .u8 (xs.getD j 0))

theorem row_stop {lo : Int} {is : Bool} {xs : List Int} {n k : Nat} (hn : n ≤ xs.length) (hk : k ≤ n) (hall : ∀ j, k ≤ j → j < n → decide (lo ≤ xs.getD j 0) = is)
    (hstop : k = 0 ∨ ¬ decide (lo ≤ xs.getD (k - 1) 0) = is) : row lo is (xs.take n).reverse = (n : Int) - k := by
  induction n generalizing k with
  | zero => have : k = 0 := by omega
            subst this; simp [row]
  | succ n ih =>
    have e : (xs.take (n + 1)).reverse = xs.getD n 0 :: (xs.take n).reverse := by
      rw [List.take_succ_eq_append_getElem (by omega)]; simp [List.getD_eq_getElem?_getD, List.getElem?_eq_getElem (show n < xs.length by omega)]
    rw [e]
    by_cases hkn : k = n + 1
    · subst hkn
      rcases hstop with h | h
      · omega
      · simp only [Nat.add_sub_cancel] at h
        simp only [row, h, if_false]; omega
    · have := hall n (by omega) (by omega)
      simp only [row, this, if_true, ih (by omega) (by omega) (fun j h1 h2 => hall j h1 (by omega)) hstop]; omega

set_option maxHeartbeats 400000 in
theorem row_any (lo : Int) (b off n cap : Nat) (is : Bool) (xs : List Int) (w : World) (hc : Bytes w b off n xs) (hn : n ≤ xs.length) (hm : n ≤ 1000) :
    Calls Try.prog 14 #[.int .u8 lo, .slice (some ⟨b, off, Option.none⟩) n cap, .bool is] w fun e w' => e = .returned (.int .i64 (row lo is (xs.take n).reverse)) ∧ w = w' := by
  have HC := hid hc
  clear hc
  go_enter Try.func14, Try.ntmps14
  go_wp2_with fail
  go_loop [7, 8] (fun n' i => ∃ k : Nat, k ≤ n ∧ i = .int .i64 ((k : Int) - 1) ∧ n' = .int .i64 ((n : Int) - k) ∧ Hid (∀ j, k ≤ j → j < n → decide (lo ≤ xs.getD j 0) = is)) (fun _ i => (intOf i + 1).toNat)
  case atStart => exact ⟨n, Nat.le_refl _, rfl, by go_num, fun j h1 h2 => by omega⟩
  case round =>
    obtain ⟨k, hk, rfl, rfl, hall⟩ := hrel
    rcases Nat.eq_zero_or_pos k with rfl | hk0
    · go_wp2
      go_ret
      exact ⟨by rw [row_stop hn hk hall.out (.inl rfl)]; rfl, rfl⟩
    · obtain ⟨m, rfl⟩ : ∃ m, k = m + 1 := ⟨k - 1, by omega⟩
      have hv := HC.out m (by omega)
      obtain ⟨v, ev⟩ : ∃ v, xs.getD m 0 = v := ⟨_, rfl⟩
      rw [ev] at hv
      have EV := hid ev
      clear ev
      by_cases ht : decide (lo ≤ v) = is
      · have hb : (decide (lo ≤ v) == is) = true := by rw [ht]; simp
        have HT := hid ht
        clear ht
        go_wp2_with (go_at_call 13; refine (there_any _ _ _).mono ?_; rintro e w' ⟨rfl, rfl⟩)
        refine ⟨⟨m, by omega, rfl, by go_num, fun j h1 h2 => ?_⟩, by simp only [intOf]; omega⟩
        rcases Nat.lt_or_ge m j with h | h
        · exact hall.out j (by omega) h2
        · obtain rfl : j = m := by omega
          rw [EV.out]; exact HT.out
      · have hb : (decide (lo ≤ v) == is) = false := by simpa using ht
        have HT := hid ht
        clear ht
        go_wp2_with (go_at_call 13; refine (there_any _ _ _).mono ?_; rintro e w' ⟨rfl, rfl⟩)
        go_ret
        have hx := row_stop (is := is) (lo := lo) hn hk hall.out (.inr (by rw [Nat.add_sub_cancel, EV.out]; exact HT.out))
        exact ⟨by rw [hx]; rfl, rfl⟩

theorem at_cons {xs : List Int} {n : Nat} (hn : n < xs.length) : (xs.take (n + 1)).reverse = xs.getD n 0 :: (xs.take n).reverse := by
  rw [List.take_succ_eq_append_getElem hn]; simp [List.getD_eq_getElem?_getD, List.getElem?_eq_getElem hn]

abbrev Tells (r : Int × Int × Int) : Ending := .returned (.tuple #[.int .u8 r.1, .int .u8 r.2.1, .int .u8 r.2.2])

set_option maxHeartbeats 400000 in
theorem at_nil (lo : Int) (p : Option Addr) (cap : Nat) (w : World) :
    Calls Try.prog 9 #[.int .u8 lo, .slice p 0 cap] w fun e w' => e = Tells (0, 0, 0) ∧ w = w' := by
  go_enter Try.func9, Try.ntmps9
  go_wp2_with fail
  go_ret3
  exact ⟨rfl, rfl⟩

def atW (lo state told m rt rf : Int) : Int × Int × Int :=
  if state < 2 then
    if m < lo then (0, 0, 0)
    else if rt < 2 then (1, 0, 0) else (2, m, m)
  else if m < lo then (if 10 ≤ rf then (0, 0, 0) else (2, told, 0))
  else if told < m then (2, m, m) else (2, told, 0)
theorem at_w (lo x : Int) (l : List Int) : at_ lo (x :: l) = atW lo (at_ lo l).1 (at_ lo l).2.1 (min x 4) (row lo true (x :: l)) (row lo false (x :: l)) := by
  simp only [at_, atW]

theorem tells_close {r : Int × Int × Int} {a b c : Int} {w w' : World} {e : Ending} (h : r = (a, b, c)) (he : e = .returned (.tuple #[.int .u8 a, .int .u8 b, .int .u8 c])) (hw : w = w') : e = Tells r ∧ w = w' := by rw [h]; exact ⟨he, hw⟩

set_option maxHeartbeats 1000000 in
theorem at_walk (lo : Int) (b off cap n : Nat) (w : World) (state told rr v m rt rf : Int) (hm : n ≤ 1000) (hcap : n + 1 ≤ cap)
    (hv : w.cell? ⟨b, off + n, Option.none⟩ = some (.int .u8 v)) (hmin : min v 4 = m)
    (HAT : Hid (Calls Try.prog 9 #[.int .u8 lo, .slice (some ⟨b, off, Option.none⟩) n cap] w fun e w' => e = Tells (state, told, rr) ∧ w = w'))
    (HT : Hid (Calls Try.prog 14 #[.int .u8 lo, .slice (some ⟨b, off, Option.none⟩) (n + 1 : Nat) cap, .bool true] w fun e w' => e = .returned (.int .i64 rt) ∧ w = w'))
    (HF : Hid (Calls Try.prog 14 #[.int .u8 lo, .slice (some ⟨b, off, Option.none⟩) (n + 1 : Nat) cap, .bool false] w fun e w' => e = .returned (.int .i64 rf) ∧ w = w')) :
    Calls Try.prog 9 #[.int .u8 lo, .slice (some ⟨b, off, Option.none⟩) (n + 1 : Nat) cap] w fun e w' => e = Tells (atW lo state told m rt rf) ∧ w = w' := by
  have h0 : ((n : Int) + 1 == 0) = false := by rw [beq_eq_false_iff_ne]; omega
  by_cases h4 : 4 < v
  all_goals
    have hm' := hmin
    simp only [Int.min_def] at hm'
    first
      | (rw [if_neg (by omega)] at hm'; subst hm')
      | (rw [if_pos (by omega)] at hm'; subst hm')
    clear hmin
    go_enter Try.func9, Try.ntmps9
    go_wp2_with (first
      | (go_at_call 9; refine HAT.out.mono ?_; rintro e w' ⟨rfl, rfl⟩)
      | (go_at_call 13; refine (there_any _ _ _).mono ?_; rintro e w' ⟨rfl, rfl⟩)
      | (go_at_call 14; (first | (with_reducible refine HT.out.mono ?_) | (with_reducible refine HF.out.mono ?_)); rintro e w' ⟨rfl, rfl⟩))
    all_goals
      go_tidy
      go_ret3
      refine tells_close ?_ rfl rfl
      simp only [Bool.not_eq_true', Bool.not_eq_false', decide_eq_true_eq, decide_eq_false_iff_not] at *
      unfold atW
      repeat' split
      all_goals first | rfl | (exfalso; omega)

theorem at_any (lo : Int) (b off cap : Nat) (xs : List Int) (n : Nat) : ∀ (w : World), Bytes w b off n xs → n ≤ xs.length → n ≤ 1000 → n ≤ cap →
    Calls Try.prog 9 #[.int .u8 lo, .slice (some ⟨b, off, Option.none⟩) n cap] w fun e w' => e = Tells (at_ lo (xs.take n).reverse) ∧ w = w' := by
  induction n with
  | zero => intro w _ _ _ _; simpa [at_] using at_nil lo (some ⟨b, off, Option.none⟩) cap w
  | succ n ih =>
    intro w hc hn hm hcap
    rw [at_cons (by omega), at_w]
    have hT := row_any lo b off (n + 1) cap true xs w hc hn hm
    have hF := row_any lo b off (n + 1) cap false xs w hc hn hm
    rw [at_cons (by omega)] at hT hF
    exact at_walk lo b off cap n w _ _ _ (xs.getD n 0) _ _ _ (by omega) hcap (hc n (by omega)) rfl (ih w (fun j hj => hc j (by omega)) (by omega) (by omega) (by omega)) hT hF

end Go.Proofs.Ytkhcaefbchcdoaa
