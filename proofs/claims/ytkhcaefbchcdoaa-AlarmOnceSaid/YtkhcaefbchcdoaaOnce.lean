/-
  AlarmOnce walked: for every row of defects the call returns true and turns nothing that was there. Conditions: the row's numbers lie in its cells and are bytes.
-/
import Derived.Test.YtkhcaefbchcdoaaTicks
namespace Go.Proofs.Ytkhcaefbchcdoaa
open Go.RowKit Plain
set_option linter.unusedVariables false

set_option maxHeartbeats 400000 in
theorem once_great (lo : Int) (p : Option Addr) (len cap : Nat) (w : World) (hm : len ≤ 9223372036854775807) (h : lo < 1 ∨ 4 < lo ∨ 200 < len) :
    Calls Try.prog 5 #[.int .u8 lo, .slice p len cap] w fun e w' => e = .returned (.bool true) ∧ Keeps Nil w w' := by
  by_cases h1 : lo < 1
  · clear h
    go_enter Try.func5, Try.ntmps5
    go_wp2_with (go_at_call 6; refine (wakes_any _).mono ?_; rintro e w1 ⟨rfl, k1⟩)
    go_ret
    exact ⟨rfl, k1⟩
  · by_cases h4 : 4 < lo
    · clear h
      go_enter Try.func5, Try.ntmps5
      go_wp2_with (go_at_call 6; refine (wakes_any _).mono ?_; rintro e w1 ⟨rfl, k1⟩)
      go_ret
      exact ⟨rfl, k1⟩
    · have hl : 200 < len := by omega
      clear h
      go_enter Try.func5, Try.ntmps5
      go_wp2_with (go_at_call 6; refine (wakes_any _).mono ?_; rintro e w1 ⟨rfl, k1⟩)
      go_ret
      exact ⟨rfl, k1⟩

structure Rel2 (w : World) (lo : Int) (len : Nat) (k : Nat) (e : Eye) (s : St) (wr : World) : Prop where
  keeps : Keeps Nil w wr
  lies : Lies wr w.heap.size lo s
  once : Once lo k e s
  le : k ≤ len

theorem once_tell {lo n told there calm v m told1 there1 calm1 r : Int} {s s' : St} (h1 : 1 ≤ lo) (h4 : lo ≤ 4) (h : Once lo n ⟨told, there, calm⟩ s) (hm : min v 4 = m)
    (hp : (lo ≤ m ∧ told1 = told ∧ there1 = there + 1 ∧ calm1 = 0) ∨ (m < lo ∧ 10 ≤ calm + 1 ∧ told1 = 0 ∧ there1 = 0 ∧ calm1 = calm + 1) ∨ (m < lo ∧ calm + 1 < 10 ∧ told1 = told ∧ there1 = 0 ∧ calm1 = calm + 1))
    (he : tick lo s v = (s', r)) :
    ∃ told2, ((r = 0 ∧ told2 = told1) ∨ (1 ≤ r ∧ r = m ∧ told1 < r ∧ told2 = r ∧ lo ≤ r ∧ 1 ≤ there1 ∧ ¬ (told1 = 0 ∧ there1 < 2))) ∧ Once lo (n + 1) ⟨told2, there1, calm1⟩ s' ∧ ¬ (2 ≤ there1 ∧ told2 < m) ∧
      s'.to = told2 ∧ (s'.st == 2) = decide (0 < told2) ∧ 0 ≤ told1 ∧ 0 ≤ told2 := by
  have hon := once h1 h4 h v
  simp only [he, hm] at hon
  have hs : (Eye.mk told there calm).sees lo v = ⟨told1, there1, calm1⟩ := by
    rcases hp with ⟨a, rfl, rfl, rfl⟩ | ⟨a, b, rfl, rfl, rfl⟩ | ⟨a, b, rfl, rfl, rfl⟩
    · simp [Eye.sees, hm, a]
    · simp [Eye.sees, hm, Int.not_le.2 a, b]
    · simp [Eye.sees, hm, Int.not_le.2 a, Int.not_le.2 b]
  rw [hs] at hon
  simp only at hon
  obtain ⟨o, g1, g2, g3, g4, g5, g6⟩ := hon
  have hb := h.b
  have hc := h.cases
  have hto := h.to
  simp only at hb hc hto
  refine ⟨max told1 r, ?_, o, g2, g3, ?_, by omega, by omega⟩
  · omega
  · rw [Bool.eq_iff_iff]; simpa using g4

set_option maxRecDepth 100000 in
set_option maxHeartbeats 8000000 in
theorem once_any (lo : Int) (p : Option Addr) (len cap : Nat) (xs : List Int) (w : World) (hl : len ≤ 200) (hcap : len ≤ cap) (h1 : 1 ≤ lo) (h4 : lo ≤ 4) (hn : len ≤ xs.length)
    (hp : 0 < len → ∃ b off, p = some ⟨b, off, Option.none⟩ ∧ b < w.heap.size ∧ Bytes w b off len xs) (hx : ∀ j, 0 ≤ xs.getD j 0 ∧ xs.getD j 0 ≤ 255) :
    Calls Try.prog 5 #[.int .u8 lo, .slice p len cap] w fun e w' => e = .returned (.bool true) ∧ Keeps Nil w w' := by
  have HP := hid hp
  have HX := hid hx
  clear hp hx
  go_enter Try.func5, Try.ntmps5
  go_wp2_with (go_at_call 7; refine (new_ok lo _ h1 h4).mono ?_; rintro e w1 ⟨rfl, l1, k1⟩)
  go_loopw [7, 8, 9, 10] (fun to th ca i wr => ∃ (k : Nat) (told there calm : Int) (s : St), i = .int .i64 k ∧ to = .int .u8 told ∧ th = .int .i64 there ∧ ca = .int .i64 calm ∧ Rel2 w lo len k ⟨told, there, calm⟩ s wr)
    (fun _ _ _ i _ => len - (intOf i).toNat)
  case atStart => exact ⟨0, 0, 0, 0, ⟨0, 0, 0⟩, rfl, rfl, rfl, rfl, k1, l1, ⟨rfl, ⟨by decide, by decide, by decide, by decide⟩, .inl ⟨rfl, rfl, rfl, rfl⟩⟩, Nat.zero_le _⟩
  case round =>
    obtain ⟨k, told, there, calm, s, rfl, rfl, rfl, rfl, hk, hL, hO, hle⟩ := hrel
    by_cases hlt : k < len
    · obtain ⟨b, off, rfl, hb, hB⟩ := HP.out (by omega)
      have hx := HX.out k
      have hv : wr.cell? ⟨b, off + k, Option.none⟩ = some (.int .u8 (xs.getD k 0)) := by rw [hk.cell (p := ⟨b, off + k, Option.none⟩) hb (fun h => h)]; exact hB k hlt
      obtain ⟨v, ev⟩ : ∃ v, xs.getD k 0 = v := ⟨_, rfl⟩
      rw [ev] at hv hx
      clear ev
      have hob : 0 ≤ there ∧ there ≤ 200 ∧ 0 ≤ calm ∧ calm ≤ 200 := by
        have := hO.b; simp only at this; omega
      have hti : 0 ≤ s.ti ∧ s.ti ≤ 1000000 := by
        have := hO.cases; simp only at this; omega
      have HT := hid (tick_any w.heap.size lo s v wr hL hti.1 hti.2 hx.1 hx.2)
      obtain ⟨s', es⟩ : ∃ s', (tick lo s v).1 = s' := ⟨_, rfl⟩
      obtain ⟨r, er⟩ : ∃ r, (tick lo s v).2 = r := ⟨_, rfl⟩
      have htick : tick lo s v = (s', r) := by rw [← es, ← er]
      rw [es, er] at HT
      clear es er hti hB
      have key : ∃ m told1 there1 calm1, min v 4 = m ∧ ((lo ≤ m ∧ told1 = told ∧ there1 = there + 1 ∧ calm1 = 0) ∨ (m < lo ∧ 10 ≤ calm + 1 ∧ told1 = 0 ∧ there1 = 0 ∧ calm1 = calm + 1) ∨ (m < lo ∧ calm + 1 < 10 ∧ told1 = told ∧ there1 = 0 ∧ calm1 = calm + 1)) := by
        by_cases q1 : lo ≤ min v 4
        · exact ⟨_, _, _, _, rfl, .inl ⟨q1, rfl, rfl, rfl⟩⟩
        · by_cases q2 : 10 ≤ calm + 1
          · exact ⟨_, _, _, _, rfl, .inr (.inl ⟨by omega, q2, rfl, rfl, rfl⟩)⟩
          · exact ⟨_, _, _, _, rfl, .inr (.inr ⟨by omega, by omega, rfl, rfl, rfl⟩)⟩
      obtain ⟨m, told1, there1, calm1, hm, hpath⟩ := key
      obtain ⟨told2, hr, hO2, g1, g2, g3, g4, g5⟩ := once_tell h1 h4 hO hm hpath htick
      have hv4 : (4 < v ∧ m = 4) ∨ (v ≤ 4 ∧ m = v) := by omega
      have hsg : (0 < told2 ∧ (s'.st == 2) = true) ∨ (told2 ≤ 0 ∧ (s'.st == 2) = false) := by
        by_cases h : 0 < told2
        · exact .inl ⟨h, by rw [g3]; simpa using h⟩
        · exact .inr ⟨by omega, by rw [g3]; simpa using h⟩
      have HO2 := hid hO2
      have G2 := hid g2
      clear g2 g3 hm htick hO2 hO
      rcases hv4 with ⟨q, rfl⟩ | ⟨q, rfl⟩ <;> rcases hpath with ⟨q1, rfl, rfl, rfl⟩ | ⟨q1, q2, rfl, rfl, rfl⟩ | ⟨q1, q2, rfl, rfl, rfl⟩ <;> rcases hr with ⟨rfl, rfl⟩ | ⟨r1, rfl, r2, rfl, r3, r4, r5⟩ <;> rcases hsg with ⟨q3, q4⟩ | ⟨q3, q4⟩
      all_goals try (exfalso; omega)
      all_goals
        go_wp2_with (first
          | (go_at_call 8; refine HT.out.mono ?_; rintro e w2 ⟨rfl, l2, k2⟩)
          | (go_at_call 11; refine (told_any _ _ _ _ l2).mono ?_; rw [G2.out]; rintro e w' ⟨rfl, rfl⟩)
          | (go_at_call 10; refine (state_any _ _ _ _ l2).mono ?_; rintro e w' ⟨rfl, rfl⟩))
      all_goals go_tidy
      all_goals first
        | (refine ⟨⟨k + 1, _, _, _, s', by go_num, rfl, rfl, rfl, hk.trans' k2 (fun x hx e => by simp only [At] at e; omega), l2, HO2.out, by omega⟩, ?_⟩; simp only [intOf]; omega)
        | (exfalso; simp only [beq_iff_eq, bne_iff_ne] at *; omega)
    · go_wp2_with (go_at_call 6; refine (wakes_any _).mono ?_; rintro e w1 ⟨rfl, k2⟩)
      go_ret
      exact ⟨rfl, hk.trans k2⟩
end Go.Proofs.Ytkhcaefbchcdoaa
