/-
  The statement VectorTells, walked. Conditions: the numbers are within their types.
-/
import Derived.Test.YtndhccdknloinaaWakes
namespace Go.Proofs.Ytndhccdknloinaa
open Go.RowKit
set_option linter.unusedVariables false

theorem tells (r c b p r' c' b' p' : Int) : stand r c b p r' c' b' p' = if lessB r c b p r' c' b' p' = true then -1 else if lessB r' c' b' p' r c b p = true then 1 else 0 := by
  rcases Int.lt_trichotomy r r' with h | rfl | h
  · have h1 : r ≠ r' := by omega
    have h2 : r' ≠ r := by omega
    simp [stand, firstOf, way, lessB, h, h1, h2]
  · rcases Int.lt_trichotomy c c' with h | rfl | h
    · have h1 : c ≠ c' := by omega
      have h2 : c' ≠ c := by omega
      simp [stand, firstOf, way, lessB, h, h1, h2]
    · rcases Int.lt_trichotomy b b' with h | rfl | h
      · have h1 : b ≠ b' := by omega
        have h2 : b' ≠ b := by omega
        simp [stand, firstOf, way, lessB, h, h1, h2]
      · rcases Int.lt_trichotomy p p' with h | rfl | h
        · have h1 : p ≠ p' := by omega
          have h2 : p' ≠ p := by omega
          simp [stand, firstOf, way, lessB, h, h1, h2]
        · simp [stand, firstOf, way, lessB]
        · have h1 : p ≠ p' := by omega
          have h2 : p' ≠ p := by omega
          have h3 : ¬ p < p' := by omega
          simp [stand, firstOf, way, lessB, h, h1, h2, h3]
      · have h1 : b ≠ b' := by omega
        have h2 : b' ≠ b := by omega
        have h3 : ¬ b < b' := by omega
        simp [stand, firstOf, way, lessB, h, h1, h2, h3]
    · have h1 : c ≠ c' := by omega
      have h2 : c' ≠ c := by omega
      have h3 : ¬ c < c' := by omega
      simp [stand, firstOf, way, lessB, h, h1, h2, h3]
  · have h1 : r ≠ r' := by omega
    have h2 : r' ≠ r := by omega
    have h3 : ¬ r < r' := by omega
    simp [stand, firstOf, way, lessB, h, h1, h2, h3]
theorem not_both (r c b p r' c' b' p' : Int) (h : lessB r c b p r' c' b' p' = true) : lessB r' c' b' p' r c b p = false := by
  unfold lessB at h ⊢
  by_cases h0 : r = r'
  · by_cases h1 : c = c'
    · by_cases h2 : b = b'
      · simp [h0, h1, h2] at h ⊢; omega
      · simp [h0, h1, h2] at h; simp [h0, h1, Ne.symm h2]; omega
    · simp [h0, h1] at h; simp [h0, Ne.symm h1]; omega
  · simp [h0] at h; simp [Ne.symm h0]; omega

/-- Draws between two steps count for nothing. -/
theorem first_keeps {a b c : World} (h : Keeps Nil a b) {n : Nat} (k : Keeps Nil (b.drewN n) c) : Keeps Nil a c :=
  (h.trans (Keeps.drewN b n)).trans k

set_option maxHeartbeats 3200000 in
theorem vectorTells_any (r c b p r' c' b' p' k : Int) (hc : 0 ≤ c) (hc' : c < 4294967296) (hk : 0 ≤ k) (hk' : k < 4294967296) (w : World) :
    Calls Try.prog 3 #[vec r c b p, vec r' c' b' p', .int .u32 k] w fun e w' => e = .returned (.bool true) ∧ Keeps Nil w w' := by
  obtain ⟨want, hw⟩ : ∃ want, stand r c b p r' c' b' p' = want := ⟨_, rfl⟩
  have ht := tells r c b p r' c' b' p'
  rw [hw] at ht
  obtain ⟨u, hu⟩ : ∃ u, lessB r c b p r' c' b' p' = u := ⟨_, rfl⟩
  obtain ⟨v, hv⟩ : ∃ v, lessB r' c' b' p' r c b p = v := ⟨_, rfl⟩
  have hn := not_both r c b p r' c' b' p'
  rw [hu, hv] at hn ht
  have L1 : ∀ W, Calls Try.prog 7 #[vec r c b p, vec r' c' b' p'] W fun e w' => e = .returned (.bool u) ∧ Keeps Nil W w' := by rw [← hu]; exact less_any _ _ _ _ _ _ _ _
  have L2 : ∀ W, Calls Try.prog 7 #[vec r' c' b' p', vec r c b p] W fun e w' => e = .returned (.bool v) ∧ Keeps Nil W w' := by rw [← hv]; exact less_any _ _ _ _ _ _ _ _
  have C1 : ∀ W, Calls Try.prog 11 #[vec r c b p, vec r' c' b' p'] W fun e w' => e = .returned (.int .i64 want) ∧ Keeps Nil W w' := by rw [← hw]; exact compare_any _ _ _ _ _ _ _ _
  obtain ⟨xr, xc, xb, xp, ok, F1, F2⟩ : ∃ xr xc xb xp ok, (∀ W, Calls Try.prog 9 #[vec r c b p, .int .u32 k] W fun e w' => e = .returned (.tuple #[vec xr xc xb xp, .bool ok]) ∧ Keeps Nil W w') ∧
      (∀ W, Calls Try.prog 10 #[vec r c b p, .int .u32 k] W fun e w' => e = .returned (.tuple #[vec xr xc xb xp, .bool ok]) ∧ Keeps Nil W w') := by
    by_cases hf : farB c k = true
    · exact ⟨r, c + k, b, p, _, fun W => by simpa [farV, hf] using far_any r c b p k hc hc' hk hk' W, fun W => by simpa [farV, hf] using rfar_any r c b p k hc hc' hk hk' W⟩
    · exact ⟨0, 0, 0, 0, _, fun W => by simpa [farV, hf] using far_any r c b p k hc hc' hk hk' W, fun W => by simpa [farV, hf] using rfar_any r c b p k hc hc' hk hk' W⟩
  have hone : ((u = true ∧ v = false) ∨ (u = false ∧ v = true) ∨ (u = false ∧ v = false)) := by
    cases u <;> cases v <;> simp_all
  have HL1 := hid L1
  have HL2 := hid L2
  have HC1 := hid C1
  have HF1 := hid F1
  have HF2 := hid F2
  clear L1 L2 C1 F1 F2 hu hv hw hn
  rcases hone with ⟨rfl, rfl⟩ | ⟨rfl, rfl⟩ | ⟨rfl, rfl⟩
  all_goals simp at ht
  all_goals subst ht
  all_goals go_enter Try.func3, Try.ntmps3
  all_goals
    go_wp2_with fail
    refine (HL1.out _).mono ?_; rintro e w1 ⟨rfl, k1⟩
    have b0 := (k1.block _ (by simp; omega) (fun e => e)).trans (two_allocs w (.cells #[.int .u64 r, .int .u32 c, .int .u64 b, .int .u8 p] 25) (.cells #[.int .u64 r', .int .u32 c', .int .u64 b', .int .u8 p'] 25)).1
    have b1 := (k1.block _ (by simp) (fun e => e)).trans (two_allocs w (.cells #[.int .u64 r, .int .u32 c, .int .u64 b, .int .u8 p] 25) (.cells #[.int .u64 r', .int .u32 c', .int .u64 b', .int .u8 p'] 25)).2
    obtain ⟨c0, c1, c2, c3⟩ := held4 (Keeps.refl Nil w1) b0
    obtain ⟨d0, d1, d2, d3⟩ := held4 (Keeps.refl Nil w1) b1
    have B0 := hid b0
    have B1 := hid b1
    have kw1 : Keeps Nil w w1 := (((Keeps.refl Nil w).alloc _).alloc _).trans k1
    clear b0 b1
    go_wp2_with fail
    refine (HL2.out _).mono ?_; rintro e w2 ⟨rfl, k2⟩
    obtain ⟨c0, c1, c2, c3⟩ := held4 k2 B0.out
    obtain ⟨d0, d1, d2, d3⟩ := held4 k2 B1.out
    have z2 := lt_of_block ((k2.block _ (lt_of_block B1.out) (fun e => e)).trans B1.out)
    have z2a : w.heap.size < w2.heap.size := by omega
    go_wp2_with fail
    refine (of_any _ _ _ _ _).mono ?_; rintro e w3 ⟨rfl, k3⟩
    go_wp2_with fail
    refine (HF1.out _).mono ?_; rintro e w4 ⟨rfl, k4⟩
    have k24 : Keeps Nil w1 w4 := k2.trans (k3.trans k4)
    obtain ⟨c0, c1, c2, c3⟩ := held4 k24 B0.out
    obtain ⟨d0, d1, d2, d3⟩ := held4 k24 B1.out
    have z4 := lt_of_block ((k24.block _ (lt_of_block B1.out) (fun e => e)).trans B1.out)
    have z4a : w.heap.size < w4.heap.size := by omega
    go_wp2_with fail
    refine (HF2.out _).mono ?_; rintro e w5 ⟨rfl, k5⟩
    have X4 := hid ((k5.block _ (by simp) (fun e => e)).trans (alloc_block w4 _))
    have k25 : Keeps Nil w1 w5 := (k24.alloc _).trans k5
    obtain ⟨c0, c1, c2, c3⟩ := held4 k25 B0.out
    obtain ⟨d0, d1, d2, d3⟩ := held4 k25 B1.out
    obtain ⟨g0, g1, g2, g3⟩ := held4 (Keeps.refl Nil w5) X4.out
    have z5 := lt_of_block ((k25.block _ (lt_of_block B1.out) (fun e => e)).trans B1.out)
    have z5a : w.heap.size < w5.heap.size := by omega
    have z5' := lt_of_block X4.out
    have HS : ∀ W, Keeps Nil (w5.alloc (.cells #[.int .u64 xr, .int .u32 xc, .int .u64 xb, .int .u8 xp] 25)) W → (W.cell? ⟨w.heap.size, 0, Option.none⟩ = some (.int .u64 r) ∧ W.cell? ⟨w.heap.size, 1, Option.none⟩ = some (.int .u32 c) ∧ W.cell? ⟨w.heap.size, 2, Option.none⟩ = some (.int .u64 b) ∧ W.cell? ⟨w.heap.size, 3, Option.none⟩ = some (.int .u8 p)) ∧
      (W.cell? ⟨w.heap.size + 1, 0, Option.none⟩ = some (.int .u64 r') ∧ W.cell? ⟨w.heap.size + 1, 1, Option.none⟩ = some (.int .u32 c') ∧ W.cell? ⟨w.heap.size + 1, 2, Option.none⟩ = some (.int .u64 b') ∧ W.cell? ⟨w.heap.size + 1, 3, Option.none⟩ = some (.int .u8 p')) ∧
      (W.cell? ⟨w4.heap.size, 0, Option.none⟩ = some (.int .u64 xr) ∧ W.cell? ⟨w4.heap.size, 1, Option.none⟩ = some (.int .u32 xc) ∧ W.cell? ⟨w4.heap.size, 2, Option.none⟩ = some (.int .u64 xb) ∧ W.cell? ⟨w4.heap.size, 3, Option.none⟩ = some (.int .u8 xp)) ∧
      (W.cell? ⟨w5.heap.size, 0, Option.none⟩ = some (.int .u64 xr) ∧ W.cell? ⟨w5.heap.size, 1, Option.none⟩ = some (.int .u32 xc) ∧ W.cell? ⟨w5.heap.size, 2, Option.none⟩ = some (.int .u64 xb) ∧ W.cell? ⟨w5.heap.size, 3, Option.none⟩ = some (.int .u8 xp)) := fun W K =>
      have ka := (k25.alloc _).trans K
      ⟨held4 ka B0.out, held4 ka B1.out, held4 (((Keeps.refl Nil w5).alloc _).trans K) X4.out, held4 K (alloc_block w5 _)⟩
    have HS' := hid HS
    clear HS
    go_upto_region 8 with (fail)
    have kk : Keeps Nil (w5.alloc (.cells #[.int .u64 xr, .int .u32 xc, .int .u64 xb, .int .u8 xp] 25)) (w5.alloc (.cells #[.int .u64 xr, .int .u32 xc, .int .u64 xb, .int .u8 xp] 25)) := Keeps.refl _ _
    obtain ⟨⟨c0, c1, c2, c3⟩, ⟨d0, d1, d2, d3⟩, ⟨g0, g1, g2, g3⟩, e0, e1, e2, e3⟩ := HS'.out _ kk
    go_region_held3 (fun w' => (w'.cell? ⟨w.heap.size, 0, Option.none⟩ = some (.int .u64 r) ∧ w'.cell? ⟨w.heap.size, 1, Option.none⟩ = some (.int .u32 c) ∧ w'.cell? ⟨w.heap.size, 2, Option.none⟩ = some (.int .u64 b) ∧ w'.cell? ⟨w.heap.size, 3, Option.none⟩ = some (.int .u8 p)) ∧
      (w'.cell? ⟨w.heap.size + 1, 0, Option.none⟩ = some (.int .u64 r') ∧ w'.cell? ⟨w.heap.size + 1, 1, Option.none⟩ = some (.int .u32 c') ∧ w'.cell? ⟨w.heap.size + 1, 2, Option.none⟩ = some (.int .u64 b') ∧ w'.cell? ⟨w.heap.size + 1, 3, Option.none⟩ = some (.int .u8 p')) ∧
      (w'.cell? ⟨w4.heap.size, 0, Option.none⟩ = some (.int .u64 xr) ∧ w'.cell? ⟨w4.heap.size, 1, Option.none⟩ = some (.int .u32 xc) ∧ w'.cell? ⟨w4.heap.size, 2, Option.none⟩ = some (.int .u64 xb) ∧ w'.cell? ⟨w4.heap.size, 3, Option.none⟩ = some (.int .u8 xp)) ∧
      (w'.cell? ⟨w5.heap.size, 0, Option.none⟩ = some (.int .u64 xr) ∧ w'.cell? ⟨w5.heap.size, 1, Option.none⟩ = some (.int .u32 xc) ∧ w'.cell? ⟨w5.heap.size, 2, Option.none⟩ = some (.int .u64 xb) ∧ w'.cell? ⟨w5.heap.size, 3, Option.none⟩ = some (.int .u8 xp))) (first | go_keep | exact HS'.out _ kk | (go_split_ands; assumption)) ((first
      | (go_at_call 8; refine (of_any _ _ _ _ _).mono ?_; rintro e wz ⟨rfl, kz⟩; have kk : Keeps Nil (w5.alloc (.cells #[.int .u64 xr, .int .u32 xc, .int .u64 xb, .int .u8 xp] 25)) wz := by first | exact kk.trans kz | exact kk.drew.trans kz | exact kk.drew.drew.trans kz | exact kk.drew.drew.drew.trans kz)
      | (go_at_call 11; refine (HC1.out _).mono ?_; rintro e wz ⟨rfl, kz⟩; have kk : Keeps Nil (w5.alloc (.cells #[.int .u64 xr, .int .u32 xc, .int .u64 xb, .int .u8 xp] 25)) wz := by first | exact kk.trans kz | exact kk.drew.trans kz | exact kk.drew.drew.trans kz | exact kk.drew.drew.drew.trans kz)
      | (go_at_call 12; refine (wakes_any _).mono ?_; rintro e wz ⟨rfl, kz⟩; have kk : Keeps Nil (w5.alloc (.cells #[.int .u64 xr, .int .u32 xc, .int .u64 xb, .int .u8 xp] 25)) wz := by first | exact kk.trans kz | exact kk.drew.trans kz | exact kk.drew.drew.trans kz | exact kk.drew.drew.drew.trans kz)))
    all_goals
      go_wp2_with fail
      go_ret
      have kf := ((kw1.trans k25).alloc (.cells #[.int .u64 xr, .int .u32 xc, .int .u64 xb, .int .u8 xp] 25)).trans kk
      exact ⟨rfl, by first | exact kf | exact kf.drew | exact kf.drew.drew | exact kf.drew.drew.drew⟩
end Go.Proofs.Ytndhccdknloinaa
