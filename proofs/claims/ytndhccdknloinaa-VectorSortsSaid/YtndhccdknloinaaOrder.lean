/-
  The statement VectorOrder, walked. Conditions: the costs are within their type.
-/
import Derived.Test.YtndhccdknloinaaTells
import Derived.Deep.DeepCutAuto
namespace Go.Proofs.Ytndhccdknloinaa
open Go.RowKit
set_option linter.unusedVariables false

/-- One vector is less, spelled out. -/
def Lt (r c b p r' c' b' p' : Int) : Prop := r < r' ∨ (r = r' ∧ (c < c' ∨ (c = c' ∧ (b < b' ∨ (b = b' ∧ p < p')))))
theorem lessB_iff (r c b p r' c' b' p' : Int) : lessB r c b p r' c' b' p' = true ↔ Lt r c b p r' c' b' p' := by
  unfold lessB Lt
  by_cases h0 : r = r'
  · by_cases h1 : c = c'
    · by_cases h2 : b = b'
      · simp [h0, h1, h2]
      · simp [h0, h1, h2]
    · simp [h0, h1]
  · simp [h0]
theorem stand_cases (r c b p r' c' b' p' : Int) : (Lt r c b p r' c' b' p' ∧ stand r c b p r' c' b' p' = -1) ∨ (Lt r' c' b' p' r c b p ∧ stand r c b p r' c' b' p' = 1) ∨
    ((r = r' ∧ c = c' ∧ b = b' ∧ p = p') ∧ stand r c b p r' c' b' p' = 0) := by
  have ht := tells r c b p r' c' b' p'
  by_cases h : Lt r c b p r' c' b' p'
  · rw [if_pos ((lessB_iff _ _ _ _ _ _ _ _).2 h)] at ht; exact .inl ⟨h, ht⟩
  · rw [if_neg (fun e => h ((lessB_iff _ _ _ _ _ _ _ _).1 e))] at ht
    by_cases h' : Lt r' c' b' p' r c b p
    · rw [if_pos ((lessB_iff _ _ _ _ _ _ _ _).2 h')] at ht; exact .inr (.inl ⟨h', ht⟩)
    · rw [if_neg (fun e => h' ((lessB_iff _ _ _ _ _ _ _ _).1 e))] at ht
      refine .inr (.inr ⟨?_, ht⟩)
      unfold Lt at h h'
      omega

/-- What the law asks of three vectors, in numbers. -/
theorem order_plain (r c b p r' c' b' p' r'' c'' b'' p'' x y z : Int) (hx : stand r c b p r' c' b' p' = x) (hy : stand r' c' b' p' r'' c'' b'' p'' = y) (hz : stand r c b p r'' c'' b'' p'' = z) :
    stand r' c' b' p' r c b p = -x ∧
    ((x = 0 ∧ y = z ∧ r = r' ∧ c = c' ∧ b = b' ∧ p = p') ∨ ((x = 1 ∨ (x = -1 ∧ y < 0 ∧ z < 0) ∨ (x = -1 ∧ ¬ y < 0)) ∧ ¬ (r = r' ∧ c = c' ∧ b = b' ∧ p = p'))) := by
  have h1 := stand_cases r c b p r' c' b' p'
  have h2 := stand_cases r' c' b' p' r c b p
  have h3 := stand_cases r' c' b' p' r'' c'' b'' p''
  have h4 := stand_cases r c b p r'' c'' b'' p''
  rw [hx] at h1
  rw [hy] at h3
  rw [hz] at h4
  unfold Lt at h1 h2 h3 h4
  rcases h1 with ⟨g1, e1⟩ | ⟨g1, e1⟩ | ⟨g1, e1⟩
  · refine ⟨by omega, .inr ⟨?_, by omega⟩⟩
    by_cases hy0 : y < 0
    · exact .inr (.inl ⟨e1, hy0, by omega⟩)
    · exact .inr (.inr ⟨e1, hy0⟩)
  · exact ⟨by omega, .inr ⟨.inl e1, by omega⟩⟩
  · obtain ⟨rfl, rfl, rfl, rfl⟩ := g1
    refine ⟨by omega, .inl ⟨e1, ?_, rfl, rfl, rfl, rfl⟩⟩
    rw [← hy, ← hz]
theorem stand_far (r c b p k : Int) (hk : 0 < k) : stand r c b p r (c + k) b p = -1 := by
  have h := stand_cases r c b p r (c + k) b p
  unfold Lt at h; omega
theorem stand_both (r c b p r' c' b' p' k : Int) : stand r (c + k) b p r' (c' + k) b' p' = stand r c b p r' c' b' p' := by
  have h := stand_cases r c b p r' c' b' p'
  have h' := stand_cases r (c + k) b p r' (c' + k) b' p'
  unfold Lt at h h'; omega

set_option maxRecDepth 4000 in
set_option maxHeartbeats 3200000 in
theorem vectorOrder_any (r c b p r' c' b' p' r'' c'' b'' p'' k : Int) (hc : 0 ≤ c) (hc' : c < 4294967296) (hd : 0 ≤ c') (hd' : c' < 4294967296) (hk : 0 ≤ k) (hk' : k < 4294967296) (w : World) :
    Calls Try.prog 5 #[vec r c b p, vec r' c' b' p', vec r'' c'' b'' p'', .int .u32 k] w fun e w' => e = .returned (.bool true) ∧ Keeps Nil w w' := by
  obtain ⟨x, hx⟩ : ∃ x, stand r c b p r' c' b' p' = x := ⟨_, rfl⟩
  obtain ⟨y, hy⟩ : ∃ x, stand r' c' b' p' r'' c'' b'' p'' = x := ⟨_, rfl⟩
  obtain ⟨z, hz⟩ : ∃ x, stand r c b p r'' c'' b'' p'' = x := ⟨_, rfl⟩
  obtain ⟨hneg, hcase⟩ := order_plain r c b p r' c' b' p' r'' c'' b'' p'' x y z hx hy hz
  have C1 : ∀ W, Calls Try.prog 11 #[vec r c b p, vec r' c' b' p'] W fun e w' => e = .returned (.int .i64 x) ∧ Keeps Nil W w' := by rw [← hx]; exact compare_any _ _ _ _ _ _ _ _
  have C2 : ∀ W, Calls Try.prog 11 #[vec r' c' b' p', vec r'' c'' b'' p''] W fun e w' => e = .returned (.int .i64 y) ∧ Keeps Nil W w' := by rw [← hy]; exact compare_any _ _ _ _ _ _ _ _
  have C3 : ∀ W, Calls Try.prog 11 #[vec r c b p, vec r'' c'' b'' p''] W fun e w' => e = .returned (.int .i64 z) ∧ Keeps Nil W w' := by rw [← hz]; exact compare_any _ _ _ _ _ _ _ _
  have C4 : ∀ W, Calls Try.prog 11 #[vec r' c' b' p', vec r c b p] W fun e w' => e = .returned (.int .i64 (-x)) ∧ Keeps Nil W w' := by rw [← hneg]; exact compare_any _ _ _ _ _ _ _ _
  have HC1 := hid C1
  have HC2 := hid C2
  have HC3 := hid C3
  have HC4 := hid C4
  have HX := hid hx
  have HY := hid hy
  have HZ := hid hz
  clear C1 C2 C3 C4 hx hy hz hneg
  have HS : ∀ W, Keeps Nil (((w.alloc (.cells #[.int .u64 r, .int .u32 c, .int .u64 b, .int .u8 p] 27)).alloc (.cells #[.int .u64 r', .int .u32 c', .int .u64 b', .int .u8 p'] 27)).alloc (.cells #[.int .u64 r'', .int .u32 c'', .int .u64 b'', .int .u8 p''] 27)) W → (W.cell? ⟨w.heap.size, 0, Option.none⟩ = some (.int .u64 r) ∧ W.cell? ⟨w.heap.size, 1, Option.none⟩ = some (.int .u32 c) ∧ W.cell? ⟨w.heap.size, 2, Option.none⟩ = some (.int .u64 b) ∧ W.cell? ⟨w.heap.size, 3, Option.none⟩ = some (.int .u8 p)) ∧ (W.cell? ⟨w.heap.size + 1, 0, Option.none⟩ = some (.int .u64 r') ∧ W.cell? ⟨w.heap.size + 1, 1, Option.none⟩ = some (.int .u32 c') ∧ W.cell? ⟨w.heap.size + 1, 2, Option.none⟩ = some (.int .u64 b') ∧ W.cell? ⟨w.heap.size + 1, 3, Option.none⟩ = some (.int .u8 p')) ∧ (W.cell? ⟨w.heap.size + 1 + 1, 0, Option.none⟩ = some (.int .u64 r'') ∧ W.cell? ⟨w.heap.size + 1 + 1, 1, Option.none⟩ = some (.int .u32 c'') ∧ W.cell? ⟨w.heap.size + 1 + 1, 2, Option.none⟩ = some (.int .u64 b'') ∧ W.cell? ⟨w.heap.size + 1 + 1, 3, Option.none⟩ = some (.int .u8 p'')) := by
    intro W K
    obtain ⟨a0, a1⟩ := two_allocs w (.cells #[.int .u64 r, .int .u32 c, .int .u64 b, .int .u8 p] 27) (.cells #[.int .u64 r', .int .u32 c', .int .u64 b', .int .u8 p'] 27)
    have ka : Keeps Nil ((w.alloc (.cells #[.int .u64 r, .int .u32 c, .int .u64 b, .int .u8 p] 27)).alloc (.cells #[.int .u64 r', .int .u32 c', .int .u64 b', .int .u8 p'] 27)) W := ((Keeps.refl _ _).alloc _).trans K
    obtain ⟨_, a2⟩ := two_allocs (w.alloc (.cells #[.int .u64 r, .int .u32 c, .int .u64 b, .int .u8 p] 27)) (.cells #[.int .u64 r', .int .u32 c', .int .u64 b', .int .u8 p'] 27) (.cells #[.int .u64 r'', .int .u32 c'', .int .u64 b'', .int .u8 p''] 27)
    rw [show (w.alloc (.cells #[.int .u64 r, .int .u32 c, .int .u64 b, .int .u8 p] 27)).heap.size = w.heap.size + 1 from by simp] at a2
    exact ⟨held4 ka a0, held4 ka a1, held4 K a2⟩
  have HS' := hid HS
  have kk : Keeps Nil (((w.alloc (.cells #[.int .u64 r, .int .u32 c, .int .u64 b, .int .u8 p] 27)).alloc (.cells #[.int .u64 r', .int .u32 c', .int .u64 b', .int .u8 p'] 27)).alloc (.cells #[.int .u64 r'', .int .u32 c'', .int .u64 b'', .int .u8 p''] 27)) (((w.alloc (.cells #[.int .u64 r, .int .u32 c, .int .u64 b, .int .u8 p] 27)).alloc (.cells #[.int .u64 r', .int .u32 c', .int .u64 b', .int .u8 p'] 27)).alloc (.cells #[.int .u64 r'', .int .u32 c'', .int .u64 b'', .int .u8 p''] 27)) := Keeps.refl _ _
  clear HS
  go_enter Try.func5, Try.ntmps5
  go_wp2_with fail
  go_region_held3 (fun w' => (w'.cell? ⟨w.heap.size, 0, Option.none⟩ = some (.int .u64 r) ∧ w'.cell? ⟨w.heap.size, 1, Option.none⟩ = some (.int .u32 c) ∧ w'.cell? ⟨w.heap.size, 2, Option.none⟩ = some (.int .u64 b) ∧ w'.cell? ⟨w.heap.size, 3, Option.none⟩ = some (.int .u8 p)) ∧ (w'.cell? ⟨w.heap.size + 1, 0, Option.none⟩ = some (.int .u64 r') ∧ w'.cell? ⟨w.heap.size + 1, 1, Option.none⟩ = some (.int .u32 c') ∧ w'.cell? ⟨w.heap.size + 1, 2, Option.none⟩ = some (.int .u64 b') ∧ w'.cell? ⟨w.heap.size + 1, 3, Option.none⟩ = some (.int .u8 p')) ∧ (w'.cell? ⟨w.heap.size + 1 + 1, 0, Option.none⟩ = some (.int .u64 r'') ∧ w'.cell? ⟨w.heap.size + 1 + 1, 1, Option.none⟩ = some (.int .u32 c'') ∧ w'.cell? ⟨w.heap.size + 1 + 1, 2, Option.none⟩ = some (.int .u64 b'') ∧ w'.cell? ⟨w.heap.size + 1 + 1, 3, Option.none⟩ = some (.int .u8 p''))) (first | exact HS'.out _ kk | exact HS'.out _ kk.drew) ((go_at_call 11; refine (compare_any _ _ _ _ _ _ _ _ _).mono ?_; rintro e wz ⟨rfl, kz⟩; (first | rw [HX.out] | rw [HY.out] | rw [HZ.out]); have kk : Keeps Nil (((w.alloc (.cells #[.int .u64 r, .int .u32 c, .int .u64 b, .int .u8 p] 27)).alloc (.cells #[.int .u64 r', .int .u32 c', .int .u64 b', .int .u8 p'] 27)).alloc (.cells #[.int .u64 r'', .int .u32 c'', .int .u64 b'', .int .u8 p''] 27)) wz := by first | exact kk.trans kz | exact kk.drew.trans kz | exact kk.drew.drew.trans kz | exact kk.drew.drew.drew.trans kz))
  obtain ⟨⟨a0, a1, a2, a3⟩, ⟨b0, b1, b2, b3⟩, c0, c1, c2, c3⟩ := HS'.out _ kk
  rename (_ ∧ _) ∧ _ => hheld
  clear hheld
  have HCASE := hid hcase
  clear hcase
  go_upto_region 2 with (fail)
  go_cut [67] (fun s67 wx => s67 = .bool false ∧ Keeps Nil (((w.alloc (.cells #[.int .u64 r, .int .u32 c, .int .u64 b, .int .u8 p] 27)).alloc (.cells #[.int .u64 r', .int .u32 c', .int .u64 b', .int .u8 p'] 27)).alloc (.cells #[.int .u64 r'', .int .u32 c'', .int .u64 b'', .int .u8 p''] 27)) wx)
  case first =>
    have HKK := hid kk
    clear kk
    have hparts : ¬ (r = r' ∧ c = c' ∧ b = b' ∧ p = p') → (¬ r = r') ∨ (r = r' ∧ ¬ c = c') ∨ (r = r' ∧ c = c' ∧ ¬ b = b') ∨ (r = r' ∧ c = c' ∧ b = b' ∧ ¬ p = p') := by omega
    have HP := hid hparts
    clear hparts
    rcases HCASE.out with ⟨rfl, rfl, rfl, rfl, rfl, rfl⟩ | ⟨rfl | ⟨rfl, hy, hz⟩ | ⟨rfl, hy⟩, hne⟩
    all_goals try (rcases HP.out hne with hn | ⟨rfl, hn⟩ | ⟨rfl, rfl, hn⟩ | ⟨rfl, rfl, rfl, hn⟩)
    all_goals try clear hne
    all_goals clear HCASE HP
    all_goals
      go_wp2_with fail
      refine (HC4.out _).mono ?_; rintro e wq ⟨rfl, kq⟩
      obtain ⟨⟨a0, a1, a2, a3⟩, ⟨b0, b1, b2, b3⟩, c0, c1, c2, c3⟩ := HS'.out _ (HKK.out.trans kq)
      go_wp2_with fail
    all_goals (go_meet; exact ⟨by first | rfl | (simp; omega), HKK.out.trans kq⟩)
  case rest =>
    obtain ⟨rfl, kk⟩ := hcut
    obtain ⟨⟨a0, a1, a2, a3⟩, ⟨b0, b1, b2, b3⟩, c0, c1, c2, c3⟩ := HS'.out _ kk
    clear c0 c1 c2 c3 HC1 HC2 HC3 HC4 HY HZ HCASE
    have hb0 : Keeps Nil w (((w.alloc (.cells #[.int .u64 r, .int .u32 c, .int .u64 b, .int .u8 p] 27)).alloc (.cells #[.int .u64 r', .int .u32 c', .int .u64 b', .int .u8 p'] 27)).alloc (.cells #[.int .u64 r'', .int .u32 c'', .int .u64 b'', .int .u8 p''] 27)) := (((Keeps.refl _ _).alloc _).alloc _).alloc _
    have HB0 := hid hb0
    clear hb0
    by_cases hf : farB c k = true
    · have F1 : ∀ W, Calls Try.prog 9 #[vec r c b p, .int .u32 k] W fun e w' => e = .returned (.tuple #[vec r (c + k) b p, .bool true]) ∧ Keeps Nil W w' := fun W => by
        simpa [farV, hf] using far_any r c b p k hc hc' hk hk' W
      have hk0 : 0 < k := by simp [farB] at hf; omega
      have hck : c + k ≤ 16777216 := by simp [farB] at hf; omega
      have C5 : ∀ W, Calls Try.prog 11 #[vec r c b p, vec r (c + k) b p] W fun e w' => e = .returned (.int .i64 (-1)) ∧ Keeps Nil W w' := by rw [← stand_far r c b p k hk0]; exact compare_any _ _ _ _ _ _ _ _
      have HF1 := hid F1
      have HC5 := hid C5
      clear F1 C5
      go_wp2_with fail
      refine (HF1.out _).mono ?_; rintro e wf ⟨rfl, kf⟩
      have kb := kk.trans kf
      have zs := kb.size
      simp at zs
      have z1 : w.heap.size < wf.heap.size := by omega
      have z2 : w.heap.size + 1 < wf.heap.size := by omega
      have z3 : w.heap.size + 1 + 1 < wf.heap.size := by omega
      obtain ⟨⟨a0, a1, a2, a3⟩, ⟨b0, b1, b2, b3⟩, _⟩ := HS'.out _ kb
      go_wp2_with fail
      refine (HC5.out _).mono ?_; rintro e wg ⟨rfl, kg⟩
      have kb2 := (kb.alloc _).trans kg
      obtain ⟨⟨a0, a1, a2, a3⟩, ⟨b0, b1, b2, b3⟩, _⟩ := HS'.out _ kb2
      obtain ⟨d0, d1, d2, d3⟩ := held4 kg (alloc_block wf _)
      have HD := hid ((kg.block _ (by simp) (fun e => e)).trans (alloc_block wf _))
      have HB2 := hid kb2
      by_cases hg : farB c' k = true
      · have F2 : ∀ W, Calls Try.prog 9 #[vec r' c' b' p', .int .u32 k] W fun e w' => e = .returned (.tuple #[vec r' (c' + k) b' p', .bool true]) ∧ Keeps Nil W w' := fun W => by
          simpa [farV, hg] using far_any r' c' b' p' k hd hd' hk hk' W
        have C6 : ∀ W, Calls Try.prog 11 #[vec r (c + k) b p, vec r' (c' + k) b' p'] W fun e w' => e = .returned (.int .i64 x) ∧ Keeps Nil W w' := by
          rw [← HX.out, ← stand_both r c b p r' c' b' p' k]; exact compare_any _ _ _ _ _ _ _ _
        have HF2 := hid F2
        have HC6 := hid C6
        clear F2 C6 kb2
        go_wp2_with fail
        refine (HF2.out _).mono ?_; rintro e wh ⟨rfl, kh⟩
        have z4 : wf.heap.size < wh.heap.size := by have h1 := kg.size; have h2 := kh.size; simp at h1; omega
        obtain ⟨d0, d1, d2, d3⟩ := held4 kh HD.out
        go_wp2_with fail
        refine (HC6.out _).mono ?_; rintro e wi ⟨rfl, ki⟩
        go_wp2_with fail
        refine (wakes_any _).mono ?_; rintro e wj ⟨rfl, kj⟩
        go_wp2_with fail
        go_ret
        exact ⟨rfl, ((((HB0.out.trans HB2.out).trans kh).alloc _).trans ki).trans kj⟩
      · have F2 : ∀ W, Calls Try.prog 9 #[vec r' c' b' p', .int .u32 k] W fun e w' => e = .returned (.tuple #[vec 0 0 0 0, .bool false]) ∧ Keeps Nil W w' := fun W => by
          simpa [farV, hg] using far_any r' c' b' p' k hd hd' hk hk' W
        have HF2 := hid F2
        clear F2 kb2
        go_wp2_with fail
        refine (HF2.out _).mono ?_; rintro e wh ⟨rfl, kh⟩
        have z4 : wf.heap.size < wh.heap.size := by have h1 := kg.size; have h2 := kh.size; simp at h1; omega
        go_wp2_with fail
        refine (wakes_any _).mono ?_; rintro e wj ⟨rfl, kj⟩
        go_wp2_with fail
        go_ret
        exact ⟨rfl, (((HB0.out.trans HB2.out).trans kh).alloc _).trans kj⟩
    · have F1 : ∀ W, Calls Try.prog 9 #[vec r c b p, .int .u32 k] W fun e w' => e = .returned (.tuple #[vec 0 0 0 0, .bool false]) ∧ Keeps Nil W w' := fun W => by
        simpa [farV, hf] using far_any r c b p k hc hc' hk hk' W
      have HF1 := hid F1
      clear F1
      have hor : k = 0 ∨ (¬ k = 0 ∧ 16777216 < c + k) := by simp [farB] at hf; omega
      rcases hor with rfl | ⟨hk0, hck⟩
      · go_wp2_with fail
        refine (HF1.out _).mono ?_; rintro e wf ⟨rfl, kf⟩
        have kb := kk.trans kf
        have zs := kb.size
        simp at zs
        have z1 : w.heap.size < wf.heap.size := by omega
        obtain ⟨⟨a0, a1, a2, a3⟩, _, _⟩ := HS'.out _ kb
        go_wp2_with fail
        refine (wakes_any _).mono ?_; rintro e wj ⟨rfl, kj⟩
        go_wp2_with fail
        go_ret
        exact ⟨rfl, ((HB0.out.trans kb).alloc _).trans kj⟩
      · have hz0 : (k == 0) = false := by simp [hk0]
        have hz1 : decide (16777216 < c + k) = true := by simp; omega
        go_wp2_with fail
        refine (HF1.out _).mono ?_; rintro e wf ⟨rfl, kf⟩
        have kb := kk.trans kf
        have zs := kb.size
        simp at zs
        have z1 : w.heap.size < wf.heap.size := by omega
        obtain ⟨⟨a0, a1, a2, a3⟩, _, _⟩ := HS'.out _ kb
        go_wp2_with fail
        refine (wakes_any _).mono ?_; rintro e wj ⟨rfl, kj⟩
        go_wp2_with fail
        go_ret
        exact ⟨rfl, ((HB0.out.trans kb).alloc _).trans kj⟩
end Go.Proofs.Ytndhccdknloinaa
