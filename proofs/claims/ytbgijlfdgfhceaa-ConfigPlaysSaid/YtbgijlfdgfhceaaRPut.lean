/-
  Layer 10 in the document: Put: whether it is refused. No condition.
-/
import Derived.Test.YtbgijlfdgfhceaaName10
import Derived.Lib.AppendStr
import Derived.Laws.BytesArg
namespace Go.Proofs.Ytbgijlfdgfhceaa
open Go.RowKit
set_option linter.unusedVariables false
set_option linter.unusedSimpArgs false
set_option maxRecDepth 8000

theorem nm_own {own : ByteArray} : nmB own false = (!decide (own = ⟨#[]⟩) && plainS own) := by
  unfold nmB
  by_cases h : own = ⟨#[]⟩
  · subst h
    rw [decide_eq_true (show (⟨#[]⟩ : ByteArray) = ⟨#[]⟩ from rfl), show (decide (0 < (⟨#[]⟩ : ByteArray).size)) = false from rfl]
    simp
  · have : 0 < own.size := by
      rcases Nat.eq_zero_or_pos own.size with h0 | h0
      · exact absurd (ByteArray.ext (Array.eq_empty_of_size_eq_zero h0)) h
      · exact h0
    simp [h, this]
theorem nm_dom {dom : ByteArray} : nmB dom true = plainS dom := by unfold nmB; simp
theorem one_str (W : World) (b : Nat) (z : Int) (h : W.cell? ⟨b, 0, Option.none⟩ = some (.int .u8 z)) : (convert 105 9 (.slice (some ⟨b, 0, Option.none⟩) 1 1)).run Try.prog W = .ok (.string (strOfNums [z])) W :=
  run_convert_bytes_arg W 105 5 Try.underlying105 Try.underlying5 b 0 1 1 [z] rfl (fun i hi => by
    have : i = 0 := by omega
    subst this
    exact h) 9 Try.underlying9
theorem str_one (z : Int) : (strOfNums [z]).size = 1 := rfl
theorem str_app (a b : ByteArray) : (a ++ b).size = a.size + b.size := ByteArray.size_append
set_option maxHeartbeats 8000000 in
theorem rput_names (dom own : ByteArray) (w : World) (hd : dom.size ≤ 1000) (ho : own.size ≤ 1000) : Calls Try.prog 50 #[.string dom, .string own] w fun e w' => (∃ s er, e = .returned (.tuple #[.string s, .int .i64 er]) ∧ ((er != 0) = !nameB dom own)) ∧ Keeps Nil w w' := by
  have ND := fun W => name_any dom true W (by omega)
  have NO := fun W => name_any own false W (by omega)
  rw [nm_dom] at ND
  rw [nm_own] at NO
  cases h1 : plainS dom with
  | false =>
    have HN := hid (show nameB dom own = false by simp [nameB, h1])
    rw [h1] at ND
    go_enter Try.func50, Try.ntmps50
    go_wp2_with fail
    refine (ND _).mono ?_; rintro e w' ⟨rfl, rfl⟩
    go_wp2_with fail
    go_ret2
    exact ⟨⟨_, _, rfl, by rw [HN.out]; rfl⟩, Keeps.refl _ _⟩
  | true =>
    rw [h1] at ND
    cases h2 : (!decide (own = ⟨#[]⟩) && plainS own) with
    | false =>
      have HN := hid (show nameB dom own = false by unfold nameB; rw [h2]; rfl)
      rw [h2] at NO
      go_enter Try.func50, Try.ntmps50
      go_wp2_with fail
      refine (ND _).mono ?_; rintro e w' ⟨rfl, rfl⟩
      go_wp2_with fail
      refine (NO _).mono ?_; rintro e w' ⟨rfl, rfl⟩
      go_wp2_with fail
      go_ret2
      exact ⟨⟨_, _, rfl, by rw [HN.out]; rfl⟩, Keeps.refl _ _⟩
    | true =>
      rw [h2] at NO
      have HN := hid (show nameB dom own = decide (dom.size + own.size ≤ 44) by unfold nameB; rw [h2, h1]; simp)
      by_cases h3 : dom.size + own.size ≤ 44
      · have HT := hid (show nameB dom own = true by rw [HN.out]; simp [h3])
        have i1 : ¬ (44 : Int) < (dom.size : Int) := by omega
        have i2 : ¬ (44 : Int) < (own.size : Int) := by omega
        have i3 : ¬ (44 : Int) < (dom.size : Int) + (own.size : Int) := by omega
        cases h4 : dom.toList.isEmpty with
        | true =>
          go_enter Try.func50, Try.ntmps50
          go_wp2_with fail
          refine (ND _).mono ?_; rintro e w' ⟨rfl, rfl⟩
          go_wp2_with fail
          refine (NO _).mono ?_; rintro e w' ⟨rfl, rfl⟩
          have hz1 := str_one (own.size : Int)
          have hz2 := str_one (dom.size : Int)
          have hcv := one_str (w.alloc (.cells #[.int .u8 (own.size : Int)] 5 (0, 0))) w.heap.size own.size (by simp only [World.cell?, alloc_block]; rfl)
          go_wp2_with fail
          have hz : (⟨#[1]⟩ ++ ⟨#[2]⟩ ++ strOfNums [(own.size : Int)] ++ own).size ≤ 48 := by simp only [str_app, str_one]; show 1 + 1 + 1 + own.size ≤ 48; omega
          generalize (⟨#[1]⟩ ++ ⟨#[2]⟩ ++ strOfNums [(own.size : Int)] ++ own) = s0 at *
          go_loop [6] (fun s6 => ∃ s : ByteArray, s.size ≤ 48 ∧ s6 = .string s) (fun s6 => match s6 with | .string s => 48 - s.size | _ => 0)
          case atStart => exact ⟨s0, hz, rfl⟩
          case round =>
            obtain ⟨s, hs, rfl⟩ := hrel
            by_cases hl : s.size < 48
            · have hl' : (s.size : Int) < 48 := by omega
              go_wp2_with fail
              go_round
              case rel => exact ⟨_, by rw [str_app]; show s.size + 1 ≤ 48; omega, rfl⟩
              case measure =>
                show 48 - (s ++ ⟨#[0]⟩).size < 48 - s.size
                rw [str_app]
                show 48 - (s.size + 1) < 48 - s.size
                omega
            · have hl' : ¬ (s.size : Int) < 48 := by omega
              go_wp2_with fail
              go_ret2
              exact ⟨⟨_, _, rfl, by rw [HT.out]; rfl⟩, (Keeps.refl _ _).alloc _⟩
        | false =>
          have hz1 := str_one (own.size : Int)
          have hz2 := str_one (dom.size : Int)
          have hcv := one_str (w.alloc (.cells #[.int .u8 (dom.size : Int)] 5 (0, 0))) w.heap.size dom.size (by simp only [World.cell?, alloc_block]; rfl)
          have hcw := one_str ((w.alloc (.cells #[.int .u8 (dom.size : Int)] 5 (0, 0))).alloc (.cells #[.int .u8 (own.size : Int)] 5 (0, 0))) (w.heap.size + 1) own.size (by have := alloc_block (w.alloc (.cells #[.int .u8 (dom.size : Int)] 5 (0, 0))) (.cells #[.int .u8 (own.size : Int)] 5 (0, 0)); rw [World.size_alloc] at this; simp only [World.cell?, this]; rfl)
          go_enter Try.func50, Try.ntmps50
          go_wp2_with fail
          refine (ND _).mono ?_; rintro e w' ⟨rfl, rfl⟩
          go_wp2_with fail
          refine (NO _).mono ?_; rintro e w' ⟨rfl, rfl⟩
          go_wp2_with fail
          have hz : (⟨#[4]⟩ ++ strOfNums [(dom.size : Int)] ++ dom ++ ⟨#[2]⟩ ++ strOfNums [(own.size : Int)] ++ own).size ≤ 48 := by simp only [str_app, str_one]; show 1 + 1 + dom.size + 1 + 1 + own.size ≤ 48; omega
          generalize (⟨#[4]⟩ ++ strOfNums [(dom.size : Int)] ++ dom ++ ⟨#[2]⟩ ++ strOfNums [(own.size : Int)] ++ own) = s0 at *
          go_loop [6] (fun s6 => ∃ s : ByteArray, s.size ≤ 48 ∧ s6 = .string s) (fun s6 => match s6 with | .string s => 48 - s.size | _ => 0)
          case atStart => exact ⟨s0, hz, rfl⟩
          case round =>
            obtain ⟨s, hs, rfl⟩ := hrel
            by_cases hl : s.size < 48
            · have hl' : (s.size : Int) < 48 := by omega
              go_wp2_with fail
              go_round
              case rel => exact ⟨_, by rw [str_app]; show s.size + 1 ≤ 48; omega, rfl⟩
              case measure =>
                show 48 - (s ++ ⟨#[0]⟩).size < 48 - s.size
                rw [str_app]
                show 48 - (s.size + 1) < 48 - s.size
                omega
            · have hl' : ¬ (s.size : Int) < 48 := by omega
              go_wp2_with fail
              go_ret2
              exact ⟨⟨_, _, rfl, by rw [HT.out]; rfl⟩, ((Keeps.refl _ _).alloc _).alloc _⟩
      · have HF := hid (show nameB dom own = false by rw [HN.out]; simp; omega)
        by_cases g1 : 44 < dom.size
        · have i1 : (44 : Int) < (dom.size : Int) := by omega
          go_enter Try.func50, Try.ntmps50
          go_wp2_with fail
          refine (ND _).mono ?_; rintro e w' ⟨rfl, rfl⟩
          go_wp2_with fail
          refine (NO _).mono ?_; rintro e w' ⟨rfl, rfl⟩
          go_wp2_with fail
          go_ret2
          exact ⟨⟨_, _, rfl, by rw [HF.out]; rfl⟩, Keeps.refl _ _⟩
        · have i1 : ¬ (44 : Int) < (dom.size : Int) := by omega
          by_cases g2 : 44 < own.size
          · have i2 : (44 : Int) < (own.size : Int) := by omega
            go_enter Try.func50, Try.ntmps50
            go_wp2_with fail
            refine (ND _).mono ?_; rintro e w' ⟨rfl, rfl⟩
            go_wp2_with fail
            refine (NO _).mono ?_; rintro e w' ⟨rfl, rfl⟩
            go_wp2_with fail
            go_ret2
            exact ⟨⟨_, _, rfl, by rw [HF.out]; rfl⟩, Keeps.refl _ _⟩
          · have i2 : ¬ (44 : Int) < (own.size : Int) := by omega
            have i3 : (44 : Int) < (dom.size : Int) + (own.size : Int) := by omega
            go_enter Try.func50, Try.ntmps50
            go_wp2_with fail
            refine (ND _).mono ?_; rintro e w' ⟨rfl, rfl⟩
            go_wp2_with fail
            refine (NO _).mono ?_; rintro e w' ⟨rfl, rfl⟩
            go_wp2_with fail
            go_ret2
            exact ⟨⟨_, _, rfl, by rw [HF.out]; rfl⟩, Keeps.refl _ _⟩
end Go.Proofs.Ytbgijlfdgfhceaa
