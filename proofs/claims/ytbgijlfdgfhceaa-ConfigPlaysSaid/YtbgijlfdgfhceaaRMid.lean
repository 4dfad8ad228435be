/-
  Layer 16: the document's table: Middle. Conditions: it lies so; the numbers are in range.
-/
import Derived.Test.YtbgijlfdgfhceaaRTab
namespace Go.Proofs.Ytbgijlfdgfhceaa
open Go.RowKit
set_option linter.unusedVariables false
set_option linter.unusedSimpArgs false
set_option maxRecDepth 8000

theorem find_none_of {R : List Mi} {p v : Int} {n : Nat} (hn : R.length ≤ n) (h : ∀ i y, i < n → R[i]? = some y → isM p v y = false) : R.find? (isM p v) = Option.none := by
  rw [List.find?_eq_none]
  intro x hx hb
  obtain ⟨i, hi, e⟩ := List.mem_iff_getElem.1 hx
  have := h i x (by omega) (by rw [List.getElem?_eq_getElem hi, e])
  rw [this] at hb; cases hb
theorem isM_no {p v : Int} {x : Mi} (h : x.port ≠ p ∨ x.vid ≠ v) : isM p v x = false := by
  unfold isM
  rcases h with h | h <;> simp [h]
set_option maxHeartbeats 4000000 in
theorem r_middle (p v : Int) (hpv : ALv p v) (k : Nat) {w0 w : World} {τ : CT} {x : Value} (h : RV w0 w k τ x) (hg : τ.Good) (hk : k ≤ 100) :
    Calls Try.prog 31 #[x, .int .u8 p, .int .u16 v] w fun e w' => e = .returned (.int .i64 (τ.mid p v)) ∧ Keeps Nil w w' := by
  obtain ⟨pA, cA, pE, cE, pM, cM, L, R, rfl, h⟩ := h
  have hA := alloc_block w (.cells #[.int .i64 τ.n, .slice pA L.length cA, .slice pE τ.E.length cE, .slice pM R.length cM] 34 (0, 0))
  have kz : Keeps Nil w (w.alloc (.cells #[.int .i64 τ.n, .slice pA L.length cA, .slice pE τ.E.length cE, .slice pM R.length cM] 34 (0, 0))) := (Keeps.refl _ _).alloc _
  have KZ := hid kz
  have H := hid (h.keepN kz)
  have HG := hid hg
  have hlen := h.mat.len
  have hnc := h.rowM.2.1
  clear kz h hg
  go_enter Try.func31, Try.ntmps31
  go_upto_region 1 with (fail)
  generalize (w.alloc (.cells #[.int .i64 τ.n, .slice pA L.length cA, .slice pE τ.E.length cE, .slice pM R.length cM] 34 (0, 0))) = W at *
  generalize w.heap.size = b0 at *
  obtain ⟨n, hn⟩ : ∃ n, R.length = n := ⟨_, rfl⟩
  rw [hn] at hA hlen hnc
  obtain ⟨a0, a1, a2, a3⟩ := four_block hA
  have lA := lt_of_block hA
  have HN := hid hn
  clear hA hn
  go_wp2_with fail
  go_loop [7] (fun s7 => ∃ j : Nat, j ≤ n ∧ s7 = .int .i64 j ∧ Hid (∀ i y, i < j → R[i]? = some y → isM p v y = false)) (fun s7 => n - (intOf s7).toNat)
  case atStart => exact ⟨0, Nat.zero_le _, rfl, hid (fun i y h => absurd h (Nat.not_lt_zero _))⟩
  case round =>
    obtain ⟨j, hj, rfl, HB⟩ := hrel
    by_cases hlt : j < n
    · obtain ⟨x, hx⟩ : ∃ x, R[j]? = some x := ⟨_, List.getElem?_eq_getElem (by have := HN.out; omega)⟩
      obtain ⟨g, off, hp, _, hgl, _, c0, c1, c2⟩ := H.out.rowM.atM hx
      subst hp
      have hms := H.out.mat.mem (List.mem_of_getElem? hx)
      have hlv := HG.out.lev _ _ hms
      have HX := hid hx
      have HMS := hid hms
      have hl0 : 0 ≤ x.lv := hlv.1
      have hl7 : x.lv ≤ 7 := hlv.2
      clear hx hms hlv
      have next : isM p v x = false → Hid (∀ i y, i < j + 1 → R[i]? = some y → isM p v y = false) := fun hf => hid (fun i y hi hy => by
        by_cases e : i = j
        · subst e; have h1 := HX.out; rw [h1] at hy; injection hy with hy; subst hy; exact hf
        · exact HB.out i y (by omega) hy)
      have NX := hid next
      clear next
      by_cases e1 : x.port = p
      · by_cases e2 : x.vid = v
        · have HM := hid (show τ.mid p v = x.lv by unfold CT.mid; rw [← e1, ← e2, HMS.out])
          have q1 : (x.port == p) = true := by simp [e1]
          have q2 : (x.vid == v) = true := by simp [e2]
          clear e1 e2
          go_wp2_with fail
          go_ret
          exact ⟨by rw [HM.out]; rfl, KZ.out⟩
        · have HX' := NX.out (isM_no (.inr e2))
          have q1 : (x.port == p) = true := by simp [e1]
          have q2 : (x.vid == v) = false := by simp [e2]
          clear e1 e2
          go_wp2_with fail
          go_round
          case rel => exact ⟨j + 1, by omega, by go_num, HX'⟩
          case measure => simp only [intOf]; omega
      · have HX' := NX.out (isM_no (.inl e1))
        have q1 : (x.port == p) = false := by simp [e1]
        clear e1
        go_wp2_with fail
        go_round
        case rel => exact ⟨j + 1, by omega, by go_num, HX'⟩
        case measure => simp only [intOf]; omega
    · obtain rfl : j = n := by omega
      have HM := hid (show τ.mid p v = -1 by unfold CT.mid; rw [H.out.mat.tells, find_none_of (by have := HN.out; omega) HB.out]; rfl)
      go_wp2_with fail
      go_ret
      exact ⟨by rw [HM.out]; rfl, KZ.out⟩
end Go.Proofs.Ytbgijlfdgfhceaa
