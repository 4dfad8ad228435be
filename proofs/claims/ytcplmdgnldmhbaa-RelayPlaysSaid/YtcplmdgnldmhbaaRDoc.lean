/-
  RelayPlays, the plain law: the ports that the document tells are those that the program tells. No program. Conditions: as each lemma says.
-/
import Derived.Test.YtcplmdgnldmhbaaRLaw
namespace Go.Proofs.Ytcplmdgnldmhbaa
open Go.RowKit
set_option linter.unusedVariables false
set_option linter.unusedSimpArgs false

/-- Eight ports as a set. -/
def setOf (f : Nat → Bool) : Int := ((List.range 8).map (fun p => if f p then (2 : Int) ^ p else 0)).foldl (· + ·) 0
theorem setOf_congr {f g : Nat → Bool} (h : ∀ p, p < 8 → f p = g p) : setOf f = setOf g := by
  unfold setOf
  congr 1
  apply List.map_congr_left
  intro p hp
  rw [h p (List.mem_range.1 hp)]
theorem setOf_bits (b : BitVec 8) : setOf (fun p => b.getLsbD p) = (b.toNat : Int) := by
  have key : ∀ n : Fin 256, setOf (fun p => (BitVec.ofNat 8 n).getLsbD p) = ((n : Nat) : Int) := by decide +kernel
  have h := key ⟨b.toNat, b.isLt⟩
  simpa using h
/-- The document's ports. -/
noncomputable def goes7 (M : Int) (τ : Tb) (inn : Int) (dst src : Pl) (set : Int) : (Nat → Bool) × Tb :=
  if resvB dst = true ∨ 7 < inn then (fun _ => false, τ)
  else if 0 ≤ inn ∧ ¬ ((B8 M).getLsbD inn.toNat = true ∧ (B8 set).getLsbD inn.toNat = true) then (fun _ => false, τ)
  else match (if 0 ≤ inn then τ.learn src inn else τ).look dst with
    | (u, z) => (fun p => decide ((p : Int) ≠ inn) && ((B8 M).getLsbD p && ((B8 set).getLsbD p && (!z || (B8 u).getLsbD p))), if 0 ≤ inn then τ.learn src inn else τ)
theorem setOf_none : setOf (fun _ => false) = 0 := by decide
theorem pow_bit (inn : Int) (h0 : 0 ≤ inn) (h8 : inn < 8) (p : Nat) (hp : p < 8) : (B8 (2 ^ inn.toNat)).getLsbD p = decide ((p : Int) = inn) := by
  have key : ∀ (q : Fin 8) (p : Fin 8), (B8 (2 ^ (q : Nat))).getLsbD (p : Nat) = decide ((p : Nat) = (q : Nat)) := by decide +kernel
  have h := key ⟨inn.toNat, by omega⟩ ⟨p, hp⟩
  simp only at h
  rw [h]
  congr 1
  apply propext
  omega
theorem goes_same (V : List (Pl × Int)) (τ : Tb) (inn : Int) (dst src : Pl) (set : Int) :
    goesP V τ inn dst src set = (setOf (goes7 (vcode V dst.v / 256) τ inn dst src set).1, (goes7 (vcode V dst.v / 256) τ inn dst src set).2) := by
  generalize hM : vcode V dst.v / 256 = M
  unfold goesP goes7
  rw [hM]
  by_cases hr : resvB dst = true
  · rw [if_pos hr, if_pos (.inl hr), setOf_none]
  · rw [if_neg hr]
    by_cases h0 : 0 ≤ inn
    · rw [if_pos h0]
      by_cases h8 : 8 ≤ inn
      · rw [if_pos (.inl h8), if_pos (.inr (by omega)), setOf_none]
      · rw [if_neg (show ¬ (resvB dst = true ∨ 7 < inn) from fun h => h.elim hr (fun h => by omega))]
        have hz := zbit8 (B8 M &&& B8 set) inn h0 (by omega)
        rw [← and8, BitVec.getLsbD_and] at hz
        by_cases hb : (B8 M).getLsbD inn.toNat = true ∧ (B8 set).getLsbD inn.toNat = true
        · rw [if_neg (fun h => by rw [hz, hb.1, hb.2] at h; rcases h with h | h; exact h8 h; cases h), if_neg (fun h => h.2 hb), if_pos h0]
          rcases hlk : (τ.learn src inn).look dst with ⟨u, z⟩
          simp only
          refine Prod.ext ?_ rfl
          cases z with
          | false =>
            simp only [Bool.false_eq_true, if_false]
            rw [not8, and8, B8_nat, ← setOf_bits]
            refine setOf_congr (fun p hp => ?_)
            rw [BitVec.getLsbD_and, BitVec.getLsbD_and, BitVec.getLsbD_not, pow_bit inn h0 (by omega) p hp]
            by_cases e : (p : Int) = inn <;> simp [e, hp]
          | true =>
            simp only [if_true]
            rw [and8, not8, and8, B8_nat, B8_nat, ← setOf_bits]
            refine setOf_congr (fun p hp => ?_)
            rw [BitVec.getLsbD_and, BitVec.getLsbD_and, BitVec.getLsbD_and, BitVec.getLsbD_not, pow_bit inn h0 (by omega) p hp]
            by_cases e : (p : Int) = inn <;> simp [e, hp, Bool.and_assoc]
        · rw [if_pos (.inr (by rw [hz]; cases h1 : (B8 M).getLsbD inn.toNat <;> cases h2 : (B8 set).getLsbD inn.toNat <;> simp_all)), if_pos ⟨h0, hb⟩, setOf_none]
    · rw [if_neg h0, if_neg (show ¬ (resvB dst = true ∨ 7 < inn) from fun h => h.elim hr (fun h => by omega)), if_neg (fun h => h0 h.1), if_neg h0]
      rcases hlk : τ.look dst with ⟨u, z⟩
      simp only
      refine Prod.ext ?_ rfl
      cases z with
      | false =>
        simp only [Bool.false_eq_true, if_false]
        rw [and8, ← setOf_bits]
        refine setOf_congr (fun p hp => ?_)
        rw [BitVec.getLsbD_and]
        have e : (p : Int) ≠ inn := by omega
        simp [e]
      | true =>
        simp only [if_true]
        rw [and8, and8, B8_nat, ← setOf_bits]
        refine setOf_congr (fun p hp => ?_)
        rw [BitVec.getLsbD_and, BitVec.getLsbD_and]
        have e : (p : Int) ≠ inn := by omega
        simp [e, Bool.and_assoc]
end Go.Proofs.Ytcplmdgnldmhbaa
