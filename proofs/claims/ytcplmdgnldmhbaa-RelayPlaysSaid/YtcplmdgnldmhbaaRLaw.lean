/-
  RelayBars, the plain law: by which ports a frame may go out. No program. Conditions: the numbers are in range.
-/
import Derived.Test.YtcplmdgnldmhbaaRelay
namespace Go.Proofs.Ytcplmdgnldmhbaa
open Go.RowKit
set_option linter.unusedVariables false
set_option linter.unusedSimpArgs false

abbrev B8 (x : Int) : BitVec 8 := BitVec.ofInt 8 x
theorem B8_nat (b : BitVec 8) : B8 (b.toNat : Int) = b := by
  apply BitVec.eq_of_toNat_eq
  have := b.isLt
  rw [BitVec.toNat_ofInt]
  omega
theorem wrap_nat (b : BitVec 8) : IntKind.u8.wrap ((b.toNat : Nat) : Int) = (b.toNat : Int) := by
  have := b.isLt
  rw [IntKind.wrap_u8]
  omega
theorem and8 (x y : Int) : bits BinOp.and .u8 x y = ((B8 x &&& B8 y).toNat : Int) := wrap_nat _
theorem not8 (x y : Int) : bits BinOp.andNot .u8 x y = ((B8 x &&& ~~~ B8 y).toNat : Int) := wrap_nat _
theorem range8 (b : BitVec 8) : 0 ≤ (b.toNat : Int) ∧ (b.toNat : Int) < 256 := by have := b.isLt; omega
/-- A bit of a set of ports. -/
theorem bit8 (b : BitVec 8) (p : Int) (h0 : 0 ≤ p) (h8 : p < 8) : (bits BinOp.and .u8 ((b.toNat : Int) / 2 ^ p.toNat) 1 == 1) = b.getLsbD p.toNat := by
  have key : ∀ (n : Fin 256) (q : Fin 8), (bits BinOp.and .u8 (((n : Nat) : Int) / 2 ^ (q : Nat)) 1 == 1) = (BitVec.ofNat 8 n).getLsbD q := by decide +kernel
  have h := key ⟨b.toNat, b.isLt⟩ ⟨p.toNat, by omega⟩
  simpa using h
theorem zbit8 (b : BitVec 8) (p : Int) (h0 : 0 ≤ p) (h8 : p < 8) : (bits BinOp.and .u8 ((b.toNat : Int) / 2 ^ p.toNat) 1 == 0) = !b.getLsbD p.toNat := by
  have key : ∀ (n : Fin 256) (q : Fin 8), (bits BinOp.and .u8 (((n : Nat) : Int) / 2 ^ (q : Nat)) 1 == 0) = !(BitVec.ofNat 8 n).getLsbD q := by decide +kernel
  have h := key ⟨b.toNat, b.isLt⟩ ⟨p.toNat, by omega⟩
  simpa using h
theorem pow8 (p : Int) (h0 : 0 ≤ p) (h8 : p < 8) : (B8 (2 ^ p.toNat)).getLsbD p.toNat = true := by
  have key : ∀ q : Fin 8, (B8 (2 ^ (q : Nat))).getLsbD q = true := by decide +kernel
  exact key ⟨p.toNat, by omega⟩
theorem le_not (x y : BitVec 8) (h : ∀ i, x.getLsbD i = true → y.getLsbD i = true) : x &&& ~~~ y = 0#8 := by
  apply BitVec.eq_of_getLsbD_eq
  intro i hi
  have := h i
  cases hx : x.getLsbD i <;> simp_all

/-- What holds of the ports by which a frame goes out. -/
structure Bars (M set inn O u : Int) (z : Bool) : Prop where
  rng : 0 ≤ O ∧ O < 256
  mem : bits BinOp.andNot .u8 O M = 0
  fwd : bits BinOp.andNot .u8 O set = 0
  back : 0 ≤ inn → inn < 8 → (bits BinOp.and .u8 (O / 2 ^ inn.toNat) 1 == 1) = false
  far : 7 < inn → O = 0
  off : 0 ≤ inn → inn < 8 → (bits BinOp.and .u8 (bits BinOp.and .u8 M set / 2 ^ inn.toNat) 1 == 0) = true → O = 0
  one : z = true → bits BinOp.andNot .u8 O u = 0
theorem Bars.of {M set inn u : Int} {z : Bool} (O : BitVec 8) (h1 : ∀ i, O.getLsbD i = true → (B8 M).getLsbD i = true) (h2 : ∀ i, O.getLsbD i = true → (B8 set).getLsbD i = true) (h3 : 0 ≤ inn → inn < 8 → O.getLsbD inn.toNat = false)
    (h4 : 7 < inn → O = 0#8) (h5 : 0 ≤ inn → inn < 8 → (bits BinOp.and .u8 (bits BinOp.and .u8 M set / 2 ^ inn.toNat) 1 == 0) = true → O = 0#8) (h6 : z = true → ∀ i, O.getLsbD i = true → (B8 u).getLsbD i = true) : Bars M set inn (O.toNat : Int) u z := by
  refine ⟨range8 O, ?_, ?_, fun a b => ?_, fun a => by rw [h4 a]; rfl, fun a b c => by rw [h5 a b c]; rfl, fun a => ?_⟩
  · rw [not8, B8_nat, le_not _ _ h1]; rfl
  · rw [not8, B8_nat, le_not _ _ h2]; rfl
  · rw [bit8 O inn a b, h3 a b]
  · rw [not8, B8_nat, le_not _ _ (h6 a)]; rfl
theorem Bars.zero {M set inn u : Int} {z : Bool} : Bars M set inn 0 u z := by
  have := Bars.of (M := M) (set := set) (inn := inn) (u := u) (z := z) 0#8 (by simp) (by simp) (fun _ _ => by simp) (fun _ => rfl) (fun _ _ _ => rfl) (by simp)
  exact this
theorem goes_bars (V : List (Pl × Int)) (τ : Tb) (inn : Int) (dst src : Pl) (set : Int) :
    Bars (vcode V dst.v / 256) set inn (goesP V τ inn dst src set).1 ((goesP V τ inn dst src set).2.look dst).1 ((goesP V τ inn dst src set).2.look dst).2 := by
  generalize hM : vcode V dst.v / 256 = M
  have hout : ∀ i, (B8 M &&& B8 set).getLsbD i = true → (B8 M).getLsbD i = true ∧ (B8 set).getLsbD i = true := fun i h => by simpa using h
  unfold goesP
  rw [hM]
  split
  · exact Bars.zero
  · split
    · rename_i h0
      split
      · exact Bars.zero
      · rename_i hn
        have h8 : inn < 8 := by
          rcases Int.lt_or_le inn 8 with h | h
          · exact h
          · exact absurd (.inl h) hn
        have hbt : (bits BinOp.and .u8 (bits BinOp.and .u8 M set / 2 ^ inn.toNat) 1 == 0) ≠ true := fun h => hn (.inr h)
        have hO : ∀ i, (B8 M &&& B8 set &&& ~~~ B8 (2 ^ inn.toNat)).getLsbD i = true → (B8 M).getLsbD i = true ∧ (B8 set).getLsbD i = true ∧ i ≠ inn.toNat := fun i h => by
          have hp := pow8 inn h0 h8
          simp at h
          refine ⟨h.1.1, h.1.2, fun e => ?_⟩
          subst e
          simp_all
        have hOn : (B8 M &&& B8 set &&& ~~~ B8 (2 ^ inn.toNat)).getLsbD inn.toNat = false := by
          cases h : (B8 M &&& B8 set &&& ~~~ B8 (2 ^ inn.toNat)).getLsbD inn.toNat with
          | false => rfl
          | true => exact absurd rfl (hO _ h).2.2
        rcases hlk : (τ.learn src inn).look dst with ⟨u, z⟩
        simp only [hlk]
        cases z with
        | false =>
          simp only [Bool.false_eq_true, if_false]
          rw [not8, and8, B8_nat]
          exact Bars.of _ (fun i h => (hO i h).1) (fun i h => (hO i h).2.1) (fun _ _ => hOn) (fun h => by omega) (fun _ _ h => absurd h hbt) (fun h => by cases h)
        | true =>
          simp only [if_true]
          rw [and8, not8, and8, B8_nat, B8_nat]
          have hA : ∀ i, (B8 M &&& B8 set &&& ~~~ B8 (2 ^ inn.toNat) &&& B8 u).getLsbD i = true → (B8 M &&& B8 set &&& ~~~ B8 (2 ^ inn.toNat)).getLsbD i = true ∧ (B8 u).getLsbD i = true := fun i h => by
            rw [BitVec.getLsbD_and] at h
            simpa only [Bool.and_eq_true] using h
          refine Bars.of _ (fun i h => (hO i (hA i h).1).1) (fun i h => (hO i (hA i h).1).2.1) (fun _ _ => ?_) (fun h => by omega) (fun _ _ h => absurd h hbt) (fun _ i h => (hA i h).2)
          rw [BitVec.getLsbD_and, hOn]
          rfl
    · rename_i h0
      rcases hlk : τ.look dst with ⟨u, z⟩
      simp only [hlk]
      cases z with
      | false =>
        simp only [Bool.false_eq_true, if_false]
        rw [and8]
        exact Bars.of _ (fun i h => (hout i h).1) (fun i h => (hout i h).2) (fun h => absurd h h0) (fun h => by omega) (fun h => absurd h h0) (fun h => by cases h)
      | true =>
        simp only [if_true]
        rw [and8, and8, B8_nat]
        have hA : ∀ i, (B8 M &&& B8 set &&& B8 u).getLsbD i = true → (B8 M &&& B8 set).getLsbD i = true ∧ (B8 u).getLsbD i = true := fun i h => by
          rw [BitVec.getLsbD_and] at h
          simpa only [Bool.and_eq_true] using h
        exact Bars.of _ (fun i h => (hout i (hA i h).1).1) (fun i h => (hout i (hA i h).1).2) (fun h => absurd h h0) (fun h => by omega) (fun h => absurd h h0) (fun _ i h => (hA i h).2)
end Go.Proofs.Ytcplmdgnldmhbaa
