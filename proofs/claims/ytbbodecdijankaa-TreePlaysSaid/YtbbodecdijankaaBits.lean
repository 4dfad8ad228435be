/-
  Layer 9: the ports to flush, as a row of Bools and as a set in a number. No condition.
-/
import Derived.Test.YtbbodecdijankaaTm
namespace Go.Proofs.Ytbbodecdijankaa
open Go.RowKit
set_option linter.unusedVariables false
set_option maxRecDepth 8000

/-- The set of a row. -/
def setOf : List Bool → Int
  | [] => 0
  | b :: F => (if b then 1 else 0) + 2 * setOf F
/-- The row of a number. -/
def rowOf : Nat → Nat → List Bool
  | 0, _ => []
  | k + 1, n => (n % 2 == 1) :: rowOf k (n / 2)
theorem setOf_range (F : List Bool) : 0 ≤ setOf F ∧ setOf F < 2 ^ F.length := by
  induction F with
  | nil => simp [setOf]
  | cons b F ih =>
    simp only [setOf, List.length_cons, Int.pow_succ]
    cases b <;> simp <;> omega
theorem rowOf_setOf (F : List Bool) : rowOf F.length (setOf F).toNat = F := by
  induction F with
  | nil => rfl
  | cons b F ih =>
    have h := (setOf_range F).1
    simp only [setOf, List.length_cons, rowOf]
    have e : ((if b = true then 1 else 0) + 2 * setOf F).toNat / 2 = (setOf F).toNat := by cases b <;> simp <;> omega
    have e2 : (((if b = true then 1 else 0) + 2 * setOf F).toNat % 2 == 1) = b := by cases b <;> simp <;> omega
    rw [e, e2, ih]
theorem setOf_pad (F : List Bool) (k : Nat) : setOf (F ++ List.replicate k false) = setOf F := by
  induction F with
  | nil =>
    simp only [List.nil_append, setOf]
    induction k with
    | zero => rfl
    | succ k ih => simp [List.replicate_succ, setOf, ih]
  | cons b F ih => simp only [List.cons_append, setOf, ih]
theorem setOf_none (k : Nat) : setOf (List.replicate k false) = 0 := by
  have := setOf_pad [] k
  simpa [setOf] using this
theorem bor_key : ∀ (n : Fin 256) (q : Fin 8), bor ((n : Nat) : Int) q = setOf ((rowOf 8 n).set q true) := by decide +kernel
theorem mask_key : ∀ (i : Fin 8) (k : Fin 9), bits BinOp.andNot .u8 (2 ^ (k : Nat) - 1) (2 ^ (i : Nat)) = setOf ((List.replicate 8 false).mapIdx (fun j _ => decide (j < k) && !decide (j = i))) := by decide +kernel
theorem or_nat {x y : Nat} (hx : x < 256) (hy : y < 256) : bits BinOp.or .u8 (x : Int) (y : Int) = ((x ||| y : Nat) : Int) := by
  have h : x ||| y < 2 ^ 8 := Nat.or_lt_two_pow hx hy
  simp only [bits]
  have e1 : BitVec.ofInt IntKind.u8.bits (x : Int) = BitVec.ofNat 8 x := by simp [IntKind.bits]
  have e2 : BitVec.ofInt IntKind.u8.bits (y : Int) = BitVec.ofNat 8 y := by simp [IntKind.bits]
  rw [e1, e2]
  have e3 : (BitVec.ofNat 8 x ||| BitVec.ofNat 8 y).toNat = x ||| y := by
    simp only [BitVec.toNat_or, BitVec.toNat_ofNat]
    rw [Nat.mod_eq_of_lt (by omega), Nat.mod_eq_of_lt (by omega)]
  show IntKind.u8.wrap (((BitVec.ofNat 8 x ||| BitVec.ofNat 8 y).toNat : Nat) : Int) = _
  rw [e3]
  have h2 : ((x ||| y : Nat) : Int) < 256 := by omega
  have h0 : (0 : Int) ≤ ((x ||| y : Nat) : Int) := by omega
  generalize ((x ||| y : Nat) : Int) = z at *
  simp [IntKind.wrap, IntKind.signed, IntKind.bits]
  omega
theorem or_setOf : ∀ (F G : List Bool), F.length = G.length → (setOf F).toNat ||| (setOf G).toNat = (setOf (List.zipWith (· || ·) F G)).toNat
  | [], [], _ => by simp [setOf]
  | b :: F, c :: G, h => by
    have ih := or_setOf F G (by simpa using h)
    have hF := (setOf_range F).1
    have hG := (setOf_range G).1
    have hZ := (setOf_range (List.zipWith (· || ·) F G)).1
    simp only [setOf, List.zipWith_cons_cons]
    have key : ∀ m n : Nat, ∀ p q : Bool, ((if p then 1 else 0) + 2 * m) ||| ((if q then 1 else 0) + 2 * n) = (if (p || q) then 1 else 0) + 2 * (m ||| n) := by
      intro m n p q
      apply Nat.eq_of_testBit_eq
      intro i
      rw [Nat.testBit_or]
      cases i with
      | zero => cases p <;> cases q <;> simp [Nat.testBit_zero] <;> omega
      | succ i =>
        simp only [Nat.testBit_succ]
        have e : ∀ (r : Bool) (z : Nat), ((if r = true then 1 else 0) + 2 * z) / 2 = z := by intro r z; cases r <;> simp <;> omega
        rw [e, e, e, Nat.testBit_or]
    have e : ∀ (r : Bool) (z : Int), 0 ≤ z → ((if r = true then 1 else 0) + 2 * z).toNat = (if r = true then 1 else 0) + 2 * z.toNat := by intro r z hz; cases r <;> simp <;> omega
    rw [e _ _ hF, e _ _ hG, e _ _ hZ, key, ih]
theorem or_rows {F G : List Bool} (h : F.length = 8) (hG : G.length = 8) : bits BinOp.or .u8 (setOf F) (setOf G) = setOf (List.zipWith (· || ·) F G) := by
  have h1 := setOf_range F
  have h2 := setOf_range G
  have h3 := setOf_range (List.zipWith (· || ·) F G)
  rw [h] at h1
  rw [hG] at h2
  have e1 : ((setOf F).toNat : Int) = setOf F := by omega
  have e2 : ((setOf G).toNat : Int) = setOf G := by omega
  have k := or_nat (x := (setOf F).toNat) (y := (setOf G).toNat) (by omega) (by omega)
  rw [e1, e2, or_setOf F G (by omega)] at k
  rw [k]
  omega
theorem pad8 {F : List Bool} (h : F.length ≤ 8) : ∃ n : Fin 256, setOf F = ((n : Nat) : Int) ∧ F ++ List.replicate (8 - F.length) false = rowOf 8 n := by
  have hl : (F ++ List.replicate (8 - F.length) false).length = 8 := by simp; omega
  have hr := setOf_range (F ++ List.replicate (8 - F.length) false)
  have hw := rowOf_setOf (F ++ List.replicate (8 - F.length) false)
  rw [hl, setOf_pad] at hr hw
  refine ⟨⟨(setOf F).toNat, by have : (2 : Int) ^ 8 = 256 := by decide
                               omega⟩, ?_, hw.symm⟩
  have := (setOf_range F).1
  simp only
  omega
/-- A bit put in. -/
theorem bor_set {F : List Bool} {i : Nat} (h : F.length ≤ 8) (hi : i < F.length) : bor (setOf F) i = setOf (F.set i true) := by
  obtain ⟨n, e, hp⟩ := pad8 h
  have k := bor_key n ⟨i, by omega⟩
  simp only at k
  rw [e, k, ← hp, List.set_append_left _ _ hi, setOf_pad]
/-- All bits but one. -/
theorem but_set {F : List Bool} {i : Nat} (h : F.length ≤ 8) (hi : i < 8) : orBut (setOf F) i F.length = setOf (F.mapIdx (fun j b => b || !decide (j = i))) := by
  have k := mask_key ⟨i, hi⟩ ⟨F.length, by omega⟩
  simp only at k
  unfold orBut
  rw [k, ← setOf_pad F (8 - F.length), or_rows (by simp; omega) (by simp), ← setOf_pad (F.mapIdx (fun j b => b || !decide (j = i))) (8 - F.length)]
  congr 1
  apply List.ext_getElem?
  intro j
  simp only [List.getElem?_zipWith, List.getElem?_append, List.getElem?_mapIdx, List.length_mapIdx, List.getElem?_replicate]
  by_cases hj : j < F.length
  · rw [if_pos hj, if_pos hj, if_pos (by omega), List.getElem?_eq_getElem hj]
    simp [hj]
  · rw [if_neg hj, if_neg hj]
    by_cases h8 : j < 8
    · rw [if_pos (by omega), if_pos h8]
      simp [hj]
    · rw [if_neg (by omega), if_neg h8]
/-- The bits below k. -/
theorem orTo_set {F : List Bool} (h : F.length ≤ 8) : ∀ k, k ≤ F.length → orTo (setOf F) k = setOf ((F.take k).map (fun _ => true) ++ F.drop k)
  | 0, _ => by simp [orTo]
  | k + 1, hk => by
    rw [orTo, orTo_set h k (by omega), bor_set (by simp; omega) (by simp; omega)]
    congr 1
    rw [List.set_append_right _ _ (by simp; omega), List.take_succ_eq_append_getElem (by omega), List.map_append, List.drop_eq_getElem_cons (by omega)]
    rw [List.length_map, List.length_take, Nat.min_eq_left (show k ≤ F.length by omega), Nat.sub_self, List.append_assoc, List.set_cons_zero]
    rfl
end Go.Proofs.Ytbbodecdijankaa
