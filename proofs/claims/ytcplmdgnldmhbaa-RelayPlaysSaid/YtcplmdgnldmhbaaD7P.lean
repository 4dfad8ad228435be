/-
  Layer 7, the document's Set as plain data: which sets of ports may be; where a VLAN goes. No program. Conditions: the numbers are in range.
-/
import Derived.Test.YtcplmdgnldmhbaaRVin
import Derived.Test.YtcplmdgnldmhbaaD7W
namespace Go.Proofs.Ytcplmdgnldmhbaa
open Go.RowKit
set_option linter.unusedVariables false
set_option linter.unusedSimpArgs false

/-- A port's bit. -/
def bitP (q : Int) (p : Nat) : Bool := (bits BinOp.and .u8 (q / 2 ^ p) 1 == 1)
def badB (a b n : Int) (p : Nat) : Bool := (bitP a p && decide (n ≤ (p : Int))) || (bitP b p && !bitP a p)
def badAny (a b n : Int) : Bool := (List.range 8).any (badB a b n)
theorem bitP_nat (b : BitVec 8) {p : Nat} (hp : p < 8) : bitP (b.toNat : Int) p = b.getLsbD p := by
  have h := bit8 b (p : Int) (by omega) (by omega)
  simpa [bitP] using h
theorem high_ports (a n : Int) (ha : 0 ≤ a ∧ a < 256) (hn : 1 ≤ n ∧ n ≤ 8) : (a / 2 ^ n.toNat == 0) = (List.range 8).all (fun p => !(bitP a p && decide (n ≤ (p : Int)))) := by
  have key : ∀ (x : Fin 256) (m : Fin 9), ((((x : Nat) : Int) / 2 ^ (m : Nat)) == 0) = (List.range 8).all (fun p => !(bitP ((x : Nat) : Int) p && decide (((m : Nat) : Int) ≤ (p : Int)))) := by decide +kernel
  have h := key ⟨a.toNat, by omega⟩ ⟨n.toNat, by omega⟩
  have e1 : ((a.toNat : Nat) : Int) = a := by omega
  have e2 : ((n.toNat : Nat) : Int) = n := by omega
  simp only [e1, e2] at h
  exact h
theorem any_bits (c : BitVec 8) : ((c.toNat : Int) != 0) = (List.range 8).any (fun p => c.getLsbD p) := by
  have key : ∀ x : Fin 256, ((((BitVec.ofNat 8 x).toNat : Nat) : Int) != 0) = (List.range 8).any (fun p => (BitVec.ofNat 8 x).getLsbD p) := by decide +kernel
  have h := key ⟨c.toNat, c.isLt⟩
  simpa using h
theorem outside (a b : Int) (ha : 0 ≤ a ∧ a < 256) (hb : 0 ≤ b ∧ b < 256) : (bits BinOp.andNot .u8 b a != 0) = (List.range 8).any (fun p => bitP b p && !bitP a p) := by
  have ea : a = ((B8 a).toNat : Int) := by
    obtain ⟨m, rfl⟩ : ∃ m : Nat, a = m := ⟨a.toNat, by omega⟩
    simp [B8]; omega
  have eb : b = ((B8 b).toNat : Int) := by
    obtain ⟨m, rfl⟩ : ∃ m : Nat, b = m := ⟨b.toNat, by omega⟩
    simp [B8]; omega
  rw [not8, any_bits]
  generalize B8 a = x at *
  generalize B8 b = y at *
  subst ea eb
  rw [Bool.eq_iff_iff, List.any_eq_true, List.any_eq_true]
  constructor
  · rintro ⟨p, hp, h⟩
    have hp' := List.mem_range.1 hp
    refine ⟨p, hp, ?_⟩
    rw [bitP_nat _ hp', bitP_nat _ hp']
    rw [BitVec.getLsbD_and, BitVec.getLsbD_not] at h
    simpa [hp'] using h
  · rintro ⟨p, hp, h⟩
    have hp' := List.mem_range.1 hp
    refine ⟨p, hp, ?_⟩
    rw [bitP_nat _ hp', bitP_nat _ hp'] at h
    rw [BitVec.getLsbD_and, BitVec.getLsbD_not]
    simpa [hp'] using h
theorem bad_iff (a b n : Int) (ha : 0 ≤ a ∧ a < 256) (hb : 0 ≤ b ∧ b < 256) (hn : 1 ≤ n ∧ n ≤ 8) : ((a / 2 ^ n.toNat == 0) = false ∨ (bits BinOp.andNot .u8 b a != 0) = true) ↔ badAny a b n = true := by
  rw [high_ports a n ha hn, outside a b ha hb]
  unfold badAny
  constructor
  · rintro (h | h)
    · rw [List.any_eq_true]
      rw [List.all_eq_false] at h
      obtain ⟨p, hp, h⟩ := h
      exact ⟨p, hp, by unfold badB; simp at h; simp [h]⟩
    · obtain ⟨p, hp, h⟩ := List.any_eq_true.1 h
      exact List.any_eq_true.2 ⟨p, hp, by unfold badB; rw [h]; simp⟩
  · intro h
    obtain ⟨p, hp, h⟩ := List.any_eq_true.1 h
    unfold badB at h
    rw [Bool.or_eq_true] at h
    rcases h with h | h
    · left
      rw [List.all_eq_false]
      exact ⟨p, hp, by simp at h ⊢; exact h⟩
    · right
      exact List.any_eq_true.2 ⟨p, hp, h⟩
/-- The document's Set. -/
def rsetP (n : Int) (L : List (Pl × Int)) (v a b : Int) : List (Pl × Int) × Int :=
  if (decide (1 ≤ v) && decide (v ≤ 4094)) = false ∨ badAny a b n = true then (L, 2)
  else if (sget L (vp v)).isSome = false ∧ 8 ≤ L.length then (L, 6)
  else (vset7 L v (a * 256 + b), 0)
/-- The same pairs. -/
def SameV (V L : List (Pl × Int)) : Prop := (∀ q, sget V q = sget L q) ∧ V.length = L.length ∧ Once V ∧ Once L
theorem SameV.code {V L : List (Pl × Int)} (h : SameV V L) (v : Int) : vcode V v = vcode L v := by unfold vcode; rw [h.1]
theorem SameV.set {V L : List (Pl × Int)} (h : SameV V L) {n v a b : Int} (ha : 0 ≤ a ∧ a < 256) (hb : 0 ≤ b ∧ b < 256) (hn : 1 ≤ n ∧ n ≤ 8) :
    (vsetP n V v a b).2 = (rsetP n L v a b).2 ∧ SameV (vsetP n V v a b).1 (rsetP n L v a b).1 := by
  unfold vsetP rsetP
  by_cases h1 : (decide (1 ≤ v) && decide (v ≤ 4094)) = false ∨ badAny a b n = true
  · rw [if_pos h1, if_pos (by rcases h1 with h1 | h1; exact .inl h1; exact .inr ((bad_iff a b n ha hb hn).2 h1))]
    exact ⟨rfl, h⟩
  · rw [if_neg h1, if_neg (by rintro (h2 | h2); exact h1 (.inl h2); exact h1 (.inr ((bad_iff a b n ha hb hn).1 h2)))]
    rw [h.1, h.2.1]
    by_cases h2 : (sget L (vp v)).isSome = false ∧ 8 ≤ L.length
    · rw [if_pos h2, if_pos h2]
      exact ⟨rfl, h⟩
    · rw [if_neg h2, if_neg h2]
      refine ⟨rfl, fun q => ?_, ?_, ?_, vset7_once h.2.2.2 _ _⟩
      · rw [sget_vset7]
        show sget (sput V (vp v) (a * 256 + b)) q = _
        rw [sget_put, h.1]
      · rw [vset7_len h.2.2.2]
        show (sput V (vp v) (a * 256 + b)).length = _
        rw [sput_len, h.1, h.2.1]
      · exact once_put h.2.2.1 _ _
theorem vins_behind (v code : Int) : ∀ (M r : List (Pl × Int)), (∀ y ∈ M, ¬ v < y.1.v) → vins v code (M ++ r) = M ++ vins v code r
  | [], _, _ => rfl
  | x :: M, r, h => by
    show (if v < x.1.v then _ else x :: vins v code (M ++ r)) = _
    rw [if_neg (h x (by simp)), vins_behind v code M r (fun y hy => h y (by simp [hy]))]
    rfl
/-- How far the document's Set has come. -/
def VSo (v code : Int) (L : List (Pl × Int)) (k : Nat) (d : Bool) (M : List (Pl × Int)) : Prop :=
  (d = false → M = L.take k ∧ ∀ y ∈ M, ¬ v < y.1.v) ∧ (d = true → M ++ L.drop k = vins v code L)
theorem VSo.start (v code : Int) (L : List (Pl × Int)) : VSo v code L 0 false [] := ⟨fun _ => ⟨rfl, by simp⟩, fun h => by cases h⟩
theorem drop_at {L : List (Pl × Int)} {k : Nat} {x : Pl × Int} (hx : L[k]? = some x) : L.drop k = x :: L.drop (k + 1) := by
  have hl := (List.getElem?_eq_some_iff.1 hx).1
  rw [List.drop_eq_getElem_cons hl]
  congr 1
  rw [List.getElem?_eq_getElem hl] at hx
  exact Option.some.inj hx
theorem take_at {L : List (Pl × Int)} {k : Nat} {x : Pl × Int} (hx : L[k]? = some x) : L.take (k + 1) = L.take k ++ [x] := by
  have hl := (List.getElem?_eq_some_iff.1 hx).1
  rw [List.take_succ_eq_append_getElem hl]
  congr 2
  rw [List.getElem?_eq_getElem hl] at hx
  exact Option.some.inj hx
theorem VSo.here {v code : Int} {L M : List (Pl × Int)} {k : Nat} {x : Pl × Int} (h : VSo v code L k false M) (hx : L[k]? = some x) (hv : v < x.1.v) : VSo v code L (k + 1) true (M ++ [(vp v, code)] ++ [x]) := by
  obtain ⟨e, hM⟩ := h.1 rfl
  refine ⟨(fun h => by cases h), fun _ => ?_⟩
  have : vins v code L = vins v code (M ++ L.drop k) := by rw [e, List.take_append_drop]
  rw [this, vins_behind v code _ _ hM, drop_at hx]
  show _ = M ++ (if v < x.1.v then _ else _)
  rw [if_pos hv]
  simp
theorem VSo.past {v code : Int} {L M : List (Pl × Int)} {k : Nat} {x : Pl × Int} (h : VSo v code L k false M) (hx : L[k]? = some x) (hv : ¬ v < x.1.v) : VSo v code L (k + 1) false (M ++ [x]) := by
  obtain ⟨e, hM⟩ := h.1 rfl
  refine ⟨fun _ => ⟨by rw [take_at hx, e], fun y hy => ?_⟩, fun h => by cases h⟩
  rcases List.mem_append.1 hy with hy | hy
  · exact hM y hy
  · simp at hy; subst hy; exact hv
theorem VSo.more {v code : Int} {L M : List (Pl × Int)} {k : Nat} {x : Pl × Int} (h : VSo v code L k true M) (hx : L[k]? = some x) : VSo v code L (k + 1) true (M ++ [x]) := by
  refine ⟨(fun h => by cases h), fun _ => ?_⟩
  rw [← h.2 rfl, drop_at hx]
  simp
theorem VSo.end_ {v code : Int} {L M : List (Pl × Int)} (h : VSo v code L L.length true M) : M = vins v code L := by
  rw [← h.2 rfl, List.drop_length, List.append_nil]
theorem VSo.last {v code : Int} {L M : List (Pl × Int)} (h : VSo v code L L.length false M) : M ++ [(vp v, code)] = vins v code L := by
  obtain ⟨e, hM⟩ := h.1 rfl
  have e2 : M = L := by rw [e, List.take_length]
  have := vins_behind v code M [] hM
  rw [List.append_nil, e2] at this
  rw [this, e2]
  rfl
theorem KeyV.set {L : List (Pl × Int)} (h : KeyV L) (v code : Int) : KeyV (vset7 L v code) := fun x hx => by
  rcases mem_vins hx with e | hx
  · rw [e]; rfl
  · exact h x (List.mem_filter.1 hx).1
theorem VOk.set {L : List (Pl × Int)} (h : VOk L) (v : Int) {code : Int} (hc : 0 ≤ code ∧ code < 65536) : VOk (vset7 L v code) := fun x hx => by
  rcases mem_vins hx with e | hx
  · rw [e]; exact hc
  · exact h x (List.mem_filter.1 hx).1
theorem rset_keeps {n : Int} {L : List (Pl × Int)} {v a b : Int} (hk : KeyV L) (ho : VOk L) (ha : 0 ≤ a ∧ a < 256) (hb : 0 ≤ b ∧ b < 256) : KeyV (rsetP n L v a b).1 ∧ VOk (rsetP n L v a b).1 := by
  unfold rsetP
  split
  · exact ⟨hk, ho⟩
  · split
    · exact ⟨hk, ho⟩
    · exact ⟨hk.set _ _, ho.set _ (by omega)⟩
end Go.Proofs.Ytcplmdgnldmhbaa
