/-
  Layer 16: the plain law: sets of levels; what stands where, behind any acts. Condition: numbers are in range.
-/
import Derived.Test.YtbgijlfdgfhceaaCtOk
namespace Go.Proofs.Ytbgijlfdgfhceaa
open Go.RowKit
set_option linter.unusedVariables false

abbrev B8 (x : Int) : BitVec 8 := BitVec.ofInt 8 x
theorem B8_nat (b : BitVec 8) : B8 (b.toNat : Int) = b := by
  apply BitVec.eq_of_toNat_eq
  have := b.isLt
  rw [BitVec.toNat_ofInt]
  omega
theorem wrap_nat (b : BitVec 8) : IntKind.u8.wrap ((b.toNat : Nat) : Int) = (b.toNat : Int) := by
  have := b.isLt
  rw [IntKind.wrap_u8]
  omega
theorem or8 (x y : Int) : bits BinOp.or .u8 x y = ((B8 x ||| B8 y).toNat : Int) := wrap_nat _
theorem zbit8 (b : BitVec 8) (p : Int) (h0 : 0 ≤ p) (h8 : p < 8) : (bits BinOp.and .u8 ((b.toNat : Int) / 2 ^ p.toNat) 1 == 0) = !b.getLsbD p.toNat := by
  have key : ∀ (n : Fin 256) (q : Fin 8), (bits BinOp.and .u8 (((n : Nat) : Int) / 2 ^ (q : Nat)) 1 == 0) = !(BitVec.ofNat 8 n).getLsbD q := by decide +kernel
  have h := key ⟨b.toNat, b.isLt⟩ ⟨p.toNat, by omega⟩
  simpa using h
theorem pow8 (p : Int) (h0 : 0 ≤ p) (h7 : p ≤ 7) (i : Nat) (hi : i < 8) : (B8 (2 ^ p.toNat)).getLsbD i = decide (p = i) := by
  have key : ∀ q i : Fin 8, (B8 (2 ^ (q : Nat))).getLsbD i = decide (q = i) := by decide +kernel
  have := key ⟨p.toNat, by omega⟩ ⟨i, hi⟩
  simp only at this
  rw [this]
  have : (⟨p.toNat, by omega⟩ : Fin 8) = ⟨i, hi⟩ ↔ p = i := by rw [Fin.mk.injEq]; omega
  simp [this]
theorem over8 (b : BitVec 8) (l : Int) (h0 : 0 ≤ l) (h7 : l ≤ 7) : ((b.toNat : Int) / 2 ^ l.toNat != 0) = (List.range 8).any (fun j => decide (l ≤ (j : Int)) && b.getLsbD j) := by
  have key : ∀ (n : Fin 256) (q : Fin 8), (((n : Nat) : Int) / 2 ^ (q : Nat) != 0) = (List.range 8).any (fun j => decide (((q : Nat) : Int) ≤ (j : Int)) && (BitVec.ofNat 8 n).getLsbD j) := by decide +kernel
  have h := key ⟨b.toNat, b.isLt⟩ ⟨l.toNat, by omega⟩
  simp only at h
  rw [show ((l.toNat : Nat) : Int) = l from by omega] at h
  simpa using h
/-- The levels of a way, as bits. -/
def CT.lsetV (τ : CT) (port vid : Int) (up : Bool) (L : List Me) : BitVec 8 := L.foldl (fun s x => if τ.inB port vid up x then s ||| B8 (2 ^ (τ.of x).lv.toNat) else s) 0#8
theorem lset_bits (τ : CT) (port vid : Int) (up : Bool) (L : List Me) : τ.lset port vid up L = ((τ.lsetV port vid up L).toNat : Int) := by
  unfold CT.lset CT.lsetV
  have key : ∀ (L : List Me) (b : BitVec 8), L.foldl (fun s x => if τ.inB port vid up x then bor s (τ.of x).lv else s) ((b.toNat : Nat) : Int) = ((L.foldl (fun s x => if τ.inB port vid up x then s ||| B8 (2 ^ (τ.of x).lv.toNat) else s) b).toNat : Int) := by
    intro L
    induction L with
    | nil => intro b; rfl
    | cons x r ih =>
      intro b
      rw [List.foldl_cons, List.foldl_cons]
      cases hx : τ.inB port vid up x with
      | true =>
        simp only [if_true]
        rw [← ih, show bor ((b.toNat : Nat) : Int) (τ.of x).lv = (((b ||| B8 (2 ^ (τ.of x).lv.toNat)).toNat : Nat) : Int) from by unfold bor; rw [or8, B8_nat]]
      | false =>
        simp only [Bool.false_eq_true, if_false]
        exact ih b
  have := key L 0#8
  simpa using this
theorem lsetV_bit {τ : CT} (port vid : Int) (up : Bool) (i : Nat) (hi : i < 8) (L : List Me) (hL : ∀ x ∈ L, 0 ≤ (τ.of x).lv ∧ (τ.of x).lv ≤ 7) :
    (τ.lsetV port vid up L).getLsbD i = L.any (fun x => τ.inB port vid up x && decide ((τ.of x).lv = i)) := by
  unfold CT.lsetV
  have key : ∀ (L : List Me) (b : BitVec 8), (∀ x ∈ L, 0 ≤ (τ.of x).lv ∧ (τ.of x).lv ≤ 7) → (L.foldl (fun s x => if τ.inB port vid up x then s ||| B8 (2 ^ (τ.of x).lv.toNat) else s) b).getLsbD i = (b.getLsbD i || L.any (fun x => τ.inB port vid up x && decide ((τ.of x).lv = i))) := by
    intro L
    induction L with
    | nil => intro b _; simp
    | cons x r ih =>
      intro b h
      rw [List.foldl_cons, ih _ (fun y hy => h y (by simp [hy])), List.any_cons]
      have hx := h x (by simp)
      cases hb : τ.inB port vid up x with
      | true =>
        simp only [if_true, Bool.true_and]
        rw [BitVec.getLsbD_or, pow8 _ hx.1 hx.2 i hi, Bool.or_assoc]
      | false => simp
  rw [key L 0#8 hL]
  simp
theorem over_any {τ : CT} (g : τ.Good) (p v l : Int) (h0 : 0 ≤ l) (h7 : l ≤ 7) :
    overB (τ.lset p v false τ.E) (τ.lset p v true τ.E) l = τ.E.any (fun x => decide (x.port = p) && decide ((τ.of x).vid = v) && decide (l ≤ (τ.of x).lv)) := by
  have hL : ∀ x ∈ τ.E, 0 ≤ (τ.of x).lv ∧ (τ.of x).lv ≤ 7 := fun x hx => g.lv hx
  unfold overB
  rw [lset_bits, lset_bits, or8, B8_nat, B8_nat, over8 _ l h0 h7]
  rw [Bool.eq_iff_iff, List.any_eq_true, List.any_eq_true]
  constructor
  · rintro ⟨j, hj, h⟩
    have hj8 : j < 8 := List.mem_range.1 hj
    rw [BitVec.getLsbD_or, lsetV_bit p v false j hj8 _ hL, lsetV_bit p v true j hj8 _ hL] at h
    simp only [Bool.and_eq_true, decide_eq_true_eq, Bool.or_eq_true, List.any_eq_true, CT.inB] at h
    obtain ⟨h1, ⟨x, hx, h2⟩ | ⟨x, hx, h2⟩⟩ := h
    · exact ⟨x, hx, by simp; exact ⟨h2.1.1, by omega⟩⟩
    · exact ⟨x, hx, by simp; exact ⟨h2.1.1, by omega⟩⟩
  · rintro ⟨x, hx, h⟩
    simp only [Bool.and_eq_true, decide_eq_true_eq] at h
    have hl := hL x hx
    refine ⟨(τ.of x).lv.toNat, List.mem_range.2 (by omega), ?_⟩
    rw [BitVec.getLsbD_or, lsetV_bit p v false _ (by omega) _ hL, lsetV_bit p v true _ (by omega) _ hL]
    simp only [Bool.and_eq_true, decide_eq_true_eq, Bool.or_eq_true, List.any_eq_true, CT.inB]
    refine ⟨by omega, ?_⟩
    cases hu : x.up with
    | false => exact .inl ⟨x, hx, ⟨h.1, by simp [hu]⟩, by omega⟩
    | true => exact .inr ⟨x, hx, ⟨h.1, by simp [hu]⟩, by omega⟩
/-- An end point is seen at its port and VLAN. -/
theorem seen {τ : CT} (g : τ.Good) {x : Me} (hx : x ∈ τ.E) : (bits BinOp.and .u8 (τ.lset x.port (τ.of x).vid x.up τ.E / 2 ^ (τ.of x).lv.toNat) 1 == 0) = false := by
  have hl := g.lv hx
  rw [lset_bits, zbit8 _ _ hl.1 (by omega), lsetV_bit _ _ _ _ (by omega) _ (fun y hy => g.lv hy)]
  simp only [Bool.not_eq_false', List.any_eq_true]
  exact ⟨x, hx, by simp [CT.inB]; omega⟩

/-! What stands where. -/
def CT.Apart (τ : CT) (x y : Me) : Prop := ¬ (x.ai = y.ai ∧ x.id = y.id) ∧ ¬ (x.port = y.port ∧ x.up = y.up ∧ (τ.of x).vid = (τ.of y).vid ∧ (τ.of x).lv = (τ.of y).lv)
theorem CT.Apart.symm {τ : CT} {x y : Me} (h : τ.Apart x y) : τ.Apart y x := ⟨fun e => h.1 ⟨e.1.symm, e.2.symm⟩, fun e => h.2 ⟨e.1.symm, e.2.1.symm, e.2.2.1.symm, e.2.2.2.symm⟩⟩
structure CT.Inv (τ : CT) : Prop where
  apart : τ.E.Pairwise τ.Apart
  above : ∀ x ∈ τ.E, ∀ l, sget τ.M ⟨x.port, (τ.of x).vid⟩ = some l → (τ.of x).lv < l
theorem CT.Inv.start (n : Int) : (⟨n, [], [], []⟩ : CT).Inv := ⟨.nil, by simp⟩
theorem CT.Inv.addMep {τ : CT} (h : τ.Inv) (m : Me) : (τ.addMep m).1.Inv := by
  unfold CT.addMep
  rcases asc_cases τ m.ai with ⟨h1, _⟩ | ⟨i, x, hi, hx, h2⟩
  · rw [h1]; exact h
  · rw [h2]
    simp only
    have hof : τ.of m = x := by simp [CT.of, hi, List.getD, hx]
    split
    · split
      · exact h
      · rename_i ha
        split
        · exact h
        · rename_i hs
          refine ⟨List.pairwise_append.2 ⟨h.apart, by simp, fun y hy z hz => ?_⟩, fun y hy l hl => ?_⟩
          · simp at hz
            subst hz
            have hf : addB (τ.of y) z x y = false := by
              cases he : addB (τ.of y) z x y with
              | false => rfl
              | true => exact absurd (show (τ.E.any fun y => addB (τ.of y) z x y) = true from List.any_eq_true.2 ⟨y, hy, he⟩) ha
            simp only [addB, Bool.or_eq_false_iff, Bool.and_eq_false_iff, decide_eq_false_iff_not] at hf
            refine ⟨fun e => hf.1.elim (fun f => f e.1) (fun f => f e.2), fun e => ?_⟩
            have e3 : (τ.of y).vid = x.vid := by have := e.2.2.1; rwa [show CT.of { τ with E := τ.E ++ [z] } z = x from hof] at this
            have e4 : (τ.of y).lv = x.lv := by have := e.2.2.2; rwa [show CT.of { τ with E := τ.E ++ [z] } z = x from hof] at this
            rcases hf.2 with ((f | f) | f) | f
            · exact f e.1
            · exact f e.2.1
            · exact f e3
            · exact f e4
          · rcases List.mem_append.1 hy with hy | hy
            · exact h.above y hy l hl
            · simp at hy
              subst hy
              have e : CT.of { τ with E := τ.E ++ [y] } y = x := hof
              rw [e] at hl ⊢
              simp only [hl, Option.isSome_some, Bool.true_and, Option.getD_some, decide_eq_true_eq] at hs
              omega
    · exact h
theorem CT.Inv.dropMep {τ : CT} (h : τ.Inv) (a i : Int) : (τ.dropMep a i).1.Inv := by
  unfold CT.dropMep
  split
  · exact h
  · exact ⟨h.apart.filter _, fun x hx l hl => h.above x (List.mem_filter.1 hx).1 l hl⟩
theorem CT.Inv.addMip {τ : CT} (h : τ.Inv) (g : τ.Good) (m : Mi) (hm : 0 ≤ m.lv) : (τ.addMip m).1.Inv := by
  unfold CT.addMip
  split
  · rename_i hc
    split
    · exact h
    · split
      · exact h
      · rename_i ho
        refine ⟨h.apart, fun x hx l hl => ?_⟩
        simp only at hx hl
        rw [sget_put] at hl
        have hlv : m.lv ≤ 7 := by simp at hc; exact hc.2
        have e : CT.of { τ with M := sput τ.M ⟨m.port, m.vid⟩ m.lv } x = τ.of x := rfl
        rw [e] at hl ⊢
        split at hl
        · rename_i hp
          injection hl with hl
          subst hl
          have ho : overB (τ.lset m.port m.vid false τ.E) (τ.lset m.port m.vid true τ.E) m.lv = false := by simpa using ho
          rw [over_any g _ _ _ hm hlv, List.any_eq_false] at ho
          have := ho x hx
          injection hp with hp1 hp2
          simp [hp1, hp2] at this
          exact this
        · exact h.above x hx l hl
  · exact h
theorem CT.Inv.dropMip {τ : CT} (h : τ.Inv) (p v : Int) : (τ.dropMip p v).1.Inv := by
  unfold CT.dropMip
  split
  · refine ⟨h.apart, fun x hx l hl => ?_⟩
    simp only at hl
    rw [sget_del] at hl
    split at hl
    · cases hl
    · exact h.above x hx l hl
  · exact h
theorem of_more {τ : CT} {x : Me} (A : List As) (h : 0 ≤ x.ai ∧ x.ai < τ.A.length) : CT.of { τ with A := τ.A ++ A } x = τ.of x := by
  simp only [CT.of, List.getD]
  rw [List.getElem?_append_left (by omega)]
theorem CT.Inv.addAsc {τ : CT} (h : τ.Inv) (g : τ.Good) (x : As) : (τ.addAsc x).1.Inv := by
  unfold CT.addAsc
  split
  · split
    · exact h
    · split
      · exact h
      · refine ⟨h.apart.imp_of_mem (fun {y z} hy hz hr => ?_), fun y hy l hl => ?_⟩
        · have ey := of_more [x.bare] (g.ent y hy).1
          have ez := of_more [x.bare] (g.ent z hz).1
          exact ⟨hr.1, by rw [ey, ez]; exact hr.2⟩
        · simp only at hy hl
          have ey := of_more [x.bare] (g.ent y hy).1
          rw [ey] at hl ⊢
          exact h.above y hy l hl
  · exact h
theorem CT.Inv.does {τ : CT} (h : τ.Inv) (g : τ.Good) {x : Ac} (hx : x.Ok) : (τ.does x).1.Inv := by
  unfold CT.does
  split
  · exact h.addMep _
  · split
    · exact h.dropMep _ _
    · split
      · exact h.addMip g _ hx.2.2.1.2.2.1
      · split
        · exact h.dropMip _ _
        · exact h.addAsc g _
end Go.Proofs.Ytbgijlfdgfhceaa
