/-
  Layer 16: the law of ConfigStands. Condition: the acts lie so.
-/
import Derived.Test.YtbgijlfdgfhceaaLaw16
import Derived.Test.YtbgijlfdgfhceaaGreat
import Derived.Test.YtbgijlfdgfhceaaEq16
namespace Go.Proofs.Ytbgijlfdgfhceaa
open Go.RowKit
set_option linter.unusedVariables false
set_option linter.unusedSimpArgs false
set_option maxRecDepth 8000

def cnt (L : List Me) (m : Me) : Nat := (L.filter (fun y => decide (y = m))).length
theorem cnt_take {L : List Me} {m x : Me} {k : Nat} (hx : L[k]? = some x) : cnt (L.take (k + 1)) m = cnt (L.take k) m + if x = m then 1 else 0 := by
  have hl := (List.getElem?_eq_some_iff.1 hx).1
  have e : L[k] = x := by rw [List.getElem?_eq_getElem hl] at hx; exact Option.some.inj hx
  unfold cnt
  rw [List.take_succ_eq_append_getElem hl, List.filter_append, List.length_append, e]
  by_cases h : x = m <;> simp [h]
theorem cnt_le {L : List Me} (k : Nat) (m : Me) : cnt (L.take k) m ≤ k := by
  unfold cnt
  exact Nat.le_trans (List.length_filter_le _ _) (List.length_take_le _ _)
theorem one_kind {R : Me → Me → Prop} (P : Me → Bool) (hP : ∀ x y, P x = true → P y = true → ¬ R x y) : ∀ L : List Me, L.Pairwise R → (L.filter P).length ≤ 1
  | [], _ => by simp
  | x :: r, h => by
    obtain ⟨h1, h2⟩ := List.pairwise_cons.1 h
    cases hp : P x with
    | true =>
      have : r.filter P = [] := List.filter_eq_nil_iff.2 (fun y hy e => hP x y hp e (h1 y hy))
      simp [List.filter_cons, hp, this]
    | false =>
      simp only [List.filter_cons, hp]
      exact one_kind P hP r h2
theorem CT.Inv.cnt {τ : CT} (h : τ.Inv) (m : Me) : cnt τ.E m ≤ 1 :=
  one_kind _ (fun x y hx hy hr => by simp at hx hy; subst hx hy; exact hr.1 ⟨rfl, rfl⟩) _ h.apart
theorem filter_split (P : Me → Bool) : ∀ L : List Me, (L.filter P).length + (L.filter (fun x => !P x)).length = L.length
  | [] => rfl
  | x :: r => by
    have := filter_split P r
    cases hp : P x <;> simp [List.filter_cons, hp] <;> omega
/-- What an act does to how many end points there are. -/
structure Tells (d e a b n : Int) : Prop where
  no : e ≠ 0 → b = a
  once : n ≤ 1
  add : d = 0 → e = 0 → n = 1 ∧ b = a + 1
  drop : d = 1 → e = 0 → b = a - 1
  else_ : 1 < d → b = a
theorem does_tells {τ : CT} (h : τ.Inv) {x : Ac} (hx : x.Ok) (h2 : (τ.does x).1.Inv) : Tells x.d (τ.does x).2.2 τ.E.length (τ.does x).1.E.length (cnt (τ.does x).1.E x.e) := by
  have hc := h2.cnt x.e
  by_cases c0 : x.d = 0
  · have e0 : τ.does x = ((τ.addMep x.e).1, 0, (τ.addMep x.e).2) := by unfold CT.does; rw [if_pos c0]
    rw [e0] at hc ⊢
    have key : ((τ.addMep x.e).2 = 0 ∧ (τ.addMep x.e).1.E = τ.E ++ [x.e]) ∨ ((τ.addMep x.e).2 ≠ 0 ∧ (τ.addMep x.e).1 = τ) := by
      unfold CT.addMep
      split
      · exact .inr ⟨by simp, rfl⟩
      · split
        · split
          · exact .inr ⟨by simp, rfl⟩
          · split
            · exact .inr ⟨by simp, rfl⟩
            · exact .inl ⟨rfl, rfl⟩
        · exact .inr ⟨by simp, rfl⟩
    simp only at hc ⊢
    rcases key with ⟨k1, k2⟩ | ⟨k1, k2⟩
    · rw [k2] at hc ⊢
      have hn : 1 ≤ cnt (τ.E ++ [x.e]) x.e := by unfold cnt; rw [List.filter_append, List.length_append]; simp
      exact ⟨fun f => absurd k1 f, by omega, fun _ _ => ⟨by omega, by simp⟩, fun f => by omega, fun f => by omega⟩
    · rw [k2] at hc ⊢
      exact ⟨fun _ => rfl, by omega, fun _ f => absurd f k1, fun f => by omega, fun f => by omega⟩
  by_cases c1 : x.d = 1
  · have e1 : τ.does x = ((τ.dropMep x.e.ai x.e.id).1, 0, (τ.dropMep x.e.ai x.e.id).2) := by unfold CT.does; rw [if_neg c0, if_pos c1]
    rw [e1] at hc ⊢
    simp only at hc ⊢
    unfold CT.dropMep at hc ⊢
    split
    · rename_i hl
      rw [if_pos hl] at hc
      exact ⟨fun _ => rfl, by simp only at hc ⊢; omega, fun f => absurd f c0, fun _ f => by simp at f, fun f => by omega⟩
    · rename_i hl
      rw [if_neg hl] at hc
      have h1 := one_kind (dropB x.e.ai x.e.id) (fun y z hy hz hr => by
        simp [dropB] at hy hz
        exact hr.1 ⟨hy.1.trans hz.1.symm, hy.2.trans hz.2.symm⟩) _ h.apart
      have h3 := filter_split (dropB x.e.ai x.e.id) τ.E
      refine ⟨fun f => absurd rfl f, by simp only at hc ⊢; omega, fun f => absurd f c0, fun _ _ => ?_, fun f => by omega⟩
      simp only
      omega
  by_cases c2 : x.d = 2
  · have e2 : τ.does x = ((τ.addMip x.m).1, 0, (τ.addMip x.m).2) := by unfold CT.does; rw [if_neg c0, if_neg c1, if_pos c2]
    rw [e2] at hc ⊢
    have k : (τ.addMip x.m).1.E = τ.E := by unfold CT.addMip; split <;> (try split) <;> (try split) <;> rfl
    simp only at hc ⊢
    rw [k] at hc ⊢
    exact ⟨fun _ => rfl, by omega, fun f => absurd f c0, fun f => absurd f c1, fun _ => rfl⟩
  by_cases c3 : x.d = 3
  · have e3 : τ.does x = ((τ.dropMip x.m.port x.m.vid).1, 0, (τ.dropMip x.m.port x.m.vid).2) := by unfold CT.does; rw [if_neg c0, if_neg c1, if_neg c2, if_pos c3]
    rw [e3] at hc ⊢
    have k : (τ.dropMip x.m.port x.m.vid).1.E = τ.E := by unfold CT.dropMip; split <;> rfl
    simp only at hc ⊢
    rw [k] at hc ⊢
    exact ⟨fun _ => rfl, by omega, fun f => absurd f c0, fun f => absurd f c1, fun _ => rfl⟩
  · have e4 : τ.does x = τ.addAsc x.a := by unfold CT.does; rw [if_neg c0, if_neg c1, if_neg c2, if_neg c3]
    rw [e4] at hc ⊢
    have k : (τ.addAsc x.a).1.E = τ.E := by unfold CT.addAsc; split <;> (try split) <;> (try split) <;> rfl
    rw [k] at hc ⊢
    exact ⟨fun _ => rfl, by omega, fun f => absurd f c0, fun f => absurd f c1, fun _ => rfl⟩
end Go.Proofs.Ytbgijlfdgfhceaa
