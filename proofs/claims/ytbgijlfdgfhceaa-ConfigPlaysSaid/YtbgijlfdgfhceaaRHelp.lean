/-
  Layer 16: small laws for the document's table. No condition.
-/
import Derived.Test.YtbgijlfdgfhceaaRDrop
import Derived.Test.YtbgijlfdgfhceaaAddMep
namespace Go.Proofs.Ytbgijlfdgfhceaa
open Go.RowKit
set_option linter.unusedVariables false
set_option linter.unusedSimpArgs false
set_option maxRecDepth 8000

theorem grown_nil {w w' : World} (h : w.grownBy w' (Value.slice Option.none 0 0).ownBlock) : Keeps Nil w w' := (Keeps.refl Nil w).grown h (fun k e => by cases e)
theorem grown_own {w0 w w' : World} {B : Nat} {e : TypeId} {sz n : Nat} {v : Value} {xs : List Value} {W : World} (h : W.ownsRow B e sz v n xs) (hg : w.grownBy w' v.ownBlock) (hB : w0.heap.size ≤ B) (k : Keeps Nil w0 w) : Keeps Nil w0 w' := k.grown hg (fun g e hlt => by have := own_ge h e; omega)
theorem hasI_take {l : List Int} {j : Nat} {u v : Int} (hu : l[j]? = some u) : hasI (l.take (j + 1)) v = (hasI (l.take j) v || (v == u)) := by
  have hl := (List.getElem?_eq_some_iff.1 hu).1
  have e : l[j] = u := by rw [List.getElem?_eq_getElem hl] at hu; exact Option.some.inj hu
  unfold hasI
  rw [List.take_succ_eq_append_getElem hl, List.any_append, e]
  simp
def lowM (p v l : Int) (r : Mi) : Bool := isM p v r && decide (r.lv ≤ l)
theorem Mat.low {k : Nat} {M : List (Pl × Int)} {R : List Mi} (h : Mat k M R) (p v l : Int) : ((sget M ⟨p, v⟩).isSome && decide ((sget M ⟨p, v⟩).getD 0 ≤ l)) = R.any (lowM p v l) := by
  rw [Bool.eq_iff_iff, List.any_eq_true]
  constructor
  · intro e
    simp only [Bool.and_eq_true, decide_eq_true_eq] at e
    have h1 := h.some_iff p v
    rw [e.1] at h1
    obtain ⟨m, hm, hb⟩ := List.any_eq_true.1 h1.symm
    obtain ⟨e1, e2⟩ := isM_iff.1 hb
    have h2 := h.mem hm
    rw [e1, e2] at h2
    rw [h2] at e
    exact ⟨m, hm, by simp [lowM, hb]; simpa using e.2⟩
  · rintro ⟨m, hm, hb⟩
    simp only [lowM, Bool.and_eq_true, decide_eq_true_eq] at hb
    obtain ⟨e1, e2⟩ := isM_iff.1 hb.1
    have h2 := h.mem hm
    rw [e1, e2] at h2
    rw [h2]
    simp [hb.2]
theorem any_of {α : Type} (f : α → Bool) {L : List α} {n : Nat} (hn : L.length ≤ n) (h : ∀ i y, i < n → L[i]? = some y → f y = false) : L.any f = false := by
  rw [List.any_eq_false]
  intro x hx hb
  obtain ⟨i, hi, e⟩ := List.mem_iff_getElem.1 hx
  have := h i x (by omega) (by rw [List.getElem?_eq_getElem hi, e])
  rw [this] at hb; cases hb
theorem any_at {α : Type} (f : α → Bool) {L : List α} {i : Nat} {y : α} (hy : L[i]? = some y) (hf : f y = true) : L.any f = true := List.any_eq_true.2 ⟨y, List.mem_of_getElem? hy, hf⟩
theorem next_no {α : Type} (f : α → Bool) {L : List α} {j : Nat} {x : α} (h : ∀ i y, i < j → L[i]? = some y → f y = false) (hx : L[j]? = some x) (hf : f x = false) : ∀ i y, i < j + 1 → L[i]? = some y → f y = false := fun i y hi hy => by
  by_cases e : i = j
  · subst e; rw [hx] at hy; injection hy with hy; subst hy; exact hf
  · exact h i y (by omega) hy
end Go.Proofs.Ytbgijlfdgfhceaa
