/-
  The statement VectorLeast, walked. Condition: the paths lie in their cells.
-/
import Derived.Test.YthnkeppkhdceoaaLeast
import Derived.Deep.AppendLies
namespace Go.Proofs.Ythnkeppkhdceoaa
set_option linter.unusedSimpArgs false
open Go.RowKit
set_option linter.unusedVariables false

def pc (l : List Pth) : List Value := l.flatMap (fun x => (pcells x).toList)
theorem pc_length (l : List Pth) : (pc l).length = l.length * 5 := by
  induction l with
  | nil => rfl
  | cons x l ih => simp [pc] at ih ⊢; omega
theorem pc_cons (x : Pth) (l : List Pth) : pc (x :: l) = (pcells x).toList ++ pc l := rfl
theorem pc_snoc (x : Pth) (l : List Pth) : pc (l ++ [x]) = pc l ++ (pcells x).toList := by simp [pc]
theorem pc_get (l : List Pth) (i : Nat) (x : Pth) (j : Nat) (hj : j < 5) (h : l[i]? = some x) : (pc l)[i * 5 + j]? = (pcells x)[j]? := by
  induction l generalizing i with
  | nil => simp at h
  | cons y l ih =>
    rw [pc_cons]
    match i with
    | 0 =>
      simp at h; subst h
      rw [List.getElem?_append_left (by simp; omega)]
      simp
    | i + 1 =>
      rw [List.getElem?_append_right (by simp; omega), show (i + 1) * 5 + j - (pcells y).toList.length = i * 5 + j from by simp; omega]
      exact ih i (by simpa using h)
theorem row_of_own {w : World} {base : Nat} {e : TypeId} {g n c : Nat} {l : List Pth} (h : w.ownsRow base e 5 (.slice (some ⟨g, 0, Option.none⟩) n c) n (pc l)) : Row5 w g l := by
  have hc := h.cells (g := g) rfl
  have ha : ∀ j : Nat, (⟨g, 0, Option.none⟩ : Addr).add j = ⟨g, j, Option.none⟩ := fun j => by unfold Addr.add; split <;> simp_all
  intro i x hx
  have at' : ∀ j, j < 5 → ∀ u, (pcells x)[j]? = some u → w.cell? ⟨g, i * 5 + j, Option.none⟩ = some u := fun j hj u hu => by
    have := hc (i * 5 + j) u ((pc_get l i x j hj hx).trans hu)
    rwa [ha] at this
  exact ⟨at' 0 (by omega) _ rfl, at' 1 (by omega) _ rfl, at' 2 (by omega) _ rfl, at' 3 (by omega) _ rfl, at' 4 (by omega) _ rfl⟩

theorem info41 : (Try.prog.info? 91).map (fun i => (i.zero, i.size, i.bytes)) = some (some (pth (0, 0, 0, 0, 0)), 5, 40) := by kernel_rfl
end Go.Proofs.Ythnkeppkhdceoaa
