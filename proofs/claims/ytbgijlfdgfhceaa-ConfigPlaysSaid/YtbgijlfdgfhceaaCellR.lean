/-
  Structs in a result's cell: written over, handed back. No condition.
-/
import Derived.Test.YtbgijlfdgfhceaaKit
import Derived.Test.YtbgijlfdgfhceaaProg
import Derived.Laws.ResultCell
namespace Go.Proofs.Ytbgijlfdgfhceaa
open Go.RowKit
set_option linter.unusedVariables false
theorem store_2 {W : World} {b : Nat} {T : TypeId} {o0 o1 : Value} (h : W.heap[b]? = some (.cells #[o0, o1] T (0, 0))) (v0 v1 : Value) :
    ((W.setCell ⟨b, 0, Option.none⟩ v0).setCell ⟨b, 1, Option.none⟩ v1).heap[b]? = some (.cells #[v0, v1] T (0, 0)) := by
  have h0 := setCell_block h 0 v0
  have h1 := setCell_block h0 1 v1
  exact h1
theorem store_3 {W : World} {b : Nat} {T : TypeId} {o0 o1 o2 : Value} (h : W.heap[b]? = some (.cells #[o0, o1, o2] T (0, 0))) (v0 v1 v2 : Value) :
    (((W.setCell ⟨b, 0, Option.none⟩ v0).setCell ⟨b, 1, Option.none⟩ v1).setCell ⟨b, 2, Option.none⟩ v2).heap[b]? = some (.cells #[v0, v1, v2] T (0, 0)) := by
  have h0 := setCell_block h 0 v0
  have h1 := setCell_block h0 1 v1
  have h2 := setCell_block h1 2 v2
  exact h2
theorem store_4 {W : World} {b : Nat} {T : TypeId} {o0 o1 o2 o3 : Value} (h : W.heap[b]? = some (.cells #[o0, o1, o2, o3] T (0, 0))) (v0 v1 v2 v3 : Value) :
    ((((W.setCell ⟨b, 0, Option.none⟩ v0).setCell ⟨b, 1, Option.none⟩ v1).setCell ⟨b, 2, Option.none⟩ v2).setCell ⟨b, 3, Option.none⟩ v3).heap[b]? = some (.cells #[v0, v1, v2, v3] T (0, 0)) := by
  have h0 := setCell_block h 0 v0
  have h1 := setCell_block h0 1 v1
  have h2 := setCell_block h1 2 v2
  have h3 := setCell_block h2 3 v3
  exact h3
theorem store_5 {W : World} {b : Nat} {T : TypeId} {o0 o1 o2 o3 o4 : Value} (h : W.heap[b]? = some (.cells #[o0, o1, o2, o3, o4] T (0, 0))) (v0 v1 v2 v3 v4 : Value) :
    (((((W.setCell ⟨b, 0, Option.none⟩ v0).setCell ⟨b, 1, Option.none⟩ v1).setCell ⟨b, 2, Option.none⟩ v2).setCell ⟨b, 3, Option.none⟩ v3).setCell ⟨b, 4, Option.none⟩ v4).heap[b]? = some (.cells #[v0, v1, v2, v3, v4] T (0, 0)) := by
  have h0 := setCell_block h 0 v0
  have h1 := setCell_block h0 1 v1
  have h2 := setCell_block h1 2 v2
  have h3 := setCell_block h2 3 v3
  have h4 := setCell_block h3 4 v4
  exact h4
theorem store_6 {W : World} {b : Nat} {T : TypeId} {o0 o1 o2 o3 o4 o5 : Value} (h : W.heap[b]? = some (.cells #[o0, o1, o2, o3, o4, o5] T (0, 0))) (v0 v1 v2 v3 v4 v5 : Value) :
    ((((((W.setCell ⟨b, 0, Option.none⟩ v0).setCell ⟨b, 1, Option.none⟩ v1).setCell ⟨b, 2, Option.none⟩ v2).setCell ⟨b, 3, Option.none⟩ v3).setCell ⟨b, 4, Option.none⟩ v4).setCell ⟨b, 5, Option.none⟩ v5).heap[b]? = some (.cells #[v0, v1, v2, v3, v4, v5] T (0, 0)) := by
  have h0 := setCell_block h 0 v0
  have h1 := setCell_block h0 1 v1
  have h2 := setCell_block h1 2 v2
  have h3 := setCell_block h2 3 v3
  have h4 := setCell_block h3 4 v4
  have h5 := setCell_block h4 5 v5
  exact h5
theorem set_other {w : World} {b b' i : Nat} {o : Obj} (h : w.heap[b]? = some o) (hb : b ≠ b') (v : Value) : (w.setCell ⟨b', i, Option.none⟩ v).heap[b]? = some o :=
  (Below.heap_setCell _ _ _ _ hb).trans h
theorem ret_cell1 {fn : Func} {p : Tmp} {T n : Nat} {d : Array Field} (h : fn.results = #[.cell p T]) (hT : Try.prog.underlying T = some (.struct d)) (hi : (Try.prog.info? T).map (·.size) = some n)
    (tmps : Array Value) (w : World) (g : Nat) (cs : Array Value) (hp : tmps.getD p undef = .pointer (some ⟨g, 0, Option.none⟩)) (hg : w.heap[g]? = some (.cells cs T (0, 0))) (hs : cs.size = n) :
    (results fn tmps).run Try.prog w = .ok (.agg cs) w := by
  have := run_loadVar_row (P := Try.prog) w g T T cs (0, 0) _ hg hT rfl (by rw [hi, hs])
  have hp' : tmps[p]?.getD undef = .pointer (some ⟨g, 0, Option.none⟩) := by simpa using hp
  simp [results, h, hp', asAddr, this, Result.andThen]
theorem ret_cell2 {fn : Func} {p u : Tmp} {T n : Nat} {d : Array Field} (h : fn.results = #[.cell p T, .tmp u]) (hT : Try.prog.underlying T = some (.struct d)) (hi : (Try.prog.info? T).map (·.size) = some n)
    (tmps : Array Value) (w : World) (g : Nat) (cs : Array Value) (hp : tmps.getD p undef = .pointer (some ⟨g, 0, Option.none⟩)) (hg : w.heap[g]? = some (.cells cs T (0, 0))) (hs : cs.size = n) :
    (results fn tmps).run Try.prog w = .ok (.tuple #[.agg cs, tmps.getD u undef]) w := by
  rw [results_cell_tmp h, hp]
  have := run_loadVar_row (P := Try.prog) w g T T cs (0, 0) _ hg hT rfl (by rw [hi, hs])
  simp [asAddr, this, Result.andThen]
end Go.Proofs.Ytbgijlfdgfhceaa
