/-
  A slice of acts that came in lies in its cells (layer 23). No condition.
-/
import Derived.Test.YtljfpihfffhpjaaEnds
namespace Go.Proofs.Ytljfpihfffhpjaa
open Go.ChangeShapes Go.WideShapes Go.Deep Go.RowKit
set_option linter.unusedVariables false

def IsActs (w : World) (a : Option Addr) (n c : Nat) : Prop :=
  n ≤ c ∧ n ≤ maxLen ∧ ∃ l, 0 < n → ∃ b o, a = some ⟨b, o, Option.none⟩ ∧ b < w.heap.size ∧ Acts w b o n l

theorem wf_u8 {n : Int} (h : (Lit.int .u8 n).wf = true) : 0 ≤ n := by
  have h' : IntKind.u8.min ≤ n ∧ n ≤ IntKind.u8.max := by simpa [Lit.wf] using h
  exact h'.1

theorem open_acts {H : Type} {enc : TypeId × Value → H} {W : World} {a : Option Addr} {n c : Nat} {d : DataW H} {p : List MemPlace}
    (h : DataW.Trod enc Try.prog W 0 (fun _ => true) true 22 (.slice a n c) d p) : IsActs W a n c := by
  obtain ⟨fuel, hf⟩ := h
  rcases open_slice_fields Try.underlying22 Try.underlying28 (by kernel_rfl) (by kernel_rfl) hf with hcs | ⟨x, len, cap, m, hcs, hl, hm, hmm, hi⟩
  · simp [Value.cells] at hcs
    obtain ⟨rfl, rfl, rfl⟩ := hcs
    exact ⟨Nat.le_refl _, Nat.zero_le _, [], fun h => by omega⟩
  · simp [Value.cells] at hcs
    obtain ⟨rfl, rfl, rfl⟩ := hcs
    simp only [if_true] at hmm
    subst hmm
    have he : ∀ i, i < n → ∃ z : Int × Int, W.cell? (x.add (i * 3)) = some (.int .u8 z.1) ∧ W.cell? (x.add (i * 3 + 1)) = some (.int .i64 z.2) ∧ 0 ≤ z.1 := by
      intro i hin
      obtain ⟨k, hk⟩ := hi i (by omega)
      obtain ⟨v0, y0, c0, t0⟩ := hk 0 _ rfl
      obtain ⟨v1, y1, c1, t1⟩ := hk 1 _ rfl
      obtain ⟨z0, e0, _, w0⟩ := DataW.trod_int Try.underlying5 t0
      obtain ⟨z1, e1, _⟩ := DataW.trod_int Try.underlying3 t1
      simp at e0 e1
      subst e0 e1
      exact ⟨(z0, z1), c0, c1, wf_u8 w0⟩
    obtain ⟨l, hll, hl'⟩ := exists_list n he
    refine ⟨hl, Nat.le_trans hl hm, l, fun hn => ?_⟩
    obtain ⟨z, hz⟩ : ∃ z, l[0]? = some z := ⟨_, List.getElem?_eq_getElem (by omega)⟩
    have h0 := (hl' 0 z hz).1
    have hx := spotless h0
    obtain ⟨b, off, spot⟩ := x
    simp at hx
    subst hx
    simp only [add_plain'] at hl' h0
    exact ⟨b, off, rfl, block_lt h0, hll, fun i a ha => by have := hl' i a ha; exact ⟨this.1, by rw [Nat.add_assoc]; exact this.2.1, this.2.2⟩⟩
end Go.Proofs.Ytljfpihfffhpjaa
