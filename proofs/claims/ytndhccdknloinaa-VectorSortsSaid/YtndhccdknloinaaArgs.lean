/-
  Arguments of layer 4: a vector by value; a row of paths; opened. No condition.
-/
import Derived.Test.YtndhccdknloinaaWakes
import Derived.Test.YtndhccdknloinaaOpen
namespace Go.Proofs.Ytndhccdknloinaa
open Go.ChangeShapes Go.WideShapes Go.Deep Go.RowKit
set_option linter.unusedVariables false

theorem of_wf {k : IntKind} {n : Int} (h : (Lit.int k n).wf = true) : k.min ≤ n ∧ n ≤ k.max := by simpa [Lit.wf] using h
theorem of_wf_u32 {n : Int} (h : (Lit.int .u32 n).wf = true) : 0 ≤ n ∧ n ≤ 4294967295 := of_wf h

theorem open_vec {H : Type} {enc : TypeId × Value → H} {W : World} {r : Reach} {b0 : Nat} {v : Value} {d : DataW H} {p : List MemPlace} (t : TypeId) (ht : t = 25 ∨ t = 27)
    (hv : Value.okWide Try.prog W r b0 t v) (h : DataW.Trod enc Try.prog W 0 (fun _ => true) true t v d p) : ∃ x0 x1 x2 x3, v = .agg #[.int .u64 x0, .int .u32 x1, .int .u64 x2, .int .u8 x3] ∧ 0 ≤ x1 ∧ x1 < 4294967296 := by
  have main : ∀ fs : Array Field, Try.prog.underlying t = some (.struct fs) → oneCellFields Try.prog fs = true → Try.prog.cellsOf t = fs.size → (fs.map (·.type)) = #[22, 23, 22, 5] →
      ∃ x0 x1 x2 x3, v = .agg #[.int .u64 x0, .int .u32 x1, .int .u64 x2, .int .u8 x3] ∧ 0 ≤ x1 ∧ x1 < 4294967296 := by
    intro fs hu ho hc hT
    obtain ⟨cs, rfl, hsz, n, hat⟩ := open_agg hu ho hc hv h
    have hs : fs.size = 4 := by have := congrArg Array.size hT; simpa using this
    have ty : ∀ j (f : Field), fs[j]? = some f → #[22, 23, 22, 5][j]? = some f.type := fun j f hj => by rw [← hT, Array.getElem?_map, hj]; rfl
    have at' : ∀ j, j < 4 → ∃ f, fs[j]? = some f := fun j hj => ⟨_, Array.getElem?_eq_getElem (by omega)⟩
    obtain ⟨f0, hf0⟩ := at' 0 (by omega)
    obtain ⟨f1, hf1⟩ := at' 1 (by omega)
    obtain ⟨f2, hf2⟩ := at' 2 (by omega)
    obtain ⟨f3, hf3⟩ := at' 3 (by omega)
    obtain ⟨u0, y0, c0, t0⟩ := hat 0 f0 hf0
    obtain ⟨u1, y1, c1, t1⟩ := hat 1 f1 hf1
    obtain ⟨u2, y2, c2, t2⟩ := hat 2 f2 hf2
    obtain ⟨u3, y3, c3, t3⟩ := hat 3 f3 hf3
    have e0 : f0.type = 22 := by have := ty 0 f0 hf0; simpa using this.symm
    have e1 : f1.type = 23 := by have := ty 1 f1 hf1; simpa using this.symm
    have e2 : f2.type = 22 := by have := ty 2 f2 hf2; simpa using this.symm
    have e3 : f3.type = 5 := by have := ty 3 f3 hf3; simpa using this.symm
    rw [e0] at t0; rw [e1] at t1; rw [e2] at t2; rw [e3] at t3
    obtain ⟨z0, g0, _, _⟩ := DataW.trod_int Try.underlying22 t0
    obtain ⟨z1, g1, _, w1⟩ := DataW.trod_int Try.underlying23 t1
    obtain ⟨z2, g2, _, _⟩ := DataW.trod_int Try.underlying22 t2
    obtain ⟨z3, g3, _, _⟩ := DataW.trod_int Try.underlying5 t3
    simp at g0 g1 g2 g3
    subst g0 g1 g2 g3
    have hcs : cs = #[.int .u64 z0, .int .u32 z1, .int .u64 z2, .int .u8 z3] := by
      apply Array.ext_getElem?
      intro i
      match i with
      | 0 => simpa using c0
      | 1 => simpa using c1
      | 2 => simpa using c2
      | 3 => simpa using c3
      | j + 4 => rw [Array.getElem?_eq_none (by omega)]; rfl
    have hr := of_wf_u32 w1
    exact ⟨z0, z1, z2, z3, by rw [hcs], by omega⟩
  rcases ht with rfl | rfl
  · exact main _ Try.underlying25 (by kernel_rfl) (by kernel_rfl) (by kernel_rfl)
  · exact main _ Try.underlying27 (by kernel_rfl) (by kernel_rfl) (by kernel_rfl)
end Go.Proofs.Ytndhccdknloinaa
