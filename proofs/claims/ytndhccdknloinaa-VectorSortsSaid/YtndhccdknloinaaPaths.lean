/-
  A row of paths that came in lies in its cells. No condition.
-/
import Derived.Test.YtndhccdknloinaaRLeast
import Derived.Test.YtndhccdknloinaaArgs
namespace Go.Proofs.Ytndhccdknloinaa
open Go.ChangeShapes Go.WideShapes Go.Deep Go.RowKit
set_option linter.unusedVariables false

theorem c22 : Try.prog.cellsOf 22 = 1 := by kernel_rfl
theorem c23 : Try.prog.cellsOf 23 = 1 := by kernel_rfl
theorem c5 : Try.prog.cellsOf 5 = 1 := by kernel_rfl
theorem c25 : Try.prog.cellsOf 25 = 4 := by kernel_rfl
theorem c39 : Try.prog.cellsOf 39 = 5 := by kernel_rfl

section
variable {H : Type} {enc : TypeId × Value → H} {W : World} {sp : Nat → Bool} {hd : Bool}
theorem trod_vec {fuel : Nat} {cs : List Value} {x : DataW H × List MemPlace} (h : DataW.trod enc Try.prog W 0 sp hd fuel 25 cs = some x) :
    ∃ z0 z1 z2 z3, cs = [.int .u64 z0, .int .u32 z1, .int .u64 z2, .int .u8 z3] := by
  obtain ⟨xs, n, hn, hx, hlen, hxl, hf⟩ := DataW.trod_struct Try.underlying25 h
  rw [c25] at hlen
  have hxl' : xs.length = 4 := hxl
  have h0 := hf 0 _ rfl
  have h1 := hf 1 _ rfl
  have h2 := hf 2 _ rfl
  have h3 := hf 3 _ rfl
  simp only [List.getElem_toArray, List.getElem_cons_succ, List.getElem_cons_zero] at h0 h1 h2 h3
  rw [c22] at h0 h2
  rw [c23] at h1
  rw [c5] at h3
  match cs, hlen with
  | [a, b, c, d], _ =>
    simp only [List.drop_zero, List.take_succ_cons, List.take_zero, List.drop_succ_cons] at h0 h1 h2 h3
    rw [List.getElem?_eq_getElem (by omega)] at h0 h1 h2 h3
    obtain ⟨z0, e0, _⟩ := DataW.trod_int Try.underlying22 h0
    obtain ⟨z1, e1, _⟩ := DataW.trod_int Try.underlying23 h1
    obtain ⟨z2, e2, _⟩ := DataW.trod_int Try.underlying22 h2
    obtain ⟨z3, e3, _⟩ := DataW.trod_int Try.underlying5 h3
    simp at e0 e1 e2 e3
    subst e0 e1 e2 e3
    exact ⟨z0, z1, z2, z3, rfl⟩
theorem trod_path {fuel : Nat} {cs : List Value} {x : DataW H × List MemPlace} (h : DataW.trod enc Try.prog W 0 sp hd fuel 39 cs = some x) :
    ∃ z : Pth, cs = (pcells z).toList := by
  obtain ⟨xs, n, hn, hx, hlen, hxl, hf⟩ := DataW.trod_struct Try.underlying39 h
  rw [c39] at hlen
  have hxl' : xs.length = 2 := hxl
  have h0 := hf 0 _ rfl
  have h1 := hf 1 _ rfl
  simp only [List.getElem_toArray, List.getElem_cons_succ, List.getElem_cons_zero] at h0 h1
  rw [c25] at h0
  rw [c5] at h1
  match cs, hlen with
  | [a, b, c, d, e], _ =>
    simp only [List.drop_zero, List.take_succ_cons, List.take_zero, List.drop_succ_cons] at h0 h1
    rw [List.getElem?_eq_getElem (by omega)] at h0 h1
    obtain ⟨z0, z1, z2, z3, e0⟩ := trod_vec h0
    obtain ⟨z4, e1, _⟩ := DataW.trod_int Try.underlying5 h1
    simp at e0 e1
    obtain ⟨rfl, rfl, rfl, rfl⟩ := e0
    subst e1
    exact ⟨(z0, z1, z2, z3, z4), rfl⟩
end

def IsPaths (w : World) (a : Option Addr) (n c : Nat) : Prop :=
  n ≤ c ∧ n ≤ maxLen ∧ ∃ l : List Pth, l.length = n ∧ (0 < n → ∃ b o, a = some ⟨b, o, Option.none⟩ ∧ b < w.heap.size ∧ RowIn w b o l)

theorem open_paths {H : Type} {enc : TypeId × Value → H} {W : World} {a : Option Addr} {n c : Nat} {d : DataW H} {p : List MemPlace}
    (h : DataW.Trod enc Try.prog W 0 (fun _ => true) true 36 (.slice a n c) d p) : IsPaths W a n c := by
  obtain ⟨fuel, hf⟩ := h
  rcases open_slice Try.underlying36 hf with h0 | ⟨x, len, cap, m, k, D, Pl, hcs, hb, hl, hm, hmm, hx, hi⟩
  · have hcs := h0.1
    simp [Value.cells] at hcs
    obtain ⟨rfl, rfl, rfl⟩ := hcs
    exact ⟨Nat.le_refl _, Nat.zero_le _, [], rfl, fun h => by omega⟩
  · simp [Value.cells] at hcs
    obtain ⟨rfl, rfl, rfl⟩ := hcs
    simp only [if_true] at hmm
    subst hmm
    have he : ∀ i, i < n → ∃ z : Pth, ∀ j u, (pcells z).toList[j]? = some u → W.cell? ((x.add (i * 5)).add j) = some u := by
      intro i hin
      obtain ⟨cs', hc, ht'⟩ := hi i (by omega)
      rw [c39] at hc
      obtain ⟨z, rfl⟩ := trod_path ht'
      obtain ⟨_, hcl, hat⟩ := World.cells?_some hc
      refine ⟨z, fun j u hj => ?_⟩
      have hj5 : j < 5 := by have := (List.getElem?_eq_some_iff.1 hj).1; simpa using this
      exact (hat j hj5).trans hj
    obtain ⟨l, hll, hl'⟩ := exists_list n he
    refine ⟨hl, Nat.le_trans hl hm, l, hll, fun hn => ?_⟩
    obtain ⟨z, hz⟩ : ∃ z, l[0]? = some z := ⟨_, List.getElem?_eq_getElem (by omega)⟩
    have h0 := hl' 0 z hz 0 _ rfl
    rw [Nat.zero_mul] at h0
    have hx0 : x.add 0 = x := by unfold Addr.add; split <;> simp_all
    rw [hx0] at h0
    have hx := spotless h0
    obtain ⟨b, off, spot⟩ := x
    simp at hx
    subst hx
    simp only [add_plain'] at hl' h0
    refine ⟨b, off, rfl, block_lt h0, fun i z hz => ?_⟩
    exact ⟨hl' i z hz 0 _ rfl, hl' i z hz 1 _ rfl, hl' i z hz 2 _ rfl, hl' i z hz 3 _ rfl, hl' i z hz 4 _ rfl⟩
end Go.Proofs.Ytndhccdknloinaa
