/-
  Links and ids that came in lie in their cells. No condition.
-/
import Derived.Test.YthnkeppkhdceoaaMayK
import Derived.Test.YthnkeppkhdceoaaOpen
namespace Go.Proofs.Ythnkeppkhdceoaa
set_option linter.unusedSimpArgs false
open Go.ChangeShapes Go.WideShapes Go.Deep Go.RowKit
set_option linter.unusedVariables false
set_option maxRecDepth 4000

theorem cc3 : Try.prog.cellsOf 3 = 1 := by kernel_rfl
theorem cc4 : Try.prog.cellsOf 4 = 1 := by kernel_rfl
theorem cc5 : Try.prog.cellsOf 5 = 1 := by kernel_rfl
theorem cc37 : Try.prog.cellsOf 37 = 1 := by kernel_rfl
theorem cc55 : Try.prog.cellsOf 55 = 3 := by kernel_rfl
theorem cc57 : Try.prog.cellsOf 57 = 7 := by kernel_rfl
theorem of_wf {k : IntKind} {n : Int} (h : (Lit.int k n).wf = true) : k.min ≤ n ∧ n ≤ k.max := by simpa [Lit.wf] using h
theorem wf_u8 {n : Int} (h : (Lit.int .u8 n).wf = true) : 0 ≤ n ∧ n < 256 := by
  have : 0 ≤ n ∧ n ≤ 255 := of_wf h
  omega
theorem wf_u32 {n : Int} (h : (Lit.int .u32 n).wf = true) : 0 ≤ n ∧ n < 4294967296 := by
  have : 0 ≤ n ∧ n ≤ 4294967295 := of_wf h
  omega
theorem wf_u64 {n : Int} (h : (Lit.int .u64 n).wf = true) : 0 ≤ n ∧ n < 18446744073709551616 := by
  have : 0 ≤ n ∧ n ≤ 18446744073709551615 := of_wf h
  omega
def EnT (e : En) : Prop := (0 ≤ e.p ∧ e.p < 256) ∧ (0 ≤ e.c ∧ e.c < 4294967296)
section
variable {H : Type} {enc : TypeId × Value → H} {W : World} {sp : Nat → Bool} {hd : Bool}
theorem trod_end {fuel : Nat} {cs : List Value} {x : DataW H × List MemPlace} (h : DataW.trod enc Try.prog W 0 sp hd fuel 55 cs = some x) :
    ∃ e : En, cs = [.int .i64 e.b, .int .u8 e.p, .int .u32 e.c] ∧ EnT e := by
  obtain ⟨xs, n, hn, hx, hlen, hxl, hf⟩ := DataW.trod_struct Try.underlying55 h
  rw [cc55] at hlen
  have hxl' : xs.length = 3 := hxl
  have h0 := hf 0 _ rfl
  have h1 := hf 1 _ rfl
  have h2 := hf 2 _ rfl
  simp only [List.getElem_toArray, List.getElem_cons_succ, List.getElem_cons_zero] at h0 h1 h2
  rw [cc3] at h0
  rw [cc5] at h1
  rw [cc37] at h2
  match cs, hlen with
  | [a, b, c], _ =>
    simp only [List.drop_zero, List.take_succ_cons, List.take_zero, List.drop_succ_cons] at h0 h1 h2
    rw [List.getElem?_eq_getElem (by omega)] at h0 h1 h2
    obtain ⟨z0, e0, _⟩ := DataW.trod_int Try.underlying3 h0
    obtain ⟨z1, e1, _, w1⟩ := DataW.trod_int Try.underlying5 h1
    obtain ⟨z2, e2, _, w2⟩ := DataW.trod_int Try.underlying37 h2
    simp at e0 e1 e2
    subst e0 e1 e2
    exact ⟨⟨z0, z1, z2⟩, rfl, wf_u8 w1, wf_u32 w2⟩
theorem trod_link {fuel : Nat} {cs : List Value} {x : DataW H × List MemPlace} (h : DataW.trod enc Try.prog W 0 sp hd fuel 57 cs = some x) :
    ∃ l : Lk, cs = lcells l ∧ EnT l.a ∧ EnT l.z := by
  obtain ⟨xs, n, hn, hx, hlen, hxl, hf⟩ := DataW.trod_struct Try.underlying57 h
  rw [cc57] at hlen
  have hxl' : xs.length = 3 := hxl
  have h0 := hf 0 _ rfl
  have h1 := hf 1 _ rfl
  have h2 := hf 2 _ rfl
  simp only [List.getElem_toArray, List.getElem_cons_succ, List.getElem_cons_zero] at h0 h1 h2
  rw [cc55] at h0 h1
  rw [cc4] at h2
  match cs, hlen with
  | [a, b, c, d, e, f, g], _ =>
    simp only [List.drop_zero, List.take_succ_cons, List.take_zero, List.drop_succ_cons] at h0 h1 h2
    rw [List.getElem?_eq_getElem (by omega)] at h0 h1 h2
    obtain ⟨x0, e0, t0⟩ := trod_end h0
    obtain ⟨x1, e1, t1⟩ := trod_end h1
    obtain ⟨z2, e2, _⟩ := DataW.trod_bool Try.underlying4 h2
    simp at e0 e1 e2
    obtain ⟨rfl, rfl, rfl⟩ := e0
    obtain ⟨rfl, rfl, rfl⟩ := e1
    subst e2
    exact ⟨⟨x0, x1, z2⟩, rfl, t0, t1⟩
end
/-- A row of links that came in. -/
def IsLinks (w : World) (a : Option Addr) (n c : Nat) : Prop := ∃ L : List Lk, L.length = n ∧ LSl w.heap.size w a c L ∧ ∀ e ∈ ends L, EnT e
theorem open_links {H : Type} {enc : TypeId × Value → H} {W : World} {a : Option Addr} {n c : Nat} {d : DataW H} {p : List MemPlace}
    (h : DataW.Trod enc Try.prog W 0 (fun _ => true) true 23 (.slice a n c) d p) : IsLinks W a n c := by
  obtain ⟨fuel, hf⟩ := h
  rcases open_slice Try.underlying23 hf with h0 | ⟨x, len, cap, m, k, D, Pl, hcs, hb, hl, hm, hmm, hx, hi⟩
  · have hcs := h0.1
    simp [Value.cells] at hcs
    obtain ⟨rfl, rfl, rfl⟩ := hcs
    exact ⟨[], rfl, ⟨Nat.zero_le _, fun h => absurd rfl h⟩, fun e he => by simp [ends] at he⟩
  · simp [Value.cells] at hcs
    obtain ⟨rfl, rfl, rfl⟩ := hcs
    simp only [if_true] at hmm
    subst hmm
    have he : ∀ i, i < n → ∃ l : Lk, (∀ j u, (lcells l)[j]? = some u → W.cell? ((x.add (i * 7)).add j) = some u) ∧ EnT l.a ∧ EnT l.z := by
      intro i hin
      obtain ⟨cs', hc, ht'⟩ := hi i (by omega)
      rw [cc57] at hc
      obtain ⟨l, rfl, t0, t1⟩ := trod_link ht'
      obtain ⟨_, hcl, hat⟩ := World.cells?_some hc
      refine ⟨l, fun j u hj => ?_, t0, t1⟩
      have hj5 : j < 7 := by have := (List.getElem?_eq_some_iff.1 hj).1; simpa using this
      exact (hat j hj5).trans hj
    obtain ⟨L, hll, hl'⟩ := exists_list n he
    refine ⟨L, hll, ⟨by omega, fun hne => ?_⟩, fun e hee => ?_⟩
    · have hn : 0 < n := by have := List.length_pos_iff.2 hne; omega
      obtain ⟨z, hz⟩ : ∃ z, L[0]? = some z := ⟨_, List.getElem?_eq_getElem (by omega)⟩
      have h0 := (hl' 0 z hz).1 0 _ rfl
      rw [Nat.zero_mul] at h0
      have hx0 : x.add 0 = x := by unfold Addr.add; split <;> simp_all
      rw [hx0] at h0
      have hx := spotless h0
      obtain ⟨b, off, spot⟩ := x
      simp at hx
      subst hx
      simp only [add_plain'] at hl' h0
      refine ⟨b, off, rfl, block_lt h0, fun i z hz => ?_⟩
      have H := (hl' i z hz).1
      exact ⟨H 0 _ rfl, H 1 _ rfl, H 2 _ rfl, H 3 _ rfl, H 4 _ rfl, H 5 _ rfl, H 6 _ rfl⟩
    · obtain ⟨l, hlm, hel⟩ := List.mem_flatMap.1 hee
      obtain ⟨i, hi⟩ := List.mem_iff_getElem?.1 hlm
      have := (hl' i l hi).2
      simp at hel
      rcases hel with rfl | rfl
      · exact this.1
      · exact this.2
/-- Ids that came in. -/
theorem open_ids {W : World} {a : Option Addr} {n c : Nat} {zs : List Int}
    (h : (a = Option.none ∧ n = 0 ∧ c = 0 ∧ zs = []) ∨ ∃ x, a = some x ∧ n ≤ c ∧ c ≤ maxLen ∧ zs.length = c ∧ (∀ i, i < zs.length → W.cell? (x.add i) = some (.int .u64 (zs.getD i 0))) ∧ ∀ n ∈ zs, (Lit.int .u64 n).wf = true) :
    WV W 0 1 a n c (idc (zs.take n)) ∧ ∀ x ∈ zs.take n, 0 ≤ x ∧ x < 18446744073709551616 := by
  rcases h with ⟨rfl, rfl, rfl, rfl⟩ | ⟨x, rfl, hnc, hm, hz, hc, hw⟩
  · exact ⟨WV.nil _ _ _ _ _, fun x hx => by simp at hx⟩
  · refine ⟨⟨by simp [idc]; omega, hnc, fun hn => ?_⟩, fun x hx => wf_u64 (hw x (List.mem_of_mem_take hx))⟩
    have h0 := hc 0 (by omega)
    have hx0 : x.add 0 = x := by unfold Addr.add; split <;> simp_all
    have hx := spotless h0
    rw [hx0] at h0
    obtain ⟨b, off, spot⟩ := x
    simp at hx
    subst hx
    simp only [add_plain'] at hc h0
    refine ⟨b, off, rfl, Nat.zero_le _, block_lt h0, fun j u hu => ?_⟩
    have hj : j < n := by
      have := (List.getElem?_eq_some_iff.1 hu).1
      simp [idc] at this; omega
    have := hc j (by omega)
    rw [this]
    rw [← hu]
    simp [idc, hj, List.getElem?_eq_getElem (show j < zs.length by omega)]
end Go.Proofs.Ythnkeppkhdceoaa
