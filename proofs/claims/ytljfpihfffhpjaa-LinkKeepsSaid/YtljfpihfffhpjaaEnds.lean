/-
  The statement LinkKeeps: what holds of each end from act to act. No condition.
-/
import Derived.Test.YtljfpihfffhpjaaFrame
namespace Go.Proofs.Ytljfpihfffhpjaa
open Go.RowKit Go.Conc
set_option linter.unusedVariables false

/-- What holds of an end ahead of act k: its row is frames of numbers that rise, of sends below k, behind the last one that came; none is forgotten. -/
def EndOK (acts : List (Int × Int)) (k : Nat) (sent came last l : Int) (xs : List Value) : Prop :=
  ∃ ns : List Nat, xs = ns.map (fun n => .string (frm n)) ∧ ns.Pairwise (· < ·) ∧ (∀ n ∈ ns, n < k ∧ (0 < came → last < (n : Int)) ∧ ∃ a, acts[n]? = some a ∧ 4 ≤ a.1) ∧
    sent = came + l + ns.length ∧ 0 ≤ came ∧ 0 ≤ l ∧ sent ≤ k ∧ ns.length ≤ 64 ∧ (0 < came → last < (k : Int))

section
variable {acts : List (Int × Int)} {k : Nat} {sent came last l : Int} {xs : List Value}
theorem EndOK.start : EndOK acts 0 0 0 0 0 [] := ⟨[], rfl, List.Pairwise.nil, by simp, by simp, by omega, by omega, by simp, by simp, by omega⟩
theorem EndOK.next (h : EndOK acts k sent came last l xs) : EndOK acts (k + 1) sent came last l xs := by
  obtain ⟨ns, rfl, hp, hn, hs, h1, h2, h3, h4, h5⟩ := h
  exact ⟨ns, rfl, hp, fun n hm => ⟨by have := (hn n hm).1; omega, (hn n hm).2⟩, hs, h1, h2, by omega, h4, fun h => by have := h5 h; omega⟩
theorem EndOK.nums (h : EndOK acts k sent came last l xs) : sent = came + l + xs.length ∧ 0 ≤ came ∧ 0 ≤ l ∧ sent ≤ k ∧ xs.length ≤ 64 := by
  obtain ⟨ns, rfl, hp, hn, hs, h1, h2, h3, h4, h5⟩ := h
  simp only [List.length_map]
  exact ⟨hs, h1, h2, h3, h4⟩
/-- The first one of a row. -/
theorem EndOK.first {v : Value} {ys : List Value} (h : EndOK acts k sent came last l (v :: ys)) :
    ∃ n : Nat, v = .string (frm n) ∧ n < k ∧ (0 < came → last < (n : Int)) ∧ (∃ a, acts[n]? = some a ∧ 4 ≤ a.1) ∧
      EndOK acts (k + 1) sent (came + 1) n l ys ∧ EndOK acts (k + 1) sent came last (l + 1) ys := by
  obtain ⟨ns, he, hp, hn, hs, h1, h2, h3, h4, h5⟩ := h
  match ns, he with
  | n :: ms, he =>
    simp only [List.map_cons, List.cons.injEq] at he
    obtain ⟨rfl, rfl⟩ := he
    have h0 := hn n (by simp)
    rw [List.pairwise_cons] at hp
    simp only [List.length_cons] at hs h4
    refine ⟨n, rfl, h0.1, h0.2.1, h0.2.2, ⟨ms, rfl, hp.2, fun m hm => ⟨?_, fun _ => ?_, (hn m (by simp [hm])).2.2⟩, by push_cast at hs; omega, by omega, h2, by omega, by omega, fun _ => by have := h0.1; omega⟩,
      ⟨ms, rfl, hp.2, fun m hm => ⟨?_, (hn m (by simp [hm])).2⟩, by push_cast at hs; omega, h1, by omega, by omega, by omega, fun h => by have := h5 h; omega⟩⟩
    · have := (hn m (by simp [hm])).1; omega
    · have := hp.1 m hm; omega
    · have := (hn m (by simp [hm])).1; omega
/-- One more is sent. -/
theorem EndOK.push (h : EndOK acts k sent came last l xs) {a : Int × Int} (ha : acts[k]? = some a) (h4 : 4 ≤ a.1) (hl : xs.length < 64) : EndOK acts (k + 1) (sent + 1) came last l (xs ++ [.string (frm k)]) := by
  obtain ⟨ns, rfl, hp, hn, hs, h1, h2, h3, h5, h6⟩ := h
  simp only [List.length_map] at hl
  refine ⟨ns ++ [k], by simp, ?_, ?_, by simp only [List.length_append, List.length_cons, List.length_nil]; push_cast; omega, h1, h2, by omega, by simp; omega, fun h => by have := h6 h; omega⟩
  · rw [List.pairwise_append]
    exact ⟨hp, List.pairwise_singleton _ _, fun m hm n hn' => by rw [List.mem_singleton] at hn'; subst hn'; exact (hn m hm).1⟩
  · intro n hm
    rw [List.mem_append, List.mem_singleton] at hm
    rcases hm with hm | rfl
    · exact ⟨by have := (hn n hm).1; omega, (hn n hm).2⟩
    · exact ⟨by omega, h6, a, ha, h4⟩
/-- All are lost. -/
theorem EndOK.clear (h : EndOK acts k sent came last l xs) : EndOK acts (k + 1) sent came last (l + xs.length) [] := by
  obtain ⟨ns, rfl, hp, hn, hs, h1, h2, h3, h5, h6⟩ := h
  simp only [List.length_map]
  exact ⟨[], rfl, List.Pairwise.nil, by simp, by simp only [List.length_nil]; omega, h1, by omega, by omega, by simp, fun h => by have := h6 h; omega⟩
end

/-- Acts in their cells: what to do, and the end. -/
def Acts (w : World) (b o n : Nat) (l : List (Int × Int)) : Prop :=
  l.length = n ∧ ∀ i a, l[i]? = some a → w.cell? ⟨b, o + i * 3, Option.none⟩ = some (.int .u8 a.1) ∧ w.cell? ⟨b, o + i * 3 + 1, Option.none⟩ = some (.int .i64 a.2) ∧ 0 ≤ a.1
theorem Acts.keep {S : Nat → Prop} {w w' : World} {b o n : Nat} {l : List (Int × Int)} (h : Acts w b o n l) (k : Keeps S w w') (hb : b < w.heap.size) (hS : ¬ S b) : Acts w' b o n l :=
  ⟨h.1, fun i a ha => ⟨(k.cell (p := ⟨b, _, Option.none⟩) hb hS).trans (h.2 i a ha).1, (k.cell (p := ⟨b, _, Option.none⟩) hb hS).trans (h.2 i a ha).2.1, (h.2 i a ha).2.2⟩⟩
end Go.Proofs.Ytljfpihfffhpjaa
