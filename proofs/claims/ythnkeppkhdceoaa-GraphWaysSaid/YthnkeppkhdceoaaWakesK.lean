/-
  Graphs: the tree of the graph that is known, and the way through it. No condition.
-/
import Derived.Test.YthnkeppkhdceoaaKnown
namespace Go.Proofs.Ythnkeppkhdceoaa
open Go.RowKit
set_option linter.unusedVariables false
set_option linter.unusedSimpArgs false
def N0 : List Nd := [⟨1, 0, -1⟩, ⟨1, 10, -1⟩, ⟨1, 20, -1⟩]
def P0 : List Hp := [⟨2, -1, 0⟩, ⟨1, 1, 0⟩, ⟨0, 0, -1⟩]
theorem sides0 : sidesOf Lk0 = [⟨0, ⟨0, 0, 10⟩, ⟨1, 0, 10⟩⟩, ⟨0, ⟨1, 0, 10⟩, ⟨0, 0, 10⟩⟩, ⟨1, ⟨1, 1, 10⟩, ⟨2, 0, 10⟩⟩, ⟨1, ⟨2, 0, 10⟩, ⟨1, 1, 10⟩⟩, ⟨2, ⟨0, 1, 50⟩, ⟨2, 1, 50⟩⟩, ⟨2, ⟨2, 1, 50⟩, ⟨0, 1, 50⟩⟩] := by rfl
theorem dist0 : Dist (ends Lk0) := by
  have h : (ends Lk0).Pairwise (fun x y => ¬ (x.b = y.b ∧ x.p = y.p)) := by decide
  intro i j x y hij hx hy
  obtain ⟨hi, rfl⟩ := List.getElem?_eq_some_iff.1 hx
  obtain ⟨hj, rfl⟩ := List.getElem?_eq_some_iff.1 hy
  exact (List.pairwise_iff_getElem.1 h) i j hi hj hij
theorem may0 : MayG ids0 Lk0 := ⟨by decide, by decide, by decide, by decide, dist0⟩
theorem int0 : InT ids0 Lk0 := ⟨by decide, by decide⟩
theorem gok0 : GOk ids0 3 (sidesOf Lk0) := may0.gok int0 (by decide)
theorem put0 : Put ids0 3 Lk0 N0 where
  len := rfl
  port := by decide
  inv := by
    constructor
    · intro x h0 h1
      rcases (show x = 0 ∨ x = 1 ∨ x = 2 by omega) with rfl | rfl | rfl <;> simp [lexLe, valOf, N0, idOf, ids0]
    · have m1 : ((⟨1, 0, 10⟩, ⟨0, 0, 10⟩) : Pr) ∈ prs Lk0 := by simp [prs, sides0, Sd.pr]
      have m2 : ((⟨2, 0, 10⟩, ⟨1, 1, 10⟩) : Pr) ∈ prs Lk0 := by simp [prs, sides0, Sd.pr]
      have g0 : GP (prs Lk0) (valOf N0) 1 0 0 [0] 0 := .nil 0 (by simp [lexLe, valOf, N0])
      have g1 : GP (prs Lk0) (valOf N0) 1 1 0 [1, 0] 10 := GP.cons (⟨1, 0, 10⟩, ⟨0, 0, 10⟩) 0 [0] 0 m1 g0 (by simp) (by simp [lexLe, valOf, N0])
      have g2 : GP (prs Lk0) (valOf N0) 1 2 0 [2, 1, 0] 20 := GP.cons (⟨2, 0, 10⟩, ⟨1, 1, 10⟩) 0 [1, 0] 10 m2 g1 (by simp) (by simp [lexLe, valOf, N0])
      intro x h0 h1
      rcases (show x = 0 ∨ x = 1 ∨ x = 2 by omega) with rfl | rfl | rfl
      · exact ⟨0, [0], by omega, by omega, rfl, g0⟩
      · exact ⟨0, [1, 0], by omega, by omega, rfl, g1⟩
      · exact ⟨0, [2, 1, 0], by omega, by omega, rfl, g2⟩
  still := by
    intro s hs
    simp only [prs, sides0, List.map_cons, List.map_nil, List.mem_cons, List.not_mem_nil, or_false] at hs
    rcases hs with rfl | rfl | rfl | rfl | rfl | rfl <;> simp [lexLt, offer, valOf, N0]
theorem nq0 : Nq ids0 Lk0 N0 = [⟨1, 0, -1⟩, ⟨1, 10, 0⟩, ⟨1, 20, 0⟩] := by rfl
theorem in0 : InN ids0 Lk0 N0 0 = true ∧ InN ids0 Lk0 N0 1 = true ∧ InN ids0 Lk0 N0 2 = false := by
  refine ⟨?_, ?_, ?_⟩ <;> rfl
theorem Wk.unique {S : List Sd} {In : Nat → Bool} {q c r : Int → Int} (h : Tr S In q c r) {t a p : Int} {l l' : List Hp} (h1 : Wk S In t a p l) (h2 : Wk S In t a p l') : l = l' := by
  obtain ⟨m, p1, w1, rfl⟩ := wk_wz h1
  obtain ⟨m', p2, w2, rfl⟩ := wk_wz h2
  have e := Wz.unique h _ _ _ (Nat.le_refl _) w1 w2
  subst e
  rfl
theorem wk0 : Wk (sidesOf Lk0) (InN ids0 Lk0 N0) 0 2 (-1) P0 := by
  have h1 : (⟨1, ⟨2, 0, 10⟩, ⟨1, 1, 10⟩⟩ : Sd) ∈ sidesOf Lk0 := by simp [sides0]
  have h2 : (⟨0, ⟨1, 0, 10⟩, ⟨0, 0, 10⟩⟩ : Sd) ∈ sidesOf Lk0 := by simp [sides0]
  exact .cons ⟨1, ⟨2, 0, 10⟩, ⟨1, 1, 10⟩⟩ (-1) _ h1 in0.2.1 (by decide) (by decide) (.cons ⟨0, ⟨1, 0, 10⟩, ⟨0, 0, 10⟩⟩ 1 _ h2 in0.1 (by decide) (by decide) (.nil 0))
theorem path0 {w' : World} {B : Nat} {e : Ending} (h : PathIs w' B ids0 Lk0 2 0 e) : ∃ p c, e = .returned (.tuple #[.slice p 3 c, .int .i64 0]) ∧ w'.ownsRow B 45 3 (.slice p 3 c) 3 (flatH P0) := by
  have hok : PathOk ids0 Lk0 2 0 := ⟨may0, by decide, by decide⟩
  rcases h with ⟨hn, _⟩ | ⟨_, N, hN, h⟩
  · exact absurd hok hn
  · obtain rfl := Put.unique gok0 hN put0
    rcases h with ⟨p, c, l, rfl, hown, hwk, _⟩ | ⟨_, hno⟩
    · obtain rfl := Wk.unique (put0.tr gok0 may0.apart) hwk wk0
      exact ⟨p, c, rfl, hown⟩
    · exact absurd wk0 (hno _)
end Go.Proofs.Ythnkeppkhdceoaa
