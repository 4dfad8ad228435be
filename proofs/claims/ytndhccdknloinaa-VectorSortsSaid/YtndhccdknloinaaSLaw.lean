/-
  Vectors: plain laws for VectorSorts. No condition.
-/
import Derived.Test.YtndhccdknloinaaVSort
import Derived.Test.YtndhccdknloinaaWander
import Derived.Test.YtndhccdknloinaaLeastLaw
import Derived.Deep.DeepCutAuto
import Derived.BigGuard
import Derived.IntWalk
namespace Go.Proofs.Ytndhccdknloinaa
open Go.RowKit
set_option linter.unusedVariables false
set_option linter.unusedSimpArgs false
set_option maxRecDepth 8000

/-- Paths in their order. -/
def LtP (x y : Pth) : Prop := Lt x.1 x.2.1 x.2.2.1 x.2.2.2.1 y.1 y.2.1 y.2.2.1 y.2.2.2.1 ∨ ((x.1 = y.1 ∧ x.2.1 = y.2.1 ∧ x.2.2.1 = y.2.2.1 ∧ x.2.2.2.1 = y.2.2.2.1) ∧ x.2.2.2.2 < y.2.2.2.2)
theorem ordP_neg (x y : Pth) : ordP x y < 0 ↔ LtP x y := by
  unfold ordP LtP
  rcases stand_cases x.1 x.2.1 x.2.2.1 x.2.2.2.1 y.1 y.2.1 y.2.2.1 y.2.2.2.1 with ⟨h1, h2⟩ | ⟨h1, h2⟩ | ⟨h1, h2⟩
  · rw [h2]; simp [firstOf, h1]
  · rw [h2]
    have n1 : ¬ Lt x.1 x.2.1 x.2.2.1 x.2.2.2.1 y.1 y.2.1 y.2.2.1 y.2.2.2.1 := fun e => by unfold Lt at e h1; omega
    have n2 : ¬ (x.1 = y.1 ∧ x.2.1 = y.2.1 ∧ x.2.2.1 = y.2.2.1 ∧ x.2.2.2.1 = y.2.2.2.1) := fun e => by unfold Lt at h1; omega
    simp [firstOf, n1]
    intro a b c d
    exact absurd ⟨a, b, c, d⟩ n2
  · rw [h2]
    have n1 : ¬ Lt x.1 x.2.1 x.2.2.1 x.2.2.2.1 y.1 y.2.1 y.2.2.1 y.2.2.2.1 := fun e => by unfold Lt at e; omega
    have hw : firstOf [0, way x.2.2.2.2 y.2.2.2.2] = way x.2.2.2.2 y.2.2.2.2 := by
      show (if (0 : Int) = 0 then (if way x.2.2.2.2 y.2.2.2.2 = 0 then 0 else way x.2.2.2.2 y.2.2.2.2) else 0) = _
      rw [if_pos rfl]
      split
      · rename_i h; exact h.symm
      · rfl
    rw [hw]
    have hw2 : way x.2.2.2.2 y.2.2.2.2 < 0 ↔ x.2.2.2.2 < y.2.2.2.2 := by
      unfold way
      by_cases h : x.2.2.2.2 < y.2.2.2.2
      · rw [if_pos h]; exact ⟨fun _ => h, fun _ => by decide⟩
      · rw [if_neg h]
        refine ⟨fun e => ?_, fun e => absurd e h⟩
        split at e <;> omega
    rw [hw2]
    exact ⟨fun e => .inr ⟨h1, e⟩, fun e => e.elim (fun e => absurd e n1) (fun e => e.2)⟩
abbrev v4 (x : Pth) : V4 := (x.1, x.2.1, x.2.2.1, x.2.2.2.1)
theorem ltP_iff (x y : Pth) : LtP x y ↔ LtV (v4 x) (v4 y) ∨ (v4 x = v4 y ∧ x.2.2.2.2 < y.2.2.2.2) := by
  unfold LtP LtV
  simp only [Prod.mk.injEq]
theorem ntransV {x y z : V4} (h1 : ¬ LtV x y) (h2 : ¬ LtV y z) : ¬ LtV x z := by
  have h := swoV.ntrans x y z
  intro h3
  have e1 : ltOf cfV x y = false := by cases he : ltOf cfV x y with | false => rfl | true => exact absurd ((ltV _ _).1 he) h1
  have e2 : ltOf cfV y z = false := by cases he : ltOf cfV y z with | false => rfl | true => exact absurd ((ltV _ _).1 he) h2
  have := h e1 e2
  rw [(ltV _ _).2 h3] at this
  cases this
theorem totV {x y : V4} (h1 : ¬ LtV x y) (h2 : ¬ LtV y x) : x = y := by
  obtain ⟨a, b, c, d⟩ := x
  obtain ⟨a', b', c', d'⟩ := y
  unfold LtV Lt at h1 h2
  simp only [Prod.mk.injEq]
  simp only at h1 h2
  omega
theorem irrV (x : V4) : ¬ LtV x x := by unfold LtV Lt; omega
theorem ntransP {x y z : Pth} (h1 : ¬ LtP x y) (h2 : ¬ LtP y z) : ¬ LtP x z := by
  rw [ltP_iff] at *
  intro h3
  have n1 : ¬ LtV (v4 x) (v4 y) := fun e => h1 (.inl e)
  have n2 : ¬ LtV (v4 y) (v4 z) := fun e => h2 (.inl e)
  rcases h3 with h3 | ⟨h3, h4⟩
  · exact ntransV n1 n2 h3
  · rw [← h3] at n2
    have e := totV n1 n2
    apply h1
    refine .inr ⟨e, ?_⟩
    by_cases h5 : y.2.2.2.2 < z.2.2.2.2
    · exact absurd (.inr ⟨by rw [← e, h3], h5⟩) h2
    · omega
theorem irrP (x : Pth) : ¬ LtP x x := by
  rw [ltP_iff]
  rintro (h | h)
  · exact irrV _ h
  · omega
theorem asymP {x y : Pth} (h : LtP x y) : ¬ LtP y x := by
  rw [ltP_iff] at *
  rintro (h2 | ⟨h2, h3⟩)
  · rcases h with h | ⟨h, _⟩
    · unfold LtV Lt at h h2; simp only at h h2; omega
    · rw [h] at h2; exact irrV _ h2
  · rcases h with h | ⟨_, h⟩
    · rw [h2] at h; exact irrV _ h
    · omega
theorem best_mem (l : List Pth) : ∀ m, best m l ∈ m :: l := by
  induction l with
  | nil => intro m; simp [best]
  | cons x l ih =>
    intro m
    unfold best
    have := ih (if ordP x m < 0 then x else m)
    split at this
    · rename_i h
      rw [if_pos h]
      exact List.mem_cons_of_mem _ this
    · rename_i h
      rw [if_neg h]
      rcases List.mem_cons.1 this with e | e
      · rw [e]; simp
      · simp [e]
theorem best_least (l : List Pth) : ∀ m, ∀ y ∈ m :: l, ¬ LtP y (best m l) := by
  induction l with
  | nil =>
    intro m y hy
    simp at hy
    subst hy
    exact irrP _
  | cons x l ih =>
    intro m y hy
    unfold best
    by_cases h : ordP x m < 0
    · rw [if_pos h]
      have h1 := (ordP_neg x m).1 h
      have h2 := ih x x (by simp)
      rcases List.mem_cons.1 hy with e | e
      · subst e
        exact ntransP (asymP h1) h2
      · exact ih x y e
    · rw [if_neg h]
      have h1 : ¬ LtP x m := fun e => h ((ordP_neg x m).2 e)
      have h2 := ih m m (by simp)
      rcases List.mem_cons.1 hy with e | e
      · subst e; exact h2
      · rcases List.mem_cons.1 e with e | e
        · subst e
          exact ntransP h1 h2
        · exact ih m y (by simp [e])
/-- What the least one's place tells. -/
theorem stand_of_least {p y : Pth} (h : ¬ LtP y p) : ¬ 0 < stand p.1 p.2.1 p.2.2.1 p.2.2.2.1 y.1 y.2.1 y.2.2.1 y.2.2.2.1 ∧ (stand p.1 p.2.1 p.2.2.1 p.2.2.2.1 y.1 y.2.1 y.2.2.1 y.2.2.2.1 = 0 → ¬ y.2.2.2.2 < p.2.2.2.2) := by
  rcases stand_cases p.1 p.2.1 p.2.2.1 p.2.2.2.1 y.1 y.2.1 y.2.2.1 y.2.2.2.1 with ⟨h1, h2⟩ | ⟨h1, h2⟩ | ⟨h1, h2⟩
  · rw [h2]; exact ⟨by decide, fun e => by cases e⟩
  · exact absurd (show LtP y p from .inl h1) h
  · rw [h2]
    refine ⟨by decide, fun _ hlt => h (.inr ⟨?_, hlt⟩)⟩
    omega
theorem stand_of_rise {x y : V4} (h : ¬ LtV x y) : ¬ 0 < cfV y x := by
  unfold cfV
  rcases stand_cases y.1 y.2.1 y.2.2.1 y.2.2.2 x.1 x.2.1 x.2.2.1 x.2.2.2 with ⟨h1, h2⟩ | ⟨h1, h2⟩ | ⟨h1, h2⟩
  · rw [h2]; decide
  · exact absurd h1 h
  · rw [h2]; decide
def cntV (x : V4) (L : List V4) : Nat := L.countP (fun y => decide (y = x))
theorem cntV_take {L : List V4} {j : Nat} {y : V4} (hy : L[j]? = some y) (x : V4) : cntV x (L.take (j + 1)) = cntV x (L.take j) + if y = x then 1 else 0 := by
  have hl := (List.getElem?_eq_some_iff.1 hy).1
  have e : L[j] = y := by rw [List.getElem?_eq_getElem hl] at hy; exact Option.some.inj hy
  unfold cntV
  rw [List.take_succ_eq_append_getElem hl, List.countP_append, e]
  by_cases h : y = x <;> simp [h]
theorem cntV_le (x : V4) (L : List V4) (j : Nat) : cntV x (L.take j) ≤ j := Nat.le_trans List.countP_le_length (List.length_take_le _ _)
theorem eq27 (a b c d a' b' c' d' : Int) (w : World) :
    (Op.equalIn 10000 27 (.agg #[.int .u64 a, .int .u32 b, .int .u64 c, .int .u8 d]) (.agg #[.int .u64 a', .int .u32 b', .int .u64 c', .int .u8 d'])).run Try.prog w = .ok (decide (a = a' ∧ b = b' ∧ c = c' ∧ d = d')) w := by
  by_cases h0 : a = a' <;> by_cases h1 : b = b' <;> by_cases h2 : c = c' <;> by_cases h3 : d = d' <;> simp [go_sem, h0, h1, h2, h3]
theorem eql27 (x y : V4) (r : Bool) (hr : decide (x = y) = r) (w : World) :
    (binOp .eql 27 (.agg #[.int .u64 x.1, .int .u32 x.2.1, .int .u64 x.2.2.1, .int .u8 x.2.2.2]) (.agg #[.int .u64 y.1, .int .u32 y.2.1, .int .u64 y.2.2.1, .int .u8 y.2.2.2])).run Try.prog w = .ok (.bool r) w := by
  subst hr
  rw [run_eql_struct, eq27]
  congr 2
  obtain ⟨a, b, c, d⟩ := x
  obtain ⟨a', b', c', d'⟩ := y
  simp
theorem eq41 (a b c d e a' b' c' d' e' : Int) (w : World) :
    (Op.equalIn 10000 41 (.agg #[.int .u64 a, .int .u32 b, .int .u64 c, .int .u8 d, .int .u8 e]) (.agg #[.int .u64 a', .int .u32 b', .int .u64 c', .int .u8 d', .int .u8 e'])).run Try.prog w = .ok (decide (a = a' ∧ b = b' ∧ c = c' ∧ d = d' ∧ e = e')) w := by
  by_cases h0 : a = a' <;> by_cases h1 : b = b' <;> by_cases h2 : c = c' <;> by_cases h3 : d = d' <;> by_cases h4 : e = e' <;> simp [go_sem, h0, h1, h2, h3, h4]
theorem eql41 (x y : Pth) (r : Bool) (hr : decide (x = y) = r) (w : World) : (binOp .eql 41 (.agg #[.int .u64 x.1, .int .u32 x.2.1, .int .u64 x.2.2.1, .int .u8 x.2.2.2.1, .int .u8 x.2.2.2.2]) (.agg #[.int .u64 y.1, .int .u32 y.2.1, .int .u64 y.2.2.1, .int .u8 y.2.2.2.1, .int .u8 y.2.2.2.2])).run Try.prog w = .ok (.bool r) w := by
  subst hr
  rw [run_eql_struct, eq41]
  congr 2
  obtain ⟨a, b, c, d, e⟩ := x
  obtain ⟨a', b', c', d', e'⟩ := y
  simp
end Go.Proofs.Ytndhccdknloinaa
