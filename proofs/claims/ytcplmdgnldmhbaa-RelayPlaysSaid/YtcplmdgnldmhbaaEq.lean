/-
  Addresses, compared. No condition.
-/
import Derived.Test.YtcplmdgnldmhbaaVlan
namespace Go.Proofs.Ytcplmdgnldmhbaa
open Go.RowKit
set_option linter.unusedVariables false

theorem eq25g (dd : Nat) (a b c d e f a' b' c' d' e' f' : Int) (w : World) :
    (Op.equalIn (dd + 2) 31 (.agg #[.int .u8 a, .int .u8 b, .int .u8 c, .int .u8 d, .int .u8 e, .int .u8 f]) (.agg #[.int .u8 a', .int .u8 b', .int .u8 c', .int .u8 d', .int .u8 e', .int .u8 f'])).run Try.prog w
      = .ok (decide (a = a' ∧ b = b' ∧ c = c' ∧ d = d' ∧ e = e' ∧ f = f')) w := by
  have hu : Try.prog.underlying 31 = some (.array 6 5) := by kernel_rfl
  obtain ⟨i, hi⟩ : ∃ i, Try.prog.info? 5 = some i := by
    have h : (Try.prog.info? 5).isSome = true := by kernel_rfl
    exact Option.isSome_iff_exists.1 h
  have h5 : Try.prog.underlying 5 = some (.int .u8) := by kernel_rfl
  have hp : Try.prog.plainKey 5 = true := by simp [Program.plainKey, h5]
  have hc : Try.prog.cellsOf 5 = 1 := by kernel_rfl
  have e0 : List.range 6 = [0, 1, 2, 3, 4, 5] := rfl
  rw [run_equalIn_array (d := dd + 1) (w := w) _ _ hu hi, e0, hc]
  have P : ∀ (xs : Array Value) (o : Nat) (v : Value) (W : World), xs[o]? = some v → (Go.part 5 xs o).run Try.prog W = .ok v W := fun xs o v W h => run_part_plain W hp h
  have I : ∀ (x y : Int) (W : World), (Op.equalIn (dd + 1) 5 (.int .u8 x) (.int .u8 y)).run Try.prog W = .ok (x == y) W := fun x y W => run_equalIn_int W dd 5 .u8 .u8 x y h5
  have S : ∀ (x y : Value) (xs ys : Array Value) (o : Nat) (is : List Nat) (m n : Int) (W : World), xs[o]? = some (.int .u8 m) → ys[o]? = some (.int .u8 n) →
      (Op.eqItems (dd + 1) 5 1 xs ys (o :: is)).run Try.prog W = if m = n then (Op.eqItems (dd + 1) 5 1 xs ys is).run Try.prog W else .ok false W := by
    intro x y xs ys o is m n W hx hy
    simp only [Op.eqItems, Sem.run_bind, Nat.mul_one]
    rw [P _ _ _ W hx]
    simp only [Result.andThen_ok]
    rw [P _ _ _ W hy]
    simp only [Result.andThen_ok, I]
    by_cases h : m = n
    · simp [h]
    · simp [h]
  rw [S (.bool true) (.bool true) _ _ 0 _ a a' w rfl rfl, S (.bool true) (.bool true) _ _ 1 _ b b' w rfl rfl, S (.bool true) (.bool true) _ _ 2 _ c c' w rfl rfl, S (.bool true) (.bool true) _ _ 3 _ d d' w rfl rfl, S (.bool true) (.bool true) _ _ 4 _ e e' w rfl rfl, S (.bool true) (.bool true) _ _ 5 _ f f' w rfl rfl]
  by_cases h0 : a = a' <;> by_cases h1 : b = b' <;> by_cases h2 : c = c' <;> by_cases h3 : d = d' <;> by_cases h4 : e = e' <;> by_cases h6 : f = f' <;> simp [h0, h1, h2, h3, h4, h6, Op.eqItems]
theorem eql25 (a b c d e f a' b' c' d' e' f' : Int) (r : Bool) (hr : decide (a = a' ∧ b = b' ∧ c = c' ∧ d = d' ∧ e = e' ∧ f = f') = r) (w : World) :
    (binOp .eql 31 (.agg #[.int .u8 a, .int .u8 b, .int .u8 c, .int .u8 d, .int .u8 e, .int .u8 f]) (.agg #[.int .u8 a', .int .u8 b', .int .u8 c', .int .u8 d', .int .u8 e', .int .u8 f'])).run Try.prog w = .ok (.bool r) w := by
  subst hr
  simp only [binOp]
  simp [Op.equal, Op.maxDepth, eq25g 9998]
theorem neq25 (a b c d e f a' b' c' d' e' f' : Int) (r : Bool) (hr : decide (a = a' ∧ b = b' ∧ c = c' ∧ d = d' ∧ e = e' ∧ f = f') = r) (w : World) :
    (binOp .neq 31 (.agg #[.int .u8 a, .int .u8 b, .int .u8 c, .int .u8 d, .int .u8 e, .int .u8 f]) (.agg #[.int .u8 a', .int .u8 b', .int .u8 c', .int .u8 d', .int .u8 e', .int .u8 f'])).run Try.prog w = .ok (.bool (!r)) w := by
  subst hr
  simp only [binOp]
  simp [Op.equal, Op.maxDepth, eq25g 9998]
end Go.Proofs.Ytcplmdgnldmhbaa
