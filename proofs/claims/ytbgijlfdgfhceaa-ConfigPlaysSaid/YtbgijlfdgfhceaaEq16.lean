/-
  Layer 16: small structs, compared. No condition.
-/
import Derived.Test.YtbgijlfdgfhceaaDoes
namespace Go.Proofs.Ytbgijlfdgfhceaa
open Go.RowKit
set_option linter.unusedVariables false
theorem eq56 (a b c a' b' c' : Int) (w : World) :
    (Op.equalIn 10000 56 (.agg #[.int .u8 a, .int .u8 b, .int .i64 c]) (.agg #[.int .u8 a', .int .u8 b', .int .i64 c'])).run Try.prog w = .ok (decide (a = a' ∧ b = b' ∧ c = c')) w := by
  by_cases h0 : a = a' <;> by_cases h1 : b = b' <;> by_cases h2 : c = c' <;> simp [go_sem, h0, h1, h2]
theorem eq59 (a b c a' b' c' : Int) (u u' : Bool) (w : World) :
    (Op.equalIn 10000 59 (.agg #[.int .i64 a, .int .u16 b, .int .u8 c, .bool u]) (.agg #[.int .i64 a', .int .u16 b', .int .u8 c', .bool u'])).run Try.prog w = .ok (decide (a = a' ∧ b = b' ∧ c = c' ∧ u = u')) w := by
  by_cases h0 : a = a' <;> by_cases h1 : b = b' <;> by_cases h2 : c = c' <;> by_cases h3 : u = u' <;> simp [go_sem, h0, h1, h2, h3]
theorem eql56 (a b c a' b' c' : Int) (r : Bool) (hr : decide (a = a' ∧ b = b' ∧ c = c') = r) (w : World) :
    (binOp .eql 56 (.agg #[.int .u8 a, .int .u8 b, .int .i64 c]) (.agg #[.int .u8 a', .int .u8 b', .int .i64 c'])).run Try.prog w = .ok (.bool r) w := by
  subst hr
  rw [run_eql_struct, eq56]; rfl
theorem neq56 (a b c a' b' c' : Int) (r : Bool) (hr : decide (a = a' ∧ b = b' ∧ c = c') = r) (w : World) :
    (binOp .neq 56 (.agg #[.int .u8 a, .int .u8 b, .int .i64 c]) (.agg #[.int .u8 a', .int .u8 b', .int .i64 c'])).run Try.prog w = .ok (.bool (!r)) w := by
  subst hr
  rw [run_neq_struct, eq56]; rfl
theorem neq59 (a b c a' b' c' : Int) (u u' : Bool) (r : Bool) (hr : decide (a = a' ∧ b = b' ∧ c = c' ∧ u = u') = r) (w : World) :
    (binOp .neq 59 (.agg #[.int .i64 a, .int .u16 b, .int .u8 c, .bool u]) (.agg #[.int .i64 a', .int .u16 b', .int .u8 c', .bool u'])).run Try.prog w = .ok (.bool (!r)) w := by
  subst hr
  rw [run_neq_struct, eq59]; rfl
theorem eql59 (a b c a' b' c' : Int) (u u' : Bool) (r : Bool) (hr : decide (a = a' ∧ b = b' ∧ c = c' ∧ u = u') = r) (w : World) :
    (binOp .eql 59 (.agg #[.int .i64 a, .int .u16 b, .int .u8 c, .bool u]) (.agg #[.int .i64 a', .int .u16 b', .int .u8 c', .bool u'])).run Try.prog w = .ok (.bool r) w := by
  subst hr
  rw [run_eql_struct, eq59]; rfl
end Go.Proofs.Ytbgijlfdgfhceaa
