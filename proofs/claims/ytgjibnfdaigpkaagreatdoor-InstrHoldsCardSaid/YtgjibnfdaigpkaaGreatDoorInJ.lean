/- Are two instructions the same? -/
import Derived.Test.YtgjibnfdaigpkaaGreatDoorInD
namespace Go.Proofs.YtgjibnfdaigpkaaGreatDoor
set_option linter.unusedVariables false
open Go Go.Proofs Go.RowKit

theorem ins_ne (op a b c m op' a' b' c' m' : Int) (w : World) : (binOp .neq 25 (.agg #[.int .i64 op, .int .i64 a, .int .i64 b, .int .i64 c, .int .u32 m]) (.agg #[.int .i64 op', .int .i64 a', .int .i64 b', .int .i64 c', .int .u32 m'])).run Tryz.prog w =
    .ok (.bool (!(decide (op = op') && decide (a = a') && decide (b = b') && decide (c = c') && decide (m = m')))) w := by
  by_cases h1 : op = op' <;> by_cases h2 : a = a' <;> by_cases h3 : b = b' <;> by_cases h4 : c = c' <;> by_cases h5 : m = m' <;> simp [go_sem, h1, h2, h3, h4, h5]
theorem ins_eq (op a b c m op' a' b' c' m' : Int) (w : World) : (binOp .eql 25 (.agg #[.int .i64 op, .int .i64 a, .int .i64 b, .int .i64 c, .int .u32 m]) (.agg #[.int .i64 op', .int .i64 a', .int .i64 b', .int .i64 c', .int .u32 m'])).run Tryz.prog w =
    .ok (.bool (decide (op = op') && decide (a = a') && decide (b = b') && decide (c = c') && decide (m = m'))) w := by
  by_cases h1 : op = op' <;> by_cases h2 : a = a' <;> by_cases h3 : b = b' <;> by_cases h4 : c = c' <;> by_cases h5 : m = m' <;> simp [go_sem, h1, h2, h3, h4, h5]
end Go.Proofs.YtgjibnfdaigpkaaGreatDoor
