/- The walk of the law about ThroughSpots. -/
import Derived.Test.YtkcklbjjpbaimaaThru
namespace Go.Proofs.Ytkcklbjjpbaimaa
open Go.ChangeShapes Go.WideShapes Go.ChangeAt Go.RowKit
attribute [local go_sem ↓] Go.wp_at_zero Go.wp_at_succ
set_option linter.unusedVariables false

theorem iThroughSpots_lit {x y d x' y' d' : Int} {v : Bool} (h : thOk x y d x' y' d' = v) (w : World) (hx1 : -9223372036854775808 ≤ x) (hx2 : x ≤ 9223372036854775807) (hy1 : -9223372036854775808 ≤ y) (hy2 : y ≤ 9223372036854775807) (hp1 : -9223372036854775808 ≤ x') (hp2 : x' ≤ 9223372036854775807) (hq1 : -9223372036854775808 ≤ y') (hq2 : y' ≤ 9223372036854775807) :
    Calls Try.prog 7 #[.agg #[.int .i64 x, .int .i64 y, .int .i64 d], .agg #[.int .i64 x', .int .i64 y', .int .i64 d']] w fun e w' => e = .returned (.tuple #[.agg #[.int .i64 (thA x y d x' y' d'), .int .i64 (thB x y d x' y' d'), .int .i64 (thC x y d x' y' d')], .bool v]) ∧ Below w.heap.size w w' := by
  rw [← h]; exact iThroughSpots_any x y d x' y' d' w hx1 hx2 hy1 hy2 hp1 hp2 hq1 hq2

end Go.Proofs.Ytkcklbjjpbaimaa
