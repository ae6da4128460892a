/- Contracts of the laws' own helpers: toSpot, toRatio, toHalf copy a struct field by field; eqSpot, eqRatio, eqHalf compare two of them. -/
import Derived.Test.YtkcklbjjpbaimaaGcd
namespace Go.Proofs.Ytkcklbjjpbaimaa
open Go.ChangeShapes Go.WideShapes Go.ChangeAt Go.RowKit
attribute [local go_sem ↓] Go.wp_at_zero Go.wp_at_succ
set_option linter.unusedVariables false

def same3 (x y d x' y' d' : Int) : Bool := x == x' && y == y' && d == d'

end Go.Proofs.Ytkcklbjjpbaimaa
