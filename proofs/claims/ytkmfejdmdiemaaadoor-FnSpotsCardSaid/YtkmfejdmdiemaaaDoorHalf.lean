/- Contracts of HalfOk, of the program and of the reference. -/
import Derived.Test.YtkmfejdmdiemaaaDoorSpot
import Derived.Test.YtkmfejdmdiemaaaDoorPlain
namespace Go.Proofs.YtkmfejdmdiemaaaDoor
open Go.ChangeShapes Go.WideShapes Go.ChangeAt Go.RowKit
attribute [local go_sem ↓] Go.wp_at_zero Go.wp_at_succ
set_option linter.unusedVariables false

/-- HalfOk's result. -/
def halfOkV (a b c : Int) : Bool := inB a (-50000) 50000 && (inB b (-50000) 50000 && (inB c (-100000000) 100000000 && (!(a == 0 && b == 0) && decide (gcdL [a, b, c] = 1))))

theorem halfOkV_bounds {a b c : Int} (h : halfOkV a b c = true) : (-50000 ≤ a ∧ a ≤ 50000) ∧ (-50000 ≤ b ∧ b ≤ 50000) ∧ (-100000000 ≤ c ∧ c ≤ 100000000) := by
  unfold halfOkV inB at h
  simp at h
  omega

theorem inRange_lit {n lo hi : Int} {v : Bool} (h : inB n lo hi = v) (w : World) :
    Calls Tryd.prog 49 #[.int .i64 n, .int .i64 lo, .int .i64 hi] w fun e w' => e = .returned (.bool v) ∧ w = w' := by
  rw [← h]; exact inRange_any n lo hi w

theorem sGcdOf_lit {a b g : Int} (h : gcdV a b = g) (w : World) (h1 : -9223372036854775808 ≤ a) (h2 : a ≤ 9223372036854775807) (h3 : -9223372036854775808 ≤ b) (h4 : b ≤ 9223372036854775807) :
    Calls Tryd.prog 45 #[.int .i64 a, .int .i64 b] w fun e w' => e = .returned (.int .i64 g) ∧ ∃ n, w' = w.drewN n := by
  rw [← h]; exact sGcdOf_any a b w h1 h2 h3 h4

end Go.Proofs.YtkmfejdmdiemaaaDoor
