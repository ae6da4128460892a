/- Contracts of SideOf, HoldsAt, OtherSide, of the program and of the reference, and the walks of their laws. -/
import Derived.Test.YtkmfejdmdiemaaaDoorHalf
namespace Go.Proofs.YtkmfejdmdiemaaaDoor
open Go.ChangeShapes Go.WideShapes Go.ChangeAt Go.RowKit
attribute [local go_sem ↓] Go.wp_at_zero Go.wp_at_succ
set_option linter.unusedVariables false

theorem spotOkV_bounds' {x y d : Int} (h : spotOkV x y d = true) : (1 ≤ d ∧ d ≤ 5000000000) ∧ (-1000 * d ≤ x ∧ x ≤ 1000 * d) ∧ (-1000 * d ≤ y ∧ y ≤ 1000 * d) := by
  unfold spotOkV inB at h
  simp at h
  omega

theorem iSpotOk_lit' {x y d : Int} {v : Bool} (h : spotOkV x y d = v) (w : World) (hx1 : -9223372036854775808 ≤ x) (hx2 : x ≤ 9223372036854775807) (hy1 : -9223372036854775808 ≤ y) (hy2 : y ≤ 9223372036854775807) :
    Calls Tryd.prog 35 #[.agg #[.int .i64 x, .int .i64 y, .int .i64 d]] w fun e w' => e = .returned (.bool v) ∧ Below w.heap.size w w' := by
  rw [← h]; exact iSpotOk_any x y d w hx1 hx2 hy1 hy2

theorem sSpotOk_lit' {x y d : Int} {v : Bool} (h : spotOkV x y d = v) (w : World) (hx1 : -9223372036854775808 ≤ x) (hx2 : x ≤ 9223372036854775807) (hy1 : -9223372036854775808 ≤ y) (hy2 : y ≤ 9223372036854775807) :
    Calls Tryd.prog 39 #[.agg #[.int .i64 x, .int .i64 y, .int .i64 d]] w fun e w' => e = .returned (.bool v) ∧ Below w.heap.size w w' := by
  rw [← h]; exact sSpotOk_any x y d w hx1 hx2 hy1 hy2

/-- SideOf's result: the sign of A*x + B*y - C*d. -/
def sideE (a b c x y d : Int) : Int := a * x + b * y - c * d

def sideV (a b c x y d : Int) : Int := if halfOkV a b c && spotOkV x y d then sgnV (sideE a b c x y d) else 0

theorem side_bounds {a b c x y d : Int} (h1 : halfOkV a b c = true) (h2 : spotOkV x y d = true) : (-250000000000000000 ≤ a * x ∧ a * x ≤ 250000000000000000) ∧ (-250000000000000000 ≤ b * y ∧ b * y ≤ 250000000000000000) ∧ (-500000000000000000 ≤ c * d ∧ c * d ≤ 500000000000000000) := by
  have bh := halfOkV_bounds h1
  have bs := spotOkV_bounds' h2
  have m1 := mul_range a x 50000 5000000000000 (by omega) (by omega) (by omega) (by omega)
  have m2 := mul_range b y 50000 5000000000000 (by omega) (by omega) (by omega) (by omega)
  have m3 := mul_range c d 100000000 5000000000 (by omega) (by omega) (by omega) (by omega)
  omega

/-- HoldsAt's result. -/
def holdsV (a b c x y d : Int) : Bool := halfOkV a b c && (spotOkV x y d && decide (a * x + b * y - c * d ≤ 0))

theorem sgn_ne_one (n : Int) : (sgnV n != 1) = decide (n ≤ 0) := by
  unfold sgnV
  rw [Bool.eq_iff_iff]
  by_cases h1 : n < 0
  · rw [if_pos h1]; simp; omega
  · rw [if_neg h1]
    by_cases h2 : 0 < n
    · rw [if_pos h2]; simp; omega
    · rw [if_neg h2]; simp; omega

theorem sgn_le_zero (n : Int) : decide (sgnV n ≤ 0) = decide (n ≤ 0) := by
  unfold sgnV
  rw [Bool.eq_iff_iff]
  by_cases h1 : n < 0
  · rw [if_pos h1]; simp; omega
  · rw [if_neg h1]
    by_cases h2 : 0 < n
    · rw [if_pos h2]; simp; omega
    · rw [if_neg h2]; simp; omega

/-- OtherSide's result. -/
def othV (a b c t : Int) : Int := if halfOkV a b c then -t else 0

theorem ret_agg3 {k : IntKind} {a b c a' b' c' : Int} (h1 : a = a') (h2 : b = b') (h3 : c = c') : Ending.returned (.agg #[.int k a, .int k b, .int k c]) = .returned (.agg #[.int k a', .int k b', .int k c']) := by rw [h1, h2, h3]

end Go.Proofs.YtkmfejdmdiemaaaDoor
