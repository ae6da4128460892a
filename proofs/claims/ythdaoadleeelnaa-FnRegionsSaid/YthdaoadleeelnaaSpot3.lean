/- Contracts of IsWhole and ShiftSpot, of the program and of the reference, and the walks of their laws and of SpotOf's. -/
import Derived.Test.YthdaoadleeelnaaSpot2
namespace Go.Proofs.Ythdaoadleeelnaa
open Go.ChangeShapes Go.WideShapes Go.ChangeAt Go.RowKit
attribute [local go_sem ↓] Go.wp_at_zero Go.wp_at_succ
set_option linter.unusedVariables false

theorem spotOkV_bounds {x y d : Int} (h : spotOkV x y d = true) : (1 ≤ d ∧ d ≤ 5000000000) ∧ (-1000 * d ≤ x ∧ x ≤ 1000 * d) ∧ (-1000 * d ≤ y ∧ y ≤ 1000 * d) := by
  unfold spotOkV inB at h
  simp at h
  omega

/-- IsWhole's result. -/
def wholeV (x y d : Int) : Bool := d == 1 && spotOkV x y d

/-- ShiftSpot's results. -/
def shG (x y d dx dy : Int) : Bool := spotOkV x y d && (inB dx (-2000) 2000 && inB dy (-2000) 2000)

def shOk (x y d dx dy : Int) : Bool := shG x y d dx dy && spOk (x + dx * d) (y + dy * d) d

def shX (x y d dx dy : Int) : Int := if shG x y d dx dy then spX (x + dx * d) (y + dy * d) d else 0

def shY (x y d dx dy : Int) : Int := if shG x y d dx dy then spY (x + dx * d) (y + dy * d) d else 0

def shD (x y d dx dy : Int) : Int := if shG x y d dx dy then spD (x + dx * d) (y + dy * d) d else 0

theorem shG_no {x y d dx dy : Int} (h : shG x y d dx dy = false) : shX x y d dx dy = 0 ∧ shY x y d dx dy = 0 ∧ shD x y d dx dy = 0 ∧ shOk x y d dx dy = false := by
  unfold shX shY shD shOk; rw [h]; exact ⟨rfl, rfl, rfl, rfl⟩

theorem shG_yes {x y d dx dy : Int} (h : shG x y d dx dy = true) : shX x y d dx dy = spX (x + dx * d) (y + dy * d) d ∧ shY x y d dx dy = spY (x + dx * d) (y + dy * d) d ∧ shD x y d dx dy = spD (x + dx * d) (y + dy * d) d ∧ shOk x y d dx dy = spOk (x + dx * d) (y + dy * d) d := by
  unfold shX shY shD shOk; rw [h]; exact ⟨rfl, rfl, rfl, by simp⟩

end Go.Proofs.Ythdaoadleeelnaa
