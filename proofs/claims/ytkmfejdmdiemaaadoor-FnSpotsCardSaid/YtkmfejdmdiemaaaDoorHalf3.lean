/- Contracts of HalfOf, of the program and of the reference, and the walk of its law. -/
import Derived.Test.YtkmfejdmdiemaaaDoorSpot2
import Derived.Test.YtkmfejdmdiemaaaDoorHalf2
namespace Go.Proofs.YtkmfejdmdiemaaaDoor
open Go.ChangeShapes Go.WideShapes Go.ChangeAt Go.RowKit
attribute [local go_sem ↓] Go.wp_at_zero Go.wp_at_succ
set_option linter.unusedVariables false

/-- Is there a valid half plane with these numbers? -/
def hoOk (a b c : Int) : Bool := !leastB a && (!leastB b && (!leastB c && halfOkV (quoV a (gcdL [a, b, c])) (quoV b (gcdL [a, b, c])) (quoV c (gcdL [a, b, c]))))

def hoN (a b c t : Int) : Int := if hoOk a b c then quoV t (gcdL [a, b, c]) else 0

theorem hoN_no {a b c : Int} (h : hoOk a b c = false) : ∀ t, hoN a b c t = 0 := by intro t; unfold hoN; rw [h]; rfl

theorem hoN_yes {a b c : Int} (h : hoOk a b c = true) : ∀ t, hoN a b c t = quoV t (gcdL [a, b, c]) := by intro t; unfold hoN; rw [h]; rfl

theorem gcdL3_zero {a b c : Int} (h : gcdL [a, b, c] = 0) : a = 0 ∧ b = 0 ∧ c = 0 := by
  rw [gcdL_three] at h
  have h1 := Nat.eq_zero_of_gcd_eq_zero_left h
  have h2 := Nat.eq_zero_of_gcd_eq_zero_right h
  have h3 := Int.gcd_eq_zero_iff.1 h1
  omega

theorem gcdL3_le (a b c : Int) (h1 : a.natAbs ≤ 9223372036854775807) (h2 : b.natAbs ≤ 9223372036854775807) (h3 : c.natAbs ≤ 9223372036854775807) : gcdL [a, b, c] ≤ 9223372036854775807 := by
  by_cases h0 : gcdL [a, b, c] = 0
  · omega
  · rw [gcdL_three] at *
    by_cases hc : c = 0
    · subst hc
      simp only [Int.natAbs_zero, Nat.gcd_zero_right] at *
      by_cases hb : b = 0
      · subst hb; rw [Int.gcd_zero_right]; exact h1
      · exact Nat.le_trans (Int.gcd_le_natAbs_right _ hb) h2
    · exact Nat.le_trans (Nat.gcd_le_right _ (by omega)) h3

theorem gcdV_one_iff (x : Int) : (gcdV x 1 == 0) = leastB x := by
  unfold gcdV
  have h1 : leastB 1 = false := by decide
  rw [h1]
  cases h : leastB x
  · simp
  · simp

end Go.Proofs.YtkmfejdmdiemaaaDoor
