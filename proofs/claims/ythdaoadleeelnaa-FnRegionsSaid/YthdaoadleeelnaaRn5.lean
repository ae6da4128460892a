/- Two points have the same reduced spot exactly if they are the same place. Plain. -/
import Derived.Test.YthdaoadleeelnaaRn4
namespace Go.Proofs.Ythdaoadleeelnaa
open Go.ChangeShapes Go.WideShapes Go.ChangeAt Go.RowKit
attribute [local go_sem ↓] Go.wp_at_zero Go.wp_at_succ
set_option linter.unusedVariables false

theorem gcd3_one {a b c : Int} (h : gcdL [a, b, c] = 1) {e k : Int} (h1 : e ∣ a * k) (h2 : e ∣ b * k) (h3 : e ∣ c * k) : e ∣ k := by
  have hg : Nat.gcd (Nat.gcd a.natAbs b.natAbs) c.natAbs = 1 := by rw [← h]; simp [gcdL]
  have d1 := Int.natAbs_dvd_natAbs.2 h1
  have d2 := Int.natAbs_dvd_natAbs.2 h2
  have d3 := Int.natAbs_dvd_natAbs.2 h3
  rw [Int.natAbs_mul] at d1 d2 d3
  apply Int.natAbs_dvd_natAbs.1
  have e1 := Nat.dvd_gcd (Nat.dvd_gcd d1 d2) d3
  rw [Nat.gcd_mul_right, Nat.gcd_mul_right, hg, Nat.one_mul] at e1
  exact e1

theorem spot_unique {X Y D X' Y' D' : Int} (hD : 1 ≤ D) (hD' : 1 ≤ D') (h : gcdL [X, Y, D] = 1) (h' : gcdL [X', Y', D'] = 1) (e1 : X * D' = X' * D) (e2 : Y * D' = Y' * D) : X = X' ∧ Y = Y' ∧ D = D' := by
  have a : D ∣ D' := gcd3_one h (by rw [e1]; exact Int.dvd_mul_left _ _) (by rw [e2]; exact Int.dvd_mul_left _ _) (Int.dvd_mul_right _ _)
  have b : D' ∣ D := gcd3_one h' (by rw [← e1]; exact Int.dvd_mul_left _ _) (by rw [← e2]; exact Int.dvd_mul_left _ _) (Int.dvd_mul_right _ _)
  have hd : D = D' := by
    have l1 := Int.le_of_dvd (by omega) a
    have l2 := Int.le_of_dvd (by omega) b
    omega
  subst hd
  exact ⟨Int.eq_of_mul_eq_mul_right (by omega) e1, Int.eq_of_mul_eq_mul_right (by omega) e2, rfl⟩

/-- Reduced spots X Y D, X' Y' D' of two points. -/
theorem same3_iff {x y d x' y' d' X Y D X' Y' D' g g' : Int} (hg : 1 ≤ g) (hg' : 1 ≤ g') (hD : 1 ≤ D) (hD' : 1 ≤ D') (h : gcdL [X, Y, D] = 1) (h' : gcdL [X', Y', D'] = 1)
    (x1 : x = X * g) (y1 : y = Y * g) (d1 : d = D * g) (x2 : x' = X' * g') (y2 : y' = Y' * g') (d2 : d' = D' * g') : same3 X Y D X' Y' D' = true ↔ (x * d' = x' * d ∧ y * d' = y' * d) := by
  subst x1 y1 d1 x2 y2 d2
  unfold same3
  simp only [Bool.and_eq_true, beq_iff_eq]
  constructor
  · rintro ⟨⟨rfl, rfl⟩, rfl⟩
    exact ⟨by grind, by grind⟩
  · rintro ⟨e1, e2⟩
    have p : 0 < g * g' := Int.mul_pos (by omega) (by omega)
    have c1 : X * D' = X' * D := Int.eq_of_mul_eq_mul_right (a := g * g') (by omega) (by grind)
    have c2 : Y * D' = Y' * D := Int.eq_of_mul_eq_mul_right (a := g * g') (by omega) (by grind)
    obtain ⟨r1, r2, r3⟩ := spot_unique hD hD' h h' c1 c2
    exact ⟨⟨r1, r2⟩, r3⟩

end Go.Proofs.Ythdaoadleeelnaa
