/- What FnThrough asks, in plain integers. -/
import Derived.Test.YtkcklbjjpbaimaaMake2
import Derived.Test.YtkcklbjjpbaimaaThru
namespace Go.Proofs.Ytkcklbjjpbaimaa
open Go.ChangeShapes Go.WideShapes Go.ChangeAt Go.RowKit
attribute [local go_sem ↓] Go.wp_at_zero Go.wp_at_succ
set_option linter.unusedVariables false

theorem quo_mul {n : Int} {g : Nat} (h : g ∣ n.natAbs) : quoV n g * g = n := by
  have e := Nat.div_mul_cancel h
  have e' : ((n.natAbs / g : Nat) : Int) * (g : Int) = (n.natAbs : Int) := by exact_mod_cast e
  unfold quoV
  split
  · rw [e']; omega
  · rw [Int.neg_mul, e']; omega

theorem gcdL3_dvd (x y d : Int) : gcdL [x, y, d] ∣ x.natAbs ∧ gcdL [x, y, d] ∣ y.natAbs ∧ gcdL [x, y, d] ∣ d.natAbs := by
  rw [gcdL3_eq]
  exact ⟨Nat.dvd_trans (Nat.gcd_dvd_left _ _) (Nat.gcd_dvd_left _ _), Nat.dvd_trans (Nat.gcd_dvd_left _ _) (Nat.gcd_dvd_right _ _), Nat.gcd_dvd_right _ _⟩

theorem hoOk_small {a b c : Int} (ha : -50000 ≤ a ∧ a ≤ 50000) (hb : -50000 ≤ b ∧ b ≤ 50000) (hc : -100000000 ≤ c ∧ c ≤ 100000000) (h0 : ¬ (a = 0 ∧ b = 0)) : hoOk a b c = true := by
  have hg : 0 < gcdL [a, b, c] := by
    rcases Nat.eq_zero_or_pos (gcdL [a, b, c]) with h | h
    · exact absurd ⟨(gcdL3_zero h).1, (gcdL3_zero h).2.1⟩ h0
    · exact h
  have hr := gcdL3_reduced a b c hg
  obtain ⟨d1, d2, d3⟩ := gcdL3_dvd a b c
  have m1 := quo_mul d1
  have m2 := quo_mul d2
  have q1 := quoV_le a (gcdL [a, b, c])
  have q2 := quoV_le b (gcdL [a, b, c])
  have q3 := quoV_le c (gcdL [a, b, c])
  have hz : ¬ (quoV a (gcdL [a, b, c]) = 0 ∧ quoV b (gcdL [a, b, c]) = 0) := by
    rintro ⟨e1, e2⟩
    rw [e1] at m1; rw [e2] at m2
    exact h0 ⟨by omega, by omega⟩
  unfold hoOk leastB halfOkV
  rw [hr]
  unfold inB
  simp only [Bool.and_eq_true, Bool.not_eq_true', decide_eq_true_eq, decide_eq_false_iff_not, and_true, Bool.and_eq_false_iff, beq_eq_false_iff_ne, ne_eq]
  generalize quoV a (gcdL [a, b, c]) = A at *
  generalize quoV b (gcdL [a, b, c]) = B at *
  generalize quoV c (gcdL [a, b, c]) = C at *
  clear m1 m2
  omega

theorem sgn_zero_of {n : Int} (h : n = 0) : sgnV n = 0 := by subst h; rfl

theorem sgn_neg_of {n : Int} (h : n < 0) : sgnV n = -1 := by unfold sgnV; rw [if_pos h]

theorem wholeV_small {x y : Int} (hx : -1000 ≤ x ∧ x ≤ 1000) (hy : -1000 ≤ y ∧ y ≤ 1000) : spotOkV x y 1 = true := by
  unfold spotOkV inB
  have : gcdL [x, y, 1] = 1 := by rw [gcdL3_eq]; simp
  rw [this]
  simp only [Bool.and_eq_true, decide_eq_true_eq, and_true]
  omega

theorem spot_small_eq {x y : Int} (hx : -1000 ≤ x ∧ x ≤ 1000) (hy : -1000 ≤ y ∧ y ≤ 1000) : spOk x y 1 = true ∧ spX x y 1 = x ∧ spY x y 1 = y ∧ spD x y 1 = 1 := by
  have h := spOk_small hx hy (d := 1) (by omega)
  have hg : gcdL [x, y, 1] = 1 := by rw [gcdL3_eq]; simp
  have q : ∀ n : Int, quoV n 1 = n := by intro n; unfold quoV; rw [Nat.div_one]; split <;> omega
  unfold spX spY spD
  rw [h, hg, q, q, q]
  exact ⟨rfl, rfl, rfl, rfl⟩

/-- Two different whole spots: the half plane through them has both on its border, and the spot to the left inside. -/
theorem thru_facts {x y x' y' : Int} (hx : -40 ≤ x ∧ x ≤ 39) (hy : -40 ≤ y ∧ y ≤ 39) (hx' : -40 ≤ x' ∧ x' ≤ 39) (hy' : -40 ≤ y' ∧ y' ≤ 39) (hne : ¬ (x = x' ∧ y = y')) :
    thOk x y 1 x' y' 1 = true ∧ sideV (thA x y 1 x' y' 1) (thB x y 1 x' y' 1) (thC x y 1 x' y' 1) x y 1 = 0 ∧ sideV (thA x y 1 x' y' 1) (thB x y 1 x' y' 1) (thC x y 1 x' y' 1) x' y' 1 = 0 ∧
    shOk x y 1 (y - y') (x' - x) = true ∧ sideV (thA x y 1 x' y' 1) (thB x y 1 x' y' 1) (thC x y 1 x' y' 1) (shX x y 1 (y - y') (x' - x)) (shY x y 1 (y - y') (x' - x)) (shD x y 1 (y - y') (x' - x)) = -1 := by
  have w1 := wholeV_small (x := x) (y := y) (by omega) (by omega)
  have w2 := wholeV_small (x := x') (y := y') (by omega) (by omega)
  have hG : thG x y 1 x' y' 1 = true := by
    unfold thG wholeV
    rw [w1, w2]
    have : (x == x' && y == y') = false := by
      rw [Bool.eq_false_iff]; intro h; rw [Bool.and_eq_true, beq_iff_eq, beq_iff_eq] at h; exact hne h
    rw [this]; rfl
  obtain ⟨hA, hB, hC, hO⟩ := thG_yes hG (s := y' - y) (t := x - x') (u := (y' - y) * x + (x - x') * y) rfl rfl rfl
  rw [← hA, ← hB, ← hC, ← hO]
  have e1 : -3200 ≤ (y' - y) * x ∧ (y' - y) * x ≤ 3200 := mul_range (y' - y) x 80 40 (by omega) (by omega) (by omega) (by omega)
  have e2 : -3200 ≤ (x - x') * y ∧ (x - x') * y ≤ 3200 := mul_range (x - x') y 80 40 (by omega) (by omega) (by omega) (by omega)
  have ho : hoOk (y' - y) (x - x') ((y' - y) * x + (x - x') * y) = true := hoOk_small (by omega) (by omega) (by omega) (by omega)
  have hv := hoOk_valid ho
  rw [hoN_yes ho, hoN_yes ho, hoN_yes ho] at *
  obtain ⟨d1, d2, d3⟩ := gcdL3_dvd (y' - y) (x - x') ((y' - y) * x + (x - x') * y)
  have m1 := quo_mul d1
  have m2 := quo_mul d2
  have m3 := quo_mul d3
  have hg : 0 < gcdL [y' - y, x - x', (y' - y) * x + (x - x') * y] := by
    rcases Nat.eq_zero_or_pos (gcdL [y' - y, x - x', (y' - y) * x + (x - x') * y]) with h | h
    · have := gcdL3_zero h; omega
    · exact h
  generalize gcdL [y' - y, x - x', (y' - y) * x + (x - x') * y] = g at *
  generalize quoV (y' - y) g = A at *
  generalize quoV (x - x') g = B at *
  generalize quoV ((y' - y) * x + (x - x') * y) g = C at *
  obtain ⟨s0, s1, s2, s3⟩ := spot_small_eq (x := x + (y - y') * 1) (y := y + (x' - x) * 1) (by omega) (by omega)
  have hS : shG x y 1 (y - y') (x' - x) = true := by
    unfold shG inB
    rw [w1]
    simp only [Bool.and_eq_true, decide_eq_true_eq, true_and]
    omega
  have hgI : (0 : Int) < (g : Int) := by omega
  refine ⟨ho, ?_, ?_, ?_, ?_⟩
  · unfold sideV
    rw [hv, w1]
    refine sgn_zero_of ?_
    refine Int.eq_of_mul_eq_mul_right (show (g : Int) ≠ 0 by omega) ?_
    unfold sideE
    have : (A * x + B * y - C * 1) * (g : Int) = (A * g) * x + (B * g) * y - C * g := by grind
    rw [this, m1, m2, m3]; omega
  · unfold sideV
    rw [hv, w2]
    refine sgn_zero_of ?_
    refine Int.eq_of_mul_eq_mul_right (show (g : Int) ≠ 0 by omega) ?_
    unfold sideE
    have : (A * x' + B * y' - C * 1) * (g : Int) = (A * g) * x' + (B * g) * y' - C * g := by grind
    rw [this, m1, m2, m3]; grind
  · unfold shOk; rw [hS, s0]; rfl
  · unfold shX shY shD
    rw [if_pos hS, if_pos hS, if_pos hS, s1, s2, s3]
    unfold sideV
    have w3 := wholeV_small (x := x + (y - y') * 1) (y := y + (x' - x) * 1) (by omega) (by omega)
    rw [hv, w3]
    refine sgn_neg_of ?_
    unfold sideE
    have e : (A * (x + (y - y') * 1) + B * (y + (x' - x) * 1) - C * 1) * (g : Int) = -((y' - y) * (y' - y) + (x - x') * (x - x')) := by
      have : (A * (x + (y - y') * 1) + B * (y + (x' - x) * 1) - C * 1) * (g : Int) = (A * g) * (x + (y - y')) + (B * g) * (y + (x' - x)) - C * g := by grind
      rw [this, m1, m2, m3]; grind
    have p1 : 0 ≤ (y' - y) * (y' - y) := by
      rcases (show 0 ≤ y' - y ∨ y' - y ≤ 0 by omega) with h | h
      · exact Int.mul_nonneg h h
      · exact Int.mul_nonneg_of_nonpos_of_nonpos h h
    have p2 : 0 ≤ (x - x') * (x - x') := by
      rcases (show 0 ≤ x - x' ∨ x - x' ≤ 0 by omega) with h | h
      · exact Int.mul_nonneg h h
      · exact Int.mul_nonneg_of_nonpos_of_nonpos h h
    have p3 : 0 < (y' - y) * (y' - y) + (x - x') * (x - x') := by
      rcases (show (y' - y) * (y' - y) + (x - x') * (x - x') = 0 ∨ 0 < (y' - y) * (y' - y) + (x - x') * (x - x') by omega) with h | h
      · exfalso
        have z1 : (y' - y) * (y' - y) = 0 := by omega
        have z2 : (x - x') * (x - x') = 0 := by omega
        have : y' - y = 0 := by rcases Int.mul_eq_zero.1 z1 with h | h <;> exact h
        have : x - x' = 0 := by rcases Int.mul_eq_zero.1 z2 with h | h <;> exact h
        omega
      · exact h
    rcases (show A * (x + (y - y') * 1) + B * (y + (x' - x) * 1) - C * 1 < 0 ∨ 0 ≤ A * (x + (y - y') * 1) + B * (y + (x' - x) * 1) - C * 1 by omega) with h | h
    · exact h
    · have := Int.mul_nonneg h (Int.le_of_lt hgI)
      omega

theorem thru_same (x y : Int) : thOk x y 1 x y 1 = false := by unfold thOk thG; simp

end Go.Proofs.Ytkcklbjjpbaimaa
