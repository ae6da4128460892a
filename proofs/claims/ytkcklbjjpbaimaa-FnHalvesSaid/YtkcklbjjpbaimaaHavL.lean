/- What FnHalves asks, in plain integers. -/
import Derived.Test.YtkcklbjjpbaimaaThrL
import Derived.Test.YtkcklbjjpbaimaaCross3
namespace Go.Proofs.Ytkcklbjjpbaimaa
open Go.ChangeShapes Go.WideShapes Go.ChangeAt Go.RowKit
attribute [local go_sem ↓] Go.wp_at_zero Go.wp_at_succ
set_option linter.unusedVariables false

theorem sgnV_neg (n : Int) : sgnV (-n) = -sgnV n := by
  unfold sgnV
  rcases Int.lt_trichotomy n 0 with h | h | h
  · rw [if_neg (by omega), if_pos (by omega), if_pos h]; rfl
  · subst h; rfl
  · rw [if_pos (by omega), if_neg (by omega), if_pos h]

theorem halfOkV_neg {a b c : Int} (k : halfOkV a b c = true) : halfOkV (-a) (-b) (-c) = true := by
  have hb := halfOkV_bounds k
  have hd := halfOkV_dir k
  have hg : gcdL [-a, -b, -c] = gcdL [a, b, c] := by rw [gcdL3_eq, gcdL3_eq]; simp
  unfold halfOkV at k ⊢
  rw [hg]
  unfold inB at *
  simp only [Bool.and_eq_true, decide_eq_true_eq, Bool.not_eq_true', Bool.and_eq_false_iff, beq_eq_false_iff_ne, ne_eq] at k ⊢
  omega

theorem other_facts {a b c x y d : Int} (k : halfOkV a b c = true) (hs : spotOkV x y d = true) :
    othV a b c a = -a ∧ othV a b c b = -b ∧ othV a b c c = -c ∧ othV (-a) (-b) (-c) (-a) = a ∧ othV (-a) (-b) (-c) (-b) = b ∧ othV (-a) (-b) (-c) (-c) = c ∧
    sideV (-a) (-b) (-c) x y d = -(sideV a b c x y d) ∧ (holdsV a b c x y d = false → holdsV (-a) (-b) (-c) x y d = true) := by
  have k' := halfOkV_neg k
  have e : sideE (-a) (-b) (-c) x y d = -(sideE a b c x y d) := by unfold sideE; grind
  refine ⟨by unfold othV; rw [k]; rfl, by unfold othV; rw [k]; rfl, by unfold othV; rw [k]; rfl, by unfold othV; rw [k']; simp, by unfold othV; rw [k']; simp, by unfold othV; rw [k']; simp, ?_, ?_⟩
  · unfold sideV; rw [k, k', hs, e]; simp [sgnV_neg]
  · unfold holdsV
    rw [k, k', hs]
    unfold sideE at e
    simp only [Bool.true_and, decide_eq_false_iff_not, decide_eq_true_eq]
    rw [e]
    omega

theorem cross_swap (a b c a' b' c' : Int) : coOk a' b' c' a b c = coOk a b c a' b' c' ∧ coX a' b' c' a b c = coX a b c a' b' c' ∧ coY a' b' c' a b c = coY a b c a' b' c' ∧ coD a' b' c' a b c = coD a b c a' b' c' := by
  have hD : cxD a' b' c' a b c = -cxD a b c a' b' c' := by unfold cxD; grind
  have hX : cxX a' b' c' a b c = -cxX a b c a' b' c' := by unfold cxX; grind
  have hY : cxY a' b' c' a b c = -cxY a b c a' b' c' := by unfold cxY; grind
  have hG : coG a' b' c' a b c = coG a b c a' b' c' := by unfold coG; rw [Bool.and_comm]
  by_cases h0 : cxD a b c a' b' c' = 0
  · have no : ∀ x y : Int, spOk x y 0 = false := by intro x y; unfold spOk; simp
    have z1 : ∀ n m : Int, n = 0 → cxS a b c a' b' c' n = 0 := by intro n m h; unfold cxS; split <;> omega
    have e1 : cxS a b c a' b' c' (cxD a b c a' b' c') = 0 := by unfold cxS; split <;> omega
    have e2 : cxS a' b' c' a b c (cxD a' b' c' a b c) = 0 := by unfold cxS; rw [hD]; split <;> omega
    unfold coOk coX coY coD spX spY spD
    rw [e1, e2, no, no, hG]
    simp
  · have s : ∀ n : Int, cxS a' b' c' a b c (-n) = cxS a b c a' b' c' n := by
      intro n; unfold cxS; rw [hD]
      by_cases h : cxD a b c a' b' c' < 0
      · rw [if_neg (by omega), if_pos h]
      · rw [if_pos (by omega), if_neg h]; omega
    unfold coOk coX coY coD
    rw [hG, hD, hX, hY, s, s, s]
    exact ⟨rfl, rfl, rfl, rfl⟩

/-- The crossing of two borders is on both, and they are not parallel. -/
theorem cross_on {a b c a' b' c' : Int} (k : halfOkV a b c = true) (k' : halfOkV a' b' c' = true) (ho : coOk a b c a' b' c' = true) :
    sideV a b c (coX a b c a' b' c') (coY a b c a' b' c') (coD a b c a' b' c') = 0 ∧ sideV a' b' c' (coX a b c a' b' c') (coY a b c a' b' c') (coD a b c a' b' c') = 0 ∧ ¬ a * b' = a' * b ∧ spotOkV (coX a b c a' b' c') (coY a b c a' b' c') (coD a b c a' b' c') = true := by
  have hG : coG a b c a' b' c' = true := by unfold coG; rw [k, k']; rfl
  have hs : spOk (cxS a b c a' b' c' (cxX a b c a' b' c')) (cxS a b c a' b' c' (cxY a b c a' b' c')) (cxS a b c a' b' c' (cxD a b c a' b' c')) = true := by
    unfold coOk at ho; rw [hG] at ho; exact ho
  have hv := spOk_valid hs
  have l1 : a * cxS a b c a' b' c' (cxX a b c a' b' c') + b * cxS a b c a' b' c' (cxY a b c a' b' c') = c * cxS a b c a' b' c' (cxD a b c a' b' c') := by
    unfold cxS cxX cxY; split <;> (unfold cxD; grind)
  have l2 : a' * cxS a b c a' b' c' (cxX a b c a' b' c') + b' * cxS a b c a' b' c' (cxY a b c a' b' c') = c' * cxS a b c a' b' c' (cxD a b c a' b' c') := by
    unfold cxS cxX cxY; split <;> (unfold cxD; grind)
  have hd : ¬ a * b' = a' * b := by
    intro e
    have : cxS a b c a' b' c' (cxD a b c a' b' c') = 0 := by unfold cxS cxD; split <;> omega
    rw [this] at hs
    unfold spOk at hs
    simp at hs
  unfold coX coY coD
  rw [if_pos hG, if_pos hG, if_pos hG]
  generalize cxS a b c a' b' c' (cxX a b c a' b' c') = X at *
  generalize cxS a b c a' b' c' (cxY a b c a' b' c') = Y at *
  generalize cxS a b c a' b' c' (cxD a b c a' b' c') = D at *
  have hv' := hv
  unfold spX spY spD at hv'
  rw [if_pos hs, if_pos hs, if_pos hs] at hv'
  have e1 : spX X Y D = quoV X (gcdL [X, Y, D]) := by unfold spX; rw [if_pos hs]
  have e2 : spY X Y D = quoV Y (gcdL [X, Y, D]) := by unfold spY; rw [if_pos hs]
  have e3 : spD X Y D = quoV D (gcdL [X, Y, D]) := by unfold spD; rw [if_pos hs]
  rw [e1, e2, e3]
  have hD1 : 1 ≤ D := by
    unfold spOk at hs
    simp only [Bool.and_eq_true, decide_eq_true_eq] at hs
    exact hs.1.1.1
  have hg : 0 < gcdL [X, Y, D] := by rw [gcdL3_eq]; exact Nat.gcd_pos_of_pos_right _ (by omega)
  obtain ⟨d1, d2, d3⟩ := gcdL3_dvd X Y D
  have m1 := quo_mul d1
  have m2 := quo_mul d2
  have m3 := quo_mul d3
  generalize gcdL [X, Y, D] = g at *
  generalize quoV X g = x at *
  generalize quoV Y g = y at *
  generalize quoV D g = z at *
  have hgI : (g : Int) ≠ 0 := by omega
  refine ⟨?_, ?_, hd, hv'⟩
  · unfold sideV
    rw [k, hv']
    refine sgn_zero_of ?_
    refine Int.eq_of_mul_eq_mul_right hgI ?_
    unfold sideE
    have : (a * x + b * y - c * z) * (g : Int) = a * (x * g) + b * (y * g) - c * (z * g) := by grind
    rw [this, m1, m2, m3]; omega
  · unfold sideV
    rw [k', hv']
    refine sgn_zero_of ?_
    refine Int.eq_of_mul_eq_mul_right hgI ?_
    unfold sideE
    have : (a' * x + b' * y - c' * z) * (g : Int) = a' * (x * g) + b' * (y * g) - c' * (z * g) := by grind
    rw [this, m1, m2, m3]; omega

theorem co_none {a b c a' b' c' : Int} (ho : coOk a b c a' b' c' = false) : coX a b c a' b' c' = 0 ∧ coY a b c a' b' c' = 0 ∧ coD a b c a' b' c' = 0 := by
  unfold coOk at ho
  unfold coX coY coD
  cases hG : coG a b c a' b' c'
  · simp
  · rw [hG] at ho
    simp only [Bool.true_and] at ho
    unfold spX spY spD
    rw [ho]
    simp

theorem cros_is {a b c a' b' c' p q r : Int} {v : Bool} (h1 : coX a b c a' b' c' = p) (h2 : coY a b c a' b' c' = q) (h3 : coD a b c a' b' c' = r) (h4 : coOk a b c a' b' c' = v) (w : World) :
    Calls Try.prog 19 #[.agg #[.int .i64 a, .int .i64 b, .int .i64 c], .agg #[.int .i64 a', .int .i64 b', .int .i64 c']] w fun e w' => e = .returned (.tuple #[.agg #[.int .i64 p, .int .i64 q, .int .i64 r], .bool v]) ∧ Below w.heap.size w w' := by
  subst h1 h2 h3 h4; exact iCrossingOf_any a b c a' b' c' w

theorem oth_is {a b c p q r : Int} (h1 : othV a b c a = p) (h2 : othV a b c b = q) (h3 : othV a b c c = r) (w : World) :
    Calls Try.prog 18 #[.agg #[.int .i64 a, .int .i64 b, .int .i64 c]] w fun e w' => e = .returned (.agg #[.int .i64 p, .int .i64 q, .int .i64 r]) ∧ Below w.heap.size w w' := by
  subst h1 h2 h3; exact iOtherSide_any a b c w

theorem holds_is {a b c x y d : Int} {v : Bool} (h : holdsV a b c x y d = v) (w : World) (hx1 : -9223372036854775808 ≤ x) (hx2 : x ≤ 9223372036854775807) (hy1 : -9223372036854775808 ≤ y) (hy2 : y ≤ 9223372036854775807) :
    Calls Try.prog 20 #[.agg #[.int .i64 a, .int .i64 b, .int .i64 c], .agg #[.int .i64 x, .int .i64 y, .int .i64 d]] w fun e w' => e = .returned (.bool v) ∧ Below w.heap.size w w' := by
  rw [← h]; exact iHoldsAt_any a b c x y d w hx1 hx2 hy1 hy2

/-- The three ways in which a spot lies to a border. -/
theorem three_ways {a b c x y d : Int} (k : halfOkV a b c = true) (hs : spotOkV x y d = true) :
    (sideV a b c x y d = -1 ∧ sideV (-a) (-b) (-c) x y d = 1 ∧ holdsV a b c x y d = true ∧ holdsV (-a) (-b) (-c) x y d = false) ∨
    (sideV a b c x y d = 0 ∧ sideV (-a) (-b) (-c) x y d = 0 ∧ holdsV a b c x y d = true ∧ holdsV (-a) (-b) (-c) x y d = true) ∨
    (sideV a b c x y d = 1 ∧ sideV (-a) (-b) (-c) x y d = -1 ∧ holdsV a b c x y d = false ∧ holdsV (-a) (-b) (-c) x y d = true) := by
  have k' := halfOkV_neg k
  have e : -a * x + -b * y - -c * d = -(a * x + b * y - c * d) := by grind
  unfold sideV holdsV sideE sgnV
  rw [k, k', hs, e]
  generalize a * x + b * y - c * d = E
  simp only [Bool.true_and, Bool.and_self, if_true, decide_eq_true_eq, decide_eq_false_iff_not]
  rcases Int.lt_trichotomy E 0 with h | h | h
  · left; rw [if_pos h, if_neg (by omega), if_pos (by omega)]; omega
  · right; left; subst h; simp
  · right; right; rw [if_neg (by omega), if_pos h, if_pos (by omega)]; omega

end Go.Proofs.Ytkcklbjjpbaimaa
