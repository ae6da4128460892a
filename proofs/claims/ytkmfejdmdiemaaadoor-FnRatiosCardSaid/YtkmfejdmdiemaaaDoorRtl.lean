/- What FnRatios asks, in plain integers. -/
import Derived.Test.YtkmfejdmdiemaaaDoorMkr
import Derived.Test.YtkmfejdmdiemaaaDoorRatio4
import Derived.Test.YtkmfejdmdiemaaaDoorPss
namespace Go.Proofs.YtkmfejdmdiemaaaDoor
open Go.ChangeShapes Go.WideShapes Go.ChangeAt Go.RowKit
attribute [local go_sem ↓] Go.wp_at_zero Go.wp_at_succ
set_option linter.unusedVariables false

theorem rat_scale {n d k : Int} (h : ratioOkV n d = true) (hk : k ≠ 0) (h1 : -1000 ≤ k) (h2 : k ≤ 1000) (hn : -1000 ≤ n ∧ n ≤ 1000) (hd : d ≤ 1000) : ratN (k * n) (k * d) = n ∧ ratD (k * n) (k * d) = d := by
  obtain ⟨⟨d1, _⟩, _⟩ := ratioOkV_bounds h
  have hg := ratioOkV_gcd h
  have m1 := mul_range k n 1000 1000 h1 h2 hn.1 hn.2
  have m2 := mul_range k d 1000 1000 h1 h2 (by omega) hd
  have hz : k * d ≠ 0 := Int.mul_ne_zero hk (by omega)
  have gk : Int.gcd (k * n) (k * d) = k.natAbs := by rw [Int.gcd_mul_left, hg, Nat.mul_one]
  have k0 : 0 < k.natAbs := by omega
  have q1 : (k * n).natAbs / k.natAbs = n.natAbs := by rw [Int.natAbs_mul]; exact Nat.mul_div_cancel_left _ k0
  have q2 : (k * d).natAbs / k.natAbs = d.natAbs := by rw [Int.natAbs_mul]; exact Nat.mul_div_cancel_left _ k0
  have hl1 : leastB (k * n) = false := by unfold leastB; simp; omega
  have hl2 : leastB (k * d) = false := by unfold leastB; simp; omega
  have hr : ratOk (k * n) (k * d) = true := by unfold ratOk; rw [hl1, hl2, gk, q1, q2]; simp; omega
  rw [ratN_ok hr, ratD_ok hr]
  unfold topV belV
  rw [gk, q1, q2]
  refine ⟨?_, by omega⟩
  rcases Int.lt_or_gt_of_ne hk with hk' | hk'
  · have s2 : k * d < 0 := Int.mul_neg_of_neg_of_pos hk' (by omega)
    rcases Int.lt_trichotomy n 0 with e | e | e
    · have s1 : 0 < k * n := Int.mul_pos_of_neg_of_neg hk' e
      rw [if_neg (by omega)]; omega
    · subst e; simp
    · have s1 : k * n < 0 := Int.mul_neg_of_neg_of_pos hk' e
      rw [if_pos (by omega)]; omega
  · have s2 : 0 < k * d := Int.mul_pos hk' (by omega)
    rcases Int.lt_trichotomy n 0 with e | e | e
    · have s1 : k * n < 0 := Int.mul_neg_of_pos_of_neg hk' e
      rw [if_neg (by omega)]; omega
    · subst e; simp
    · have s1 : 0 < k * n := Int.mul_pos hk' e
      rw [if_pos (by omega)]; omega

theorem cmpV_ok {a b c d : Int} (h : ratioOkV a b = true) (h' : ratioOkV c d = true) : cmpV a b c d = sgnV (a * d - c * b) := by unfold cmpV; rw [h, h']; rfl

/-- The comparison, and which of the two is less, and which is greater. -/
def RatF (n d m e x P Q R S y : Int) : Prop :=
  cmpV n d m e = x ∧ cmpV m e n d = -x ∧ minN n d m e = P ∧ minD n d m e = Q ∧ maxN n d m e = R ∧ maxD n d m e = S ∧ cmpV P Q R S = y

theorem ratF_of {n d m e : Int} (h : ratioOkV n d = true) (h' : ratioOkV m e = true) :
    (RatF n d m e (-1) n d m e (-1) ∧ n * e - m * d < 0) ∨ (RatF n d m e 0 n d n d 0 ∧ n * e - m * d = 0) ∨ (RatF n d m e 1 m e n d (-1) ∧ 0 < n * e - m * d) := by
  have c1 := cmpV_ok h h'
  have c2 := cmpV_ok h' h
  have c3 := cmpV_ok h h
  have hx : m * d - n * e = -(n * e - m * d) := by omega
  unfold RatF minN minD maxN maxD
  rw [h, h', c1, c2, c3, hx, sgn_opp]
  rcases Int.lt_trichotomy (n * e - m * d) 0 with e1 | e1 | e1
  · left
    rw [sgn_neg e1]
    simp [e1]
  · right; left
    rw [e1, sgn_zero]
    simp [sgn_zero]
  · right; right
    rw [sgn_pos e1]
    simp
    omega

theorem floor_facts {n d : Int} (h : ratioOkV n d = true) : floorV n d * d ≤ n ∧ n < (floorV n d + 1) * d := by
  obtain ⟨⟨d1, _⟩, _⟩ := ratioOkV_bounds h
  unfold floorV; rw [h]
  obtain ⟨f1, f2⟩ := floor_parts n d d1
  refine ⟨f1, ?_⟩
  rw [Int.add_mul, Int.one_mul]; exact f2

theorem ceil_facts {n d : Int} (h : ratioOkV n d = true) : n ≤ ceilV n d * d ∧ (ceilV n d - 1) * d < n := by
  obtain ⟨⟨d1, _⟩, _⟩ := ratioOkV_bounds h
  unfold ceilV; rw [h]
  obtain ⟨f1, f2⟩ := floor_parts (-n) d d1
  simp only [if_true]
  rw [Int.sub_mul, Int.one_mul, Int.neg_mul]
  omega

theorem floor_small {n d : Int} (h : ratioOkV n d = true) (hn : -200 ≤ n ∧ n ≤ 200) : (-200 ≤ floorV n d ∧ floorV n d ≤ 200) ∧ (-200 ≤ ceilV n d ∧ ceilV n d ≤ 200) := by
  obtain ⟨⟨d1, _⟩, _⟩ := ratioOkV_bounds h
  unfold floorV ceilV; rw [h]
  have a := floor_size n d 200 d1 hn.1 hn.2 (by omega)
  have b := floor_size (-n) d 200 d1 (by omega) (by omega) (by omega)
  simp only [if_true]
  omega

theorem iRatioFloor_lit {n d f : Int} (h : floorV n d = f) (w : World) (hn1 : -9223372036854775808 ≤ n) (hn2 : n ≤ 9223372036854775807) :
    Calls Tryd.prog 24 #[.agg #[.int .i64 n, .int .i64 d]] w fun e w' => e = .returned (.int .i64 f) ∧ Below w.heap.size w w' := by subst h; exact iRatioFloor_any n d w hn1 hn2

theorem iRatioCeil_lit {n d f : Int} (h : ceilV n d = f) (w : World) (hn1 : -9223372036854775808 ≤ n) (hn2 : n ≤ 9223372036854775807) :
    Calls Tryd.prog 25 #[.agg #[.int .i64 n, .int .i64 d]] w fun e w' => e = .returned (.int .i64 f) ∧ Below w.heap.size w w' := by subst h; exact iRatioCeil_any n d w hn1 hn2

theorem iRatioMin_lit {a b c d P Q : Int} (h : minN a b c d = P) (h' : minD a b c d = Q) (w : World) (ha1 : -9223372036854775808 ≤ a) (ha2 : a ≤ 9223372036854775807) (hc1 : -9223372036854775808 ≤ c) (hc2 : c ≤ 9223372036854775807) :
    Calls Tryd.prog 26 #[.agg #[.int .i64 a, .int .i64 b], .agg #[.int .i64 c, .int .i64 d]] w fun e w' => e = .returned (.agg #[.int .i64 P, .int .i64 Q]) ∧ Below w.heap.size w w' := by subst h; subst h'; exact iRatioMin_any a b c d w ha1 ha2 hc1 hc2

theorem iRatioMax_lit {a b c d P Q : Int} (h : maxN a b c d = P) (h' : maxD a b c d = Q) (w : World) (ha1 : -9223372036854775808 ≤ a) (ha2 : a ≤ 9223372036854775807) (hc1 : -9223372036854775808 ≤ c) (hc2 : c ≤ 9223372036854775807) :
    Calls Tryd.prog 27 #[.agg #[.int .i64 a, .int .i64 b], .agg #[.int .i64 c, .int .i64 d]] w fun e w' => e = .returned (.agg #[.int .i64 P, .int .i64 Q]) ∧ Below w.heap.size w w' := by subst h; subst h'; exact iRatioMax_any a b c d w ha1 ha2 hc1 hc2

end Go.Proofs.YtkmfejdmdiemaaaDoor
