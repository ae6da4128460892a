/- Contracts of RatioOk, RatioOf, of the program and of the reference. -/
import Derived.Test.YthdaoadleeelnaaData
import Derived.Test.YthdaoadleeelnaaPlain
namespace Go.Proofs.Ythdaoadleeelnaa
open Go.ChangeShapes Go.WideShapes Go.ChangeAt Go.RowKit
attribute [local go_sem ↓] Go.wp_at_zero Go.wp_at_succ
set_option linter.unusedVariables false

theorem inB_iff' (n lo hi : Int) : inB n lo hi = true ↔ lo ≤ n ∧ n ≤ hi := by unfold inB; simp

/-- RatioOk's result. -/
def ratioOkV (n d : Int) : Bool := inB d 1 1000000000000000 && (inB n (-1000000000000000000) 1000000000000000000 && decide (gcdV n d = 1))

/-- RatioOf's result. -/
def topV (n d : Int) : Int := if 0 ≤ n ↔ 0 ≤ d then (n.natAbs / Int.gcd n d : Nat) else -(n.natAbs / Int.gcd n d : Nat)

def belV (n d : Int) : Int := (d.natAbs / Int.gcd n d : Nat)

def ratOk (n d : Int) : Bool := !leastB n && !leastB d && decide (d ≠ 0) && decide (n.natAbs / Int.gcd n d ≤ 1000000000000000000) && decide (d.natAbs / Int.gcd n d ≤ 1000000000000000)

def ratN (n d : Int) : Int := if ratOk n d then topV n d else 0

def ratD (n d : Int) : Int := if ratOk n d then belV n d else 0

theorem topV_abs (n d : Int) : (topV n d).natAbs = n.natAbs / Int.gcd n d := by
  unfold topV; split
  · exact Int.natAbs_natCast _
  · rw [Int.natAbs_neg]; exact Int.natAbs_natCast _

theorem belV_abs (n d : Int) : (belV n d).natAbs = d.natAbs / Int.gcd n d := by unfold belV; exact Int.natAbs_natCast _

theorem topV_of (n d G : Int) (hz : d ≠ 0) (hG : G = if d < 0 then -(Int.gcd n d : Int) else (Int.gcd n d : Int)) : n.tdiv G = topV n d ∧ d.tdiv G = belV n d := by
  have gp : 0 < Int.gcd n d := Int.gcd_pos_of_ne_zero_right _ hz
  unfold topV belV
  subst hG
  split
  · rw [Int.tdiv_neg, Int.tdiv_neg, tdiv_pos n _ gp, tdiv_pos d _ gp]
    constructor
    · by_cases h : 0 ≤ n <;> simp [h] <;> intro _ <;> omega
    · rw [if_neg (by omega)]; omega
  · rw [tdiv_pos n _ gp, tdiv_pos d _ gp]
    constructor
    · by_cases h : 0 ≤ n <;> simp [h] <;> intro _ <;> omega
    · rw [if_pos (by omega)]

/-- The reduced fraction is valid exactly if its two numbers are in range. -/
theorem ratioOkV_red (n d : Int) (hz : d ≠ 0) (hn : leastB n = false) (hd : leastB d = false) (hn1 : -9223372036854775808 ≤ n) (hn2 : n ≤ 9223372036854775807) (hd1 : -9223372036854775808 ≤ d) (hd2 : d ≤ 9223372036854775807) : ratioOkV (topV n d) (belV n d) = ratOk n d := by
  have gp : 0 < Int.gcd n d := Int.gcd_pos_of_ne_zero_right _ hz
  have hb0 : 0 < d.natAbs / Int.gcd n d := Nat.div_pos (Nat.le_of_dvd (by omega) (by have := Int.gcd_dvd_right n d; simpa using Int.natAbs_dvd_natAbs.2 this)) gp
  have e1 := topV_abs n d
  have e2 := belV_abs n d
  have e3 : belV n d = ((d.natAbs / Int.gcd n d : Nat) : Int) := rfl
  have b1 := tdiv_bound n (Int.gcd n d)
  have b2 := tdiv_bound d (Int.gcd n d)
  have hl1 : leastB (topV n d) = false := by unfold leastB at *; simp at *; omega
  have hl2 : leastB (belV n d) = false := by unfold leastB at *; simp at *; omega
  have hg : gcdV (topV n d) (belV n d) = 1 := by
    unfold gcdV; rw [hl1, hl2]; simp only [Bool.or_self, Bool.false_eq_true, if_false]
    unfold Int.gcd; rw [e1, e2]; unfold Int.gcd
    have := gcd_reduced n.natAbs d.natAbs (by simpa [Int.gcd] using gp)
    rw [this]; rfl
  unfold ratioOkV ratOk inB
  rw [hg, hn, hd, Bool.eq_iff_iff]
  simp [hz]
  omega

theorem ratN_not {n d : Int} (h : ratOk n d = false) : ratN n d = 0 := by unfold ratN; rw [h]; rfl

theorem ratD_not {n d : Int} (h : ratOk n d = false) : ratD n d = 0 := by unfold ratD; rw [h]; rfl

theorem ratN_ok {n d : Int} (h : ratOk n d = true) : ratN n d = topV n d := by unfold ratN; rw [h]; rfl

theorem ratD_ok {n d : Int} (h : ratOk n d = true) : ratD n d = belV n d := by unfold ratD; rw [h]; rfl

theorem ret_agg2 {k : IntKind} {a b c d : Int} (h : a = c) (h' : b = d) : Ending.returned (.agg #[.int k a, .int k b]) = .returned (.agg #[.int k c, .int k d]) := by rw [h, h']

end Go.Proofs.Ythdaoadleeelnaa
