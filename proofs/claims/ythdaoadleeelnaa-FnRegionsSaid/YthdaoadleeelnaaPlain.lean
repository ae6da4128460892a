/- Plain arithmetic: exact division by a greatest common divisor, with signs. -/
import Derived.Test.YthdaoadleeelnaaGcd
namespace Go.Proofs.Ythdaoadleeelnaa
open Go.ChangeShapes Go.WideShapes Go.ChangeAt Go.RowKit
attribute [local go_sem ↓] Go.wp_at_zero Go.wp_at_succ
set_option linter.unusedVariables false

theorem tdiv_pos (n : Int) (g : Nat) (hg : 0 < g) : n.tdiv (g : Int) = if 0 ≤ n then ((n.natAbs / g : Nat) : Int) else -((n.natAbs / g : Nat) : Int) := by
  split
  · rename_i h
    obtain ⟨m, rfl⟩ := Int.eq_ofNat_of_zero_le h
    simp
  · rename_i h
    obtain ⟨m, rfl⟩ : ∃ m : Nat, n = -(m : Int) := ⟨n.natAbs, by omega⟩
    rw [Int.neg_tdiv]
    simp

theorem tdiv_bound (n : Int) (g : Nat) : n.natAbs / g ≤ n.natAbs := Nat.div_le_self _ _

theorem u64_quo_nat (a g : Nat) (h : a ≤ 9223372036854775808) : IntKind.u64.wrap ((a : Int) / (g : Int)) = ((a / g : Nat) : Int) := by
  have e : (a : Int) / (g : Int) = ((a / g : Nat) : Int) := by simp
  have b : a / g ≤ a := Nat.div_le_self _ _
  rw [e]
  generalize a / g = q at *
  exact IntWalk.u64_in _ (by omega)

theorem dec_lt (x : Int) (h : x < 0) : decide (x < 0) = true := decide_eq_true h

theorem dec_ge (x : Int) (h : ¬ x < 0) : decide (x < 0) = false := decide_eq_false h

def sgnV (x : Int) : Int := if x < 0 then -1 else if 0 < x then 1 else 0

theorem sgn_pos {x : Int} (h : 0 < x) : sgnV x = 1 := by unfold sgnV; rw [if_neg (by omega), if_pos h]

theorem sgn_neg {x : Int} (h : x < 0) : sgnV x = -1 := by unfold sgnV; rw [if_pos h]

theorem sgn_zero : sgnV 0 = 0 := by unfold sgnV; rfl

theorem sgn_opp (x : Int) : sgnV (-x) = -sgnV x := by unfold sgnV; repeat' split; all_goals omega

theorem mul_range (a b A B : Int) (h1 : -A ≤ a) (h2 : a ≤ A) (h3 : -B ≤ b) (h4 : b ≤ B) : -(A * B) ≤ a * b ∧ a * b ≤ A * B := by
  have q1 : 0 ≤ (A - a) * (B + b) := Int.mul_nonneg (by omega) (by omega)
  have q2 : 0 ≤ (A + a) * (B - b) := Int.mul_nonneg (by omega) (by omega)
  have q3 : 0 ≤ (A - a) * (B - b) := Int.mul_nonneg (by omega) (by omega)
  have q4 : 0 ≤ (A + a) * (B + b) := Int.mul_nonneg (by omega) (by omega)
  constructor <;> grind

theorem S_realloc2 {B n : Nat} {w W : World} {o o' : Obj} (h : Below B w (W.alloc o)) (hs : n ≤ (W.alloc o).heap.size) (hB : B < n) : Below B w (W.alloc o') :=
  S_realloc h (by rw [World.size_alloc] at hs; omega)

theorem gcd_reduced (a b : Nat) (h : 0 < Nat.gcd a b) : Nat.gcd (a / Nat.gcd a b) (b / Nat.gcd a b) = 1 := by
  rw [Nat.gcd_div (Nat.gcd_dvd_left _ _) (Nat.gcd_dvd_right _ _), Nat.div_self h]

end Go.Proofs.Ythdaoadleeelnaa
