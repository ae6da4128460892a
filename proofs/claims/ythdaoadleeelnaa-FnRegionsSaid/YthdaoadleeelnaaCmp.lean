/- Contract of compareFractions: it returns the sign of a*d - c*b, exactly. -/
import Derived.Test.YthdaoadleeelnaaRatio2
import Derived.Test.YthdaoadleeelnaaShelf
namespace Go.Proofs.Ythdaoadleeelnaa
open Go.ChangeShapes Go.WideShapes Go.ChangeAt Go.RowKit
attribute [local go_sem ↓] Go.wp_at_zero Go.wp_at_succ
set_option linter.unusedVariables false

def cmpS (a b c d : Int) : Int := sgnV (a * d - c * b)

def hiV (x y : Nat) : Nat := x * y / 18446744073709551616

def loV (x y : Nat) : Nat := x * y % 18446744073709551616

theorem hilo (x y : Nat) : x * y = 18446744073709551616 * hiV x y + loV x y := (Nat.div_add_mod _ _).symm

theorem lo_lt (x y : Nat) : loV x y < 18446744073709551616 := Nat.mod_lt _ (by omega)

theorem hi_lt (x y : Nat) (hx : x ≤ 9223372036854775808) (hy : y ≤ 9223372036854775808) : hiV x y ≤ 9223372036854775808 := by
  unfold hiV
  refine Nat.le_trans (Nat.div_le_div_right (Nat.mul_le_mul hx hy)) (by decide)

theorem mul64_any (x y : Nat) (w : World) (hx : x ≤ 9223372036854775808) (hy : y ≤ 9223372036854775808) :
    Calls Try.prog 104 #[.int .u64 x, .int .u64 y] w fun e w' => e = .returned (.tuple #[.int .u64 (hiV x y : Nat), .int .u64 (loV x y : Nat)]) ∧ w = w' :=
  (Try.bits_Mul64 x y (by omega) (by omega) w).mono fun _ _ ⟨he, hw⟩ => ⟨he, hw.symm⟩

theorem cmp_nn (a b c d : Int) (ha : ¬ a < 0) (hc : ¬ c < 0) (hb : 1 ≤ b) (hd : 1 ≤ d) : cmpS a b c d = if c.natAbs * b.natAbs < a.natAbs * d.natAbs then 1 else if a.natAbs * d.natAbs < c.natAbs * b.natAbs then -1 else 0 := by
  have e1 : a * d = ((a.natAbs * d.natAbs : Nat) : Int) := by rw [Int.natCast_mul, Int.natAbs_of_nonneg (by omega), Int.natAbs_of_nonneg (by omega)]
  have e2 : c * b = ((c.natAbs * b.natAbs : Nat) : Int) := by rw [Int.natCast_mul, Int.natAbs_of_nonneg (by omega), Int.natAbs_of_nonneg (by omega)]
  unfold cmpS sgnV
  rw [e1, e2]
  generalize a.natAbs * d.natAbs = X
  generalize c.natAbs * b.natAbs = Y
  repeat' split
  all_goals omega

theorem cmp_neg (a b c d : Int) (ha : a < 0) (hc : c < 0) (hb : 1 ≤ b) (hd : 1 ≤ d) : cmpS a b c d = if c.natAbs * b.natAbs < a.natAbs * d.natAbs then -1 else if a.natAbs * d.natAbs < c.natAbs * b.natAbs then 1 else 0 := by
  have e1 : a * d = -((a.natAbs * d.natAbs : Nat) : Int) := by
    rw [Int.natCast_mul, Int.ofNat_natAbs_of_nonpos (by omega), Int.natAbs_of_nonneg (by omega), Int.neg_mul, Int.neg_neg]
  have e2 : c * b = -((c.natAbs * b.natAbs : Nat) : Int) := by
    rw [Int.natCast_mul, Int.ofNat_natAbs_of_nonpos (by omega), Int.natAbs_of_nonneg (by omega), Int.neg_mul, Int.neg_neg]
  unfold cmpS sgnV
  rw [e1, e2]
  generalize a.natAbs * d.natAbs = X
  generalize c.natAbs * b.natAbs = Y
  repeat' split
  all_goals omega

theorem cmp_np (a b c d : Int) (ha : a < 0) (hc : 0 ≤ c) (hb : 1 ≤ b) (hd : 1 ≤ d) : cmpS a b c d = -1 := by
  have h1 : a * d < 0 := Int.mul_neg_of_neg_of_pos ha (by omega)
  have h2 : 0 ≤ c * b := Int.mul_nonneg hc (by omega)
  unfold cmpS sgnV
  rw [if_pos (by omega)]

theorem cmp_pn (a b c d : Int) (ha : 0 ≤ a) (hc : c < 0) (hb : 1 ≤ b) (hd : 1 ≤ d) : cmpS a b c d = 1 := by
  have h1 : c * b < 0 := Int.mul_neg_of_neg_of_pos hc (by omega)
  have h2 : 0 ≤ a * d := Int.mul_nonneg ha (by omega)
  unfold cmpS sgnV
  rw [if_neg (by omega), if_pos (by omega)]

/-- The comparison of the two products, from their high and low words. -/
theorem words_cmp {α : Type} (x y x' y' : Nat) (p q r : α) (H1 H2 L1 L2 : Nat) (h1 : hiV x y = H1) (h2 : hiV x' y' = H2) (l1 : loV x y = L1) (l2 : loV x' y' = L2) :
    (if x' * y' < x * y then p else if x * y < x' * y' then q else r) = if H2 < H1 then p else if H1 < H2 then q else if L2 < L1 then p else if L1 < L2 then q else r := by
  have e1 := hilo x y
  have e2 := hilo x' y'
  have b1 := lo_lt x y
  have b2 := lo_lt x' y'
  rw [h1, l1] at e1
  rw [h2, l2] at e2
  rw [l1] at b1
  rw [l2] at b2
  rw [e1, e2]
  by_cases c1 : H2 < H1
  · rw [if_pos (by omega), if_pos c1]
  · rw [if_neg c1]
    by_cases c2 : H1 < H2
    · rw [if_neg (by omega), if_pos (by omega), if_pos c2]
    · rw [if_neg c2]
      obtain rfl : H1 = H2 := by omega
      by_cases c3 : L2 < L1
      · rw [if_pos (by omega), if_pos c3]
      · rw [if_neg (by omega), if_neg c3]
        by_cases c4 : L1 < L2
        · rw [if_pos (by omega), if_pos c4]
        · rw [if_neg (by omega), if_neg c4]

set_option maxHeartbeats 1000000 in
set_option maxRecDepth 100000 in
theorem compare_any (a b c d : Int) (w : World) (ha1 : -9223372036854775808 ≤ a) (ha2 : a ≤ 9223372036854775807) (hb1 : 1 ≤ b) (hb2 : b ≤ 9223372036854775807) (hc1 : -9223372036854775808 ≤ c) (hc2 : c ≤ 9223372036854775807) (hd1 : 1 ≤ d) (hd2 : d ≤ 9223372036854775807) :
    Calls Try.prog 95 #[.int .i64 a, .int .i64 b, .int .i64 c, .int .i64 d] w fun e w' => e = .returned (.int .i64 (cmpS a b c d)) ∧ w = w' := by
  by_cases cc : 0 ≤ c
  · by_cases ca : a < 0
    · have HV := Lib.hid (cmp_np a b c d ca cc hb1 hd1)
      go_enter Try.func95, Try.ntmps95
      go_wp2_with fail
      go_ret
      exact ⟨ret_int HV.out.symm, rfl⟩
    · have HV := Lib.hid (cmp_nn a b c d ca (by omega) hb1 hd1)
      have HW := Lib.hid (words_cmp (α := Int) a.natAbs d.natAbs c.natAbs b.natAbs 1 (-1) 0)
      have k1 := hi_lt a.natAbs d.natAbs (by omega) (by omega)
      have k2 := hi_lt c.natAbs b.natAbs (by omega) (by omega)
      go_enter Try.func95, Try.ntmps95
      go_wp2_with (first | (go_at_call 96; with_reducible refine (magnitude_n _ _ (by omega) (by omega)).mono ?_; rintro e w1 ⟨rfl, rfl⟩) | (go_at_call 104; with_reducible refine (mul64_any _ _ _ (by omega) (by omega)).mono ?_; rintro e w1 ⟨rfl, rfl⟩))
      all_goals
        go_ret
        refine ⟨ret_int ?_, rfl⟩
        rw [HV.out, HW.out _ _ _ _ rfl rfl rfl rfl]
        (repeat' split) <;> omega
  · by_cases ca : a < 0
    · have HV := Lib.hid (cmp_neg a b c d ca (by omega) hb1 hd1)
      have HW := Lib.hid (words_cmp (α := Int) a.natAbs d.natAbs c.natAbs b.natAbs (-1) 1 0)
      have k1 := hi_lt a.natAbs d.natAbs (by omega) (by omega)
      have k2 := hi_lt c.natAbs b.natAbs (by omega) (by omega)
      go_enter Try.func95, Try.ntmps95
      go_wp2_with (first | (go_at_call 96; with_reducible refine (magnitude_n _ _ (by omega) (by omega)).mono ?_; rintro e w1 ⟨rfl, rfl⟩) | (go_at_call 104; with_reducible refine (mul64_any _ _ _ (by omega) (by omega)).mono ?_; rintro e w1 ⟨rfl, rfl⟩))
      all_goals
        go_ret
        refine ⟨ret_int ?_, rfl⟩
        rw [HV.out, HW.out _ _ _ _ rfl rfl rfl rfl]
        (repeat' split) <;> omega
    · have HV := Lib.hid (cmp_pn a b c d (by omega) (by omega) hb1 hd1)
      go_enter Try.func95, Try.ntmps95
      go_wp2_with fail
      go_ret
      exact ⟨ret_int HV.out.symm, rfl⟩

end Go.Proofs.Ythdaoadleeelnaa
