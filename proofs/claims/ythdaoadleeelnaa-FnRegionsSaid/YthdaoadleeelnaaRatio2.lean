/- Contracts of the roundings and of the least and the greatest of two fractions; walks of the laws on fractions. -/
import Derived.Test.YthdaoadleeelnaaRatio
namespace Go.Proofs.Ythdaoadleeelnaa
open Go.ChangeShapes Go.WideShapes Go.ChangeAt Go.RowKit
attribute [local go_sem ↓] Go.wp_at_zero Go.wp_at_succ
set_option linter.unusedVariables false

theorem floor_pos (a b : Int) (hb : 1 ≤ b) (h : 0 ≤ a) : 0 ≤ a % b ∧ a / b ≤ a ∧ 0 ≤ a / b :=
  ⟨Int.emod_nonneg _ (by omega), Int.ediv_le_self _ h, Int.ediv_nonneg h (by omega)⟩

theorem floor_neg (a b : Int) (hb : 1 ≤ b) (h : a < 0) : a ≤ a.tdiv b ∧ a.tdiv b ≤ 0 ∧ (a.tmod b < 0 → a / b = a.tdiv b - 1 ∧ a < a.tdiv b) ∧ (¬ a.tmod b < 0 → a / b = a.tdiv b) := by
  obtain ⟨m, rfl⟩ : ∃ m : Nat, a = -(m : Int) := ⟨a.natAbs, by omega⟩
  obtain ⟨k, rfl⟩ : ∃ k : Nat, b = (k : Int) := ⟨b.natAbs, by omega⟩
  have e1 : (-(m : Int)).tdiv k = -((m / k : Nat) : Int) := by rw [Int.neg_tdiv]; rfl
  have e2 : (-(m : Int)).tmod k = -((m % k : Nat) : Int) := by rw [Int.neg_tmod]; rfl
  have hk : 0 < k := by omega
  have hm := Nat.div_add_mod m k
  have hl := Nat.mod_lt m hk
  have hle := Nat.div_le_self m k
  rw [e1, e2]
  generalize m / k = q at *
  generalize m % k = r at *
  have hmz : (m : Int) = (k : Int) * (q : Int) + (r : Int) := by exact_mod_cast hm.symm
  refine ⟨by omega, by omega, fun h1 => ?_, fun h1 => ?_⟩
  · have hr : 0 < r := by omega
    constructor
    · have e : -(m : Int) = ((k : Int) - (r : Int)) + (k : Int) * (-(q : Int) - 1) := by
        rw [Int.mul_sub, Int.mul_neg]
        omega
      rw [e, Int.add_mul_ediv_left _ _ (by omega), Int.ediv_eq_zero_of_lt (by omega) (by omega)]
      omega
    · have h3 : q ≤ k * q := Nat.le_mul_of_pos_left _ hk
      omega
  · have hr : r = 0 := by omega
    have e : -(m : Int) = (k : Int) * (-(q : Int)) := by
      rw [Int.mul_neg]
      omega
    rw [e, Int.mul_ediv_cancel_left _ (by omega)]

set_option maxHeartbeats 400000 in
set_option maxRecDepth 100000 in
theorem sFloor_any (a b : Int) (w : World) (h1 : -9223372036854775808 ≤ a) (h2 : a ≤ 9223372036854775807) (hb : 1 ≤ b) (hb2 : b ≤ 9223372036854775807) :
    Calls Try.prog 57 #[.int .i64 a, .int .i64 b] w fun e w' => e = .returned (.int .i64 (a / b)) ∧ w = w' := by
  have hb0 : (b == 0) = false := by simp; omega
  by_cases ha : 0 ≤ a
  · have hp := floor_pos a b hb ha
    go_enter Try.func57, Try.ntmps57
    go_wp2
    go_ret
    exact ⟨rfl, rfl⟩
  · have hp := floor_neg a b hb (by omega)
    have hp1 := hp.1
    have hp2 := hp.2.1
    by_cases hm : a.tmod b < 0
    · have hq := Lib.hid (hp.2.2.1 hm).1
      have hq2 := (hp.2.2.1 hm).2
      clear hp
      go_enter Try.func57, Try.ntmps57
      go_wp2
      go_ret
      exact ⟨ret_int hq.out.symm, rfl⟩
    · have hq := Lib.hid (hp.2.2.2 hm)
      clear hp
      go_enter Try.func57, Try.ntmps57
      go_wp2
      go_ret
      exact ⟨ret_int hq.out.symm, rfl⟩

set_option maxHeartbeats 400000 in
set_option maxRecDepth 100000 in
theorem iFloor_any (a b : Int) (w : World) (h1 : -9223372036854775808 ≤ a) (h2 : a ≤ 9223372036854775807) (hb : 1 ≤ b) (hb2 : b ≤ 9223372036854775807) :
    Calls Try.prog 74 #[.int .i64 a, .int .i64 b] w fun e w' => e = .returned (.int .i64 (a / b)) ∧ w = w' := by
  have hb0 : (b == 0) = false := by simp; omega
  by_cases ha : 0 ≤ a
  · have hp := floor_pos a b hb ha
    go_enter Try.func74, Try.ntmps74
    go_wp2
    go_ret
    exact ⟨rfl, rfl⟩
  · have hp := floor_neg a b hb (by omega)
    have hp1 := hp.1
    have hp2 := hp.2.1
    by_cases hm : a.tmod b < 0
    · have hq := Lib.hid (hp.2.2.1 hm).1
      have hq2 := (hp.2.2.1 hm).2
      clear hp
      go_enter Try.func74, Try.ntmps74
      go_wp2
      go_ret
      exact ⟨ret_int hq.out.symm, rfl⟩
    · have hq := Lib.hid (hp.2.2.2 hm)
      clear hp
      go_enter Try.func74, Try.ntmps74
      go_wp2
      go_ret
      exact ⟨ret_int hq.out.symm, rfl⟩

end Go.Proofs.Ythdaoadleeelnaa
