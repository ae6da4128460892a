/- Contract of the reference's GcdOf, and of the small range tests. -/
import Derived.Test.YthdaoadleeelnaaNum
namespace Go.Proofs.Ythdaoadleeelnaa
open Go.ChangeShapes Go.WideShapes Go.ChangeAt Go.RowKit
attribute [local go_sem ↓] Go.wp_at_zero Go.wp_at_succ
set_option linter.unusedVariables false

theorem val_int {k : IntKind} {a b : Int} (h : a = b) : Value.int k a = Value.int k b := by rw [h]

set_option maxHeartbeats 1000000 in
set_option maxRecDepth 100000 in
theorem sGcdOf_any (a b : Int) (w : World) (h1 : -9223372036854775808 ≤ a) (h2 : a ≤ 9223372036854775807) (h3 : -9223372036854775808 ≤ b) (h4 : b ≤ 9223372036854775807) :
    Calls Try.prog 67 #[.int .i64 a, .int .i64 b] w fun e w' => e = .returned (.int .i64 (gcdV a b)) ∧ ∃ n, w' = w.drewN n := by
  cases hla : leastB a
  · cases hlb : leastB b
    · have Hv := Lib.hid (show gcdV a b = (Int.gcd a b : Int) by unfold gcdV; rw [hla, hlb]; rfl)
      unfold leastB at hla hlb
      simp at hla hlb
      have ha1 : ¬ a < -9223372036854775807 := by omega
      have hb1 : ¬ b < -9223372036854775807 := by omega
      clear hla hlb
      go_enter Try.func67, Try.ntmps67
      go_wp2
      all_goals
        go_loopw [0, 1] (fun x y wr => ∃ X Y : Nat, x = .int .i64 X ∧ y = .int .i64 Y ∧ RowKit.Hid (Nat.gcd X Y = Int.gcd a b) ∧ X ≤ 9223372036854775807 ∧ Y ≤ 9223372036854775807 ∧ ∃ n, wr = w.drewN n) (fun _ y _ => (intOf y).toNat)
        case atStart => exact ⟨a.natAbs, b.natAbs, val_int (by omega), val_int (by omega), rfl, by omega, by omega, 0, rfl⟩
        case round =>
          obtain ⟨X, Y, rfl, rfl, HG, hX, hY, nd, rfl⟩ := hrel
          by_cases hY0 : Y = 0
          · subst hY0
            go_wp2_with fail
            go_ret
            exact ⟨ret_int (by rw [Hv.out, ← HG.out, Nat.gcd_zero_right]), nd, rfl⟩
          · have hY1 : ((Y : Int) != 0) = true := by simp; omega
            have hY3 : 0 < Y := by omega
            have hYl := Nat.mod_lt X hY3
            go_wp2_with (go_at_call 85; refine (turn_any _ _ _ (by omega) (by omega)).mono ?_; rintro e w' ⟨rfl, nd2, rfl⟩)
            go_roundw
            case rel => exact ⟨Y, X % Y, rfl, by go_num, by show _ = _; rw [← HG.out, Nat.gcd_comm, ← Nat.gcd_rec, Nat.gcd_comm], by omega, by omega, nd + nd2, rfl⟩
            case measure => simp [intOf]; omega
    · have Hv := Lib.hid (show gcdV a b = 0 by unfold gcdV; rw [hla, hlb]; rfl)
      unfold leastB at hla hlb
      simp at hla hlb
      have ha1 : ¬ a < -9223372036854775807 := by omega
      have hb1 : b < -9223372036854775807 := by omega
      clear hla hlb
      go_enter Try.func67, Try.ntmps67
      go_wp2
      go_ret
      exact ⟨ret_int Hv.out.symm, 0, rfl⟩
  · have Hv := Lib.hid (show gcdV a b = 0 by unfold gcdV; rw [hla]; rfl)
    unfold leastB at hla
    simp at hla
    have ha1 : a < -9223372036854775807 := by omega
    clear hla
    go_enter Try.func67, Try.ntmps67
    go_wp2
    go_ret
    exact ⟨ret_int Hv.out.symm, 0, rfl⟩

def inB (n lo hi : Int) : Bool := decide (lo ≤ n) && decide (n ≤ hi)

set_option maxHeartbeats 400000 in
set_option maxRecDepth 100000 in
theorem inRange_any (n lo hi : Int) (w : World) :
    Calls Try.prog 72 #[.int .i64 n, .int .i64 lo, .int .i64 hi] w fun e w' => e = .returned (.bool (inB n lo hi)) ∧ w = w' := by
  by_cases hn : lo ≤ n
  · go_enter Try.func72, Try.ntmps72
    go_wp2
    go_ret
    refine ⟨ret_bool ?_, rfl⟩
    unfold inB; simp [hn]
  · go_enter Try.func72, Try.ntmps72
    go_wp2
    go_ret
    refine ⟨ret_bool ?_, rfl⟩
    unfold inB; simp; omega

set_option maxHeartbeats 400000 in
set_option maxRecDepth 100000 in
theorem l01In_any (n lo hi : Int) (w : World) :
    Calls Try.prog 45 #[.int .i64 n, .int .i64 lo, .int .i64 hi] w fun e w' => e = .returned (.bool (inB n lo hi)) ∧ w = w' := by
  by_cases hn : lo ≤ n
  · go_enter Try.func45, Try.ntmps45
    go_wp2
    go_ret
    refine ⟨ret_bool ?_, rfl⟩
    unfold inB; simp [hn]
  · go_enter Try.func45, Try.ntmps45
    go_wp2
    go_ret
    refine ⟨ret_bool ?_, rfl⟩
    unfold inB; simp; omega
end Go.Proofs.Ythdaoadleeelnaa
