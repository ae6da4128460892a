/- Contracts of SpotOk, of the program and of the reference: both return spotOkV, for all arguments. -/
import Derived.Test.YthdaoadleeelnaaData
namespace Go.Proofs.Ythdaoadleeelnaa
open Go.ChangeShapes Go.WideShapes Go.ChangeAt Go.RowKit
attribute [local go_sem ↓] Go.wp_at_zero Go.wp_at_succ
set_option linter.unusedVariables false

/-- SpotOk's result. -/
def spotOkV (x y d : Int) : Bool := inB d 1 5000000000 && (inB x (-1000 * d) (1000 * d) && (inB y (-1000 * d) (1000 * d) && decide (gcdL [x, y, d] = 1)))

theorem inB_iff (n lo hi : Int) : inB n lo hi = true ↔ lo ≤ n ∧ n ≤ hi := by unfold inB; simp

theorem gcdL3_gcdV (x y d : Int) (hx : leastB x = false) (hy : leastB y = false) (hg : leastB (gcdV x y) = false) (hd : leastB d = false) : gcdV (gcdV x y) d = (gcdL [x, y, d] : Int) := by
  have e : gcdV x y = (Int.gcd x y : Int) := by unfold gcdV; rw [hx, hy]; rfl
  rw [gcdL_three]
  unfold gcdV at *
  rw [hg, hd]
  rw [hx, hy]
  simp [Int.gcd]

theorem l01In_q {n lo hi : Int} {v : Bool} (h : inB n lo hi = v) (w : World) :
    Calls Try.prog 45 #[.int .i64 n, .int .i64 lo, .int .i64 hi] w fun e w' => e = .returned (.bool v) ∧ w' = w :=
  (l01In_any n lo hi w).mono fun _ _ ⟨he, hw⟩ => ⟨by rw [he, h], hw.symm⟩

set_option maxHeartbeats 1000000 in
set_option maxRecDepth 100000 in
theorem iSpotOk_any (x y d : Int) (w : World) (hx1 : -9223372036854775808 ≤ x) (hx2 : x ≤ 9223372036854775807) (hy1 : -9223372036854775808 ≤ y) (hy2 : y ≤ 9223372036854775807) :
    Calls Try.prog 55 #[.agg #[.int .i64 x, .int .i64 y, .int .i64 d]] w fun e w' => e = .returned (.bool (spotOkV x y d)) ∧ Below w.heap.size w w' := by
  cases h1 : inB d 1 5000000000
  · have Hv := Lib.hid (show spotOkV x y d = false by unfold spotOkV; rw [h1]; rfl)
    go_enter Try.func55, Try.ntmps55
    go_wp2_with (go_at_call 72; refine (inRange_any _ _ _ _).mono ?_; rintro e w1 ⟨rfl, rfl⟩)
    go_ret
    exact ⟨ret_bool Hv.out.symm, (by repeat (first | exact Below.refl _ _ | assumption | refine below_drewN ?_ _ | refine Below.drew ?_ | refine Below.alloc ?_ (by first | omega | (simp <;> omega)) _ | refine Below.setCell ?_ (by first | omega | (simp <;> omega)) _))⟩
  · have hd := (inB_iff _ _ _).1 h1
    have hd1 := hd.1
    have hd2 := hd.2
    clear hd
    cases h2 : inB x (-1000 * d) (1000 * d)
    · have Hv := Lib.hid (show spotOkV x y d = false by unfold spotOkV; rw [h1, h2]; rfl)
      go_enter Try.func55, Try.ntmps55
      go_wp2_with (go_at_call 72; refine (inRange_any _ _ _ _).mono ?_; rintro e w1 ⟨rfl, rfl⟩)
      go_ret
      exact ⟨ret_bool Hv.out.symm, (by repeat (first | exact Below.refl _ _ | assumption | refine below_drewN ?_ _ | refine Below.drew ?_ | refine Below.alloc ?_ (by first | omega | (simp <;> omega)) _ | refine Below.setCell ?_ (by first | omega | (simp <;> omega)) _))⟩
    · cases h3 : inB y (-1000 * d) (1000 * d)
      · have Hv := Lib.hid (show spotOkV x y d = false by unfold spotOkV; rw [h1, h2, h3]; rfl)
        go_enter Try.func55, Try.ntmps55
        go_wp2_with (go_at_call 72; refine (inRange_any _ _ _ _).mono ?_; rintro e w1 ⟨rfl, rfl⟩)
        go_ret
        exact ⟨ret_bool Hv.out.symm, (by repeat (first | exact Below.refl _ _ | assumption | refine below_drewN ?_ _ | refine Below.drew ?_ | refine Below.alloc ?_ (by first | omega | (simp <;> omega)) _ | refine Below.setCell ?_ (by first | omega | (simp <;> omega)) _))⟩
      · have Hv := Lib.hid (show spotOkV x y d = decide (gcdL [x, y, d] = 1) by unfold spotOkV; rw [h1, h2, h3]; rfl)
        have Hz := Lib.hid (show ∀ z ∈ [x, y, d], -9223372036854775808 ≤ z ∧ z ≤ 9223372036854775807 by intro z hz; simp at hz; omega)
        go_enter Try.func55, Try.ntmps55
        go_wp2_with (go_at_call 72; refine (inRange_any _ _ _ _).mono ?_; rintro e w1 ⟨rfl, rfl⟩)
        refine (gcdAll_any [x, y, d] _ 3 _ (by simp) Hz.out ?_).mono ?_
        · intro k h
          match k, h with
          | 0, _ => simp
          | 1, _ => simp
          | 2, _ => simp
        rintro e w' ⟨rfl, nd, rfl⟩
        generalize gcdL [x, y, d] = g at *
        go_wp2_with fail
        go_ret
        refine ⟨ret_bool ?_, (by repeat (first | exact Below.refl _ _ | assumption | refine below_drewN ?_ _ | refine Below.drew ?_ | refine Below.alloc ?_ (by first | omega | (simp <;> omega)) _ | refine Below.setCell ?_ (by first | omega | (simp <;> omega)) _))⟩
        rw [Hv.out, Bool.eq_iff_iff]; simp; omega

set_option maxHeartbeats 1000000 in
set_option maxRecDepth 100000 in
theorem sSpotOk_any (x y d : Int) (w : World) (hx1 : -9223372036854775808 ≤ x) (hx2 : x ≤ 9223372036854775807) (hy1 : -9223372036854775808 ≤ y) (hy2 : y ≤ 9223372036854775807) :
    Calls Try.prog 53 #[.agg #[.int .i64 x, .int .i64 y, .int .i64 d]] w fun e w' => e = .returned (.bool (spotOkV x y d)) ∧ Below w.heap.size w w' := by
  cases h1 : inB d 1 5000000000
  · have Hv := Lib.hid (show spotOkV x y d = false by unfold spotOkV; rw [h1]; rfl)
    go_enter Try.func53, Try.ntmps53
    go_wp2_with (go_at_call 45; refine (l01In_any _ _ _ _).mono ?_; rintro e w1 ⟨rfl, rfl⟩)
    go_ret
    exact ⟨ret_bool Hv.out.symm, (by repeat (first | exact Below.refl _ _ | assumption | refine below_drewN ?_ _ | refine Below.drew ?_ | refine Below.alloc ?_ (by first | omega | (simp <;> omega)) _ | refine Below.setCell ?_ (by first | omega | (simp <;> omega)) _))⟩
  · have hd := (inB_iff _ _ _).1 h1
    have hd1 := hd.1
    have hd2 := hd.2
    clear hd
    have hq1 : IntKind.i64.wrap (-(1000 * d)) = -(1000 * d) := IntWalk.i64_in _ (by omega)
    cases h2 : inB x (-(1000 * d)) (1000 * d)
    · have Hv := Lib.hid (show spotOkV x y d = false by unfold spotOkV; rw [h1]; rw [show (-1000 * d) = -(1000 * d) by omega, h2]; rfl)
      go_enter Try.func53, Try.ntmps53
      go_wp2_with (go_at_call 45; refine (l01In_any _ _ _ _).mono ?_; rintro e w1 ⟨rfl, rfl⟩)
      go_quiet (first | (go_at_call 45; exact Calls.quiet_of_same (l01In_q h2 _)) | (go_at_call 67; exact Calls.quiet_of (sGcdOf_any _ _ _ (by omega) (by omega) (by omega) (by omega))))
      go_wp2_with fail
      go_ret
      exact ⟨ret_bool Hv.out.symm, (by repeat (first | exact Below.refl _ _ | assumption | refine below_drewN ?_ _ | refine Below.drew ?_ | refine Below.alloc ?_ (by first | omega | (simp <;> omega)) _ | refine Below.setCell ?_ (by first | omega | (simp <;> omega)) _))⟩
    · cases h3 : inB y (-(1000 * d)) (1000 * d)
      · have Hv := Lib.hid (show spotOkV x y d = false by unfold spotOkV; rw [h1]; rw [show (-1000 * d) = -(1000 * d) by omega, h2, h3]; rfl)
        go_enter Try.func53, Try.ntmps53
        go_wp2_with (go_at_call 45; refine (l01In_any _ _ _ _).mono ?_; rintro e w1 ⟨rfl, rfl⟩)
        go_quiet (first | (go_at_call 45; first | (with_reducible exact Calls.quiet_of_same (l01In_q h2 _)) | (with_reducible exact Calls.quiet_of_same (l01In_q h3 _))) | (go_at_call 67; exact Calls.quiet_of (sGcdOf_any _ _ _ (by omega) (by omega) (by omega) (by omega))))
        go_wp2_with fail
        go_ret
        exact ⟨ret_bool Hv.out.symm, (by repeat (first | exact Below.refl _ _ | assumption | refine below_drewN ?_ _ | refine Below.drew ?_ | refine Below.alloc ?_ (by first | omega | (simp <;> omega)) _ | refine Below.setCell ?_ (by first | omega | (simp <;> omega)) _))⟩
      · have bx := (inB_iff _ _ _).1 h2
        have by' := (inB_iff _ _ _).1 h3
        have lx : leastB x = false := by unfold leastB; simp; omega
        have ly : leastB y = false := by unfold leastB; simp; omega
        have ld : leastB d = false := by unfold leastB; simp; omega
        have g1 := gcd_lt x y hx1 hx2 hy1 hy2 lx ly
        have e : gcdV x y = (Int.gcd x y : Int) := by unfold gcdV; rw [lx, ly]; rfl
        have lg : leastB (gcdV x y) = false := by rw [e]; unfold leastB; simp <;> omega
        have Hg := Lib.hid (gcdL3_gcdV x y d lx ly lg ld)
        have Hv := Lib.hid (show spotOkV x y d = decide (gcdL [x, y, d] = 1) by unfold spotOkV; rw [h1]; rw [show (-1000 * d) = -(1000 * d) by omega, h2, h3]; rfl)
        have gb1 : -9223372036854775808 ≤ gcdV x y := by rw [e]; omega
        have gb2 : gcdV x y ≤ 9223372036854775807 := by rw [e]; omega
        clear bx by' lx ly ld e lg g1
        go_enter Try.func53, Try.ntmps53
        go_wp2_with (go_at_call 45; refine (l01In_any _ _ _ _).mono ?_; rintro e w1 ⟨rfl, rfl⟩)
        go_quiet (first | (go_at_call 45; first | (with_reducible exact Calls.quiet_of_same (l01In_q h2 _)) | (with_reducible exact Calls.quiet_of_same (l01In_q h3 _))) | (go_at_call 67; exact Calls.quiet_of (sGcdOf_any _ _ _ (by omega) (by omega) (by omega) (by omega))))
        go_wp2_with fail
        go_ret
        refine ⟨ret_bool ?_, (by repeat (first | exact Below.refl _ _ | assumption | refine below_drewN ?_ _ | refine Below.drew ?_ | refine Below.alloc ?_ (by first | omega | (simp <;> omega)) _ | refine Below.setCell ?_ (by first | omega | (simp <;> omega)) _))⟩
        rw [Hv.out, Hg.out, Bool.eq_iff_iff]; simp; omega

end Go.Proofs.Ythdaoadleeelnaa
