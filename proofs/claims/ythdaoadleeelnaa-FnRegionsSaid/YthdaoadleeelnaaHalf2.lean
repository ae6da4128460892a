/- Contracts of SideOf, HoldsAt, OtherSide, of the program and of the reference, and the walks of their laws. -/
import Derived.Test.YthdaoadleeelnaaHalf
namespace Go.Proofs.Ythdaoadleeelnaa
open Go.ChangeShapes Go.WideShapes Go.ChangeAt Go.RowKit
attribute [local go_sem ↓] Go.wp_at_zero Go.wp_at_succ
set_option linter.unusedVariables false

theorem spotOkV_bounds' {x y d : Int} (h : spotOkV x y d = true) : (1 ≤ d ∧ d ≤ 5000000000) ∧ (-1000 * d ≤ x ∧ x ≤ 1000 * d) ∧ (-1000 * d ≤ y ∧ y ≤ 1000 * d) := by
  unfold spotOkV inB at h
  simp at h
  omega

theorem iHalfOk_lit {a b c : Int} {v : Bool} (h : halfOkV a b c = v) (w : World) :
    Calls Try.prog 63 #[.agg #[.int .i64 a, .int .i64 b, .int .i64 c]] w fun e w' => e = .returned (.bool v) ∧ Below w.heap.size w w' := by
  rw [← h]; exact iHalfOk_any a b c w

theorem sHalfOk_lit {a b c : Int} {v : Bool} (h : halfOkV a b c = v) (w : World) :
    Calls Try.prog 48 #[.agg #[.int .i64 a, .int .i64 b, .int .i64 c]] w fun e w' => e = .returned (.bool v) ∧ Below w.heap.size w w' := by
  rw [← h]; exact sHalfOk_any a b c w

theorem iSpotOk_lit' {x y d : Int} {v : Bool} (h : spotOkV x y d = v) (w : World) (hx1 : -9223372036854775808 ≤ x) (hx2 : x ≤ 9223372036854775807) (hy1 : -9223372036854775808 ≤ y) (hy2 : y ≤ 9223372036854775807) :
    Calls Try.prog 55 #[.agg #[.int .i64 x, .int .i64 y, .int .i64 d]] w fun e w' => e = .returned (.bool v) ∧ Below w.heap.size w w' := by
  rw [← h]; exact iSpotOk_any x y d w hx1 hx2 hy1 hy2

theorem sSpotOk_lit' {x y d : Int} {v : Bool} (h : spotOkV x y d = v) (w : World) (hx1 : -9223372036854775808 ≤ x) (hx2 : x ≤ 9223372036854775807) (hy1 : -9223372036854775808 ≤ y) (hy2 : y ≤ 9223372036854775807) :
    Calls Try.prog 53 #[.agg #[.int .i64 x, .int .i64 y, .int .i64 d]] w fun e w' => e = .returned (.bool v) ∧ Below w.heap.size w w' := by
  rw [← h]; exact sSpotOk_any x y d w hx1 hx2 hy1 hy2

/-- SideOf's result: the sign of A*x + B*y - C*d. -/
def sideE (a b c x y d : Int) : Int := a * x + b * y - c * d

def sideV (a b c x y d : Int) : Int := if halfOkV a b c && spotOkV x y d then sgnV (sideE a b c x y d) else 0

set_option maxHeartbeats 400000 in
set_option maxRecDepth 100000 in
theorem signOf_any (n : Int) (w : World) :
    Calls Try.prog 64 #[.int .i64 n] w fun e w' => e = .returned (.int .i64 (sgnV n)) ∧ w = w' := by
  by_cases h1 : n < 0
  · have HV := Lib.hid (sgn_neg h1)
    go_enter Try.func64, Try.ntmps64
    go_wp2_with fail
    go_ret
    exact ⟨ret_int HV.out.symm, rfl⟩
  · by_cases h2 : 0 < n
    · have HV := Lib.hid (sgn_pos h2)
      go_enter Try.func64, Try.ntmps64
      go_wp2_with fail
      go_ret
      exact ⟨ret_int HV.out.symm, rfl⟩
    · have HV := Lib.hid (show sgnV n = 0 by unfold sgnV; rw [if_neg h1, if_neg h2])
      go_enter Try.func64, Try.ntmps64
      go_wp2_with fail
      go_ret
      exact ⟨ret_int HV.out.symm, rfl⟩

theorem side_bounds {a b c x y d : Int} (h1 : halfOkV a b c = true) (h2 : spotOkV x y d = true) : (-250000000000000000 ≤ a * x ∧ a * x ≤ 250000000000000000) ∧ (-250000000000000000 ≤ b * y ∧ b * y ≤ 250000000000000000) ∧ (-500000000000000000 ≤ c * d ∧ c * d ≤ 500000000000000000) := by
  have bh := halfOkV_bounds h1
  have bs := spotOkV_bounds' h2
  have m1 := mul_range a x 50000 5000000000000 (by omega) (by omega) (by omega) (by omega)
  have m2 := mul_range b y 50000 5000000000000 (by omega) (by omega) (by omega) (by omega)
  have m3 := mul_range c d 100000000 5000000000 (by omega) (by omega) (by omega) (by omega)
  omega

set_option maxHeartbeats 1000000 in
set_option maxRecDepth 100000 in
theorem iSideOf_any (a b c x y d : Int) (w : World) (hx1 : -9223372036854775808 ≤ x) (hx2 : x ≤ 9223372036854775807) (hy1 : -9223372036854775808 ≤ y) (hy2 : y ≤ 9223372036854775807) :
    Calls Try.prog 42 #[.agg #[.int .i64 a, .int .i64 b, .int .i64 c], .agg #[.int .i64 x, .int .i64 y, .int .i64 d]] w fun e w' => e = .returned (.int .i64 (sideV a b c x y d)) ∧ Below w.heap.size w w' := by
  cases h1 : halfOkV a b c
  · have HV := Lib.hid (show sideV a b c x y d = 0 by unfold sideV; rw [h1]; rfl)
    have H1 := Lib.hid h1; clear h1
    go_enter Try.func42, Try.ntmps42
    go_wp2_with (first | (go_at_call 63; with_reducible refine (iHalfOk_lit H1.out _).mono ?_; rintro e w1 ⟨rfl, hb1⟩; have cc0 := cell_keep (p := ⟨w.heap.size, 0, none⟩) (v := .int .i64 a) hb1 (by first | assumption | (go_keep; done) | (go_simp; done) | (simp; done)) (by first | omega | (simp <;> omega)); have cc1 := cell_keep (p := ⟨w.heap.size, 1, none⟩) (v := .int .i64 b) hb1 (by first | assumption | (go_keep; done) | (go_simp; done) | (simp; done)) (by first | omega | (simp <;> omega)); have cc2 := cell_keep (p := ⟨w.heap.size, 2, none⟩) (v := .int .i64 c) hb1 (by first | assumption | (go_keep; done) | (go_simp; done) | (simp; done)) (by first | omega | (simp <;> omega)); have cc3 := cell_keep (p := ⟨w.heap.size + 1, 0, none⟩) (v := .int .i64 x) hb1 (by first | assumption | (go_keep; done) | (go_simp; done) | (simp; done)) (by first | omega | (simp <;> omega)); have cc4 := cell_keep (p := ⟨w.heap.size + 1, 1, none⟩) (v := .int .i64 y) hb1 (by first | assumption | (go_keep; done) | (go_simp; done) | (simp; done)) (by first | omega | (simp <;> omega)); have cc5 := cell_keep (p := ⟨w.heap.size + 1, 2, none⟩) (v := .int .i64 d) hb1 (by first | assumption | (go_keep; done) | (go_simp; done) | (simp; done)) (by first | omega | (simp <;> omega)); have hS1 : Below w.heap.size w w1 := S_below hb1 (by repeat (first | exact Below.refl _ _ | assumption | refine below_drewN ?_ _ | refine Below.drew ?_ | refine Below.alloc ?_ (by first | omega | (simp <;> omega)) _ | refine Below.setCell ?_ (by first | omega | (simp <;> omega)) _)) (by first | omega | (simp <;> omega)); have hz1 : w.heap.size + 1 + 1 ≤ w1.heap.size := S_size hb1 (by first | omega | (simp <;> omega)); have hqb0 : w.heap.size < w1.heap.size := S_lt hb1 (by first | omega | (simp <;> omega)); have hqb1 : w.heap.size + 1 < w1.heap.size := S_lt hb1 (by first | omega | (simp <;> omega)); clear hb1))
    go_ret
    exact ⟨ret_int HV.out.symm, by assumption⟩
  · cases h2 : spotOkV x y d
    · have HV := Lib.hid (show sideV a b c x y d = 0 by unfold sideV; rw [h1, h2]; rfl)
      have H1 := Lib.hid h1; clear h1
      have H2 := Lib.hid h2; clear h2
      go_enter Try.func42, Try.ntmps42
      go_wp2_with (first | (go_at_call 63; with_reducible refine (iHalfOk_lit H1.out _).mono ?_; rintro e w1 ⟨rfl, hb1⟩; have cc0 := cell_keep (p := ⟨w.heap.size, 0, none⟩) (v := .int .i64 a) hb1 (by first | assumption | (go_keep; done) | (go_simp; done) | (simp; done)) (by first | omega | (simp <;> omega)); have cc1 := cell_keep (p := ⟨w.heap.size, 1, none⟩) (v := .int .i64 b) hb1 (by first | assumption | (go_keep; done) | (go_simp; done) | (simp; done)) (by first | omega | (simp <;> omega)); have cc2 := cell_keep (p := ⟨w.heap.size, 2, none⟩) (v := .int .i64 c) hb1 (by first | assumption | (go_keep; done) | (go_simp; done) | (simp; done)) (by first | omega | (simp <;> omega)); have cc3 := cell_keep (p := ⟨w.heap.size + 1, 0, none⟩) (v := .int .i64 x) hb1 (by first | assumption | (go_keep; done) | (go_simp; done) | (simp; done)) (by first | omega | (simp <;> omega)); have cc4 := cell_keep (p := ⟨w.heap.size + 1, 1, none⟩) (v := .int .i64 y) hb1 (by first | assumption | (go_keep; done) | (go_simp; done) | (simp; done)) (by first | omega | (simp <;> omega)); have cc5 := cell_keep (p := ⟨w.heap.size + 1, 2, none⟩) (v := .int .i64 d) hb1 (by first | assumption | (go_keep; done) | (go_simp; done) | (simp; done)) (by first | omega | (simp <;> omega)); have hS1 : Below w.heap.size w w1 := S_below hb1 (by repeat (first | exact Below.refl _ _ | assumption | refine below_drewN ?_ _ | refine Below.drew ?_ | refine Below.alloc ?_ (by first | omega | (simp <;> omega)) _ | refine Below.setCell ?_ (by first | omega | (simp <;> omega)) _)) (by first | omega | (simp <;> omega)); have hz1 : w.heap.size + 1 + 1 ≤ w1.heap.size := S_size hb1 (by first | omega | (simp <;> omega)); have hqb0 : w.heap.size < w1.heap.size := S_lt hb1 (by first | omega | (simp <;> omega)); have hqb1 : w.heap.size + 1 < w1.heap.size := S_lt hb1 (by first | omega | (simp <;> omega)); clear hb1) | (go_at_call 55; with_reducible refine (iSpotOk_lit' H2.out _ hx1 hx2 hy1 hy2).mono ?_; rintro e w1 ⟨rfl, hb1⟩; have cc0 := cell_keep (p := ⟨w.heap.size, 0, none⟩) (v := .int .i64 a) hb1 (by first | assumption | (go_keep; done) | (go_simp; done) | (simp; done)) (by first | omega | (simp <;> omega)); have cc1 := cell_keep (p := ⟨w.heap.size, 1, none⟩) (v := .int .i64 b) hb1 (by first | assumption | (go_keep; done) | (go_simp; done) | (simp; done)) (by first | omega | (simp <;> omega)); have cc2 := cell_keep (p := ⟨w.heap.size, 2, none⟩) (v := .int .i64 c) hb1 (by first | assumption | (go_keep; done) | (go_simp; done) | (simp; done)) (by first | omega | (simp <;> omega)); have cc3 := cell_keep (p := ⟨w.heap.size + 1, 0, none⟩) (v := .int .i64 x) hb1 (by first | assumption | (go_keep; done) | (go_simp; done) | (simp; done)) (by first | omega | (simp <;> omega)); have cc4 := cell_keep (p := ⟨w.heap.size + 1, 1, none⟩) (v := .int .i64 y) hb1 (by first | assumption | (go_keep; done) | (go_simp; done) | (simp; done)) (by first | omega | (simp <;> omega)); have cc5 := cell_keep (p := ⟨w.heap.size + 1, 2, none⟩) (v := .int .i64 d) hb1 (by first | assumption | (go_keep; done) | (go_simp; done) | (simp; done)) (by first | omega | (simp <;> omega)); have hS1 : Below w.heap.size w w1 := S_below hb1 (by repeat (first | exact Below.refl _ _ | assumption | refine below_drewN ?_ _ | refine Below.drew ?_ | refine Below.alloc ?_ (by first | omega | (simp <;> omega)) _ | refine Below.setCell ?_ (by first | omega | (simp <;> omega)) _)) (by first | omega | (simp <;> omega)); have hz1 : w.heap.size + 1 + 1 ≤ w1.heap.size := S_size hb1 (by first | omega | (simp <;> omega)); have hqb0 : w.heap.size < w1.heap.size := S_lt hb1 (by first | omega | (simp <;> omega)); have hqb1 : w.heap.size + 1 < w1.heap.size := S_lt hb1 (by first | omega | (simp <;> omega)); clear hb1))
      go_ret
      exact ⟨ret_int HV.out.symm, by assumption⟩
    · have HV := Lib.hid (show sideV a b c x y d = sgnV (a * x + b * y - c * d) by unfold sideV sideE; rw [h1, h2]; rfl)
      obtain ⟨⟨m1, m2⟩, ⟨m3, m4⟩, m5, m6⟩ := side_bounds h1 h2
      have H1 := Lib.hid h1; clear h1
      have H2 := Lib.hid h2; clear h2
      go_enter Try.func42, Try.ntmps42
      go_wp2_with (first | (go_at_call 63; with_reducible refine (iHalfOk_lit H1.out _).mono ?_; rintro e w1 ⟨rfl, hb1⟩; have cc0 := cell_keep (p := ⟨w.heap.size, 0, none⟩) (v := .int .i64 a) hb1 (by first | assumption | (go_keep; done) | (go_simp; done) | (simp; done)) (by first | omega | (simp <;> omega)); have cc1 := cell_keep (p := ⟨w.heap.size, 1, none⟩) (v := .int .i64 b) hb1 (by first | assumption | (go_keep; done) | (go_simp; done) | (simp; done)) (by first | omega | (simp <;> omega)); have cc2 := cell_keep (p := ⟨w.heap.size, 2, none⟩) (v := .int .i64 c) hb1 (by first | assumption | (go_keep; done) | (go_simp; done) | (simp; done)) (by first | omega | (simp <;> omega)); have cc3 := cell_keep (p := ⟨w.heap.size + 1, 0, none⟩) (v := .int .i64 x) hb1 (by first | assumption | (go_keep; done) | (go_simp; done) | (simp; done)) (by first | omega | (simp <;> omega)); have cc4 := cell_keep (p := ⟨w.heap.size + 1, 1, none⟩) (v := .int .i64 y) hb1 (by first | assumption | (go_keep; done) | (go_simp; done) | (simp; done)) (by first | omega | (simp <;> omega)); have cc5 := cell_keep (p := ⟨w.heap.size + 1, 2, none⟩) (v := .int .i64 d) hb1 (by first | assumption | (go_keep; done) | (go_simp; done) | (simp; done)) (by first | omega | (simp <;> omega)); have hS1 : Below w.heap.size w w1 := S_below hb1 (by repeat (first | exact Below.refl _ _ | assumption | refine below_drewN ?_ _ | refine Below.drew ?_ | refine Below.alloc ?_ (by first | omega | (simp <;> omega)) _ | refine Below.setCell ?_ (by first | omega | (simp <;> omega)) _)) (by first | omega | (simp <;> omega)); have hz1 : w.heap.size + 1 + 1 ≤ w1.heap.size := S_size hb1 (by first | omega | (simp <;> omega)); have hqb0 : w.heap.size < w1.heap.size := S_lt hb1 (by first | omega | (simp <;> omega)); have hqb1 : w.heap.size + 1 < w1.heap.size := S_lt hb1 (by first | omega | (simp <;> omega)); clear hb1) | (go_at_call 55; with_reducible refine (iSpotOk_lit' H2.out _ hx1 hx2 hy1 hy2).mono ?_; rintro e w1 ⟨rfl, hb1⟩; have cc0 := cell_keep (p := ⟨w.heap.size, 0, none⟩) (v := .int .i64 a) hb1 (by first | assumption | (go_keep; done) | (go_simp; done) | (simp; done)) (by first | omega | (simp <;> omega)); have cc1 := cell_keep (p := ⟨w.heap.size, 1, none⟩) (v := .int .i64 b) hb1 (by first | assumption | (go_keep; done) | (go_simp; done) | (simp; done)) (by first | omega | (simp <;> omega)); have cc2 := cell_keep (p := ⟨w.heap.size, 2, none⟩) (v := .int .i64 c) hb1 (by first | assumption | (go_keep; done) | (go_simp; done) | (simp; done)) (by first | omega | (simp <;> omega)); have cc3 := cell_keep (p := ⟨w.heap.size + 1, 0, none⟩) (v := .int .i64 x) hb1 (by first | assumption | (go_keep; done) | (go_simp; done) | (simp; done)) (by first | omega | (simp <;> omega)); have cc4 := cell_keep (p := ⟨w.heap.size + 1, 1, none⟩) (v := .int .i64 y) hb1 (by first | assumption | (go_keep; done) | (go_simp; done) | (simp; done)) (by first | omega | (simp <;> omega)); have cc5 := cell_keep (p := ⟨w.heap.size + 1, 2, none⟩) (v := .int .i64 d) hb1 (by first | assumption | (go_keep; done) | (go_simp; done) | (simp; done)) (by first | omega | (simp <;> omega)); have hS1 : Below w.heap.size w w1 := S_below hb1 (by repeat (first | exact Below.refl _ _ | assumption | refine below_drewN ?_ _ | refine Below.drew ?_ | refine Below.alloc ?_ (by first | omega | (simp <;> omega)) _ | refine Below.setCell ?_ (by first | omega | (simp <;> omega)) _)) (by first | omega | (simp <;> omega)); have hz1 : w.heap.size + 1 + 1 ≤ w1.heap.size := S_size hb1 (by first | omega | (simp <;> omega)); have hqb0 : w.heap.size < w1.heap.size := S_lt hb1 (by first | omega | (simp <;> omega)); have hqb1 : w.heap.size + 1 < w1.heap.size := S_lt hb1 (by first | omega | (simp <;> omega)); clear hb1) | (go_at_call 64; with_reducible refine (signOf_any _ _).mono ?_; rintro e w1 ⟨rfl, rfl⟩))
      go_ret
      exact ⟨ret_int HV.out.symm, by assumption⟩

set_option maxHeartbeats 1000000 in
set_option maxRecDepth 100000 in
theorem l04Side_any (a b c x y d : Int) (w : World) (h1 : halfOkV a b c = true) (h2 : spotOkV x y d = true) :
    Calls Try.prog 71 #[.agg #[.int .i64 a, .int .i64 b, .int .i64 c], .agg #[.int .i64 x, .int .i64 y, .int .i64 d]] w fun e w' => e = .returned (.int .i64 (sgnV (a * x + b * y - c * d))) ∧ Below w.heap.size w w' := by
  obtain ⟨⟨m1, m2⟩, ⟨m3, m4⟩, m5, m6⟩ := side_bounds h1 h2
  have H1 := Lib.hid h1; clear h1
  have H2 := Lib.hid h2; clear h2
  by_cases c1 : a * x + b * y - c * d < 0
  · have HV := Lib.hid (sgn_neg c1)
    go_enter Try.func71, Try.ntmps71
    go_wp2_with fail
    go_ret
    exact ⟨ret_int HV.out.symm, (by repeat (first | exact Below.refl _ _ | assumption | refine below_drewN ?_ _ | refine Below.drew ?_ | refine Below.alloc ?_ (by first | omega | (simp <;> omega)) _ | refine Below.setCell ?_ (by first | omega | (simp <;> omega)) _))⟩
  · by_cases c2 : 0 < a * x + b * y - c * d
    · have HV := Lib.hid (sgn_pos c2)
      go_enter Try.func71, Try.ntmps71
      go_wp2_with fail
      go_ret
      exact ⟨ret_int HV.out.symm, (by repeat (first | exact Below.refl _ _ | assumption | refine below_drewN ?_ _ | refine Below.drew ?_ | refine Below.alloc ?_ (by first | omega | (simp <;> omega)) _ | refine Below.setCell ?_ (by first | omega | (simp <;> omega)) _))⟩
    · have HV := Lib.hid (show sgnV (a * x + b * y - c * d) = 0 by unfold sgnV; rw [if_neg c1, if_neg c2])
      go_enter Try.func71, Try.ntmps71
      go_wp2_with fail
      go_ret
      exact ⟨ret_int HV.out.symm, (by repeat (first | exact Below.refl _ _ | assumption | refine below_drewN ?_ _ | refine Below.drew ?_ | refine Below.alloc ?_ (by first | omega | (simp <;> omega)) _ | refine Below.setCell ?_ (by first | omega | (simp <;> omega)) _))⟩

/-- HoldsAt's result. -/
def holdsV (a b c x y d : Int) : Bool := halfOkV a b c && (spotOkV x y d && decide (a * x + b * y - c * d ≤ 0))

theorem sgn_ne_one (n : Int) : (sgnV n != 1) = decide (n ≤ 0) := by
  unfold sgnV
  rw [Bool.eq_iff_iff]
  by_cases h1 : n < 0
  · rw [if_pos h1]; simp; omega
  · rw [if_neg h1]
    by_cases h2 : 0 < n
    · rw [if_pos h2]; simp; omega
    · rw [if_neg h2]; simp; omega

theorem sgn_le_zero (n : Int) : decide (sgnV n ≤ 0) = decide (n ≤ 0) := by
  unfold sgnV
  rw [Bool.eq_iff_iff]
  by_cases h1 : n < 0
  · rw [if_pos h1]; simp; omega
  · rw [if_neg h1]
    by_cases h2 : 0 < n
    · rw [if_pos h2]; simp; omega
    · rw [if_neg h2]; simp; omega

set_option maxHeartbeats 1000000 in
set_option maxRecDepth 100000 in
theorem iHoldsAt_any (a b c x y d : Int) (w : World) (hx1 : -9223372036854775808 ≤ x) (hx2 : x ≤ 9223372036854775807) (hy1 : -9223372036854775808 ≤ y) (hy2 : y ≤ 9223372036854775807) :
    Calls Try.prog 41 #[.agg #[.int .i64 a, .int .i64 b, .int .i64 c], .agg #[.int .i64 x, .int .i64 y, .int .i64 d]] w fun e w' => e = .returned (.bool (holdsV a b c x y d)) ∧ Below w.heap.size w w' := by
  cases h1 : halfOkV a b c
  · have HV := Lib.hid (show holdsV a b c x y d = false by unfold holdsV; rw [h1]; rfl)
    have H1 := Lib.hid h1; clear h1
    go_enter Try.func41, Try.ntmps41
    go_wp2_with (first | (go_at_call 63; with_reducible refine (iHalfOk_lit H1.out _).mono ?_; rintro e w1 ⟨rfl, hb1⟩; have cc0 := cell_keep (p := ⟨w.heap.size, 0, none⟩) (v := .int .i64 a) hb1 (by first | assumption | (go_keep; done) | (go_simp; done) | (simp; done)) (by first | omega | (simp <;> omega)); have cc1 := cell_keep (p := ⟨w.heap.size, 1, none⟩) (v := .int .i64 b) hb1 (by first | assumption | (go_keep; done) | (go_simp; done) | (simp; done)) (by first | omega | (simp <;> omega)); have cc2 := cell_keep (p := ⟨w.heap.size, 2, none⟩) (v := .int .i64 c) hb1 (by first | assumption | (go_keep; done) | (go_simp; done) | (simp; done)) (by first | omega | (simp <;> omega)); have cc3 := cell_keep (p := ⟨w.heap.size + 1, 0, none⟩) (v := .int .i64 x) hb1 (by first | assumption | (go_keep; done) | (go_simp; done) | (simp; done)) (by first | omega | (simp <;> omega)); have cc4 := cell_keep (p := ⟨w.heap.size + 1, 1, none⟩) (v := .int .i64 y) hb1 (by first | assumption | (go_keep; done) | (go_simp; done) | (simp; done)) (by first | omega | (simp <;> omega)); have cc5 := cell_keep (p := ⟨w.heap.size + 1, 2, none⟩) (v := .int .i64 d) hb1 (by first | assumption | (go_keep; done) | (go_simp; done) | (simp; done)) (by first | omega | (simp <;> omega)); have hS1 : Below w.heap.size w w1 := S_below hb1 (by repeat (first | exact Below.refl _ _ | assumption | refine below_drewN ?_ _ | refine Below.drew ?_ | refine Below.alloc ?_ (by first | omega | (simp <;> omega)) _ | refine Below.setCell ?_ (by first | omega | (simp <;> omega)) _)) (by first | omega | (simp <;> omega)); have hz1 : w.heap.size + 1 + 1 ≤ w1.heap.size := S_size hb1 (by first | omega | (simp <;> omega)); have hqb0 : w.heap.size < w1.heap.size := S_lt hb1 (by first | omega | (simp <;> omega)); have hqb1 : w.heap.size + 1 < w1.heap.size := S_lt hb1 (by first | omega | (simp <;> omega)); clear hb1))
    go_ret
    exact ⟨ret_bool HV.out.symm, by assumption⟩
  · cases h2 : spotOkV x y d
    · have HV := Lib.hid (show holdsV a b c x y d = false by unfold holdsV; rw [h1, h2]; rfl)
      have H1 := Lib.hid h1; clear h1
      have H2 := Lib.hid h2; clear h2
      go_enter Try.func41, Try.ntmps41
      go_wp2_with (first | (go_at_call 63; with_reducible refine (iHalfOk_lit H1.out _).mono ?_; rintro e w1 ⟨rfl, hb1⟩; have cc0 := cell_keep (p := ⟨w.heap.size, 0, none⟩) (v := .int .i64 a) hb1 (by first | assumption | (go_keep; done) | (go_simp; done) | (simp; done)) (by first | omega | (simp <;> omega)); have cc1 := cell_keep (p := ⟨w.heap.size, 1, none⟩) (v := .int .i64 b) hb1 (by first | assumption | (go_keep; done) | (go_simp; done) | (simp; done)) (by first | omega | (simp <;> omega)); have cc2 := cell_keep (p := ⟨w.heap.size, 2, none⟩) (v := .int .i64 c) hb1 (by first | assumption | (go_keep; done) | (go_simp; done) | (simp; done)) (by first | omega | (simp <;> omega)); have cc3 := cell_keep (p := ⟨w.heap.size + 1, 0, none⟩) (v := .int .i64 x) hb1 (by first | assumption | (go_keep; done) | (go_simp; done) | (simp; done)) (by first | omega | (simp <;> omega)); have cc4 := cell_keep (p := ⟨w.heap.size + 1, 1, none⟩) (v := .int .i64 y) hb1 (by first | assumption | (go_keep; done) | (go_simp; done) | (simp; done)) (by first | omega | (simp <;> omega)); have cc5 := cell_keep (p := ⟨w.heap.size + 1, 2, none⟩) (v := .int .i64 d) hb1 (by first | assumption | (go_keep; done) | (go_simp; done) | (simp; done)) (by first | omega | (simp <;> omega)); have hS1 : Below w.heap.size w w1 := S_below hb1 (by repeat (first | exact Below.refl _ _ | assumption | refine below_drewN ?_ _ | refine Below.drew ?_ | refine Below.alloc ?_ (by first | omega | (simp <;> omega)) _ | refine Below.setCell ?_ (by first | omega | (simp <;> omega)) _)) (by first | omega | (simp <;> omega)); have hz1 : w.heap.size + 1 + 1 ≤ w1.heap.size := S_size hb1 (by first | omega | (simp <;> omega)); have hqb0 : w.heap.size < w1.heap.size := S_lt hb1 (by first | omega | (simp <;> omega)); have hqb1 : w.heap.size + 1 < w1.heap.size := S_lt hb1 (by first | omega | (simp <;> omega)); clear hb1) | (go_at_call 55; with_reducible refine (iSpotOk_lit' H2.out _ hx1 hx2 hy1 hy2).mono ?_; rintro e w1 ⟨rfl, hb1⟩; have cc0 := cell_keep (p := ⟨w.heap.size, 0, none⟩) (v := .int .i64 a) hb1 (by first | assumption | (go_keep; done) | (go_simp; done) | (simp; done)) (by first | omega | (simp <;> omega)); have cc1 := cell_keep (p := ⟨w.heap.size, 1, none⟩) (v := .int .i64 b) hb1 (by first | assumption | (go_keep; done) | (go_simp; done) | (simp; done)) (by first | omega | (simp <;> omega)); have cc2 := cell_keep (p := ⟨w.heap.size, 2, none⟩) (v := .int .i64 c) hb1 (by first | assumption | (go_keep; done) | (go_simp; done) | (simp; done)) (by first | omega | (simp <;> omega)); have cc3 := cell_keep (p := ⟨w.heap.size + 1, 0, none⟩) (v := .int .i64 x) hb1 (by first | assumption | (go_keep; done) | (go_simp; done) | (simp; done)) (by first | omega | (simp <;> omega)); have cc4 := cell_keep (p := ⟨w.heap.size + 1, 1, none⟩) (v := .int .i64 y) hb1 (by first | assumption | (go_keep; done) | (go_simp; done) | (simp; done)) (by first | omega | (simp <;> omega)); have cc5 := cell_keep (p := ⟨w.heap.size + 1, 2, none⟩) (v := .int .i64 d) hb1 (by first | assumption | (go_keep; done) | (go_simp; done) | (simp; done)) (by first | omega | (simp <;> omega)); have hS1 : Below w.heap.size w w1 := S_below hb1 (by repeat (first | exact Below.refl _ _ | assumption | refine below_drewN ?_ _ | refine Below.drew ?_ | refine Below.alloc ?_ (by first | omega | (simp <;> omega)) _ | refine Below.setCell ?_ (by first | omega | (simp <;> omega)) _)) (by first | omega | (simp <;> omega)); have hz1 : w.heap.size + 1 + 1 ≤ w1.heap.size := S_size hb1 (by first | omega | (simp <;> omega)); have hqb0 : w.heap.size < w1.heap.size := S_lt hb1 (by first | omega | (simp <;> omega)); have hqb1 : w.heap.size + 1 < w1.heap.size := S_lt hb1 (by first | omega | (simp <;> omega)); clear hb1))
      go_ret
      exact ⟨ret_bool HV.out.symm, by assumption⟩
    · have HV := Lib.hid (show holdsV a b c x y d = (sideV a b c x y d != 1) by unfold holdsV sideV sideE; rw [h1, h2]; simp only [Bool.true_and, Bool.and_self, if_true]; exact (sgn_ne_one _).symm)
      have H1 := Lib.hid h1; clear h1
      have H2 := Lib.hid h2; clear h2
      go_enter Try.func41, Try.ntmps41
      go_wp2_with (first | (go_at_call 63; with_reducible refine (iHalfOk_lit H1.out _).mono ?_; rintro e w1 ⟨rfl, hb1⟩; have cc0 := cell_keep (p := ⟨w.heap.size, 0, none⟩) (v := .int .i64 a) hb1 (by first | assumption | (go_keep; done) | (go_simp; done) | (simp; done)) (by first | omega | (simp <;> omega)); have cc1 := cell_keep (p := ⟨w.heap.size, 1, none⟩) (v := .int .i64 b) hb1 (by first | assumption | (go_keep; done) | (go_simp; done) | (simp; done)) (by first | omega | (simp <;> omega)); have cc2 := cell_keep (p := ⟨w.heap.size, 2, none⟩) (v := .int .i64 c) hb1 (by first | assumption | (go_keep; done) | (go_simp; done) | (simp; done)) (by first | omega | (simp <;> omega)); have cc3 := cell_keep (p := ⟨w.heap.size + 1, 0, none⟩) (v := .int .i64 x) hb1 (by first | assumption | (go_keep; done) | (go_simp; done) | (simp; done)) (by first | omega | (simp <;> omega)); have cc4 := cell_keep (p := ⟨w.heap.size + 1, 1, none⟩) (v := .int .i64 y) hb1 (by first | assumption | (go_keep; done) | (go_simp; done) | (simp; done)) (by first | omega | (simp <;> omega)); have cc5 := cell_keep (p := ⟨w.heap.size + 1, 2, none⟩) (v := .int .i64 d) hb1 (by first | assumption | (go_keep; done) | (go_simp; done) | (simp; done)) (by first | omega | (simp <;> omega)); have hS1 : Below w.heap.size w w1 := S_below hb1 (by repeat (first | exact Below.refl _ _ | assumption | refine below_drewN ?_ _ | refine Below.drew ?_ | refine Below.alloc ?_ (by first | omega | (simp <;> omega)) _ | refine Below.setCell ?_ (by first | omega | (simp <;> omega)) _)) (by first | omega | (simp <;> omega)); have hz1 : w.heap.size + 1 + 1 ≤ w1.heap.size := S_size hb1 (by first | omega | (simp <;> omega)); have hqb0 : w.heap.size < w1.heap.size := S_lt hb1 (by first | omega | (simp <;> omega)); have hqb1 : w.heap.size + 1 < w1.heap.size := S_lt hb1 (by first | omega | (simp <;> omega)); clear hb1) | (go_at_call 55; with_reducible refine (iSpotOk_lit' H2.out _ hx1 hx2 hy1 hy2).mono ?_; rintro e w1 ⟨rfl, hb1⟩; have cc0 := cell_keep (p := ⟨w.heap.size, 0, none⟩) (v := .int .i64 a) hb1 (by first | assumption | (go_keep; done) | (go_simp; done) | (simp; done)) (by first | omega | (simp <;> omega)); have cc1 := cell_keep (p := ⟨w.heap.size, 1, none⟩) (v := .int .i64 b) hb1 (by first | assumption | (go_keep; done) | (go_simp; done) | (simp; done)) (by first | omega | (simp <;> omega)); have cc2 := cell_keep (p := ⟨w.heap.size, 2, none⟩) (v := .int .i64 c) hb1 (by first | assumption | (go_keep; done) | (go_simp; done) | (simp; done)) (by first | omega | (simp <;> omega)); have cc3 := cell_keep (p := ⟨w.heap.size + 1, 0, none⟩) (v := .int .i64 x) hb1 (by first | assumption | (go_keep; done) | (go_simp; done) | (simp; done)) (by first | omega | (simp <;> omega)); have cc4 := cell_keep (p := ⟨w.heap.size + 1, 1, none⟩) (v := .int .i64 y) hb1 (by first | assumption | (go_keep; done) | (go_simp; done) | (simp; done)) (by first | omega | (simp <;> omega)); have cc5 := cell_keep (p := ⟨w.heap.size + 1, 2, none⟩) (v := .int .i64 d) hb1 (by first | assumption | (go_keep; done) | (go_simp; done) | (simp; done)) (by first | omega | (simp <;> omega)); have hS1 : Below w.heap.size w w1 := S_below hb1 (by repeat (first | exact Below.refl _ _ | assumption | refine below_drewN ?_ _ | refine Below.drew ?_ | refine Below.alloc ?_ (by first | omega | (simp <;> omega)) _ | refine Below.setCell ?_ (by first | omega | (simp <;> omega)) _)) (by first | omega | (simp <;> omega)); have hz1 : w.heap.size + 1 + 1 ≤ w1.heap.size := S_size hb1 (by first | omega | (simp <;> omega)); have hqb0 : w.heap.size < w1.heap.size := S_lt hb1 (by first | omega | (simp <;> omega)); have hqb1 : w.heap.size + 1 < w1.heap.size := S_lt hb1 (by first | omega | (simp <;> omega)); clear hb1) | (go_at_call 42; with_reducible refine (iSideOf_any _ _ _ _ _ _ _ hx1 hx2 hy1 hy2).mono ?_; rintro e w1 ⟨rfl, hb1⟩; have cc0 := cell_keep (p := ⟨w.heap.size, 0, none⟩) (v := .int .i64 a) hb1 (by first | assumption | (go_keep; done) | (go_simp; done) | (simp; done)) (by first | omega | (simp <;> omega)); have cc1 := cell_keep (p := ⟨w.heap.size, 1, none⟩) (v := .int .i64 b) hb1 (by first | assumption | (go_keep; done) | (go_simp; done) | (simp; done)) (by first | omega | (simp <;> omega)); have cc2 := cell_keep (p := ⟨w.heap.size, 2, none⟩) (v := .int .i64 c) hb1 (by first | assumption | (go_keep; done) | (go_simp; done) | (simp; done)) (by first | omega | (simp <;> omega)); have cc3 := cell_keep (p := ⟨w.heap.size + 1, 0, none⟩) (v := .int .i64 x) hb1 (by first | assumption | (go_keep; done) | (go_simp; done) | (simp; done)) (by first | omega | (simp <;> omega)); have cc4 := cell_keep (p := ⟨w.heap.size + 1, 1, none⟩) (v := .int .i64 y) hb1 (by first | assumption | (go_keep; done) | (go_simp; done) | (simp; done)) (by first | omega | (simp <;> omega)); have cc5 := cell_keep (p := ⟨w.heap.size + 1, 2, none⟩) (v := .int .i64 d) hb1 (by first | assumption | (go_keep; done) | (go_simp; done) | (simp; done)) (by first | omega | (simp <;> omega)); have hS1 : Below w.heap.size w w1 := S_below hb1 (by repeat (first | exact Below.refl _ _ | assumption | refine below_drewN ?_ _ | refine Below.drew ?_ | refine Below.alloc ?_ (by first | omega | (simp <;> omega)) _ | refine Below.setCell ?_ (by first | omega | (simp <;> omega)) _)) (by first | omega | (simp <;> omega)); have hz1 : w.heap.size + 1 + 1 ≤ w1.heap.size := S_size hb1 (by first | omega | (simp <;> omega)); have hqb0 : w.heap.size < w1.heap.size := S_lt hb1 (by first | omega | (simp <;> omega)); have hqb1 : w.heap.size + 1 < w1.heap.size := S_lt hb1 (by first | omega | (simp <;> omega)); clear hb1))
      go_ret
      exact ⟨ret_bool HV.out.symm, by assumption⟩

/-- OtherSide's result. -/
def othV (a b c t : Int) : Int := if halfOkV a b c then -t else 0

theorem ret_agg3 {k : IntKind} {a b c a' b' c' : Int} (h1 : a = a') (h2 : b = b') (h3 : c = c') : Ending.returned (.agg #[.int k a, .int k b, .int k c]) = .returned (.agg #[.int k a', .int k b', .int k c']) := by rw [h1, h2, h3]

end Go.Proofs.Ythdaoadleeelnaa
