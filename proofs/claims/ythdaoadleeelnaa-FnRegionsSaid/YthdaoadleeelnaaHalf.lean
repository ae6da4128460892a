/- Contracts of HalfOk, of the program and of the reference. -/
import Derived.Test.YthdaoadleeelnaaSpot
import Derived.Test.YthdaoadleeelnaaPlain
namespace Go.Proofs.Ythdaoadleeelnaa
open Go.ChangeShapes Go.WideShapes Go.ChangeAt Go.RowKit
attribute [local go_sem ↓] Go.wp_at_zero Go.wp_at_succ
set_option linter.unusedVariables false

/-- HalfOk's result. -/
def halfOkV (a b c : Int) : Bool := inB a (-50000) 50000 && (inB b (-50000) 50000 && (inB c (-100000000) 100000000 && (!(a == 0 && b == 0) && decide (gcdL [a, b, c] = 1))))

theorem halfOkV_bounds {a b c : Int} (h : halfOkV a b c = true) : (-50000 ≤ a ∧ a ≤ 50000) ∧ (-50000 ≤ b ∧ b ≤ 50000) ∧ (-100000000 ≤ c ∧ c ≤ 100000000) := by
  unfold halfOkV inB at h
  simp at h
  omega

set_option maxHeartbeats 400000 in
set_option maxRecDepth 100000 in
theorem isCoef_any (n : Int) (w : World) :
    Calls Try.prog 78 #[.int .i64 n] w fun e w' => e = .returned (.bool (inB n (-50000) 50000)) ∧ w = w' := by
  go_enter Try.func78, Try.ntmps78
  go_wp2_with (first | (go_at_call 72; with_reducible refine (inRange_any _ _ _ _).mono ?_; rintro e w1 ⟨rfl, rfl⟩))
  go_ret
  exact ⟨rfl, rfl⟩

theorem isCoef_lit {n : Int} {v : Bool} (h : inB n (-50000) 50000 = v) (w : World) :
    Calls Try.prog 78 #[.int .i64 n] w fun e w' => e = .returned (.bool v) ∧ w = w' := by
  rw [← h]; exact isCoef_any n w

theorem inRange_lit {n lo hi : Int} {v : Bool} (h : inB n lo hi = v) (w : World) :
    Calls Try.prog 72 #[.int .i64 n, .int .i64 lo, .int .i64 hi] w fun e w' => e = .returned (.bool v) ∧ w = w' := by
  rw [← h]; exact inRange_any n lo hi w

set_option maxHeartbeats 1000000 in
set_option maxRecDepth 100000 in
theorem iHalfOk_any (a b c : Int) (w : World) :
    Calls Try.prog 63 #[.agg #[.int .i64 a, .int .i64 b, .int .i64 c]] w fun e w' => e = .returned (.bool (halfOkV a b c)) ∧ Below w.heap.size w w' := by
  cases h1 : inB a (-50000) 50000
  · have HV := Lib.hid (show halfOkV a b c = false by unfold halfOkV; rw [h1]; rfl)
    have H1 := Lib.hid h1; clear h1
    go_enter Try.func63, Try.ntmps63
    go_wp2_with (first | (go_at_call 78; with_reducible refine (isCoef_lit H1.out _).mono ?_; rintro e w1 ⟨rfl, rfl⟩))
    go_ret
    exact ⟨ret_bool HV.out.symm, (by repeat (first | exact Below.refl _ _ | assumption | refine below_drewN ?_ _ | refine Below.drew ?_ | refine Below.alloc ?_ (by first | omega | (simp <;> omega)) _ | refine Below.setCell ?_ (by first | omega | (simp <;> omega)) _))⟩
  · cases h2 : inB b (-50000) 50000
    · have HV := Lib.hid (show halfOkV a b c = false by unfold halfOkV; rw [h1, h2]; rfl)
      have H1 := Lib.hid h1; clear h1
      have H2 := Lib.hid h2; clear h2
      go_enter Try.func63, Try.ntmps63
      go_wp2_with (first | (go_at_call 78; with_reducible refine (isCoef_lit H1.out _).mono ?_; rintro e w1 ⟨rfl, rfl⟩) | (go_at_call 78; with_reducible refine (isCoef_lit H2.out _).mono ?_; rintro e w1 ⟨rfl, rfl⟩))
      go_ret
      exact ⟨ret_bool HV.out.symm, (by repeat (first | exact Below.refl _ _ | assumption | refine below_drewN ?_ _ | refine Below.drew ?_ | refine Below.alloc ?_ (by first | omega | (simp <;> omega)) _ | refine Below.setCell ?_ (by first | omega | (simp <;> omega)) _))⟩
    · cases h3 : inB c (-100000000) 100000000
      · have HV := Lib.hid (show halfOkV a b c = false by unfold halfOkV; rw [h1, h2, h3]; rfl)
        have H1 := Lib.hid h1; clear h1
        have H2 := Lib.hid h2; clear h2
        have H3 := Lib.hid h3; clear h3
        go_enter Try.func63, Try.ntmps63
        go_wp2_with (first | (go_at_call 78; with_reducible refine (isCoef_lit H1.out _).mono ?_; rintro e w1 ⟨rfl, rfl⟩) | (go_at_call 78; with_reducible refine (isCoef_lit H2.out _).mono ?_; rintro e w1 ⟨rfl, rfl⟩) | (go_at_call 72; with_reducible refine (inRange_lit H3.out _).mono ?_; rintro e w1 ⟨rfl, rfl⟩))
        go_ret
        exact ⟨ret_bool HV.out.symm, (by repeat (first | exact Below.refl _ _ | assumption | refine below_drewN ?_ _ | refine Below.drew ?_ | refine Below.alloc ?_ (by first | omega | (simp <;> omega)) _ | refine Below.setCell ?_ (by first | omega | (simp <;> omega)) _))⟩
      · have ba := (inB_iff _ _ _).1 h1
        have bb := (inB_iff _ _ _).1 h2
        have bc := (inB_iff _ _ _).1 h3
        have Hz := Lib.hid (show ∀ z ∈ [a, b, c], -9223372036854775808 ≤ z ∧ z ≤ 9223372036854775807 by intro z hz; simp at hz; omega)
        cases h4 : (a == 0)
        · have HV := Lib.hid (show halfOkV a b c = decide (gcdL [a, b, c] = 1) by unfold halfOkV; rw [h1, h2, h3, h4]; rfl)
          have H1 := Lib.hid h1; clear h1
          have H2 := Lib.hid h2; clear h2
          have H3 := Lib.hid h3; clear h3
          go_enter Try.func63, Try.ntmps63
          go_wp2_with (first | (go_at_call 78; with_reducible refine (isCoef_lit H1.out _).mono ?_; rintro e w1 ⟨rfl, rfl⟩) | (go_at_call 78; with_reducible refine (isCoef_lit H2.out _).mono ?_; rintro e w1 ⟨rfl, rfl⟩) | (go_at_call 72; with_reducible refine (inRange_lit H3.out _).mono ?_; rintro e w1 ⟨rfl, rfl⟩))
          refine (gcdAll_any [a, b, c] _ 3 _ (by simp) Hz.out ?_).mono ?_
          · intro k h
            match k, h with
            | 0, _ => simp
            | 1, _ => simp
            | 2, _ => simp
          rintro e w' ⟨rfl, nd, rfl⟩
          generalize gcdL [a, b, c] = g at *
          go_wp2_with fail
          go_ret
          refine ⟨ret_bool ?_, (by repeat (first | exact Below.refl _ _ | assumption | refine below_drewN ?_ _ | refine Below.drew ?_ | refine Below.alloc ?_ (by first | omega | (simp <;> omega)) _ | refine Below.setCell ?_ (by first | omega | (simp <;> omega)) _))⟩
          rw [HV.out, Bool.eq_iff_iff]; simp; omega
        · cases h5 : (b == 0)
          · have HV := Lib.hid (show halfOkV a b c = decide (gcdL [a, b, c] = 1) by unfold halfOkV; rw [h1, h2, h3, h4, h5]; rfl)
            have H1 := Lib.hid h1; clear h1
            have H2 := Lib.hid h2; clear h2
            have H3 := Lib.hid h3; clear h3
            go_enter Try.func63, Try.ntmps63
            go_wp2_with (first | (go_at_call 78; with_reducible refine (isCoef_lit H1.out _).mono ?_; rintro e w1 ⟨rfl, rfl⟩) | (go_at_call 78; with_reducible refine (isCoef_lit H2.out _).mono ?_; rintro e w1 ⟨rfl, rfl⟩) | (go_at_call 72; with_reducible refine (inRange_lit H3.out _).mono ?_; rintro e w1 ⟨rfl, rfl⟩))
            refine (gcdAll_any [a, b, c] _ 3 _ (by simp) Hz.out ?_).mono ?_
            · intro k h
              match k, h with
              | 0, _ => simp
              | 1, _ => simp
              | 2, _ => simp
            rintro e w' ⟨rfl, nd, rfl⟩
            generalize gcdL [a, b, c] = g at *
            go_wp2_with fail
            go_ret
            refine ⟨ret_bool ?_, (by repeat (first | exact Below.refl _ _ | assumption | refine below_drewN ?_ _ | refine Below.drew ?_ | refine Below.alloc ?_ (by first | omega | (simp <;> omega)) _ | refine Below.setCell ?_ (by first | omega | (simp <;> omega)) _))⟩
            rw [HV.out, Bool.eq_iff_iff]; simp; omega
          · have HV := Lib.hid (show halfOkV a b c = false by unfold halfOkV; rw [h1, h2, h3, h4, h5]; rfl)
            have H1 := Lib.hid h1; clear h1
            have H2 := Lib.hid h2; clear h2
            have H3 := Lib.hid h3; clear h3
            go_enter Try.func63, Try.ntmps63
            go_wp2_with (first | (go_at_call 78; with_reducible refine (isCoef_lit H1.out _).mono ?_; rintro e w1 ⟨rfl, rfl⟩) | (go_at_call 78; with_reducible refine (isCoef_lit H2.out _).mono ?_; rintro e w1 ⟨rfl, rfl⟩) | (go_at_call 72; with_reducible refine (inRange_lit H3.out _).mono ?_; rintro e w1 ⟨rfl, rfl⟩))
            go_ret
            exact ⟨ret_bool HV.out.symm, (by repeat (first | exact Below.refl _ _ | assumption | refine below_drewN ?_ _ | refine Below.drew ?_ | refine Below.alloc ?_ (by first | omega | (simp <;> omega)) _ | refine Below.setCell ?_ (by first | omega | (simp <;> omega)) _))⟩

theorem sGcdOf_lit {a b g : Int} (h : gcdV a b = g) (w : World) (h1 : -9223372036854775808 ≤ a) (h2 : a ≤ 9223372036854775807) (h3 : -9223372036854775808 ≤ b) (h4 : b ≤ 9223372036854775807) :
    Calls Try.prog 67 #[.int .i64 a, .int .i64 b] w fun e w' => e = .returned (.int .i64 g) ∧ ∃ n, w' = w.drewN n := by
  rw [← h]; exact sGcdOf_any a b w h1 h2 h3 h4

set_option maxHeartbeats 1000000 in
set_option maxRecDepth 100000 in
theorem sHalfOk_any (a b c : Int) (w : World) :
    Calls Try.prog 48 #[.agg #[.int .i64 a, .int .i64 b, .int .i64 c]] w fun e w' => e = .returned (.bool (halfOkV a b c)) ∧ Below w.heap.size w w' := by
  cases h1 : inB a (-50000) 50000
  · have HV := Lib.hid (show halfOkV a b c = false by unfold halfOkV; rw [h1]; rfl)
    go_enter Try.func48, Try.ntmps48
    go_wp2_with fail
    go_quiet (first | (go_at_call 45; first | (with_reducible exact Calls.quiet_of_same (l01In_q h1 _))))
    go_wp2_with fail
    go_ret
    exact ⟨ret_bool HV.out.symm, (by repeat (first | exact Below.refl _ _ | assumption | refine below_drewN ?_ _ | refine Below.drew ?_ | refine Below.alloc ?_ (by first | omega | (simp <;> omega)) _ | refine Below.setCell ?_ (by first | omega | (simp <;> omega)) _))⟩
  · cases h2 : inB b (-50000) 50000
    · have HV := Lib.hid (show halfOkV a b c = false by unfold halfOkV; rw [h1, h2]; rfl)
      go_enter Try.func48, Try.ntmps48
      go_wp2_with fail
      go_quiet (first | (go_at_call 45; first | (with_reducible exact Calls.quiet_of_same (l01In_q h1 _)) | (with_reducible exact Calls.quiet_of_same (l01In_q h2 _))))
      go_wp2_with fail
      go_ret
      exact ⟨ret_bool HV.out.symm, (by repeat (first | exact Below.refl _ _ | assumption | refine below_drewN ?_ _ | refine Below.drew ?_ | refine Below.alloc ?_ (by first | omega | (simp <;> omega)) _ | refine Below.setCell ?_ (by first | omega | (simp <;> omega)) _))⟩
    · have ba := (inB_iff _ _ _).1 h1
      have bb := (inB_iff _ _ _).1 h2
      by_cases hab : a = 0 ∧ b = 0
      · have ha : (a == 0) = true := by rw [beq_iff_eq]; exact hab.1
        have hb : (b == 0) = true := by rw [beq_iff_eq]; exact hab.2
        have ha' : (a != 0) = false := by rw [bne_eq_false_iff_eq]; exact hab.1
        have hb' : (b != 0) = false := by rw [bne_eq_false_iff_eq]; exact hab.2
        have HV := Lib.hid (show halfOkV a b c = false by unfold halfOkV; rw [h1, h2, ha, hb]; simp)
        clear hab
        go_enter Try.func48, Try.ntmps48
        go_wp2_with fail
        go_quiet (first | (go_at_call 45; first | (with_reducible exact Calls.quiet_of_same (l01In_q h1 _)) | (with_reducible exact Calls.quiet_of_same (l01In_q h2 _))))
        go_wp2_with fail
        go_ret
        exact ⟨ret_bool HV.out.symm, (by repeat (first | exact Below.refl _ _ | assumption | refine below_drewN ?_ _ | refine Below.drew ?_ | refine Below.alloc ?_ (by first | omega | (simp <;> omega)) _ | refine Below.setCell ?_ (by first | omega | (simp <;> omega)) _))⟩
      · have hn : (!(a == 0 && b == 0)) = true := by simp; omega
        cases h3 : inB c (-100000000) 100000000
        · have HV := Lib.hid (show halfOkV a b c = false by unfold halfOkV; rw [h1, h2, h3]; rfl)
          clear hn
          cases ha : (a != 0)
          · have hb : (b != 0) = true := by rw [bne_iff_ne]; rw [bne_eq_false_iff_eq] at ha; omega
            clear hab
            go_enter Try.func48, Try.ntmps48
            go_wp2_with fail
            go_quiet (first | (go_at_call 45; first | (with_reducible exact Calls.quiet_of_same (l01In_q h1 _)) | (with_reducible exact Calls.quiet_of_same (l01In_q h2 _)) | (with_reducible exact Calls.quiet_of_same (l01In_q h3 _))))
            go_wp2_with fail
            go_ret
            exact ⟨ret_bool HV.out.symm, (by repeat (first | exact Below.refl _ _ | assumption | refine below_drewN ?_ _ | refine Below.drew ?_ | refine Below.alloc ?_ (by first | omega | (simp <;> omega)) _ | refine Below.setCell ?_ (by first | omega | (simp <;> omega)) _))⟩
          · clear hab
            go_enter Try.func48, Try.ntmps48
            go_wp2_with fail
            go_quiet (first | (go_at_call 45; first | (with_reducible exact Calls.quiet_of_same (l01In_q h1 _)) | (with_reducible exact Calls.quiet_of_same (l01In_q h2 _)) | (with_reducible exact Calls.quiet_of_same (l01In_q h3 _))))
            go_wp2_with fail
            go_ret
            exact ⟨ret_bool HV.out.symm, (by repeat (first | exact Below.refl _ _ | assumption | refine below_drewN ?_ _ | refine Below.drew ?_ | refine Below.alloc ?_ (by first | omega | (simp <;> omega)) _ | refine Below.setCell ?_ (by first | omega | (simp <;> omega)) _))⟩
        · have bc := (inB_iff _ _ _).1 h3
          have HV := Lib.hid (show halfOkV a b c = decide (gcdL [a, b, c] = 1) by unfold halfOkV; rw [h1, h2, h3, hn]; rfl)
          clear hn
          have lx : leastB a = false := by unfold leastB; simp; omega
          have ly : leastB b = false := by unfold leastB; simp; omega
          have ld : leastB c = false := by unfold leastB; simp; omega
          have g1 := gcd_lt a b (by omega) (by omega) (by omega) (by omega) lx ly
          have e : gcdV a b = (Int.gcd a b : Int) := by unfold gcdV; rw [lx, ly]; rfl
          have lg : leastB (gcdV a b) = false := by rw [e]; unfold leastB; simp <;> omega
          have Hgg := Lib.hid (gcdL3_gcdV a b c lx ly lg ld)
          have gb1 : -9223372036854775808 ≤ gcdV a b := by rw [e]; omega
          have gb2 : gcdV a b ≤ 9223372036854775807 := by rw [e]; omega
          clear lx ly ld e lg g1
          generalize hxy : gcdV a b = gxy at *
          have Hxy := Lib.hid hxy; clear hxy
          generalize hz : gcdV gxy c = gz at *
          have Hz := Lib.hid hz; clear hz
          cases ha : (a != 0)
          · have hb : (b != 0) = true := by rw [bne_iff_ne]; rw [bne_eq_false_iff_eq] at ha; omega
            clear hab
            go_enter Try.func48, Try.ntmps48
            go_wp2_with fail
            go_quiet (first | (go_at_call 45; first | (with_reducible exact Calls.quiet_of_same (l01In_q h1 _)) | (with_reducible exact Calls.quiet_of_same (l01In_q h2 _)) | (with_reducible exact Calls.quiet_of_same (l01In_q h3 _))) | (go_at_call 67; first | (with_reducible exact Calls.quiet_of (sGcdOf_lit Hxy.out _ (by omega) (by omega) (by omega) (by omega))) | (with_reducible exact Calls.quiet_of (sGcdOf_lit Hz.out _ gb1 gb2 (by omega) (by omega)))))
            go_wp2_with fail
            go_ret
            refine ⟨ret_bool ?_, (by repeat (first | exact Below.refl _ _ | assumption | refine below_drewN ?_ _ | refine Below.drew ?_ | refine Below.alloc ?_ (by first | omega | (simp <;> omega)) _ | refine Below.setCell ?_ (by first | omega | (simp <;> omega)) _))⟩
            have hgg := Hgg.out
            rw [HV.out, Bool.eq_iff_iff]; simp; omega
          · clear hab
            go_enter Try.func48, Try.ntmps48
            go_wp2_with fail
            go_quiet (first | (go_at_call 45; first | (with_reducible exact Calls.quiet_of_same (l01In_q h1 _)) | (with_reducible exact Calls.quiet_of_same (l01In_q h2 _)) | (with_reducible exact Calls.quiet_of_same (l01In_q h3 _))) | (go_at_call 67; first | (with_reducible exact Calls.quiet_of (sGcdOf_lit Hxy.out _ (by omega) (by omega) (by omega) (by omega))) | (with_reducible exact Calls.quiet_of (sGcdOf_lit Hz.out _ gb1 gb2 (by omega) (by omega)))))
            go_wp2_with fail
            go_ret
            refine ⟨ret_bool ?_, (by repeat (first | exact Below.refl _ _ | assumption | refine below_drewN ?_ _ | refine Below.drew ?_ | refine Below.alloc ?_ (by first | omega | (simp <;> omega)) _ | refine Below.setCell ?_ (by first | omega | (simp <;> omega)) _))⟩
            have hgg := Hgg.out
            rw [HV.out, Bool.eq_iff_iff]; simp; omega

end Go.Proofs.Ythdaoadleeelnaa
