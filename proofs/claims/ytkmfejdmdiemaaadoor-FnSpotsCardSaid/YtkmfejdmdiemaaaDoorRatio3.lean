/- Contracts of RatioCmp, RatioFloor, RatioCeil, RatioMin, RatioMax, of the program and of the reference. -/
import Derived.Test.YtkmfejdmdiemaaaDoorCmp
namespace Go.Proofs.YtkmfejdmdiemaaaDoor
open Go.ChangeShapes Go.WideShapes Go.ChangeAt Go.RowKit
attribute [local go_sem ↓] Go.wp_at_zero Go.wp_at_succ
set_option linter.unusedVariables false

/-- RatioCmp's result. -/
def cmpV (a b c d : Int) : Int := if ratioOkV a b && ratioOkV c d then cmpS a b c d else 0

theorem ratioOkV_bounds {n d : Int} (h : ratioOkV n d = true) : (1 ≤ d ∧ d ≤ 1000000000000000) ∧ (-1000000000000000000 ≤ n ∧ n ≤ 1000000000000000000) := by
  unfold ratioOkV inB at h
  simp at h
  omega

set_option maxHeartbeats 1000000 in
set_option maxRecDepth 100000 in
theorem iRatioCmp_any (a b c d : Int) (w : World) (ha1 : -9223372036854775808 ≤ a) (ha2 : a ≤ 9223372036854775807) (hc1 : -9223372036854775808 ≤ c) (hc2 : c ≤ 9223372036854775807) :
    Calls Tryd.prog 23 #[.agg #[.int .i64 a, .int .i64 b], .agg #[.int .i64 c, .int .i64 d]] w fun e w' => e = .returned (.int .i64 (cmpV a b c d)) ∧ Below w.heap.size w w' := by
  cases h1 : ratioOkV a b
  · have HV := Lib.hid (show cmpV a b c d = 0 by unfold cmpV; rw [h1]; rfl)
    have H1 := Lib.hid h1; clear h1
    go_enter Tryd.func23, Tryd.ntmps23
    go_wp2_with (first | (go_at_call 22; with_reducible refine (iRatioOk_lit H1.out _ ha1 ha2).mono ?_; rintro e w1 ⟨rfl, hb1⟩; have cc0 := cell_keep (p := ⟨w.heap.size, 0, none⟩) (v := .int .i64 a) hb1 (by first | assumption | (go_keep; done) | (go_simp; done) | (simp; done)) (by first | omega | (simp <;> omega)); have cc1 := cell_keep (p := ⟨w.heap.size, 1, none⟩) (v := .int .i64 b) hb1 (by first | assumption | (go_keep; done) | (go_simp; done) | (simp; done)) (by first | omega | (simp <;> omega)); have cc2 := cell_keep (p := ⟨w.heap.size + 1, 0, none⟩) (v := .int .i64 c) hb1 (by first | assumption | (go_keep; done) | (go_simp; done) | (simp; done)) (by first | omega | (simp <;> omega)); have cc3 := cell_keep (p := ⟨w.heap.size + 1, 1, none⟩) (v := .int .i64 d) hb1 (by first | assumption | (go_keep; done) | (go_simp; done) | (simp; done)) (by first | omega | (simp <;> omega)); have hS1 : Below w.heap.size w w1 := S_below hb1 (by repeat (first | exact Below.refl _ _ | assumption | refine below_drewN ?_ _ | refine Below.drew ?_ | refine Below.alloc ?_ (by first | omega | (simp <;> omega)) _ | refine Below.setCell ?_ (by first | omega | (simp <;> omega)) _)) (by first | omega | (simp <;> omega)); have hz1 : w.heap.size + 1 + 1 ≤ w1.heap.size := S_size hb1 (by first | omega | (simp <;> omega)); have hqb0 : w.heap.size < w1.heap.size := S_lt hb1 (by first | omega | (simp <;> omega)); have hqb1 : w.heap.size + 1 < w1.heap.size := S_lt hb1 (by first | omega | (simp <;> omega)); clear hb1))
    go_ret
    exact ⟨ret_int HV.out.symm, by assumption⟩
  · cases h2 : ratioOkV c d
    · have HV := Lib.hid (show cmpV a b c d = 0 by unfold cmpV; rw [h1, h2]; rfl)
      have H1 := Lib.hid h1; clear h1
      have H2 := Lib.hid h2; clear h2
      go_enter Tryd.func23, Tryd.ntmps23
      go_wp2_with (first | (go_at_call 22; with_reducible refine (iRatioOk_lit H1.out _ ha1 ha2).mono ?_; rintro e w1 ⟨rfl, hb1⟩; have cc0 := cell_keep (p := ⟨w.heap.size, 0, none⟩) (v := .int .i64 a) hb1 (by first | assumption | (go_keep; done) | (go_simp; done) | (simp; done)) (by first | omega | (simp <;> omega)); have cc1 := cell_keep (p := ⟨w.heap.size, 1, none⟩) (v := .int .i64 b) hb1 (by first | assumption | (go_keep; done) | (go_simp; done) | (simp; done)) (by first | omega | (simp <;> omega)); have cc2 := cell_keep (p := ⟨w.heap.size + 1, 0, none⟩) (v := .int .i64 c) hb1 (by first | assumption | (go_keep; done) | (go_simp; done) | (simp; done)) (by first | omega | (simp <;> omega)); have cc3 := cell_keep (p := ⟨w.heap.size + 1, 1, none⟩) (v := .int .i64 d) hb1 (by first | assumption | (go_keep; done) | (go_simp; done) | (simp; done)) (by first | omega | (simp <;> omega)); have hS1 : Below w.heap.size w w1 := S_below hb1 (by repeat (first | exact Below.refl _ _ | assumption | refine below_drewN ?_ _ | refine Below.drew ?_ | refine Below.alloc ?_ (by first | omega | (simp <;> omega)) _ | refine Below.setCell ?_ (by first | omega | (simp <;> omega)) _)) (by first | omega | (simp <;> omega)); have hz1 : w.heap.size + 1 + 1 ≤ w1.heap.size := S_size hb1 (by first | omega | (simp <;> omega)); have hqb0 : w.heap.size < w1.heap.size := S_lt hb1 (by first | omega | (simp <;> omega)); have hqb1 : w.heap.size + 1 < w1.heap.size := S_lt hb1 (by first | omega | (simp <;> omega)); clear hb1) | (go_at_call 22; with_reducible refine (iRatioOk_lit H2.out _ hc1 hc2).mono ?_; rintro e w1 ⟨rfl, hb1⟩; have cc0 := cell_keep (p := ⟨w.heap.size, 0, none⟩) (v := .int .i64 a) hb1 (by first | assumption | (go_keep; done) | (go_simp; done) | (simp; done)) (by first | omega | (simp <;> omega)); have cc1 := cell_keep (p := ⟨w.heap.size, 1, none⟩) (v := .int .i64 b) hb1 (by first | assumption | (go_keep; done) | (go_simp; done) | (simp; done)) (by first | omega | (simp <;> omega)); have cc2 := cell_keep (p := ⟨w.heap.size + 1, 0, none⟩) (v := .int .i64 c) hb1 (by first | assumption | (go_keep; done) | (go_simp; done) | (simp; done)) (by first | omega | (simp <;> omega)); have cc3 := cell_keep (p := ⟨w.heap.size + 1, 1, none⟩) (v := .int .i64 d) hb1 (by first | assumption | (go_keep; done) | (go_simp; done) | (simp; done)) (by first | omega | (simp <;> omega)); have hS1 : Below w.heap.size w w1 := S_below hb1 (by repeat (first | exact Below.refl _ _ | assumption | refine below_drewN ?_ _ | refine Below.drew ?_ | refine Below.alloc ?_ (by first | omega | (simp <;> omega)) _ | refine Below.setCell ?_ (by first | omega | (simp <;> omega)) _)) (by first | omega | (simp <;> omega)); have hz1 : w.heap.size + 1 + 1 ≤ w1.heap.size := S_size hb1 (by first | omega | (simp <;> omega)); have hqb0 : w.heap.size < w1.heap.size := S_lt hb1 (by first | omega | (simp <;> omega)); have hqb1 : w.heap.size + 1 < w1.heap.size := S_lt hb1 (by first | omega | (simp <;> omega)); clear hb1))
      go_ret
      exact ⟨ret_int HV.out.symm, by assumption⟩
    · have HV := Lib.hid (show cmpV a b c d = cmpS a b c d by unfold cmpV; rw [h1, h2]; rfl)
      have hb := (ratioOkV_bounds h1).1
      have hd := (ratioOkV_bounds h2).1
      have H1 := Lib.hid h1; clear h1
      have H2 := Lib.hid h2; clear h2
      go_enter Tryd.func23, Tryd.ntmps23
      go_wp2_with (first | (go_at_call 22; with_reducible refine (iRatioOk_lit H1.out _ ha1 ha2).mono ?_; rintro e w1 ⟨rfl, hb1⟩; have cc0 := cell_keep (p := ⟨w.heap.size, 0, none⟩) (v := .int .i64 a) hb1 (by first | assumption | (go_keep; done) | (go_simp; done) | (simp; done)) (by first | omega | (simp <;> omega)); have cc1 := cell_keep (p := ⟨w.heap.size, 1, none⟩) (v := .int .i64 b) hb1 (by first | assumption | (go_keep; done) | (go_simp; done) | (simp; done)) (by first | omega | (simp <;> omega)); have cc2 := cell_keep (p := ⟨w.heap.size + 1, 0, none⟩) (v := .int .i64 c) hb1 (by first | assumption | (go_keep; done) | (go_simp; done) | (simp; done)) (by first | omega | (simp <;> omega)); have cc3 := cell_keep (p := ⟨w.heap.size + 1, 1, none⟩) (v := .int .i64 d) hb1 (by first | assumption | (go_keep; done) | (go_simp; done) | (simp; done)) (by first | omega | (simp <;> omega)); have hS1 : Below w.heap.size w w1 := S_below hb1 (by repeat (first | exact Below.refl _ _ | assumption | refine below_drewN ?_ _ | refine Below.drew ?_ | refine Below.alloc ?_ (by first | omega | (simp <;> omega)) _ | refine Below.setCell ?_ (by first | omega | (simp <;> omega)) _)) (by first | omega | (simp <;> omega)); have hz1 : w.heap.size + 1 + 1 ≤ w1.heap.size := S_size hb1 (by first | omega | (simp <;> omega)); have hqb0 : w.heap.size < w1.heap.size := S_lt hb1 (by first | omega | (simp <;> omega)); have hqb1 : w.heap.size + 1 < w1.heap.size := S_lt hb1 (by first | omega | (simp <;> omega)); clear hb1) | (go_at_call 22; with_reducible refine (iRatioOk_lit H2.out _ hc1 hc2).mono ?_; rintro e w1 ⟨rfl, hb1⟩; have cc0 := cell_keep (p := ⟨w.heap.size, 0, none⟩) (v := .int .i64 a) hb1 (by first | assumption | (go_keep; done) | (go_simp; done) | (simp; done)) (by first | omega | (simp <;> omega)); have cc1 := cell_keep (p := ⟨w.heap.size, 1, none⟩) (v := .int .i64 b) hb1 (by first | assumption | (go_keep; done) | (go_simp; done) | (simp; done)) (by first | omega | (simp <;> omega)); have cc2 := cell_keep (p := ⟨w.heap.size + 1, 0, none⟩) (v := .int .i64 c) hb1 (by first | assumption | (go_keep; done) | (go_simp; done) | (simp; done)) (by first | omega | (simp <;> omega)); have cc3 := cell_keep (p := ⟨w.heap.size + 1, 1, none⟩) (v := .int .i64 d) hb1 (by first | assumption | (go_keep; done) | (go_simp; done) | (simp; done)) (by first | omega | (simp <;> omega)); have hS1 : Below w.heap.size w w1 := S_below hb1 (by repeat (first | exact Below.refl _ _ | assumption | refine below_drewN ?_ _ | refine Below.drew ?_ | refine Below.alloc ?_ (by first | omega | (simp <;> omega)) _ | refine Below.setCell ?_ (by first | omega | (simp <;> omega)) _)) (by first | omega | (simp <;> omega)); have hz1 : w.heap.size + 1 + 1 ≤ w1.heap.size := S_size hb1 (by first | omega | (simp <;> omega)); have hqb0 : w.heap.size < w1.heap.size := S_lt hb1 (by first | omega | (simp <;> omega)); have hqb1 : w.heap.size + 1 < w1.heap.size := S_lt hb1 (by first | omega | (simp <;> omega)); clear hb1) | (go_at_call 52; with_reducible refine (compare_any _ _ _ _ _ ha1 ha2 hb.1 (by omega) hc1 hc2 hd.1 (by omega)).mono ?_; rintro e w1 ⟨rfl, rfl⟩))
      go_ret
      exact ⟨ret_int HV.out.symm, by assumption⟩

/-- One step of the reference's comparison: the whole parts p and q, the rests A - p*B and C - q*D. -/
theorem cmp_lt (A B C D p q : Int) (hB : 1 ≤ B) (hD : 1 ≤ D) (h1 : A < p * B + B) (h2 : q * D ≤ C) (h : p < q) : cmpS A B C D = -1 := by
  have e1 : A * D < (p * B + B) * D := Int.mul_lt_mul_of_pos_right h1 (by omega)
  have e2 : q * D * B ≤ C * B := Int.mul_le_mul_of_nonneg_right h2 (by omega)
  have e3 : 0 ≤ (q - p - 1) * (B * D) := Int.mul_nonneg (by omega) (Int.mul_nonneg (by omega) (by omega))
  exact sgn_neg (by grind)

theorem cmp_gt (A B C D p q : Int) (hB : 1 ≤ B) (hD : 1 ≤ D) (h1 : p * B ≤ A) (h2 : C < q * D + D) (h : q < p) : cmpS A B C D = 1 := by
  have e1 : C * B < (q * D + D) * B := Int.mul_lt_mul_of_pos_right h2 (by omega)
  have e2 : p * B * D ≤ A * D := Int.mul_le_mul_of_nonneg_right h1 (by omega)
  have e3 : 0 ≤ (p - q - 1) * (B * D) := Int.mul_nonneg (by omega) (Int.mul_nonneg (by omega) (by omega))
  exact sgn_pos (by grind)

theorem cmp_rest (A B C D p : Int) : cmpS A B C D = cmpS (A - p * B) B (C - p * D) D := by
  unfold cmpS
  rw [show (A - p * B) * D - (C - p * D) * B = A * D - C * B by grind]

theorem cmp_zz (B D : Int) : cmpS 0 B 0 D = 0 := by unfold cmpS; rw [Int.zero_mul, Int.zero_mul]; exact sgn_zero

theorem cmp_zp (B D C : Int) (hB : 1 ≤ B) (hC : 0 < C) : cmpS 0 B C D = -1 := by
  have h : 0 < C * B := Int.mul_pos hC (by omega)
  exact sgn_neg (by rw [Int.zero_mul]; omega)

theorem cmp_pz (A B D : Int) (hD : 1 ≤ D) (hA : 0 < A) : cmpS A B 0 D = 1 := by
  have h : 0 < A * D := Int.mul_pos hA (by omega)
  exact sgn_pos (by rw [Int.zero_mul]; omega)

theorem cmp_turn (A B C D : Int) : cmpS A B C D = -cmpS B A D C := by
  unfold cmpS
  rw [← sgn_opp, show -(B * C - D * A) = A * D - C * B by grind]

theorem floor_parts (a b : Int) (hb : 1 ≤ b) : a / b * b ≤ a ∧ a < a / b * b + b := by
  have h1 := Int.emod_add_mul_ediv a b
  have h2 := Int.emod_nonneg a (b := b) (by omega)
  have h3 := Int.emod_lt_of_pos a (b := b) (by omega)
  rw [Int.mul_comm] at h1
  omega

theorem floor_size (a b K : Int) (hb : 1 ≤ b) (h1 : -K ≤ a) (h2 : a ≤ K) (hK : 0 ≤ K) : -K ≤ a / b ∧ a / b ≤ K := by
  obtain ⟨f1, f2⟩ := floor_parts a b hb
  constructor
  · by_cases h : -K ≤ a / b
    · exact h
    · exfalso
      have : 0 ≤ (-K - a / b - 1) * b := Int.mul_nonneg (by omega) (by omega)
      have h5 : 0 ≤ K * (b - 1) := Int.mul_nonneg hK (by omega)
      grind
  · by_cases h : a / b ≤ K
    · exact h
    · exfalso
      have : 0 ≤ (a / b - K - 1) * b := Int.mul_nonneg (by omega) (by omega)
      have h5 : 0 ≤ K * (b - 1) := Int.mul_nonneg hK (by omega)
      grind

/-- RatioFloor's and RatioCeil's results. -/
def floorV (n d : Int) : Int := if ratioOkV n d then n / d else 0

def ceilV (n d : Int) : Int := if ratioOkV n d then -(-n / d) else 0

set_option maxHeartbeats 400000 in
set_option maxRecDepth 100000 in
theorem iRatioFloor_any (n d : Int) (w : World) (hn1 : -9223372036854775808 ≤ n) (hn2 : n ≤ 9223372036854775807) :
    Calls Tryd.prog 24 #[.agg #[.int .i64 n, .int .i64 d]] w fun e w' => e = .returned (.int .i64 (floorV n d)) ∧ Below w.heap.size w w' := by
  cases h1 : ratioOkV n d
  · have HV := Lib.hid (show floorV n d = 0 by unfold floorV; rw [h1]; rfl)
    have H1 := Lib.hid h1; clear h1
    go_enter Tryd.func24, Tryd.ntmps24
    go_wp2_with (first | (go_at_call 22; with_reducible refine (iRatioOk_lit H1.out _ hn1 hn2).mono ?_; rintro e w1 ⟨rfl, hb1⟩; have cc0 := cell_keep (p := ⟨w.heap.size, 0, none⟩) (v := .int .i64 n) hb1 (by first | assumption | (go_keep; done) | (go_simp; done) | (simp; done)) (by first | omega | (simp <;> omega)); have cc1 := cell_keep (p := ⟨w.heap.size, 1, none⟩) (v := .int .i64 d) hb1 (by first | assumption | (go_keep; done) | (go_simp; done) | (simp; done)) (by first | omega | (simp <;> omega)); have hS1 : Below w.heap.size w w1 := S_below hb1 (by repeat (first | exact Below.refl _ _ | assumption | refine below_drewN ?_ _ | refine Below.drew ?_ | refine Below.alloc ?_ (by first | omega | (simp <;> omega)) _ | refine Below.setCell ?_ (by first | omega | (simp <;> omega)) _)) (by first | omega | (simp <;> omega)); have hz1 : w.heap.size + 1 ≤ w1.heap.size := S_size hb1 (by first | omega | (simp <;> omega)); have hqb0 : w.heap.size < w1.heap.size := S_lt hb1 (by first | omega | (simp <;> omega)); clear hb1))
    go_ret
    exact ⟨ret_int HV.out.symm, by assumption⟩
  · have HV := Lib.hid (show floorV n d = n / d by unfold floorV; rw [h1]; rfl)
    have hb := ratioOkV_bounds h1
    have H1 := Lib.hid h1; clear h1
    go_enter Tryd.func24, Tryd.ntmps24
    go_wp2_with (first | (go_at_call 22; with_reducible refine (iRatioOk_lit H1.out _ hn1 hn2).mono ?_; rintro e w1 ⟨rfl, hb1⟩; have cc0 := cell_keep (p := ⟨w.heap.size, 0, none⟩) (v := .int .i64 n) hb1 (by first | assumption | (go_keep; done) | (go_simp; done) | (simp; done)) (by first | omega | (simp <;> omega)); have cc1 := cell_keep (p := ⟨w.heap.size, 1, none⟩) (v := .int .i64 d) hb1 (by first | assumption | (go_keep; done) | (go_simp; done) | (simp; done)) (by first | omega | (simp <;> omega)); have hS1 : Below w.heap.size w w1 := S_below hb1 (by repeat (first | exact Below.refl _ _ | assumption | refine below_drewN ?_ _ | refine Below.drew ?_ | refine Below.alloc ?_ (by first | omega | (simp <;> omega)) _ | refine Below.setCell ?_ (by first | omega | (simp <;> omega)) _)) (by first | omega | (simp <;> omega)); have hz1 : w.heap.size + 1 ≤ w1.heap.size := S_size hb1 (by first | omega | (simp <;> omega)); have hqb0 : w.heap.size < w1.heap.size := S_lt hb1 (by first | omega | (simp <;> omega)); clear hb1) | (go_at_call 53; with_reducible refine (iFloor_any _ _ _ hn1 hn2 hb.1.1 (by omega)).mono ?_; rintro e w1 ⟨rfl, rfl⟩))
    go_ret
    exact ⟨ret_int HV.out.symm, by assumption⟩

set_option maxHeartbeats 400000 in
set_option maxRecDepth 100000 in
theorem iCeil_any (a b : Int) (w : World) (h1 : -1000000000000000000 ≤ a) (h2 : a ≤ 1000000000000000000) (hb : 1 ≤ b) (hb2 : b ≤ 9223372036854775807) :
    Calls Tryd.prog 54 #[.int .i64 a, .int .i64 b] w fun e w' => e = .returned (.int .i64 (-(-a / b))) ∧ w = w' := by
  have hs := floor_size (-a) b 1000000000000000000 hb (by omega) (by omega) (by omega)
  go_enter Tryd.func54, Tryd.ntmps54
  go_wp2_with (first | (go_at_call 53; with_reducible refine (iFloor_any _ _ _ (by omega) (by omega) hb hb2).mono ?_; rintro e w1 ⟨rfl, rfl⟩))
  go_ret
  exact ⟨rfl, rfl⟩

set_option maxHeartbeats 400000 in
set_option maxRecDepth 100000 in
theorem iRatioCeil_any (n d : Int) (w : World) (hn1 : -9223372036854775808 ≤ n) (hn2 : n ≤ 9223372036854775807) :
    Calls Tryd.prog 25 #[.agg #[.int .i64 n, .int .i64 d]] w fun e w' => e = .returned (.int .i64 (ceilV n d)) ∧ Below w.heap.size w w' := by
  cases h1 : ratioOkV n d
  · have HV := Lib.hid (show ceilV n d = 0 by unfold ceilV; rw [h1]; rfl)
    have H1 := Lib.hid h1; clear h1
    go_enter Tryd.func25, Tryd.ntmps25
    go_wp2_with (first | (go_at_call 22; with_reducible refine (iRatioOk_lit H1.out _ hn1 hn2).mono ?_; rintro e w1 ⟨rfl, hb1⟩; have cc0 := cell_keep (p := ⟨w.heap.size, 0, none⟩) (v := .int .i64 n) hb1 (by first | assumption | (go_keep; done) | (go_simp; done) | (simp; done)) (by first | omega | (simp <;> omega)); have cc1 := cell_keep (p := ⟨w.heap.size, 1, none⟩) (v := .int .i64 d) hb1 (by first | assumption | (go_keep; done) | (go_simp; done) | (simp; done)) (by first | omega | (simp <;> omega)); have hS1 : Below w.heap.size w w1 := S_below hb1 (by repeat (first | exact Below.refl _ _ | assumption | refine below_drewN ?_ _ | refine Below.drew ?_ | refine Below.alloc ?_ (by first | omega | (simp <;> omega)) _ | refine Below.setCell ?_ (by first | omega | (simp <;> omega)) _)) (by first | omega | (simp <;> omega)); have hz1 : w.heap.size + 1 ≤ w1.heap.size := S_size hb1 (by first | omega | (simp <;> omega)); have hqb0 : w.heap.size < w1.heap.size := S_lt hb1 (by first | omega | (simp <;> omega)); clear hb1))
    go_ret
    exact ⟨ret_int HV.out.symm, by assumption⟩
  · have HV := Lib.hid (show ceilV n d = -(-n / d) by unfold ceilV; rw [h1]; rfl)
    have hb := ratioOkV_bounds h1
    have H1 := Lib.hid h1; clear h1
    go_enter Tryd.func25, Tryd.ntmps25
    go_wp2_with (first | (go_at_call 22; with_reducible refine (iRatioOk_lit H1.out _ hn1 hn2).mono ?_; rintro e w1 ⟨rfl, hb1⟩; have cc0 := cell_keep (p := ⟨w.heap.size, 0, none⟩) (v := .int .i64 n) hb1 (by first | assumption | (go_keep; done) | (go_simp; done) | (simp; done)) (by first | omega | (simp <;> omega)); have cc1 := cell_keep (p := ⟨w.heap.size, 1, none⟩) (v := .int .i64 d) hb1 (by first | assumption | (go_keep; done) | (go_simp; done) | (simp; done)) (by first | omega | (simp <;> omega)); have hS1 : Below w.heap.size w w1 := S_below hb1 (by repeat (first | exact Below.refl _ _ | assumption | refine below_drewN ?_ _ | refine Below.drew ?_ | refine Below.alloc ?_ (by first | omega | (simp <;> omega)) _ | refine Below.setCell ?_ (by first | omega | (simp <;> omega)) _)) (by first | omega | (simp <;> omega)); have hz1 : w.heap.size + 1 ≤ w1.heap.size := S_size hb1 (by first | omega | (simp <;> omega)); have hqb0 : w.heap.size < w1.heap.size := S_lt hb1 (by first | omega | (simp <;> omega)); clear hb1) | (go_at_call 54; with_reducible refine (iCeil_any _ _ _ (by omega) (by omega) hb.1.1 (by omega)).mono ?_; rintro e w1 ⟨rfl, rfl⟩))
    go_ret
    exact ⟨ret_int HV.out.symm, by assumption⟩

end Go.Proofs.YtkmfejdmdiemaaaDoor
