/- Contracts of RatioCmp, RatioFloor, RatioCeil, RatioMin, RatioMax, of the program and of the reference. -/
import Derived.Test.YteoiceegifcecaaCmp
namespace Go.Proofs.Yteoiceegifcecaa
open Go.ChangeShapes Go.WideShapes Go.ChangeAt Go.RowKit
attribute [local go_sem ↓] Go.wp_at_zero Go.wp_at_succ
set_option linter.unusedVariables false

/-- RatioCmp's result. -/
def cmpV (a b c d : Int) : Int := if ratioOkV a b && ratioOkV c d then cmpS a b c d else 0

theorem ratioOkV_bounds {n d : Int} (h : ratioOkV n d = true) : (1 ≤ d ∧ d ≤ 1000000000000000) ∧ (-1000000000000000000 ≤ n ∧ n ≤ 1000000000000000000) := by
  unfold ratioOkV inB at h
  simp at h
  omega

set_option maxHeartbeats 1000000 in
theorem iRatioCmp_any (a b c d : Int) (w : World) (ha1 : -9223372036854775808 ≤ a) (ha2 : a ≤ 9223372036854775807) (hc1 : -9223372036854775808 ≤ c) (hc2 : c ≤ 9223372036854775807) :
    Calls Try.prog 26 #[.agg #[.int .i64 a, .int .i64 b], .agg #[.int .i64 c, .int .i64 d]] w fun e w' => e = .returned (.int .i64 (cmpV a b c d)) ∧ Below w.heap.size w w' := by
  cases h1 : ratioOkV a b
  · have HV := Lib.hid (show cmpV a b c d = 0 by unfold cmpV; rw [h1]; rfl)
    have H1 := Lib.hid h1; clear h1
    go_enter Try.func26, Try.ntmps26
    go_wp2_with (first | (go_at_call 17; with_reducible refine (iRatioOk_lit H1.out _ ha1 ha2).mono ?_; rintro e w1 ⟨rfl, hb1⟩; have cc0 := cell_keep (p := ⟨w.heap.size, 0, none⟩) (v := .int .i64 a) hb1 (by first | assumption | (go_keep; done) | (go_simp; done) | (simp; done)) (by first | omega | (simp <;> omega)); have cc1 := cell_keep (p := ⟨w.heap.size, 1, none⟩) (v := .int .i64 b) hb1 (by first | assumption | (go_keep; done) | (go_simp; done) | (simp; done)) (by first | omega | (simp <;> omega)); have cc2 := cell_keep (p := ⟨w.heap.size + 1, 0, none⟩) (v := .int .i64 c) hb1 (by first | assumption | (go_keep; done) | (go_simp; done) | (simp; done)) (by first | omega | (simp <;> omega)); have cc3 := cell_keep (p := ⟨w.heap.size + 1, 1, none⟩) (v := .int .i64 d) hb1 (by first | assumption | (go_keep; done) | (go_simp; done) | (simp; done)) (by first | omega | (simp <;> omega)); have hS1 : Below w.heap.size w w1 := S_below hb1 (by repeat (first | exact Below.refl _ _ | assumption | refine below_drewN ?_ _ | refine Below.drew ?_ | refine Below.alloc ?_ (by first | omega | (simp <;> omega)) _ | refine Below.setCell ?_ (by first | omega | (simp <;> omega)) _)) (by first | omega | (simp <;> omega)); have hz1 : w.heap.size + 1 + 1 ≤ w1.heap.size := S_size hb1 (by first | omega | (simp <;> omega)); have hqb0 : w.heap.size < w1.heap.size := S_lt hb1 (by first | omega | (simp <;> omega)); have hqb1 : w.heap.size + 1 < w1.heap.size := S_lt hb1 (by first | omega | (simp <;> omega)); clear hb1))
    go_ret
    exact ⟨ret_int HV.out.symm, by assumption⟩
  · cases h2 : ratioOkV c d
    · have HV := Lib.hid (show cmpV a b c d = 0 by unfold cmpV; rw [h1, h2]; rfl)
      have H1 := Lib.hid h1; clear h1
      have H2 := Lib.hid h2; clear h2
      go_enter Try.func26, Try.ntmps26
      go_wp2_with (first | (go_at_call 17; with_reducible refine (iRatioOk_lit H1.out _ ha1 ha2).mono ?_; rintro e w1 ⟨rfl, hb1⟩; have cc0 := cell_keep (p := ⟨w.heap.size, 0, none⟩) (v := .int .i64 a) hb1 (by first | assumption | (go_keep; done) | (go_simp; done) | (simp; done)) (by first | omega | (simp <;> omega)); have cc1 := cell_keep (p := ⟨w.heap.size, 1, none⟩) (v := .int .i64 b) hb1 (by first | assumption | (go_keep; done) | (go_simp; done) | (simp; done)) (by first | omega | (simp <;> omega)); have cc2 := cell_keep (p := ⟨w.heap.size + 1, 0, none⟩) (v := .int .i64 c) hb1 (by first | assumption | (go_keep; done) | (go_simp; done) | (simp; done)) (by first | omega | (simp <;> omega)); have cc3 := cell_keep (p := ⟨w.heap.size + 1, 1, none⟩) (v := .int .i64 d) hb1 (by first | assumption | (go_keep; done) | (go_simp; done) | (simp; done)) (by first | omega | (simp <;> omega)); have hS1 : Below w.heap.size w w1 := S_below hb1 (by repeat (first | exact Below.refl _ _ | assumption | refine below_drewN ?_ _ | refine Below.drew ?_ | refine Below.alloc ?_ (by first | omega | (simp <;> omega)) _ | refine Below.setCell ?_ (by first | omega | (simp <;> omega)) _)) (by first | omega | (simp <;> omega)); have hz1 : w.heap.size + 1 + 1 ≤ w1.heap.size := S_size hb1 (by first | omega | (simp <;> omega)); have hqb0 : w.heap.size < w1.heap.size := S_lt hb1 (by first | omega | (simp <;> omega)); have hqb1 : w.heap.size + 1 < w1.heap.size := S_lt hb1 (by first | omega | (simp <;> omega)); clear hb1) | (go_at_call 17; with_reducible refine (iRatioOk_lit H2.out _ hc1 hc2).mono ?_; rintro e w1 ⟨rfl, hb1⟩; have cc0 := cell_keep (p := ⟨w.heap.size, 0, none⟩) (v := .int .i64 a) hb1 (by first | assumption | (go_keep; done) | (go_simp; done) | (simp; done)) (by first | omega | (simp <;> omega)); have cc1 := cell_keep (p := ⟨w.heap.size, 1, none⟩) (v := .int .i64 b) hb1 (by first | assumption | (go_keep; done) | (go_simp; done) | (simp; done)) (by first | omega | (simp <;> omega)); have cc2 := cell_keep (p := ⟨w.heap.size + 1, 0, none⟩) (v := .int .i64 c) hb1 (by first | assumption | (go_keep; done) | (go_simp; done) | (simp; done)) (by first | omega | (simp <;> omega)); have cc3 := cell_keep (p := ⟨w.heap.size + 1, 1, none⟩) (v := .int .i64 d) hb1 (by first | assumption | (go_keep; done) | (go_simp; done) | (simp; done)) (by first | omega | (simp <;> omega)); have hS1 : Below w.heap.size w w1 := S_below hb1 (by repeat (first | exact Below.refl _ _ | assumption | refine below_drewN ?_ _ | refine Below.drew ?_ | refine Below.alloc ?_ (by first | omega | (simp <;> omega)) _ | refine Below.setCell ?_ (by first | omega | (simp <;> omega)) _)) (by first | omega | (simp <;> omega)); have hz1 : w.heap.size + 1 + 1 ≤ w1.heap.size := S_size hb1 (by first | omega | (simp <;> omega)); have hqb0 : w.heap.size < w1.heap.size := S_lt hb1 (by first | omega | (simp <;> omega)); have hqb1 : w.heap.size + 1 < w1.heap.size := S_lt hb1 (by first | omega | (simp <;> omega)); clear hb1))
      go_ret
      exact ⟨ret_int HV.out.symm, by assumption⟩
    · have HV := Lib.hid (show cmpV a b c d = cmpS a b c d by unfold cmpV; rw [h1, h2]; rfl)
      have hb := (ratioOkV_bounds h1).1
      have hd := (ratioOkV_bounds h2).1
      have H1 := Lib.hid h1; clear h1
      have H2 := Lib.hid h2; clear h2
      go_enter Try.func26, Try.ntmps26
      go_wp2_with (first | (go_at_call 17; with_reducible refine (iRatioOk_lit H1.out _ ha1 ha2).mono ?_; rintro e w1 ⟨rfl, hb1⟩; have cc0 := cell_keep (p := ⟨w.heap.size, 0, none⟩) (v := .int .i64 a) hb1 (by first | assumption | (go_keep; done) | (go_simp; done) | (simp; done)) (by first | omega | (simp <;> omega)); have cc1 := cell_keep (p := ⟨w.heap.size, 1, none⟩) (v := .int .i64 b) hb1 (by first | assumption | (go_keep; done) | (go_simp; done) | (simp; done)) (by first | omega | (simp <;> omega)); have cc2 := cell_keep (p := ⟨w.heap.size + 1, 0, none⟩) (v := .int .i64 c) hb1 (by first | assumption | (go_keep; done) | (go_simp; done) | (simp; done)) (by first | omega | (simp <;> omega)); have cc3 := cell_keep (p := ⟨w.heap.size + 1, 1, none⟩) (v := .int .i64 d) hb1 (by first | assumption | (go_keep; done) | (go_simp; done) | (simp; done)) (by first | omega | (simp <;> omega)); have hS1 : Below w.heap.size w w1 := S_below hb1 (by repeat (first | exact Below.refl _ _ | assumption | refine below_drewN ?_ _ | refine Below.drew ?_ | refine Below.alloc ?_ (by first | omega | (simp <;> omega)) _ | refine Below.setCell ?_ (by first | omega | (simp <;> omega)) _)) (by first | omega | (simp <;> omega)); have hz1 : w.heap.size + 1 + 1 ≤ w1.heap.size := S_size hb1 (by first | omega | (simp <;> omega)); have hqb0 : w.heap.size < w1.heap.size := S_lt hb1 (by first | omega | (simp <;> omega)); have hqb1 : w.heap.size + 1 < w1.heap.size := S_lt hb1 (by first | omega | (simp <;> omega)); clear hb1) | (go_at_call 17; with_reducible refine (iRatioOk_lit H2.out _ hc1 hc2).mono ?_; rintro e w1 ⟨rfl, hb1⟩; have cc0 := cell_keep (p := ⟨w.heap.size, 0, none⟩) (v := .int .i64 a) hb1 (by first | assumption | (go_keep; done) | (go_simp; done) | (simp; done)) (by first | omega | (simp <;> omega)); have cc1 := cell_keep (p := ⟨w.heap.size, 1, none⟩) (v := .int .i64 b) hb1 (by first | assumption | (go_keep; done) | (go_simp; done) | (simp; done)) (by first | omega | (simp <;> omega)); have cc2 := cell_keep (p := ⟨w.heap.size + 1, 0, none⟩) (v := .int .i64 c) hb1 (by first | assumption | (go_keep; done) | (go_simp; done) | (simp; done)) (by first | omega | (simp <;> omega)); have cc3 := cell_keep (p := ⟨w.heap.size + 1, 1, none⟩) (v := .int .i64 d) hb1 (by first | assumption | (go_keep; done) | (go_simp; done) | (simp; done)) (by first | omega | (simp <;> omega)); have hS1 : Below w.heap.size w w1 := S_below hb1 (by repeat (first | exact Below.refl _ _ | assumption | refine below_drewN ?_ _ | refine Below.drew ?_ | refine Below.alloc ?_ (by first | omega | (simp <;> omega)) _ | refine Below.setCell ?_ (by first | omega | (simp <;> omega)) _)) (by first | omega | (simp <;> omega)); have hz1 : w.heap.size + 1 + 1 ≤ w1.heap.size := S_size hb1 (by first | omega | (simp <;> omega)); have hqb0 : w.heap.size < w1.heap.size := S_lt hb1 (by first | omega | (simp <;> omega)); have hqb1 : w.heap.size + 1 < w1.heap.size := S_lt hb1 (by first | omega | (simp <;> omega)); clear hb1) | (go_at_call 54; with_reducible refine (compare_any _ _ _ _ _ ha1 ha2 hb.1 (by omega) hc1 hc2 hd.1 (by omega)).mono ?_; rintro e w1 ⟨rfl, rfl⟩))
      go_ret
      exact ⟨ret_int HV.out.symm, by assumption⟩

/-- One step of the reference's comparison: the whole parts p and q, the rests A - p*B and C - q*D. -/
theorem cmp_lt (A B C D p q : Int) (hB : 1 ≤ B) (hD : 1 ≤ D) (h1 : A < p * B + B) (h2 : q * D ≤ C) (h : p < q) : cmpS A B C D = -1 := by
  have e1 : A * D < (p * B + B) * D := Int.mul_lt_mul_of_pos_right h1 (by omega)
  have e2 : q * D * B ≤ C * B := Int.mul_le_mul_of_nonneg_right h2 (by omega)
  have e3 : 0 ≤ (q - p - 1) * (B * D) := Int.mul_nonneg (by omega) (Int.mul_nonneg (by omega) (by omega))
  exact sgn_neg (by grind)
theorem cmp_gt (A B C D p q : Int) (hB : 1 ≤ B) (hD : 1 ≤ D) (h1 : p * B ≤ A) (h2 : C < q * D + D) (h : q < p) : cmpS A B C D = 1 := by
  have e1 : C * B < (q * D + D) * B := Int.mul_lt_mul_of_pos_right h2 (by omega)
  have e2 : p * B * D ≤ A * D := Int.mul_le_mul_of_nonneg_right h1 (by omega)
  have e3 : 0 ≤ (p - q - 1) * (B * D) := Int.mul_nonneg (by omega) (Int.mul_nonneg (by omega) (by omega))
  exact sgn_pos (by grind)
theorem cmp_rest (A B C D p : Int) : cmpS A B C D = cmpS (A - p * B) B (C - p * D) D := by
  unfold cmpS
  rw [show (A - p * B) * D - (C - p * D) * B = A * D - C * B by grind]
theorem cmp_zz (B D : Int) : cmpS 0 B 0 D = 0 := by unfold cmpS; rw [Int.zero_mul, Int.zero_mul]; exact sgn_zero
theorem cmp_zp (B D C : Int) (hB : 1 ≤ B) (hC : 0 < C) : cmpS 0 B C D = -1 := by
  have h : 0 < C * B := Int.mul_pos hC (by omega)
  exact sgn_neg (by rw [Int.zero_mul]; omega)
theorem cmp_pz (A B D : Int) (hD : 1 ≤ D) (hA : 0 < A) : cmpS A B 0 D = 1 := by
  have h : 0 < A * D := Int.mul_pos hA (by omega)
  exact sgn_pos (by rw [Int.zero_mul]; omega)
theorem cmp_turn (A B C D : Int) : cmpS A B C D = -cmpS B A D C := by
  unfold cmpS
  rw [← sgn_opp, show -(B * C - D * A) = A * D - C * B by grind]

theorem floor_parts (a b : Int) (hb : 1 ≤ b) : a / b * b ≤ a ∧ a < a / b * b + b := by
  have h1 := Int.emod_add_mul_ediv a b
  have h2 := Int.emod_nonneg a (b := b) (by omega)
  have h3 := Int.emod_lt_of_pos a (b := b) (by omega)
  rw [Int.mul_comm] at h1
  omega
theorem floor_size (a b K : Int) (hb : 1 ≤ b) (h1 : -K ≤ a) (h2 : a ≤ K) (hK : 0 ≤ K) : -K ≤ a / b ∧ a / b ≤ K := by
  obtain ⟨f1, f2⟩ := floor_parts a b hb
  constructor
  · by_cases h : -K ≤ a / b
    · exact h
    · exfalso
      have : 0 ≤ (-K - a / b - 1) * b := Int.mul_nonneg (by omega) (by omega)
      have h5 : 0 ≤ K * (b - 1) := Int.mul_nonneg hK (by omega)
      grind
  · by_cases h : a / b ≤ K
    · exact h
    · exfalso
      have : 0 ≤ (a / b - K - 1) * b := Int.mul_nonneg (by omega) (by omega)
      have h5 : 0 ≤ K * (b - 1) := Int.mul_nonneg hK (by omega)
      grind

theorem sFloor_lit {a b p : Int} (h : a / b = p) (w : World) (h1 : -9223372036854775808 ≤ a) (h2 : a ≤ 9223372036854775807) (hb : 1 ≤ b) (hb2 : b ≤ 9223372036854775807) :
    Calls Try.prog 51 #[.int .i64 a, .int .i64 b] w fun e w' => e = .returned (.int .i64 p) ∧ w = w' := by
  rw [← h]; exact sFloor_any a b w h1 h2 hb hb2

set_option maxHeartbeats 1000000 in
theorem sRatioCmp_any (a b c d : Int) (w : World) (ha1 : -9223372036854775808 ≤ a) (ha2 : a ≤ 9223372036854775807) (hc1 : -9223372036854775808 ≤ c) (hc2 : c ≤ 9223372036854775807) :
    Calls Try.prog 25 #[.agg #[.int .i64 a, .int .i64 b], .agg #[.int .i64 c, .int .i64 d]] w fun e w' => e = .returned (.int .i64 (cmpV a b c d)) ∧ Below w.heap.size w w' := by
  cases h1 : ratioOkV a b
  · have HV := Lib.hid (show cmpV a b c d = 0 by unfold cmpV; rw [h1]; rfl)
    have H1 := Lib.hid h1; clear h1
    go_enter Try.func25, Try.ntmps25
    go_wp2_with (first | (go_at_call 15; with_reducible refine (sRatioOk_lit H1.out _ ha1 ha2).mono ?_; rintro e w1 ⟨rfl, hb1⟩; have cc0 := cell_keep (p := ⟨w.heap.size, 0, none⟩) (v := .int .i64 a) hb1 (by first | assumption | (go_keep; done) | (go_simp; done) | (simp; done)) (by first | omega | (simp <;> omega)); have cc1 := cell_keep (p := ⟨w.heap.size, 1, none⟩) (v := .int .i64 b) hb1 (by first | assumption | (go_keep; done) | (go_simp; done) | (simp; done)) (by first | omega | (simp <;> omega)); have cc2 := cell_keep (p := ⟨w.heap.size + 1, 0, none⟩) (v := .int .i64 c) hb1 (by first | assumption | (go_keep; done) | (go_simp; done) | (simp; done)) (by first | omega | (simp <;> omega)); have cc3 := cell_keep (p := ⟨w.heap.size + 1, 1, none⟩) (v := .int .i64 d) hb1 (by first | assumption | (go_keep; done) | (go_simp; done) | (simp; done)) (by first | omega | (simp <;> omega)); have hS1 : Below w.heap.size w w1 := S_below hb1 (by repeat (first | exact Below.refl _ _ | assumption | refine below_drewN ?_ _ | refine Below.drew ?_ | refine Below.alloc ?_ (by first | omega | (simp <;> omega)) _ | refine Below.setCell ?_ (by first | omega | (simp <;> omega)) _)) (by first | omega | (simp <;> omega)); have hz1 : w.heap.size + 1 + 1 ≤ w1.heap.size := S_size hb1 (by first | omega | (simp <;> omega)); have hqb0 : w.heap.size < w1.heap.size := S_lt hb1 (by first | omega | (simp <;> omega)); have hqb1 : w.heap.size + 1 < w1.heap.size := S_lt hb1 (by first | omega | (simp <;> omega)); clear hb1))
    go_ret
    exact ⟨ret_int HV.out.symm, by assumption⟩
  · cases h2 : ratioOkV c d
    · have HV := Lib.hid (show cmpV a b c d = 0 by unfold cmpV; rw [h1, h2]; rfl)
      have H1 := Lib.hid h1; clear h1
      have H2 := Lib.hid h2; clear h2
      go_enter Try.func25, Try.ntmps25
      go_wp2_with (first | (go_at_call 15; with_reducible refine (sRatioOk_lit H1.out _ ha1 ha2).mono ?_; rintro e w1 ⟨rfl, hb1⟩; have cc0 := cell_keep (p := ⟨w.heap.size, 0, none⟩) (v := .int .i64 a) hb1 (by first | assumption | (go_keep; done) | (go_simp; done) | (simp; done)) (by first | omega | (simp <;> omega)); have cc1 := cell_keep (p := ⟨w.heap.size, 1, none⟩) (v := .int .i64 b) hb1 (by first | assumption | (go_keep; done) | (go_simp; done) | (simp; done)) (by first | omega | (simp <;> omega)); have cc2 := cell_keep (p := ⟨w.heap.size + 1, 0, none⟩) (v := .int .i64 c) hb1 (by first | assumption | (go_keep; done) | (go_simp; done) | (simp; done)) (by first | omega | (simp <;> omega)); have cc3 := cell_keep (p := ⟨w.heap.size + 1, 1, none⟩) (v := .int .i64 d) hb1 (by first | assumption | (go_keep; done) | (go_simp; done) | (simp; done)) (by first | omega | (simp <;> omega)); have hS1 : Below w.heap.size w w1 := S_below hb1 (by repeat (first | exact Below.refl _ _ | assumption | refine below_drewN ?_ _ | refine Below.drew ?_ | refine Below.alloc ?_ (by first | omega | (simp <;> omega)) _ | refine Below.setCell ?_ (by first | omega | (simp <;> omega)) _)) (by first | omega | (simp <;> omega)); have hz1 : w.heap.size + 1 + 1 ≤ w1.heap.size := S_size hb1 (by first | omega | (simp <;> omega)); have hqb0 : w.heap.size < w1.heap.size := S_lt hb1 (by first | omega | (simp <;> omega)); have hqb1 : w.heap.size + 1 < w1.heap.size := S_lt hb1 (by first | omega | (simp <;> omega)); clear hb1) | (go_at_call 15; with_reducible refine (sRatioOk_lit H2.out _ hc1 hc2).mono ?_; rintro e w1 ⟨rfl, hb1⟩; have cc0 := cell_keep (p := ⟨w.heap.size, 0, none⟩) (v := .int .i64 a) hb1 (by first | assumption | (go_keep; done) | (go_simp; done) | (simp; done)) (by first | omega | (simp <;> omega)); have cc1 := cell_keep (p := ⟨w.heap.size, 1, none⟩) (v := .int .i64 b) hb1 (by first | assumption | (go_keep; done) | (go_simp; done) | (simp; done)) (by first | omega | (simp <;> omega)); have cc2 := cell_keep (p := ⟨w.heap.size + 1, 0, none⟩) (v := .int .i64 c) hb1 (by first | assumption | (go_keep; done) | (go_simp; done) | (simp; done)) (by first | omega | (simp <;> omega)); have cc3 := cell_keep (p := ⟨w.heap.size + 1, 1, none⟩) (v := .int .i64 d) hb1 (by first | assumption | (go_keep; done) | (go_simp; done) | (simp; done)) (by first | omega | (simp <;> omega)); have hS1 : Below w.heap.size w w1 := S_below hb1 (by repeat (first | exact Below.refl _ _ | assumption | refine below_drewN ?_ _ | refine Below.drew ?_ | refine Below.alloc ?_ (by first | omega | (simp <;> omega)) _ | refine Below.setCell ?_ (by first | omega | (simp <;> omega)) _)) (by first | omega | (simp <;> omega)); have hz1 : w.heap.size + 1 + 1 ≤ w1.heap.size := S_size hb1 (by first | omega | (simp <;> omega)); have hqb0 : w.heap.size < w1.heap.size := S_lt hb1 (by first | omega | (simp <;> omega)); have hqb1 : w.heap.size + 1 < w1.heap.size := S_lt hb1 (by first | omega | (simp <;> omega)); clear hb1))
      go_ret
      exact ⟨ret_int HV.out.symm, by assumption⟩
    · have HV := Lib.hid (show cmpV a b c d = cmpS a b c d by unfold cmpV; rw [h1, h2]; rfl)
      have hb := (ratioOkV_bounds h1)
      have hd := (ratioOkV_bounds h2)
      have H1 := Lib.hid h1; clear h1
      have H2 := Lib.hid h2; clear h2
      go_enter Try.func25, Try.ntmps25
      go_wp2_with (first | (go_at_call 15; with_reducible refine (sRatioOk_lit H1.out _ ha1 ha2).mono ?_; rintro e w1 ⟨rfl, hb1⟩; have cc0 := cell_keep (p := ⟨w.heap.size, 0, none⟩) (v := .int .i64 a) hb1 (by first | assumption | (go_keep; done) | (go_simp; done) | (simp; done)) (by first | omega | (simp <;> omega)); have cc1 := cell_keep (p := ⟨w.heap.size, 1, none⟩) (v := .int .i64 b) hb1 (by first | assumption | (go_keep; done) | (go_simp; done) | (simp; done)) (by first | omega | (simp <;> omega)); have cc2 := cell_keep (p := ⟨w.heap.size + 1, 0, none⟩) (v := .int .i64 c) hb1 (by first | assumption | (go_keep; done) | (go_simp; done) | (simp; done)) (by first | omega | (simp <;> omega)); have cc3 := cell_keep (p := ⟨w.heap.size + 1, 1, none⟩) (v := .int .i64 d) hb1 (by first | assumption | (go_keep; done) | (go_simp; done) | (simp; done)) (by first | omega | (simp <;> omega)); have hS1 : Below w.heap.size w w1 := S_below hb1 (by repeat (first | exact Below.refl _ _ | assumption | refine below_drewN ?_ _ | refine Below.drew ?_ | refine Below.alloc ?_ (by first | omega | (simp <;> omega)) _ | refine Below.setCell ?_ (by first | omega | (simp <;> omega)) _)) (by first | omega | (simp <;> omega)); have hz1 : w.heap.size + 1 + 1 ≤ w1.heap.size := S_size hb1 (by first | omega | (simp <;> omega)); have hqb0 : w.heap.size < w1.heap.size := S_lt hb1 (by first | omega | (simp <;> omega)); have hqb1 : w.heap.size + 1 < w1.heap.size := S_lt hb1 (by first | omega | (simp <;> omega)); clear hb1) | (go_at_call 15; with_reducible refine (sRatioOk_lit H2.out _ hc1 hc2).mono ?_; rintro e w1 ⟨rfl, hb1⟩; have cc0 := cell_keep (p := ⟨w.heap.size, 0, none⟩) (v := .int .i64 a) hb1 (by first | assumption | (go_keep; done) | (go_simp; done) | (simp; done)) (by first | omega | (simp <;> omega)); have cc1 := cell_keep (p := ⟨w.heap.size, 1, none⟩) (v := .int .i64 b) hb1 (by first | assumption | (go_keep; done) | (go_simp; done) | (simp; done)) (by first | omega | (simp <;> omega)); have cc2 := cell_keep (p := ⟨w.heap.size + 1, 0, none⟩) (v := .int .i64 c) hb1 (by first | assumption | (go_keep; done) | (go_simp; done) | (simp; done)) (by first | omega | (simp <;> omega)); have cc3 := cell_keep (p := ⟨w.heap.size + 1, 1, none⟩) (v := .int .i64 d) hb1 (by first | assumption | (go_keep; done) | (go_simp; done) | (simp; done)) (by first | omega | (simp <;> omega)); have hS1 : Below w.heap.size w w1 := S_below hb1 (by repeat (first | exact Below.refl _ _ | assumption | refine below_drewN ?_ _ | refine Below.drew ?_ | refine Below.alloc ?_ (by first | omega | (simp <;> omega)) _ | refine Below.setCell ?_ (by first | omega | (simp <;> omega)) _)) (by first | omega | (simp <;> omega)); have hz1 : w.heap.size + 1 + 1 ≤ w1.heap.size := S_size hb1 (by first | omega | (simp <;> omega)); have hqb0 : w.heap.size < w1.heap.size := S_lt hb1 (by first | omega | (simp <;> omega)); have hqb1 : w.heap.size + 1 < w1.heap.size := S_lt hb1 (by first | omega | (simp <;> omega)); clear hb1))
      obtain ⟨⟨hb1, hb2⟩, hA1, hA2⟩ := hb
      obtain ⟨⟨hd1, hd2⟩, hC1, hC2⟩ := hd
      clear cc0 cc1 cc2 cc3 hz1 hqb0 hqb1
      go_loop [5, 6, 7, 8, 9] (fun x5 x6 x7 x8 x9 => ∃ A B C D s : Int, x5 = .int .i64 A ∧ x6 = .int .i64 B ∧ x7 = .int .i64 C ∧ x8 = .int .i64 D ∧ x9 = .int .i64 s ∧ (-1000000000000000000 ≤ A ∧ A ≤ 1000000000000000000) ∧ (1 ≤ B ∧ B ≤ 1000000000000000) ∧ (-1000000000000000000 ≤ C ∧ C ≤ 1000000000000000000) ∧ (1 ≤ D ∧ D ≤ 1000000000000000) ∧ RowKit.Hid (s = 1 ∨ s = -1) ∧ RowKit.Hid (cmpV a b c d = s * cmpS A B C D)) (fun _ x6 _ _ _ => (intOf x6).toNat)
      case atStart => exact ⟨a, b, c, d, 1, rfl, rfl, rfl, rfl, rfl, ⟨hA1, hA2⟩, ⟨hb1, hb2⟩, ⟨hC1, hC2⟩, ⟨hd1, hd2⟩, .inl rfl, by show _ = _; rw [HV.out]; omega⟩
      case round =>
        clear H1 H2 HV ha1 ha2 hc1 hc2 hb1 hb2 hd1 hd2 hA1 hA2 hC1 hC2
        obtain ⟨A, B, C, D, s, rfl, rfl, rfl, rfl, rfl, ⟨a1, a2⟩, ⟨b1, b2⟩, ⟨c1, c2⟩, ⟨d1, d2⟩, Hs, HR⟩ := hrel
        have fp := floor_parts A B b1
        have fq := floor_parts C D d1
        have sp := floor_size A B 1000000000000000000 b1 (by omega) (by omega) (by omega)
        have sq := floor_size C D 1000000000000000000 d1 (by omega) (by omega) (by omega)
        generalize hp : A / B = p at *
        generalize hq : C / D = q at *
        have Hp := Lib.hid hp; clear hp
        have Hq := Lib.hid hq; clear hq
        obtain ⟨fp1, fp2⟩ := fp
        obtain ⟨fq1, fq2⟩ := fq
        obtain ⟨sp1, sp2⟩ := sp
        obtain ⟨sq1, sq2⟩ := sq
        rcases Hs.out with hs | hs
        all_goals
          subst hs
          clear Hs
          by_cases hpq : p < q
          · have HX := Lib.hid (cmp_lt A B C D p q b1 d1 fp2 fq1 hpq)
            have t1 : (p != q) = true := by rw [bne_iff_ne]; omega
            go_wp2_with (first | (go_at_call 51; with_reducible refine (sFloor_lit Hp.out _ (by omega) (by omega) (by omega) (by omega)).mono ?_; rintro e w1 ⟨rfl, rfl⟩) | (go_at_call 51; with_reducible refine (sFloor_lit Hq.out _ (by omega) (by omega) (by omega) (by omega)).mono ?_; rintro e w1 ⟨rfl, rfl⟩))
            go_ret
            exact ⟨ret_int (by rw [HR.out, HX.out]; rfl), by assumption⟩
          · by_cases hqp : q < p
            · have HX := Lib.hid (cmp_gt A B C D p q b1 d1 fp1 fq2 hqp)
              have t1 : (p != q) = true := by rw [bne_iff_ne]; omega
              go_wp2_with (first | (go_at_call 51; with_reducible refine (sFloor_lit Hp.out _ (by omega) (by omega) (by omega) (by omega)).mono ?_; rintro e w1 ⟨rfl, rfl⟩) | (go_at_call 51; with_reducible refine (sFloor_lit Hq.out _ (by omega) (by omega) (by omega) (by omega)).mono ?_; rintro e w1 ⟨rfl, rfl⟩))
              go_ret
              exact ⟨ret_int (by rw [HR.out, HX.out]; rfl), by assumption⟩
            · obtain rfl : p = q := by omega
              clear hpq hqp
              have u1 : 0 ≤ A - p * B := by omega
              have u2 : A - p * B < B := by omega
              have v1 : 0 ≤ C - p * D := by omega
              have v2 : C - p * D < D := by omega
              by_cases hU : A - p * B = 0
              · by_cases hV : C - p * D = 0
                · have HX := Lib.hid (show cmpS A B C D = 0 by rw [cmp_rest A B C D p, hU, hV]; exact cmp_zz _ _)
                  have t2 : (A - p * B == 0) = true := by simp; exact hU
                  have t3 : (C - p * D == 0) = true := by simp; exact hV
                  clear hU hV
                  go_wp2_with (first | (go_at_call 51; with_reducible refine (sFloor_lit Hp.out _ (by omega) (by omega) (by omega) (by omega)).mono ?_; rintro e w1 ⟨rfl, rfl⟩) | (go_at_call 51; with_reducible refine (sFloor_lit Hq.out _ (by omega) (by omega) (by omega) (by omega)).mono ?_; rintro e w1 ⟨rfl, rfl⟩))
                  go_ret
                  exact ⟨ret_int (by rw [HR.out, HX.out]; rfl), by assumption⟩
                · have HX := Lib.hid (show cmpS A B C D = -1 by rw [cmp_rest A B C D p, hU]; exact cmp_zp _ _ _ b1 (by omega))
                  have t2 : (A - p * B == 0) = true := by simp; exact hU
                  have t3 : (C - p * D == 0) = false := by simp; exact hV
                  clear hU hV
                  go_wp2_with (first | (go_at_call 51; with_reducible refine (sFloor_lit Hp.out _ (by omega) (by omega) (by omega) (by omega)).mono ?_; rintro e w1 ⟨rfl, rfl⟩) | (go_at_call 51; with_reducible refine (sFloor_lit Hq.out _ (by omega) (by omega) (by omega) (by omega)).mono ?_; rintro e w1 ⟨rfl, rfl⟩))
                  go_ret
                  exact ⟨ret_int (by rw [HR.out, HX.out]; rfl), by assumption⟩
              · by_cases hV : C - p * D = 0
                · have HX := Lib.hid (show cmpS A B C D = 1 by rw [cmp_rest A B C D p, hV]; exact cmp_pz _ _ _ d1 (by omega))
                  have t2 : (A - p * B == 0) = false := by simp; exact hU
                  have t3 : (C - p * D == 0) = true := by simp; exact hV
                  clear hU hV
                  go_wp2_with (first | (go_at_call 51; with_reducible refine (sFloor_lit Hp.out _ (by omega) (by omega) (by omega) (by omega)).mono ?_; rintro e w1 ⟨rfl, rfl⟩) | (go_at_call 51; with_reducible refine (sFloor_lit Hq.out _ (by omega) (by omega) (by omega) (by omega)).mono ?_; rintro e w1 ⟨rfl, rfl⟩))
                  go_ret
                  exact ⟨ret_int (by rw [HR.out, HX.out]; rfl), by assumption⟩
                · have HX := Lib.hid (show cmpS A B C D = -cmpS B (A - p * B) D (C - p * D) by rw [cmp_rest A B C D p]; exact cmp_turn _ _ _ _)
                  have t2 : (A - p * B == 0) = false := by simp; exact hU
                  have t3 : (C - p * D == 0) = false := by simp; exact hV
                  have u3 : 1 ≤ A - p * B := by omega
                  have v3 : 1 ≤ C - p * D := by omega
                  clear hU hV
                  go_wp2_with (first | (go_at_call 51; with_reducible refine (sFloor_lit Hp.out _ (by omega) (by omega) (by omega) (by omega)).mono ?_; rintro e w1 ⟨rfl, rfl⟩) | (go_at_call 51; with_reducible refine (sFloor_lit Hq.out _ (by omega) (by omega) (by omega) (by omega)).mono ?_; rintro e w1 ⟨rfl, rfl⟩))
                  go_round
                  case rel => exact ⟨B, A - p * B, D, C - p * D, _, rfl, rfl, rfl, rfl, rfl, ⟨by omega, by omega⟩, ⟨by omega, by omega⟩, ⟨by omega, by omega⟩, ⟨by omega, by omega⟩, by first | exact .inl rfl | exact .inr rfl, by show _ = _; rw [HR.out, HX.out]; omega⟩
                  case measure => simp [intOf]; omega

/-- RatioFloor's and RatioCeil's results. -/
def floorV (n d : Int) : Int := if ratioOkV n d then n / d else 0
def ceilV (n d : Int) : Int := if ratioOkV n d then -(-n / d) else 0

set_option maxHeartbeats 400000 in
theorem iRatioFloor_any (n d : Int) (w : World) (hn1 : -9223372036854775808 ≤ n) (hn2 : n ≤ 9223372036854775807) :
    Calls Try.prog 22 #[.agg #[.int .i64 n, .int .i64 d]] w fun e w' => e = .returned (.int .i64 (floorV n d)) ∧ Below w.heap.size w w' := by
  cases h1 : ratioOkV n d
  · have HV := Lib.hid (show floorV n d = 0 by unfold floorV; rw [h1]; rfl)
    have H1 := Lib.hid h1; clear h1
    go_enter Try.func22, Try.ntmps22
    go_wp2_with (first | (go_at_call 17; with_reducible refine (iRatioOk_lit H1.out _ hn1 hn2).mono ?_; rintro e w1 ⟨rfl, hb1⟩; have cc0 := cell_keep (p := ⟨w.heap.size, 0, none⟩) (v := .int .i64 n) hb1 (by first | assumption | (go_keep; done) | (go_simp; done) | (simp; done)) (by first | omega | (simp <;> omega)); have cc1 := cell_keep (p := ⟨w.heap.size, 1, none⟩) (v := .int .i64 d) hb1 (by first | assumption | (go_keep; done) | (go_simp; done) | (simp; done)) (by first | omega | (simp <;> omega)); have hS1 : Below w.heap.size w w1 := S_below hb1 (by repeat (first | exact Below.refl _ _ | assumption | refine below_drewN ?_ _ | refine Below.drew ?_ | refine Below.alloc ?_ (by first | omega | (simp <;> omega)) _ | refine Below.setCell ?_ (by first | omega | (simp <;> omega)) _)) (by first | omega | (simp <;> omega)); have hz1 : w.heap.size + 1 ≤ w1.heap.size := S_size hb1 (by first | omega | (simp <;> omega)); have hqb0 : w.heap.size < w1.heap.size := S_lt hb1 (by first | omega | (simp <;> omega)); clear hb1))
    go_ret
    exact ⟨ret_int HV.out.symm, by assumption⟩
  · have HV := Lib.hid (show floorV n d = n / d by unfold floorV; rw [h1]; rfl)
    have hb := ratioOkV_bounds h1
    have H1 := Lib.hid h1; clear h1
    go_enter Try.func22, Try.ntmps22
    go_wp2_with (first | (go_at_call 17; with_reducible refine (iRatioOk_lit H1.out _ hn1 hn2).mono ?_; rintro e w1 ⟨rfl, hb1⟩; have cc0 := cell_keep (p := ⟨w.heap.size, 0, none⟩) (v := .int .i64 n) hb1 (by first | assumption | (go_keep; done) | (go_simp; done) | (simp; done)) (by first | omega | (simp <;> omega)); have cc1 := cell_keep (p := ⟨w.heap.size, 1, none⟩) (v := .int .i64 d) hb1 (by first | assumption | (go_keep; done) | (go_simp; done) | (simp; done)) (by first | omega | (simp <;> omega)); have hS1 : Below w.heap.size w w1 := S_below hb1 (by repeat (first | exact Below.refl _ _ | assumption | refine below_drewN ?_ _ | refine Below.drew ?_ | refine Below.alloc ?_ (by first | omega | (simp <;> omega)) _ | refine Below.setCell ?_ (by first | omega | (simp <;> omega)) _)) (by first | omega | (simp <;> omega)); have hz1 : w.heap.size + 1 ≤ w1.heap.size := S_size hb1 (by first | omega | (simp <;> omega)); have hqb0 : w.heap.size < w1.heap.size := S_lt hb1 (by first | omega | (simp <;> omega)); clear hb1) | (go_at_call 52; with_reducible refine (iFloor_any _ _ _ hn1 hn2 hb.1.1 (by omega)).mono ?_; rintro e w1 ⟨rfl, rfl⟩))
    go_ret
    exact ⟨ret_int HV.out.symm, by assumption⟩

set_option maxHeartbeats 400000 in
theorem sRatioFloor_any (n d : Int) (w : World) (hn1 : -9223372036854775808 ≤ n) (hn2 : n ≤ 9223372036854775807) :
    Calls Try.prog 21 #[.agg #[.int .i64 n, .int .i64 d]] w fun e w' => e = .returned (.int .i64 (floorV n d)) ∧ Below w.heap.size w w' := by
  cases h1 : ratioOkV n d
  · have HV := Lib.hid (show floorV n d = 0 by unfold floorV; rw [h1]; rfl)
    have H1 := Lib.hid h1; clear h1
    go_enter Try.func21, Try.ntmps21
    go_wp2_with (first | (go_at_call 15; with_reducible refine (sRatioOk_lit H1.out _ hn1 hn2).mono ?_; rintro e w1 ⟨rfl, hb1⟩; have cc0 := cell_keep (p := ⟨w.heap.size, 0, none⟩) (v := .int .i64 n) hb1 (by first | assumption | (go_keep; done) | (go_simp; done) | (simp; done)) (by first | omega | (simp <;> omega)); have cc1 := cell_keep (p := ⟨w.heap.size, 1, none⟩) (v := .int .i64 d) hb1 (by first | assumption | (go_keep; done) | (go_simp; done) | (simp; done)) (by first | omega | (simp <;> omega)); have hS1 : Below w.heap.size w w1 := S_below hb1 (by repeat (first | exact Below.refl _ _ | assumption | refine below_drewN ?_ _ | refine Below.drew ?_ | refine Below.alloc ?_ (by first | omega | (simp <;> omega)) _ | refine Below.setCell ?_ (by first | omega | (simp <;> omega)) _)) (by first | omega | (simp <;> omega)); have hz1 : w.heap.size + 1 ≤ w1.heap.size := S_size hb1 (by first | omega | (simp <;> omega)); have hqb0 : w.heap.size < w1.heap.size := S_lt hb1 (by first | omega | (simp <;> omega)); clear hb1))
    go_ret
    exact ⟨ret_int HV.out.symm, by assumption⟩
  · have HV := Lib.hid (show floorV n d = n / d by unfold floorV; rw [h1]; rfl)
    have hb := ratioOkV_bounds h1
    have H1 := Lib.hid h1; clear h1
    go_enter Try.func21, Try.ntmps21
    go_wp2_with (first | (go_at_call 15; with_reducible refine (sRatioOk_lit H1.out _ hn1 hn2).mono ?_; rintro e w1 ⟨rfl, hb1⟩; have cc0 := cell_keep (p := ⟨w.heap.size, 0, none⟩) (v := .int .i64 n) hb1 (by first | assumption | (go_keep; done) | (go_simp; done) | (simp; done)) (by first | omega | (simp <;> omega)); have cc1 := cell_keep (p := ⟨w.heap.size, 1, none⟩) (v := .int .i64 d) hb1 (by first | assumption | (go_keep; done) | (go_simp; done) | (simp; done)) (by first | omega | (simp <;> omega)); have hS1 : Below w.heap.size w w1 := S_below hb1 (by repeat (first | exact Below.refl _ _ | assumption | refine below_drewN ?_ _ | refine Below.drew ?_ | refine Below.alloc ?_ (by first | omega | (simp <;> omega)) _ | refine Below.setCell ?_ (by first | omega | (simp <;> omega)) _)) (by first | omega | (simp <;> omega)); have hz1 : w.heap.size + 1 ≤ w1.heap.size := S_size hb1 (by first | omega | (simp <;> omega)); have hqb0 : w.heap.size < w1.heap.size := S_lt hb1 (by first | omega | (simp <;> omega)); clear hb1) | (go_at_call 51; with_reducible refine (sFloor_any _ _ _ hn1 hn2 hb.1.1 (by omega)).mono ?_; rintro e w1 ⟨rfl, rfl⟩))
    go_ret
    exact ⟨ret_int HV.out.symm, by assumption⟩

set_option maxHeartbeats 400000 in
theorem iCeil_any (a b : Int) (w : World) (h1 : -1000000000000000000 ≤ a) (h2 : a ≤ 1000000000000000000) (hb : 1 ≤ b) (hb2 : b ≤ 9223372036854775807) :
    Calls Try.prog 53 #[.int .i64 a, .int .i64 b] w fun e w' => e = .returned (.int .i64 (-(-a / b))) ∧ w = w' := by
  have hs := floor_size (-a) b 1000000000000000000 hb (by omega) (by omega) (by omega)
  go_enter Try.func53, Try.ntmps53
  go_wp2_with (first | (go_at_call 52; with_reducible refine (iFloor_any _ _ _ (by omega) (by omega) hb hb2).mono ?_; rintro e w1 ⟨rfl, rfl⟩))
  go_ret
  exact ⟨rfl, rfl⟩

set_option maxHeartbeats 400000 in
theorem iRatioCeil_any (n d : Int) (w : World) (hn1 : -9223372036854775808 ≤ n) (hn2 : n ≤ 9223372036854775807) :
    Calls Try.prog 24 #[.agg #[.int .i64 n, .int .i64 d]] w fun e w' => e = .returned (.int .i64 (ceilV n d)) ∧ Below w.heap.size w w' := by
  cases h1 : ratioOkV n d
  · have HV := Lib.hid (show ceilV n d = 0 by unfold ceilV; rw [h1]; rfl)
    have H1 := Lib.hid h1; clear h1
    go_enter Try.func24, Try.ntmps24
    go_wp2_with (first | (go_at_call 17; with_reducible refine (iRatioOk_lit H1.out _ hn1 hn2).mono ?_; rintro e w1 ⟨rfl, hb1⟩; have cc0 := cell_keep (p := ⟨w.heap.size, 0, none⟩) (v := .int .i64 n) hb1 (by first | assumption | (go_keep; done) | (go_simp; done) | (simp; done)) (by first | omega | (simp <;> omega)); have cc1 := cell_keep (p := ⟨w.heap.size, 1, none⟩) (v := .int .i64 d) hb1 (by first | assumption | (go_keep; done) | (go_simp; done) | (simp; done)) (by first | omega | (simp <;> omega)); have hS1 : Below w.heap.size w w1 := S_below hb1 (by repeat (first | exact Below.refl _ _ | assumption | refine below_drewN ?_ _ | refine Below.drew ?_ | refine Below.alloc ?_ (by first | omega | (simp <;> omega)) _ | refine Below.setCell ?_ (by first | omega | (simp <;> omega)) _)) (by first | omega | (simp <;> omega)); have hz1 : w.heap.size + 1 ≤ w1.heap.size := S_size hb1 (by first | omega | (simp <;> omega)); have hqb0 : w.heap.size < w1.heap.size := S_lt hb1 (by first | omega | (simp <;> omega)); clear hb1))
    go_ret
    exact ⟨ret_int HV.out.symm, by assumption⟩
  · have HV := Lib.hid (show ceilV n d = -(-n / d) by unfold ceilV; rw [h1]; rfl)
    have hb := ratioOkV_bounds h1
    have H1 := Lib.hid h1; clear h1
    go_enter Try.func24, Try.ntmps24
    go_wp2_with (first | (go_at_call 17; with_reducible refine (iRatioOk_lit H1.out _ hn1 hn2).mono ?_; rintro e w1 ⟨rfl, hb1⟩; have cc0 := cell_keep (p := ⟨w.heap.size, 0, none⟩) (v := .int .i64 n) hb1 (by first | assumption | (go_keep; done) | (go_simp; done) | (simp; done)) (by first | omega | (simp <;> omega)); have cc1 := cell_keep (p := ⟨w.heap.size, 1, none⟩) (v := .int .i64 d) hb1 (by first | assumption | (go_keep; done) | (go_simp; done) | (simp; done)) (by first | omega | (simp <;> omega)); have hS1 : Below w.heap.size w w1 := S_below hb1 (by repeat (first | exact Below.refl _ _ | assumption | refine below_drewN ?_ _ | refine Below.drew ?_ | refine Below.alloc ?_ (by first | omega | (simp <;> omega)) _ | refine Below.setCell ?_ (by first | omega | (simp <;> omega)) _)) (by first | omega | (simp <;> omega)); have hz1 : w.heap.size + 1 ≤ w1.heap.size := S_size hb1 (by first | omega | (simp <;> omega)); have hqb0 : w.heap.size < w1.heap.size := S_lt hb1 (by first | omega | (simp <;> omega)); clear hb1) | (go_at_call 53; with_reducible refine (iCeil_any _ _ _ (by omega) (by omega) hb.1.1 (by omega)).mono ?_; rintro e w1 ⟨rfl, rfl⟩))
    go_ret
    exact ⟨ret_int HV.out.symm, by assumption⟩

set_option maxHeartbeats 400000 in
theorem sRatioCeil_any (n d : Int) (w : World) (hn1 : -9223372036854775808 ≤ n) (hn2 : n ≤ 9223372036854775807) :
    Calls Try.prog 23 #[.agg #[.int .i64 n, .int .i64 d]] w fun e w' => e = .returned (.int .i64 (ceilV n d)) ∧ Below w.heap.size w w' := by
  cases h1 : ratioOkV n d
  · have HV := Lib.hid (show ceilV n d = 0 by unfold ceilV; rw [h1]; rfl)
    have H1 := Lib.hid h1; clear h1
    go_enter Try.func23, Try.ntmps23
    go_wp2_with (first | (go_at_call 15; with_reducible refine (sRatioOk_lit H1.out _ hn1 hn2).mono ?_; rintro e w1 ⟨rfl, hb1⟩; have cc0 := cell_keep (p := ⟨w.heap.size, 0, none⟩) (v := .int .i64 n) hb1 (by first | assumption | (go_keep; done) | (go_simp; done) | (simp; done)) (by first | omega | (simp <;> omega)); have cc1 := cell_keep (p := ⟨w.heap.size, 1, none⟩) (v := .int .i64 d) hb1 (by first | assumption | (go_keep; done) | (go_simp; done) | (simp; done)) (by first | omega | (simp <;> omega)); have hS1 : Below w.heap.size w w1 := S_below hb1 (by repeat (first | exact Below.refl _ _ | assumption | refine below_drewN ?_ _ | refine Below.drew ?_ | refine Below.alloc ?_ (by first | omega | (simp <;> omega)) _ | refine Below.setCell ?_ (by first | omega | (simp <;> omega)) _)) (by first | omega | (simp <;> omega)); have hz1 : w.heap.size + 1 ≤ w1.heap.size := S_size hb1 (by first | omega | (simp <;> omega)); have hqb0 : w.heap.size < w1.heap.size := S_lt hb1 (by first | omega | (simp <;> omega)); clear hb1))
    go_ret
    exact ⟨ret_int HV.out.symm, by assumption⟩
  · have HV := Lib.hid (show ceilV n d = -(-n / d) by unfold ceilV; rw [h1]; rfl)
    have hb := ratioOkV_bounds h1
    have hs := floor_size (-n) d 1000000000000000000 hb.1.1 (by omega) (by omega) (by omega)
    have H1 := Lib.hid h1; clear h1
    go_enter Try.func23, Try.ntmps23
    go_wp2_with (first | (go_at_call 15; with_reducible refine (sRatioOk_lit H1.out _ hn1 hn2).mono ?_; rintro e w1 ⟨rfl, hb1⟩; have cc0 := cell_keep (p := ⟨w.heap.size, 0, none⟩) (v := .int .i64 n) hb1 (by first | assumption | (go_keep; done) | (go_simp; done) | (simp; done)) (by first | omega | (simp <;> omega)); have cc1 := cell_keep (p := ⟨w.heap.size, 1, none⟩) (v := .int .i64 d) hb1 (by first | assumption | (go_keep; done) | (go_simp; done) | (simp; done)) (by first | omega | (simp <;> omega)); have hS1 : Below w.heap.size w w1 := S_below hb1 (by repeat (first | exact Below.refl _ _ | assumption | refine below_drewN ?_ _ | refine Below.drew ?_ | refine Below.alloc ?_ (by first | omega | (simp <;> omega)) _ | refine Below.setCell ?_ (by first | omega | (simp <;> omega)) _)) (by first | omega | (simp <;> omega)); have hz1 : w.heap.size + 1 ≤ w1.heap.size := S_size hb1 (by first | omega | (simp <;> omega)); have hqb0 : w.heap.size < w1.heap.size := S_lt hb1 (by first | omega | (simp <;> omega)); clear hb1) | (go_at_call 51; with_reducible refine (sFloor_any _ _ _ (by omega) (by omega) hb.1.1 (by omega)).mono ?_; rintro e w1 ⟨rfl, rfl⟩))
    go_ret
    exact ⟨ret_int HV.out.symm, by assumption⟩

set_option maxHeartbeats 400000 in
theorem exRatioFloor_walk (n d : Int) (hn : I64 n) (hd : I64 d) (w : World) :
    Calls Try.prog 5 #[.agg #[.int .i64 n, .int .i64 d]] w fun e w' => e = .returned (.bool true) ∧ Below w.heap.size w w' := by
  obtain ⟨hn1, hn2⟩ := hn
  clear hd
  go_enter Try.func5, Try.ntmps5
  go_wp2_with (first | (go_at_call 16; with_reducible refine (toRatio_any _ _ _).mono ?_; rintro e w1 ⟨rfl, hb1⟩; have cc0 := cell_keep (p := ⟨w.heap.size, 0, none⟩) (v := .int .i64 n) hb1 (by first | assumption | (go_keep; done) | (go_simp; done) | (simp; done)) (by first | omega | (simp <;> omega)); have cc1 := cell_keep (p := ⟨w.heap.size, 1, none⟩) (v := .int .i64 d) hb1 (by first | assumption | (go_keep; done) | (go_simp; done) | (simp; done)) (by first | omega | (simp <;> omega)); have hS1 : Below w.heap.size w w1 := S_below hb1 (by repeat (first | exact Below.refl _ _ | assumption | refine below_drewN ?_ _ | refine Below.drew ?_ | refine Below.alloc ?_ (by first | omega | (simp <;> omega)) _ | refine Below.setCell ?_ (by first | omega | (simp <;> omega)) _)) (by first | omega | (simp <;> omega)); have hz1 : w.heap.size + 1 ≤ w1.heap.size := S_size hb1 (by first | omega | (simp <;> omega)); have hqb0 : w.heap.size < w1.heap.size := S_lt hb1 (by first | omega | (simp <;> omega)); clear hb1) | (go_at_call 21; with_reducible refine (sRatioFloor_any _ _ _ hn1 hn2).mono ?_; rintro e w1 ⟨rfl, hb1⟩; have cc0 := cell_keep (p := ⟨w.heap.size, 0, none⟩) (v := .int .i64 n) hb1 (by first | assumption | (go_keep; done) | (go_simp; done) | (simp; done)) (by first | omega | (simp <;> omega)); have cc1 := cell_keep (p := ⟨w.heap.size, 1, none⟩) (v := .int .i64 d) hb1 (by first | assumption | (go_keep; done) | (go_simp; done) | (simp; done)) (by first | omega | (simp <;> omega)); have hS1 : Below w.heap.size w w1 := S_below hb1 (by repeat (first | exact Below.refl _ _ | assumption | refine below_drewN ?_ _ | refine Below.drew ?_ | refine Below.alloc ?_ (by first | omega | (simp <;> omega)) _ | refine Below.setCell ?_ (by first | omega | (simp <;> omega)) _)) (by first | omega | (simp <;> omega)); have hz1 : w.heap.size + 1 ≤ w1.heap.size := S_size hb1 (by first | omega | (simp <;> omega)); have hqb0 : w.heap.size < w1.heap.size := S_lt hb1 (by first | omega | (simp <;> omega)); clear hb1) | (go_at_call 22; with_reducible refine (iRatioFloor_any _ _ _ hn1 hn2).mono ?_; rintro e w1 ⟨rfl, hb1⟩; have cc0 := cell_keep (p := ⟨w.heap.size, 0, none⟩) (v := .int .i64 n) hb1 (by first | assumption | (go_keep; done) | (go_simp; done) | (simp; done)) (by first | omega | (simp <;> omega)); have cc1 := cell_keep (p := ⟨w.heap.size, 1, none⟩) (v := .int .i64 d) hb1 (by first | assumption | (go_keep; done) | (go_simp; done) | (simp; done)) (by first | omega | (simp <;> omega)); have hS1 : Below w.heap.size w w1 := S_below hb1 (by repeat (first | exact Below.refl _ _ | assumption | refine below_drewN ?_ _ | refine Below.drew ?_ | refine Below.alloc ?_ (by first | omega | (simp <;> omega)) _ | refine Below.setCell ?_ (by first | omega | (simp <;> omega)) _)) (by first | omega | (simp <;> omega)); have hz1 : w.heap.size + 1 ≤ w1.heap.size := S_size hb1 (by first | omega | (simp <;> omega)); have hqb0 : w.heap.size < w1.heap.size := S_lt hb1 (by first | omega | (simp <;> omega)); clear hb1))
  go_ret
  exact ⟨rfl, by assumption⟩

set_option maxHeartbeats 400000 in
theorem exRatioCeil_walk (n d : Int) (hn : I64 n) (hd : I64 d) (w : World) :
    Calls Try.prog 6 #[.agg #[.int .i64 n, .int .i64 d]] w fun e w' => e = .returned (.bool true) ∧ Below w.heap.size w w' := by
  obtain ⟨hn1, hn2⟩ := hn
  clear hd
  go_enter Try.func6, Try.ntmps6
  go_wp2_with (first | (go_at_call 16; with_reducible refine (toRatio_any _ _ _).mono ?_; rintro e w1 ⟨rfl, hb1⟩; have cc0 := cell_keep (p := ⟨w.heap.size, 0, none⟩) (v := .int .i64 n) hb1 (by first | assumption | (go_keep; done) | (go_simp; done) | (simp; done)) (by first | omega | (simp <;> omega)); have cc1 := cell_keep (p := ⟨w.heap.size, 1, none⟩) (v := .int .i64 d) hb1 (by first | assumption | (go_keep; done) | (go_simp; done) | (simp; done)) (by first | omega | (simp <;> omega)); have hS1 : Below w.heap.size w w1 := S_below hb1 (by repeat (first | exact Below.refl _ _ | assumption | refine below_drewN ?_ _ | refine Below.drew ?_ | refine Below.alloc ?_ (by first | omega | (simp <;> omega)) _ | refine Below.setCell ?_ (by first | omega | (simp <;> omega)) _)) (by first | omega | (simp <;> omega)); have hz1 : w.heap.size + 1 ≤ w1.heap.size := S_size hb1 (by first | omega | (simp <;> omega)); have hqb0 : w.heap.size < w1.heap.size := S_lt hb1 (by first | omega | (simp <;> omega)); clear hb1) | (go_at_call 23; with_reducible refine (sRatioCeil_any _ _ _ hn1 hn2).mono ?_; rintro e w1 ⟨rfl, hb1⟩; have cc0 := cell_keep (p := ⟨w.heap.size, 0, none⟩) (v := .int .i64 n) hb1 (by first | assumption | (go_keep; done) | (go_simp; done) | (simp; done)) (by first | omega | (simp <;> omega)); have cc1 := cell_keep (p := ⟨w.heap.size, 1, none⟩) (v := .int .i64 d) hb1 (by first | assumption | (go_keep; done) | (go_simp; done) | (simp; done)) (by first | omega | (simp <;> omega)); have hS1 : Below w.heap.size w w1 := S_below hb1 (by repeat (first | exact Below.refl _ _ | assumption | refine below_drewN ?_ _ | refine Below.drew ?_ | refine Below.alloc ?_ (by first | omega | (simp <;> omega)) _ | refine Below.setCell ?_ (by first | omega | (simp <;> omega)) _)) (by first | omega | (simp <;> omega)); have hz1 : w.heap.size + 1 ≤ w1.heap.size := S_size hb1 (by first | omega | (simp <;> omega)); have hqb0 : w.heap.size < w1.heap.size := S_lt hb1 (by first | omega | (simp <;> omega)); clear hb1) | (go_at_call 24; with_reducible refine (iRatioCeil_any _ _ _ hn1 hn2).mono ?_; rintro e w1 ⟨rfl, hb1⟩; have cc0 := cell_keep (p := ⟨w.heap.size, 0, none⟩) (v := .int .i64 n) hb1 (by first | assumption | (go_keep; done) | (go_simp; done) | (simp; done)) (by first | omega | (simp <;> omega)); have cc1 := cell_keep (p := ⟨w.heap.size, 1, none⟩) (v := .int .i64 d) hb1 (by first | assumption | (go_keep; done) | (go_simp; done) | (simp; done)) (by first | omega | (simp <;> omega)); have hS1 : Below w.heap.size w w1 := S_below hb1 (by repeat (first | exact Below.refl _ _ | assumption | refine below_drewN ?_ _ | refine Below.drew ?_ | refine Below.alloc ?_ (by first | omega | (simp <;> omega)) _ | refine Below.setCell ?_ (by first | omega | (simp <;> omega)) _)) (by first | omega | (simp <;> omega)); have hz1 : w.heap.size + 1 ≤ w1.heap.size := S_size hb1 (by first | omega | (simp <;> omega)); have hqb0 : w.heap.size < w1.heap.size := S_lt hb1 (by first | omega | (simp <;> omega)); clear hb1))
  go_ret
  exact ⟨rfl, by assumption⟩

set_option maxHeartbeats 400000 in
theorem exRatioCmp_walk (n d : Int) (hn : I64 n) (hd : I64 d) (n' d' : Int) (hn' : I64 n') (hd' : I64 d') (w : World) :
    Calls Try.prog 7 #[.agg #[.int .i64 n, .int .i64 d], .agg #[.int .i64 n', .int .i64 d']] w fun e w' => e = .returned (.bool true) ∧ Below w.heap.size w w' := by
  obtain ⟨hn1, hn2⟩ := hn
  obtain ⟨hm1, hm2⟩ := hn'
  clear hd hd'
  go_enter Try.func7, Try.ntmps7
  go_wp2_with fail
  go_region_held3 (fun w' => (Below w.heap.size w w' ∧ w.heap.size + 1 + 1 ≤ w'.heap.size) ∧ w'.cell? ⟨w.heap.size, 0, none⟩ = some (.int .i64 n) ∧ w'.cell? ⟨w.heap.size, 1, none⟩ = some (.int .i64 d) ∧ w'.cell? ⟨w.heap.size + 1, 0, none⟩ = some (.int .i64 n') ∧ w'.cell? ⟨w.heap.size + 1, 1, none⟩ = some (.int .i64 d')) (first | (go_split_ands; refine ⟨⟨?_, ?_⟩, ?_, ?_, ?_, ?_⟩ <;> first | (with_reducible assumption) | ((with_reducible refine cell_keep hb1 ?_ ?_); (focus first | (with_reducible assumption) | (go_keep; done) | (go_simp; done) | (simp; done)); (focus first | omega | (simp <;> omega))) | ((with_reducible refine frozen_keep hb1 ?_ ?_); (focus first | (with_reducible assumption) | (go_keep; done) | (go_simp; done) | (simp; done)); (focus first | omega | (simp <;> omega))) | ((with_reducible refine S_size hb1 ?_); (focus first | omega | (simp <;> omega))) | ((with_reducible refine S_below hb1 ?_ ?_); (focus ((repeat (first | (with_reducible exact Below.refl _ _) | (with_reducible assumption) | (with_reducible refine below_drewN ?_ _) | (with_reducible refine Below.drew ?_) | ((with_reducible refine Below.alloc ?_ ?_ _); rotate_left; (focus first | omega | (simp <;> omega))) | ((with_reducible refine Below.setCell ?_ ?_ _); rotate_left; (focus first | omega | (simp <;> omega))))); done)); (focus first | omega | (simp <;> omega))) | ((with_reducible apply S_realloc2); (focus (with_reducible assumption)); (focus (with_reducible assumption)); (focus omega)) | (with_reducible show Below _ _ _; (repeat (first | (with_reducible exact Below.refl _ _) | (with_reducible assumption) | (with_reducible refine below_drewN ?_ _) | (with_reducible refine Below.drew ?_) | ((with_reducible refine Below.alloc ?_ ?_ _); rotate_left; (focus first | omega | (simp <;> omega))) | ((with_reducible refine Below.setCell ?_ ?_ _); rotate_left; (focus first | omega | (simp <;> omega))))); done) | (go_keep; done) | omega | (simp <;> omega) | (go_simp; done)))
    (first | (go_at_call 16; with_reducible refine (toRatio_any _ _ _).mono ?_; rintro e w1 ⟨rfl, hb1⟩) | (go_at_call 25; with_reducible refine (sRatioCmp_any _ _ _ _ _ hn1 hn2 hm1 hm2).mono ?_; rintro e w1 ⟨rfl, hb1⟩))
  go_split_ands
  go_wp2_with fail
  go_region_held3 (fun w' => (Below w.heap.size w w' ∧ w.heap.size + 1 + 1 ≤ w'.heap.size) ∧ w'.cell? ⟨w.heap.size, 0, none⟩ = some (.int .i64 n) ∧ w'.cell? ⟨w.heap.size, 1, none⟩ = some (.int .i64 d) ∧ w'.cell? ⟨w.heap.size + 1, 0, none⟩ = some (.int .i64 n') ∧ w'.cell? ⟨w.heap.size + 1, 1, none⟩ = some (.int .i64 d')) (first | (go_split_ands; refine ⟨⟨?_, ?_⟩, ?_, ?_, ?_, ?_⟩ <;> first | (with_reducible assumption) | ((with_reducible refine cell_keep hb1 ?_ ?_); (focus first | (with_reducible assumption) | (go_keep; done) | (go_simp; done) | (simp; done)); (focus first | omega | (simp <;> omega))) | ((with_reducible refine frozen_keep hb1 ?_ ?_); (focus first | (with_reducible assumption) | (go_keep; done) | (go_simp; done) | (simp; done)); (focus first | omega | (simp <;> omega))) | ((with_reducible refine S_size hb1 ?_); (focus first | omega | (simp <;> omega))) | ((with_reducible refine S_below hb1 ?_ ?_); (focus ((repeat (first | (with_reducible exact Below.refl _ _) | (with_reducible assumption) | (with_reducible refine below_drewN ?_ _) | (with_reducible refine Below.drew ?_) | ((with_reducible refine Below.alloc ?_ ?_ _); rotate_left; (focus first | omega | (simp <;> omega))) | ((with_reducible refine Below.setCell ?_ ?_ _); rotate_left; (focus first | omega | (simp <;> omega))))); done)); (focus first | omega | (simp <;> omega))) | ((with_reducible apply S_realloc2); (focus (with_reducible assumption)); (focus (with_reducible assumption)); (focus omega)) | (with_reducible show Below _ _ _; (repeat (first | (with_reducible exact Below.refl _ _) | (with_reducible assumption) | (with_reducible refine below_drewN ?_ _) | (with_reducible refine Below.drew ?_) | ((with_reducible refine Below.alloc ?_ ?_ _); rotate_left; (focus first | omega | (simp <;> omega))) | ((with_reducible refine Below.setCell ?_ ?_ _); rotate_left; (focus first | omega | (simp <;> omega))))); done) | (go_keep; done) | omega | (simp <;> omega) | (go_simp; done)))
    (first | (go_at_call 16; with_reducible refine (toRatio_any _ _ _).mono ?_; rintro e w1 ⟨rfl, hb1⟩) | (go_at_call 26; with_reducible refine (iRatioCmp_any _ _ _ _ _ hn1 hn2 hm1 hm2).mono ?_; rintro e w1 ⟨rfl, hb1⟩))
  go_split_ands
  go_wp2_with fail
  go_ret
  exact ⟨rfl, by assumption⟩

end Go.Proofs.Yteoiceegifcecaa
