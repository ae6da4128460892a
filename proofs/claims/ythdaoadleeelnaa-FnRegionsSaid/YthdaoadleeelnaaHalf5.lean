/- Contracts of TighterHalf and CrossingOf, of the program and of the reference, and the walks of their laws. -/
import Derived.Test.YthdaoadleeelnaaHalf4
import Derived.Test.YthdaoadleeelnaaSpot2
import Derived.Test.YthdaoadleeelnaaNew
namespace Go.Proofs.Ythdaoadleeelnaa
open Go.ChangeShapes Go.WideShapes Go.ChangeAt Go.RowKit
attribute [local go_sem ↓] Go.wp_at_zero Go.wp_at_succ
set_option linter.unusedVariables false

/-- The magnitude of a coefficient that is not 0. -/
def szV (a b : Int) : Int := if a = 0 then (b.natAbs : Int) else (a.natAbs : Int)

set_option maxHeartbeats 400000 in
set_option maxRecDepth 100000 in
theorem size_any (a b c : Int) (w : World) (h1 : -50000 ≤ a) (h2 : a ≤ 50000) (h3 : -50000 ≤ b) (h4 : b ≤ 50000) :
    Calls Try.prog 101 #[.agg #[.int .i64 a, .int .i64 b, .int .i64 c]] w fun e w' => e = .returned (.int .i64 (szV a b)) ∧ Below w.heap.size w w' := by
  cases hz : (a == 0)
  · have hz' : (a != 0) = true := by rw [bne_iff_ne]; exact beq_eq_false_iff_ne.1 hz
    have HV := Lib.hid (show szV a b = (a.natAbs : Int) by unfold szV; rw [if_neg (beq_eq_false_iff_ne.1 hz)])
    by_cases hp : 0 ≤ a
    · go_enter Try.func101, Try.ntmps101
      go_wp2_with fail
      all_goals
        go_ret
        exact ⟨ret_int (by rw [HV.out]; omega), (by repeat (first | exact Below.refl _ _ | assumption | refine below_drewN ?_ _ | refine Below.drew ?_ | refine Below.alloc ?_ (by first | omega | (simp <;> omega)) _ | refine Below.setCell ?_ (by first | omega | (simp <;> omega)) _))⟩
    · go_enter Try.func101, Try.ntmps101
      go_wp2_with fail
      all_goals
        go_ret
        exact ⟨ret_int (by rw [HV.out]; omega), (by repeat (first | exact Below.refl _ _ | assumption | refine below_drewN ?_ _ | refine Below.drew ?_ | refine Below.alloc ?_ (by first | omega | (simp <;> omega)) _ | refine Below.setCell ?_ (by first | omega | (simp <;> omega)) _))⟩
  · have hz' : (a != 0) = false := by rw [bne_eq_false_iff_eq]; exact beq_iff_eq.1 hz
    have HV := Lib.hid (show szV a b = (b.natAbs : Int) by unfold szV; rw [if_pos (beq_iff_eq.1 hz)])
    by_cases hp : 0 ≤ b
    · go_enter Try.func101, Try.ntmps101
      go_wp2_with fail
      all_goals
        go_ret
        exact ⟨ret_int (by rw [HV.out]; omega), (by repeat (first | exact Below.refl _ _ | assumption | refine below_drewN ?_ _ | refine Below.drew ?_ | refine Below.alloc ?_ (by first | omega | (simp <;> omega)) _ | refine Below.setCell ?_ (by first | omega | (simp <;> omega)) _))⟩
    · go_enter Try.func101, Try.ntmps101
      go_wp2_with fail
      all_goals
        go_ret
        exact ⟨ret_int (by rw [HV.out]; omega), (by repeat (first | exact Below.refl _ _ | assumption | refine below_drewN ?_ _ | refine Below.drew ?_ | refine Below.alloc ?_ (by first | omega | (simp <;> omega)) _ | refine Below.setCell ?_ (by first | omega | (simp <;> omega)) _))⟩

/-- Is the second of two half planes of one direction the tighter one? By one coefficient, and by the sum of both. -/
theorem tight_same (a b c a' b' c' : Int) (h1 : ¬ (a = 0 ∧ b = 0)) (h2 : ¬ (a' = 0 ∧ b' = 0)) (hc : a * b' = b * a') : decide (c' * szV a b < c * szV a' b') = decide (c' * ((a.natAbs : Int) + b.natAbs) < c * ((a'.natAbs : Int) + b'.natAbs)) := by
  have e : (a.natAbs : Int) * b'.natAbs = (b.natAbs : Int) * a'.natAbs := by
    have := congrArg Int.natAbs hc
    rw [Int.natAbs_mul, Int.natAbs_mul] at this
    exact_mod_cast this
  have z1 : a = 0 ↔ (a.natAbs : Int) = 0 := by omega
  have z2 : b = 0 ↔ (b.natAbs : Int) = 0 := by omega
  have z3 : a' = 0 ↔ (a'.natAbs : Int) = 0 := by omega
  have z4 : b' = 0 ↔ (b'.natAbs : Int) = 0 := by omega
  have p1 : 0 ≤ (a.natAbs : Int) := by omega
  have p2 : 0 ≤ (b.natAbs : Int) := by omega
  have p3 : 0 ≤ (a'.natAbs : Int) := by omega
  have p4 : 0 ≤ (b'.natAbs : Int) := by omega
  have s1 : szV a b = if (a.natAbs : Int) = 0 then (b.natAbs : Int) else (a.natAbs : Int) := by
    unfold szV
    by_cases h : a = 0
    · rw [if_pos h, if_pos (z1.1 h)]
    · rw [if_neg h, if_neg (fun h' => h (z1.2 h'))]
  have s2 : szV a' b' = if (a'.natAbs : Int) = 0 then (b'.natAbs : Int) else (a'.natAbs : Int) := by
    unfold szV
    by_cases h : a' = 0
    · rw [if_pos h, if_pos (z3.1 h)]
    · rw [if_neg h, if_neg (fun h' => h (z3.2 h'))]
  rw [s1, s2]
  clear s1 s2
  rw [z1, z2] at h1
  rw [z3, z4] at h2
  generalize (a.natAbs : Int) = p at *
  generalize (b.natAbs : Int) = q at *
  generalize (a'.natAbs : Int) = p' at *
  generalize (b'.natAbs : Int) = q' at *
  clear hc z1 z2 z3 z4
  rw [Bool.eq_iff_iff]
  simp only [decide_eq_true_eq]
  by_cases hp : p = 0
  · subst hp
    have hq : 0 < q := by omega
    have hp' : p' = 0 := by
      rw [Int.zero_mul] at e
      rcases Int.mul_eq_zero.1 e.symm with h | h
      · omega
      · exact h
    subst hp'
    rw [if_pos rfl, if_pos rfl]
    simp only [Int.zero_add]
  · have hp0 : 0 < p := by omega
    have hp' : p' ≠ 0 := by
      intro h
      subst h
      rw [Int.mul_zero] at e
      rcases Int.mul_eq_zero.1 e with h | h
      · omega
      · omega
    have hp0' : 0 < p' := by omega
    rw [if_neg hp, if_neg hp']
    have k : p' * (p + q) = p * (p' + q') := by grind
    have s' : 0 < p' + q' := by omega
    have i1 : c' * (p + q) * p' = c' * p * (p' + q') := by grind
    have i2 : c * (p' + q') * p' = c * p' * (p' + q') := by grind
    constructor
    · intro h
      have := Int.mul_lt_mul_of_pos_right h s'
      rw [← i1, ← i2] at this
      exact Int.lt_of_mul_lt_mul_right this (by omega)
    · intro h
      have := Int.mul_lt_mul_of_pos_right h hp0'
      rw [i1, i2] at this
      exact Int.lt_of_mul_lt_mul_right this (by omega)

theorem szV_range {a b c : Int} (h : halfOkV a b c = true) : 0 ≤ szV a b ∧ szV a b ≤ 50000 := by
  have hb := halfOkV_bounds h
  unfold szV
  split <;> omega

/-- TighterHalf's result: the second half plane, the first one, or none. -/
def tgB (a b c a' b' c' : Int) : Bool := decide (c' * szV a b < c * szV a' b')

def tgV (a b c a' b' c' s t : Int) : Int := if sdirV a b c a' b' c' then (if tgB a b c a' b' c' then t else s) else 0

theorem sdirV_parts {a b c a' b' c' : Int} (h : sdirV a b c a' b' c' = true) : halfOkV a b c = true ∧ halfOkV a' b' c' = true ∧ a * b' = b * a' := by
  unfold sdirV sdV crV at h
  simp only [Bool.and_eq_true, beq_iff_eq] at h
  exact ⟨h.1, h.2.1, by omega⟩

theorem iSameDirection_lit {a b c a' b' c' : Int} {v : Bool} (h : sdirV a b c a' b' c' = v) (w : World) :
    Calls Try.prog 100 #[.agg #[.int .i64 a, .int .i64 b, .int .i64 c], .agg #[.int .i64 a', .int .i64 b', .int .i64 c']] w fun e w' => e = .returned (.bool v) ∧ Below w.heap.size w w' := by
  rw [← h]; exact iSameDirection_any a b c a' b' c' w

theorem sSameDirection_lit {a b c a' b' c' : Int} {v : Bool} (h : sdirV a b c a' b' c' = v) (w : World) :
    Calls Try.prog 80 #[.agg #[.int .i64 a, .int .i64 b, .int .i64 c], .agg #[.int .i64 a', .int .i64 b', .int .i64 c']] w fun e w' => e = .returned (.bool v) ∧ Below w.heap.size w w' := by
  rw [← h]; exact sSameDirection_any a b c a' b' c' w

set_option maxHeartbeats 1000000 in
set_option maxRecDepth 100000 in
theorem iTighterHalf_any (a b c a' b' c' : Int) (w : World) :
    Calls Try.prog 88 #[.agg #[.int .i64 a, .int .i64 b, .int .i64 c], .agg #[.int .i64 a', .int .i64 b', .int .i64 c']] w fun e w' => e = .returned (.agg #[.int .i64 (tgV a b c a' b' c' a a'), .int .i64 (tgV a b c a' b' c' b b'), .int .i64 (tgV a b c a' b' c' c c')]) ∧ Below w.heap.size w w' := by
  cases h1 : sdirV a b c a' b' c'
  · have HV := Lib.hid (show ∀ s t, tgV a b c a' b' c' s t = 0 by intro s t; unfold tgV; rw [h1]; rfl)
    have H1 := Lib.hid h1; clear h1
    go_enter Try.func88, Try.ntmps88
    go_wp2_with (first | (go_at_call 100; with_reducible refine (iSameDirection_lit H1.out _).mono ?_; rintro e w1 ⟨rfl, hb1⟩; have cc0 := cell_keep (p := ⟨w.heap.size + 1 + 1, 0, none⟩) (v := .int .i64 0) hb1 (by first | assumption | (go_keep; done) | (go_simp; done) | (simp; done)) (by first | omega | (simp <;> omega)); have cc1 := cell_keep (p := ⟨w.heap.size + 1 + 1, 1, none⟩) (v := .int .i64 0) hb1 (by first | assumption | (go_keep; done) | (go_simp; done) | (simp; done)) (by first | omega | (simp <;> omega)); have cc2 := cell_keep (p := ⟨w.heap.size + 1 + 1, 2, none⟩) (v := .int .i64 0) hb1 (by first | assumption | (go_keep; done) | (go_simp; done) | (simp; done)) (by first | omega | (simp <;> omega)); have cc3 := cell_keep (p := ⟨w.heap.size, 0, none⟩) (v := .int .i64 a) hb1 (by first | assumption | (go_keep; done) | (go_simp; done) | (simp; done)) (by first | omega | (simp <;> omega)); have cc4 := cell_keep (p := ⟨w.heap.size, 1, none⟩) (v := .int .i64 b) hb1 (by first | assumption | (go_keep; done) | (go_simp; done) | (simp; done)) (by first | omega | (simp <;> omega)); have cc5 := cell_keep (p := ⟨w.heap.size, 2, none⟩) (v := .int .i64 c) hb1 (by first | assumption | (go_keep; done) | (go_simp; done) | (simp; done)) (by first | omega | (simp <;> omega)); have cc6 := cell_keep (p := ⟨w.heap.size + 1, 0, none⟩) (v := .int .i64 a') hb1 (by first | assumption | (go_keep; done) | (go_simp; done) | (simp; done)) (by first | omega | (simp <;> omega)); have cc7 := cell_keep (p := ⟨w.heap.size + 1, 1, none⟩) (v := .int .i64 b') hb1 (by first | assumption | (go_keep; done) | (go_simp; done) | (simp; done)) (by first | omega | (simp <;> omega)); have cc8 := cell_keep (p := ⟨w.heap.size + 1, 2, none⟩) (v := .int .i64 c') hb1 (by first | assumption | (go_keep; done) | (go_simp; done) | (simp; done)) (by first | omega | (simp <;> omega)); have cf0 := frozen_keep (p := ⟨w.heap.size + 1 + 1, 0, none⟩) hb1 (by first | assumption | (go_keep; done) | (go_simp; done) | (simp; done)) (by first | omega | (simp <;> omega)); have cf1 := frozen_keep (p := ⟨w.heap.size + 1 + 1, 1, none⟩) hb1 (by first | assumption | (go_keep; done) | (go_simp; done) | (simp; done)) (by first | omega | (simp <;> omega)); have cf2 := frozen_keep (p := ⟨w.heap.size + 1 + 1, 2, none⟩) hb1 (by first | assumption | (go_keep; done) | (go_simp; done) | (simp; done)) (by first | omega | (simp <;> omega)); have hS1 : Below w.heap.size w w1 := S_below hb1 (by repeat (first | exact Below.refl _ _ | assumption | refine below_drewN ?_ _ | refine Below.drew ?_ | refine Below.alloc ?_ (by first | omega | (simp <;> omega)) _ | refine Below.setCell ?_ (by first | omega | (simp <;> omega)) _)) (by first | omega | (simp <;> omega)); have hz1 : w.heap.size + 1 + 1 + 1 ≤ w1.heap.size := S_size hb1 (by first | omega | (simp <;> omega)); have hqb0 : w.heap.size + 1 + 1 < w1.heap.size := S_lt hb1 (by first | omega | (simp <;> omega)); have hqb1 : w.heap.size < w1.heap.size := S_lt hb1 (by first | omega | (simp <;> omega)); have hqb2 : w.heap.size + 1 < w1.heap.size := S_lt hb1 (by first | omega | (simp <;> omega)); clear hb1))
    exact bodyPost_ret (v := .agg #[.int .i64 0, .int .i64 0, .int .i64 0]) (by simp [results, Try.results88, go_sem, set_0 cc0, set2_1 cc1, set3_2 cc2]) rfl ⟨ret_agg3 (HV.out _ _).symm (HV.out _ _).symm (HV.out _ _).symm, (by repeat (first | exact Below.refl _ _ | assumption | refine below_drewN ?_ _ | refine Below.drew ?_ | refine Below.alloc ?_ (by first | omega | (simp <;> omega)) _ | refine Below.setCell ?_ (by first | omega | (simp <;> omega)) _))⟩
  · obtain ⟨k1, k2, k3⟩ := sdirV_parts h1
    have b1 := halfOkV_bounds k1
    have b2 := halfOkV_bounds k2
    have z1 := szV_range k1
    have z2 := szV_range k2
    have m1 := mul_range c' (szV a b) 100000000 50000 (by omega) (by omega) (by omega) (by omega)
    have m2 := mul_range c (szV a' b') 100000000 50000 (by omega) (by omega) (by omega) (by omega)
    cases h2 : tgB a b c a' b' c'
    · have HV := Lib.hid (show ∀ s t, tgV a b c a' b' c' s t = s by intro s t; unfold tgV; rw [h1, h2]; rfl)
      have hlt : ¬ (c' * szV a b < c * szV a' b') := of_decide_eq_false h2
      have H1 := Lib.hid h1; clear h1 h2 k1 k2 k3
      go_enter Try.func88, Try.ntmps88
      go_wp2_with (first | (go_at_call 100; with_reducible refine (iSameDirection_lit H1.out _).mono ?_; rintro e w1 ⟨rfl, hb1⟩; have cc0 := cell_keep (p := ⟨w.heap.size + 1 + 1, 0, none⟩) (v := .int .i64 0) hb1 (by first | assumption | (go_keep; done) | (go_simp; done) | (simp; done)) (by first | omega | (simp <;> omega)); have cc1 := cell_keep (p := ⟨w.heap.size + 1 + 1, 1, none⟩) (v := .int .i64 0) hb1 (by first | assumption | (go_keep; done) | (go_simp; done) | (simp; done)) (by first | omega | (simp <;> omega)); have cc2 := cell_keep (p := ⟨w.heap.size + 1 + 1, 2, none⟩) (v := .int .i64 0) hb1 (by first | assumption | (go_keep; done) | (go_simp; done) | (simp; done)) (by first | omega | (simp <;> omega)); have cc3 := cell_keep (p := ⟨w.heap.size, 0, none⟩) (v := .int .i64 a) hb1 (by first | assumption | (go_keep; done) | (go_simp; done) | (simp; done)) (by first | omega | (simp <;> omega)); have cc4 := cell_keep (p := ⟨w.heap.size, 1, none⟩) (v := .int .i64 b) hb1 (by first | assumption | (go_keep; done) | (go_simp; done) | (simp; done)) (by first | omega | (simp <;> omega)); have cc5 := cell_keep (p := ⟨w.heap.size, 2, none⟩) (v := .int .i64 c) hb1 (by first | assumption | (go_keep; done) | (go_simp; done) | (simp; done)) (by first | omega | (simp <;> omega)); have cc6 := cell_keep (p := ⟨w.heap.size + 1, 0, none⟩) (v := .int .i64 a') hb1 (by first | assumption | (go_keep; done) | (go_simp; done) | (simp; done)) (by first | omega | (simp <;> omega)); have cc7 := cell_keep (p := ⟨w.heap.size + 1, 1, none⟩) (v := .int .i64 b') hb1 (by first | assumption | (go_keep; done) | (go_simp; done) | (simp; done)) (by first | omega | (simp <;> omega)); have cc8 := cell_keep (p := ⟨w.heap.size + 1, 2, none⟩) (v := .int .i64 c') hb1 (by first | assumption | (go_keep; done) | (go_simp; done) | (simp; done)) (by first | omega | (simp <;> omega)); have cf0 := frozen_keep (p := ⟨w.heap.size + 1 + 1, 0, none⟩) hb1 (by first | assumption | (go_keep; done) | (go_simp; done) | (simp; done)) (by first | omega | (simp <;> omega)); have cf1 := frozen_keep (p := ⟨w.heap.size + 1 + 1, 1, none⟩) hb1 (by first | assumption | (go_keep; done) | (go_simp; done) | (simp; done)) (by first | omega | (simp <;> omega)); have cf2 := frozen_keep (p := ⟨w.heap.size + 1 + 1, 2, none⟩) hb1 (by first | assumption | (go_keep; done) | (go_simp; done) | (simp; done)) (by first | omega | (simp <;> omega)); have hS1 : Below w.heap.size w w1 := S_below hb1 (by repeat (first | exact Below.refl _ _ | assumption | refine below_drewN ?_ _ | refine Below.drew ?_ | refine Below.alloc ?_ (by first | omega | (simp <;> omega)) _ | refine Below.setCell ?_ (by first | omega | (simp <;> omega)) _)) (by first | omega | (simp <;> omega)); have hz1 : w.heap.size + 1 + 1 + 1 ≤ w1.heap.size := S_size hb1 (by first | omega | (simp <;> omega)); have hqb0 : w.heap.size + 1 + 1 < w1.heap.size := S_lt hb1 (by first | omega | (simp <;> omega)); have hqb1 : w.heap.size < w1.heap.size := S_lt hb1 (by first | omega | (simp <;> omega)); have hqb2 : w.heap.size + 1 < w1.heap.size := S_lt hb1 (by first | omega | (simp <;> omega)); clear hb1))
      first
        | (go_region_held3 (fun w' => (Below w.heap.size w w' ∧ w.heap.size + 1 + 1 + 1 ≤ w'.heap.size) ∧ w'.cell? ⟨w.heap.size + 1 + 1, 0, none⟩ = some (.int .i64 0) ∧ w'.cell? ⟨w.heap.size + 1 + 1, 1, none⟩ = some (.int .i64 0) ∧ w'.cell? ⟨w.heap.size + 1 + 1, 2, none⟩ = some (.int .i64 0) ∧ w'.cell? ⟨w.heap.size, 0, none⟩ = some (.int .i64 a) ∧ w'.cell? ⟨w.heap.size, 1, none⟩ = some (.int .i64 b) ∧ w'.cell? ⟨w.heap.size, 2, none⟩ = some (.int .i64 c) ∧ w'.cell? ⟨w.heap.size + 1, 0, none⟩ = some (.int .i64 a') ∧ w'.cell? ⟨w.heap.size + 1, 1, none⟩ = some (.int .i64 b') ∧ w'.cell? ⟨w.heap.size + 1, 2, none⟩ = some (.int .i64 c') ∧ w'.frozen? ⟨w.heap.size + 1 + 1, 0, none⟩ = false ∧ w'.frozen? ⟨w.heap.size + 1 + 1, 1, none⟩ = false ∧ w'.frozen? ⟨w.heap.size + 1 + 1, 2, none⟩ = false) (first | (go_split_ands; refine ⟨⟨?_, ?_⟩, ?_, ?_, ?_, ?_, ?_, ?_, ?_, ?_, ?_, ?_, ?_, ?_⟩ <;> first | (with_reducible assumption) | ((with_reducible refine cell_keep hb1 ?_ ?_); (focus first | (with_reducible assumption) | (go_keep; done) | (go_simp; done) | (simp; done)); (focus first | omega | (simp <;> omega))) | ((with_reducible refine frozen_keep hb1 ?_ ?_); (focus first | (with_reducible assumption) | (go_keep; done) | (go_simp; done) | (simp; done)); (focus first | omega | (simp <;> omega))) | ((with_reducible refine S_size hb1 ?_); (focus first | omega | (simp <;> omega))) | ((with_reducible refine S_lt hb1 ?_); (focus first | omega | (simp <;> omega))) | ((with_reducible refine S_below hb1 ?_ ?_); (focus ((repeat (first | (with_reducible exact Below.refl _ _) | (with_reducible assumption) | (with_reducible refine below_drewN ?_ _) | (with_reducible refine Below.drew ?_) | ((with_reducible refine Below.alloc ?_ ?_ _); rotate_left; (focus first | omega | (simp <;> omega))) | ((with_reducible refine Below.setCell ?_ ?_ _); rotate_left; (focus first | omega | (simp <;> omega))))); done)); (focus first | omega | (simp <;> omega))) | ((with_reducible apply S_realloc2); (focus (with_reducible assumption)); (focus (with_reducible assumption)); (focus omega)) | (with_reducible show Below _ _ _; (repeat (first | (with_reducible exact Below.refl _ _) | (with_reducible assumption) | (with_reducible refine below_drewN ?_ _) | (with_reducible refine Below.drew ?_) | ((with_reducible refine Below.alloc ?_ ?_ _); rotate_left; (focus first | omega | (simp <;> omega))) | ((with_reducible refine Below.setCell ?_ ?_ _); rotate_left; (focus first | omega | (simp <;> omega))))); done) | (go_keep; done) | omega | (simp <;> omega) | (go_simp; done)))
            (first | (go_at_call 101; with_reducible refine (size_any _ _ _ _ (by omega) (by omega) (by omega) (by omega)).mono ?_; rintro e w1 ⟨rfl, hb1⟩)))
        | fail "held"
      go_split_ands
      have cc0 : w1.cell? ⟨w.heap.size + 1 + 1, 0, none⟩ = some (.int .i64 0) := by assumption
      have cc1 : w1.cell? ⟨w.heap.size + 1 + 1, 1, none⟩ = some (.int .i64 0) := by assumption
      have cc2 : w1.cell? ⟨w.heap.size + 1 + 1, 2, none⟩ = some (.int .i64 0) := by assumption
      have e1 : IntKind.i64.wrap (c' * szV a b) = c' * szV a b := IntWalk.i64_in _ (by omega)
      have e2 : IntKind.i64.wrap (c * szV a' b') = c * szV a' b' := IntWalk.i64_in _ (by omega)
      go_wp2_with fail
      all_goals first | (exfalso; omega) | exact bodyPost_ret (v := .agg #[.int .i64 a, .int .i64 b, .int .i64 c]) (by simp [results, Try.results88, go_sem, set_0 cc0, set2_1 cc1, set3_2 cc2]) rfl ⟨ret_agg3 (HV.out _ _).symm (HV.out _ _).symm (HV.out _ _).symm, (by repeat (first | exact Below.refl _ _ | assumption | refine below_drewN ?_ _ | refine Below.drew ?_ | refine Below.alloc ?_ (by first | omega | (simp <;> omega)) _ | refine Below.setCell ?_ (by first | omega | (simp <;> omega)) _))⟩
    · have HV := Lib.hid (show ∀ s t, tgV a b c a' b' c' s t = t by intro s t; unfold tgV; rw [h1, h2]; rfl)
      have hlt : c' * szV a b < c * szV a' b' := of_decide_eq_true h2
      have H1 := Lib.hid h1; clear h1 h2 k1 k2 k3
      go_enter Try.func88, Try.ntmps88
      go_wp2_with (first | (go_at_call 100; with_reducible refine (iSameDirection_lit H1.out _).mono ?_; rintro e w1 ⟨rfl, hb1⟩; have cc0 := cell_keep (p := ⟨w.heap.size + 1 + 1, 0, none⟩) (v := .int .i64 0) hb1 (by first | assumption | (go_keep; done) | (go_simp; done) | (simp; done)) (by first | omega | (simp <;> omega)); have cc1 := cell_keep (p := ⟨w.heap.size + 1 + 1, 1, none⟩) (v := .int .i64 0) hb1 (by first | assumption | (go_keep; done) | (go_simp; done) | (simp; done)) (by first | omega | (simp <;> omega)); have cc2 := cell_keep (p := ⟨w.heap.size + 1 + 1, 2, none⟩) (v := .int .i64 0) hb1 (by first | assumption | (go_keep; done) | (go_simp; done) | (simp; done)) (by first | omega | (simp <;> omega)); have cc3 := cell_keep (p := ⟨w.heap.size, 0, none⟩) (v := .int .i64 a) hb1 (by first | assumption | (go_keep; done) | (go_simp; done) | (simp; done)) (by first | omega | (simp <;> omega)); have cc4 := cell_keep (p := ⟨w.heap.size, 1, none⟩) (v := .int .i64 b) hb1 (by first | assumption | (go_keep; done) | (go_simp; done) | (simp; done)) (by first | omega | (simp <;> omega)); have cc5 := cell_keep (p := ⟨w.heap.size, 2, none⟩) (v := .int .i64 c) hb1 (by first | assumption | (go_keep; done) | (go_simp; done) | (simp; done)) (by first | omega | (simp <;> omega)); have cc6 := cell_keep (p := ⟨w.heap.size + 1, 0, none⟩) (v := .int .i64 a') hb1 (by first | assumption | (go_keep; done) | (go_simp; done) | (simp; done)) (by first | omega | (simp <;> omega)); have cc7 := cell_keep (p := ⟨w.heap.size + 1, 1, none⟩) (v := .int .i64 b') hb1 (by first | assumption | (go_keep; done) | (go_simp; done) | (simp; done)) (by first | omega | (simp <;> omega)); have cc8 := cell_keep (p := ⟨w.heap.size + 1, 2, none⟩) (v := .int .i64 c') hb1 (by first | assumption | (go_keep; done) | (go_simp; done) | (simp; done)) (by first | omega | (simp <;> omega)); have cf0 := frozen_keep (p := ⟨w.heap.size + 1 + 1, 0, none⟩) hb1 (by first | assumption | (go_keep; done) | (go_simp; done) | (simp; done)) (by first | omega | (simp <;> omega)); have cf1 := frozen_keep (p := ⟨w.heap.size + 1 + 1, 1, none⟩) hb1 (by first | assumption | (go_keep; done) | (go_simp; done) | (simp; done)) (by first | omega | (simp <;> omega)); have cf2 := frozen_keep (p := ⟨w.heap.size + 1 + 1, 2, none⟩) hb1 (by first | assumption | (go_keep; done) | (go_simp; done) | (simp; done)) (by first | omega | (simp <;> omega)); have hS1 : Below w.heap.size w w1 := S_below hb1 (by repeat (first | exact Below.refl _ _ | assumption | refine below_drewN ?_ _ | refine Below.drew ?_ | refine Below.alloc ?_ (by first | omega | (simp <;> omega)) _ | refine Below.setCell ?_ (by first | omega | (simp <;> omega)) _)) (by first | omega | (simp <;> omega)); have hz1 : w.heap.size + 1 + 1 + 1 ≤ w1.heap.size := S_size hb1 (by first | omega | (simp <;> omega)); have hqb0 : w.heap.size + 1 + 1 < w1.heap.size := S_lt hb1 (by first | omega | (simp <;> omega)); have hqb1 : w.heap.size < w1.heap.size := S_lt hb1 (by first | omega | (simp <;> omega)); have hqb2 : w.heap.size + 1 < w1.heap.size := S_lt hb1 (by first | omega | (simp <;> omega)); clear hb1))
      first
        | (go_region_held3 (fun w' => (Below w.heap.size w w' ∧ w.heap.size + 1 + 1 + 1 ≤ w'.heap.size) ∧ w'.cell? ⟨w.heap.size + 1 + 1, 0, none⟩ = some (.int .i64 0) ∧ w'.cell? ⟨w.heap.size + 1 + 1, 1, none⟩ = some (.int .i64 0) ∧ w'.cell? ⟨w.heap.size + 1 + 1, 2, none⟩ = some (.int .i64 0) ∧ w'.cell? ⟨w.heap.size, 0, none⟩ = some (.int .i64 a) ∧ w'.cell? ⟨w.heap.size, 1, none⟩ = some (.int .i64 b) ∧ w'.cell? ⟨w.heap.size, 2, none⟩ = some (.int .i64 c) ∧ w'.cell? ⟨w.heap.size + 1, 0, none⟩ = some (.int .i64 a') ∧ w'.cell? ⟨w.heap.size + 1, 1, none⟩ = some (.int .i64 b') ∧ w'.cell? ⟨w.heap.size + 1, 2, none⟩ = some (.int .i64 c') ∧ w'.frozen? ⟨w.heap.size + 1 + 1, 0, none⟩ = false ∧ w'.frozen? ⟨w.heap.size + 1 + 1, 1, none⟩ = false ∧ w'.frozen? ⟨w.heap.size + 1 + 1, 2, none⟩ = false) (first | (go_split_ands; refine ⟨⟨?_, ?_⟩, ?_, ?_, ?_, ?_, ?_, ?_, ?_, ?_, ?_, ?_, ?_, ?_⟩ <;> first | (with_reducible assumption) | ((with_reducible refine cell_keep hb1 ?_ ?_); (focus first | (with_reducible assumption) | (go_keep; done) | (go_simp; done) | (simp; done)); (focus first | omega | (simp <;> omega))) | ((with_reducible refine frozen_keep hb1 ?_ ?_); (focus first | (with_reducible assumption) | (go_keep; done) | (go_simp; done) | (simp; done)); (focus first | omega | (simp <;> omega))) | ((with_reducible refine S_size hb1 ?_); (focus first | omega | (simp <;> omega))) | ((with_reducible refine S_lt hb1 ?_); (focus first | omega | (simp <;> omega))) | ((with_reducible refine S_below hb1 ?_ ?_); (focus ((repeat (first | (with_reducible exact Below.refl _ _) | (with_reducible assumption) | (with_reducible refine below_drewN ?_ _) | (with_reducible refine Below.drew ?_) | ((with_reducible refine Below.alloc ?_ ?_ _); rotate_left; (focus first | omega | (simp <;> omega))) | ((with_reducible refine Below.setCell ?_ ?_ _); rotate_left; (focus first | omega | (simp <;> omega))))); done)); (focus first | omega | (simp <;> omega))) | ((with_reducible apply S_realloc2); (focus (with_reducible assumption)); (focus (with_reducible assumption)); (focus omega)) | (with_reducible show Below _ _ _; (repeat (first | (with_reducible exact Below.refl _ _) | (with_reducible assumption) | (with_reducible refine below_drewN ?_ _) | (with_reducible refine Below.drew ?_) | ((with_reducible refine Below.alloc ?_ ?_ _); rotate_left; (focus first | omega | (simp <;> omega))) | ((with_reducible refine Below.setCell ?_ ?_ _); rotate_left; (focus first | omega | (simp <;> omega))))); done) | (go_keep; done) | omega | (simp <;> omega) | (go_simp; done)))
            (first | (go_at_call 101; with_reducible refine (size_any _ _ _ _ (by omega) (by omega) (by omega) (by omega)).mono ?_; rintro e w1 ⟨rfl, hb1⟩)))
        | fail "held"
      go_split_ands
      have cc0 : w1.cell? ⟨w.heap.size + 1 + 1, 0, none⟩ = some (.int .i64 0) := by assumption
      have cc1 : w1.cell? ⟨w.heap.size + 1 + 1, 1, none⟩ = some (.int .i64 0) := by assumption
      have cc2 : w1.cell? ⟨w.heap.size + 1 + 1, 2, none⟩ = some (.int .i64 0) := by assumption
      have e1 : IntKind.i64.wrap (c' * szV a b) = c' * szV a b := IntWalk.i64_in _ (by omega)
      have e2 : IntKind.i64.wrap (c * szV a' b') = c * szV a' b' := IntWalk.i64_in _ (by omega)
      go_wp2_with fail
      all_goals first | (exfalso; omega) | exact bodyPost_ret (v := .agg #[.int .i64 a', .int .i64 b', .int .i64 c']) (by simp [results, Try.results88, go_sem, set_0 cc0, set2_1 cc1, set3_2 cc2]) rfl ⟨ret_agg3 (HV.out _ _).symm (HV.out _ _).symm (HV.out _ _).symm, (by repeat (first | exact Below.refl _ _ | assumption | refine below_drewN ?_ _ | refine Below.drew ?_ | refine Below.alloc ?_ (by first | omega | (simp <;> omega)) _ | refine Below.setCell ?_ (by first | omega | (simp <;> omega)) _))⟩

theorem abs_if (a b : Int) : ((if a < -a then -a else a) + if b < -b then -b else b) = (a.natAbs : Int) + b.natAbs := by
  split <;> split <;> omega

set_option maxHeartbeats 1000000 in
set_option maxRecDepth 100000 in
theorem sTighterHalf_any (a b c a' b' c' : Int) (w : World) :
    Calls Try.prog 81 #[.agg #[.int .i64 a, .int .i64 b, .int .i64 c], .agg #[.int .i64 a', .int .i64 b', .int .i64 c']] w fun e w' => e = .returned (.agg #[.int .i64 (tgV a b c a' b' c' a a'), .int .i64 (tgV a b c a' b' c' b b'), .int .i64 (tgV a b c a' b' c' c c')]) ∧ Below w.heap.size w w' := by
  cases h1 : sdirV a b c a' b' c'
  · have HV := Lib.hid (show ∀ s t, tgV a b c a' b' c' s t = 0 by intro s t; unfold tgV; rw [h1]; rfl)
    have H1 := Lib.hid h1; clear h1
    go_enter Try.func81, Try.ntmps81
    go_wp2_with (first | (go_at_call 80; with_reducible refine (sSameDirection_lit H1.out _).mono ?_; rintro e w1 ⟨rfl, hb1⟩; have cc0 := cell_keep (p := ⟨w.heap.size + 1 + 1, 0, none⟩) (v := .int .i64 0) hb1 (by first | assumption | (go_keep; done) | (go_simp; done) | (simp; done)) (by first | omega | (simp <;> omega)); have cc1 := cell_keep (p := ⟨w.heap.size + 1 + 1, 1, none⟩) (v := .int .i64 0) hb1 (by first | assumption | (go_keep; done) | (go_simp; done) | (simp; done)) (by first | omega | (simp <;> omega)); have cc2 := cell_keep (p := ⟨w.heap.size + 1 + 1, 2, none⟩) (v := .int .i64 0) hb1 (by first | assumption | (go_keep; done) | (go_simp; done) | (simp; done)) (by first | omega | (simp <;> omega)); have cc3 := cell_keep (p := ⟨w.heap.size, 0, none⟩) (v := .int .i64 a) hb1 (by first | assumption | (go_keep; done) | (go_simp; done) | (simp; done)) (by first | omega | (simp <;> omega)); have cc4 := cell_keep (p := ⟨w.heap.size, 1, none⟩) (v := .int .i64 b) hb1 (by first | assumption | (go_keep; done) | (go_simp; done) | (simp; done)) (by first | omega | (simp <;> omega)); have cc5 := cell_keep (p := ⟨w.heap.size, 2, none⟩) (v := .int .i64 c) hb1 (by first | assumption | (go_keep; done) | (go_simp; done) | (simp; done)) (by first | omega | (simp <;> omega)); have cc6 := cell_keep (p := ⟨w.heap.size + 1, 0, none⟩) (v := .int .i64 a') hb1 (by first | assumption | (go_keep; done) | (go_simp; done) | (simp; done)) (by first | omega | (simp <;> omega)); have cc7 := cell_keep (p := ⟨w.heap.size + 1, 1, none⟩) (v := .int .i64 b') hb1 (by first | assumption | (go_keep; done) | (go_simp; done) | (simp; done)) (by first | omega | (simp <;> omega)); have cc8 := cell_keep (p := ⟨w.heap.size + 1, 2, none⟩) (v := .int .i64 c') hb1 (by first | assumption | (go_keep; done) | (go_simp; done) | (simp; done)) (by first | omega | (simp <;> omega)); have cf0 := frozen_keep (p := ⟨w.heap.size + 1 + 1, 0, none⟩) hb1 (by first | assumption | (go_keep; done) | (go_simp; done) | (simp; done)) (by first | omega | (simp <;> omega)); have cf1 := frozen_keep (p := ⟨w.heap.size + 1 + 1, 1, none⟩) hb1 (by first | assumption | (go_keep; done) | (go_simp; done) | (simp; done)) (by first | omega | (simp <;> omega)); have cf2 := frozen_keep (p := ⟨w.heap.size + 1 + 1, 2, none⟩) hb1 (by first | assumption | (go_keep; done) | (go_simp; done) | (simp; done)) (by first | omega | (simp <;> omega)); have hS1 : Below w.heap.size w w1 := S_below hb1 (by repeat (first | exact Below.refl _ _ | assumption | refine below_drewN ?_ _ | refine Below.drew ?_ | refine Below.alloc ?_ (by first | omega | (simp <;> omega)) _ | refine Below.setCell ?_ (by first | omega | (simp <;> omega)) _)) (by first | omega | (simp <;> omega)); have hz1 : w.heap.size + 1 + 1 + 1 ≤ w1.heap.size := S_size hb1 (by first | omega | (simp <;> omega)); have hqb0 : w.heap.size + 1 + 1 < w1.heap.size := S_lt hb1 (by first | omega | (simp <;> omega)); have hqb1 : w.heap.size < w1.heap.size := S_lt hb1 (by first | omega | (simp <;> omega)); have hqb2 : w.heap.size + 1 < w1.heap.size := S_lt hb1 (by first | omega | (simp <;> omega)); clear hb1))
    exact bodyPost_ret (v := .agg #[.int .i64 0, .int .i64 0, .int .i64 0]) (by simp [results, Try.results81, go_sem, set_0 cc0, set2_1 cc1, set3_2 cc2]) rfl ⟨ret_agg3 (HV.out _ _).symm (HV.out _ _).symm (HV.out _ _).symm, (by repeat (first | exact Below.refl _ _ | assumption | refine below_drewN ?_ _ | refine Below.drew ?_ | refine Below.alloc ?_ (by first | omega | (simp <;> omega)) _ | refine Below.setCell ?_ (by first | omega | (simp <;> omega)) _))⟩
  · obtain ⟨k1, k2, k3⟩ := sdirV_parts h1
    have b1 := halfOkV_bounds k1
    have b2 := halfOkV_bounds k2
    have m1 := mul_range c' ((a.natAbs : Int) + b.natAbs) 100000000 100000 (by omega) (by omega) (by omega) (by omega)
    have m2 := mul_range c ((a'.natAbs : Int) + b'.natAbs) 100000000 100000 (by omega) (by omega) (by omega) (by omega)
    have ts := tight_same a b c a' b' c' (halfOkV_dir k1) (halfOkV_dir k2) k3
    have HV := Lib.hid (show ∀ s t, tgV a b c a' b' c' s t = if c' * ((a.natAbs : Int) + b.natAbs) < c * ((a'.natAbs : Int) + b'.natAbs) then t else s by
      intro s t; unfold tgV tgB; rw [h1, ts]; simp only [if_true, decide_eq_true_eq])
    have H1 := Lib.hid h1; clear h1 k1 k2 k3 ts
    have HM := Lib.hid (And.intro m1 m2); clear m1 m2
    go_enter Try.func81, Try.ntmps81
    go_wp2_with (first | (go_at_call 80; with_reducible refine (sSameDirection_lit H1.out _).mono ?_; rintro e w1 ⟨rfl, hb1⟩; have cc0 := cell_keep (p := ⟨w.heap.size + 1 + 1, 0, none⟩) (v := .int .i64 0) hb1 (by first | assumption | (go_keep; done) | (go_simp; done) | (simp; done)) (by first | omega | (simp <;> omega)); have cc1 := cell_keep (p := ⟨w.heap.size + 1 + 1, 1, none⟩) (v := .int .i64 0) hb1 (by first | assumption | (go_keep; done) | (go_simp; done) | (simp; done)) (by first | omega | (simp <;> omega)); have cc2 := cell_keep (p := ⟨w.heap.size + 1 + 1, 2, none⟩) (v := .int .i64 0) hb1 (by first | assumption | (go_keep; done) | (go_simp; done) | (simp; done)) (by first | omega | (simp <;> omega)); have cc3 := cell_keep (p := ⟨w.heap.size, 0, none⟩) (v := .int .i64 a) hb1 (by first | assumption | (go_keep; done) | (go_simp; done) | (simp; done)) (by first | omega | (simp <;> omega)); have cc4 := cell_keep (p := ⟨w.heap.size, 1, none⟩) (v := .int .i64 b) hb1 (by first | assumption | (go_keep; done) | (go_simp; done) | (simp; done)) (by first | omega | (simp <;> omega)); have cc5 := cell_keep (p := ⟨w.heap.size, 2, none⟩) (v := .int .i64 c) hb1 (by first | assumption | (go_keep; done) | (go_simp; done) | (simp; done)) (by first | omega | (simp <;> omega)); have cc6 := cell_keep (p := ⟨w.heap.size + 1, 0, none⟩) (v := .int .i64 a') hb1 (by first | assumption | (go_keep; done) | (go_simp; done) | (simp; done)) (by first | omega | (simp <;> omega)); have cc7 := cell_keep (p := ⟨w.heap.size + 1, 1, none⟩) (v := .int .i64 b') hb1 (by first | assumption | (go_keep; done) | (go_simp; done) | (simp; done)) (by first | omega | (simp <;> omega)); have cc8 := cell_keep (p := ⟨w.heap.size + 1, 2, none⟩) (v := .int .i64 c') hb1 (by first | assumption | (go_keep; done) | (go_simp; done) | (simp; done)) (by first | omega | (simp <;> omega)); have cf0 := frozen_keep (p := ⟨w.heap.size + 1 + 1, 0, none⟩) hb1 (by first | assumption | (go_keep; done) | (go_simp; done) | (simp; done)) (by first | omega | (simp <;> omega)); have cf1 := frozen_keep (p := ⟨w.heap.size + 1 + 1, 1, none⟩) hb1 (by first | assumption | (go_keep; done) | (go_simp; done) | (simp; done)) (by first | omega | (simp <;> omega)); have cf2 := frozen_keep (p := ⟨w.heap.size + 1 + 1, 2, none⟩) hb1 (by first | assumption | (go_keep; done) | (go_simp; done) | (simp; done)) (by first | omega | (simp <;> omega)); have hS1 : Below w.heap.size w w1 := S_below hb1 (by repeat (first | exact Below.refl _ _ | assumption | refine below_drewN ?_ _ | refine Below.drew ?_ | refine Below.alloc ?_ (by first | omega | (simp <;> omega)) _ | refine Below.setCell ?_ (by first | omega | (simp <;> omega)) _)) (by first | omega | (simp <;> omega)); have hz1 : w.heap.size + 1 + 1 + 1 ≤ w1.heap.size := S_size hb1 (by first | omega | (simp <;> omega)); have hqb0 : w.heap.size + 1 + 1 < w1.heap.size := S_lt hb1 (by first | omega | (simp <;> omega)); have hqb1 : w.heap.size < w1.heap.size := S_lt hb1 (by first | omega | (simp <;> omega)); have hqb2 : w.heap.size + 1 < w1.heap.size := S_lt hb1 (by first | omega | (simp <;> omega)); clear hb1))
    go_wp2_with fail
    all_goals
      obtain ⟨⟨m11, m12⟩, ⟨m21, m22⟩⟩ := HM.out
      have K1 : RowKit.wrap64 (c' * ((if a < -a then -a else a) + if b < -b then -b else b)) = c' * ((a.natAbs : Int) + b.natAbs) := by
        rw [abs_if]; exact IntWalk.wrap64_in _ ⟨by omega, by omega⟩
      have K2 : RowKit.wrap64 (c * ((if a' < -a' then -a' else a') + if b' < -b' then -b' else b')) = c * ((a'.natAbs : Int) + b'.natAbs) := by
        rw [abs_if]; exact IntWalk.wrap64_in _ ⟨by omega, by omega⟩
      first
        | (have hp : c' * ((a.natAbs : Int) + b.natAbs) < c * ((a'.natAbs : Int) + b'.natAbs) := by omega
           exact bodyPost_ret (v := .agg #[.int .i64 a', .int .i64 b', .int .i64 c']) (by simp [results, Try.results81, go_sem, set_0 cc0, set2_1 cc1, set3_2 cc2]) rfl ⟨ret_agg3 ((HV.out _ _).trans (if_pos hp)).symm ((HV.out _ _).trans (if_pos hp)).symm ((HV.out _ _).trans (if_pos hp)).symm, (by repeat (first | exact Below.refl _ _ | assumption | refine below_drewN ?_ _ | refine Below.drew ?_ | refine Below.alloc ?_ (by first | omega | (simp <;> omega)) _ | refine Below.setCell ?_ (by first | omega | (simp <;> omega)) _))⟩)
        | (have hp : ¬ c' * ((a.natAbs : Int) + b.natAbs) < c * ((a'.natAbs : Int) + b'.natAbs) := by omega
           exact bodyPost_ret (v := .agg #[.int .i64 a, .int .i64 b, .int .i64 c]) (by simp [results, Try.results81, go_sem, set_0 cc0, set2_1 cc1, set3_2 cc2]) rfl ⟨ret_agg3 ((HV.out _ _).trans (if_neg hp)).symm ((HV.out _ _).trans (if_neg hp)).symm ((HV.out _ _).trans (if_neg hp)).symm, (by repeat (first | exact Below.refl _ _ | assumption | refine below_drewN ?_ _ | refine Below.drew ?_ | refine Below.alloc ?_ (by first | omega | (simp <;> omega)) _ | refine Below.setCell ?_ (by first | omega | (simp <;> omega)) _))⟩)

end Go.Proofs.Ythdaoadleeelnaa
