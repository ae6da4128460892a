/- What FnAngles asks, in plain integers. -/
import Derived.Test.YtkcklbjjpbaimaaThrL
import Derived.Test.YtkcklbjjpbaimaaHalf5
namespace Go.Proofs.Ytkcklbjjpbaimaa
open Go.ChangeShapes Go.WideShapes Go.ChangeAt Go.RowKit
attribute [local go_sem ↓] Go.wp_at_zero Go.wp_at_succ
set_option linter.unusedVariables false

theorem crV_neg (a b a' b' : Int) : crV a' b' a b = -crV a b a' b' := by unfold crV; grind

theorem triV (a b a' b' : Int) : (befV a b a' b' = true ∧ sdV a b a' b' = false ∧ befV a' b' a b = false) ∨ (befV a b a' b' = false ∧ sdV a b a' b' = true ∧ befV a' b' a b = false) ∨ (befV a b a' b' = false ∧ sdV a b a' b' = false ∧ befV a' b' a b = true) := by
  unfold befV sdV
  rw [crV_neg a b a' b']
  cases hg : upV a b <;> cases hh : upV a' b' <;> simp <;> omega

/-- Of two directions exactly one comes first, or they are the same. -/
theorem tri_valid {a b c a' b' c' : Int} (k1 : halfOkV a b c = true) (k2 : halfOkV a' b' c' = true) :
    (bangV a b c a' b' c' = true ∧ bangV a' b' c' a b c = false ∧ sdirV a b c a' b' c' = false) ∨ (bangV a b c a' b' c' = false ∧ bangV a' b' c' a b c = true ∧ sdirV a b c a' b' c' = false) ∨ (bangV a b c a' b' c' = false ∧ bangV a' b' c' a b c = false ∧ sdirV a b c a' b' c' = true) := by
  unfold bangV sdirV
  rw [k1, k2]
  rcases triV a b a' b' with ⟨h1, h2, h3⟩ | ⟨h1, h2, h3⟩ | ⟨h1, h2, h3⟩ <;> rw [h1, h2, h3] <;> simp

theorem sdirV_refl {a b c : Int} (k1 : halfOkV a b c = true) : sdirV a b c a b c = true := by
  unfold sdirV sdV crV
  rw [k1, show a * b - b * a = 0 by grind]
  simp

theorem szV_pos {a b c : Int} (h : halfOkV a b c = true) : 0 < szV a b := by
  have := halfOkV_dir h
  unfold szV
  split <;> omega

theorem up_scale {A B : Int} {g : Int} (hg : 0 < g) : upV (A * g) (B * g) = upV A B := by
  have e : ∀ x : Int, (0 < x * g ↔ 0 < x) := by
    intro x
    constructor
    · intro h
      rcases Int.lt_trichotomy x 0 with hx | hx | hx
      · have := Int.mul_neg_of_neg_of_pos hx hg; omega
      · subst hx; omega
      · exact hx
    · intro h; exact Int.mul_pos h hg
  have z : (B * g == 0) = (B == 0) := by
    rw [Bool.eq_iff_iff, beq_iff_eq, beq_iff_eq]
    constructor
    · intro h; rcases Int.mul_eq_zero.1 h with h | h
      · exact h
      · omega
    · rintro rfl; omega
  unfold upV
  rw [z, decide_eq_decide.2 (e B), decide_eq_decide.2 (e A)]

theorem szV_scale {A B : Int} {g : Int} (hg : 0 < g) : szV (A * g) (B * g) = szV A B * g := by
  have ab : ∀ x : Int, ((x * g).natAbs : Int) = (x.natAbs : Int) * g := by
    intro x; rw [Int.natAbs_mul, Int.natCast_mul]; congr 1; omega
  unfold szV
  by_cases h : A = 0
  · subst h; rw [if_pos (by omega), if_pos rfl, ab]
  · rw [if_neg (fun e => by rcases Int.mul_eq_zero.1 e with e | e <;> omega), if_neg h, ab]

/-- The half plane whose border is moved inward by one step is the tighter one. -/
theorem moved {a b c : Int} (k1 : halfOkV a b c = true) (ho : hoOk a b (c - 1) = true) :
    halfOkV (hoN a b (c - 1) a) (hoN a b (c - 1) b) (hoN a b (c - 1) (c - 1)) = true ∧
    sdirV a b c (hoN a b (c - 1) a) (hoN a b (c - 1) b) (hoN a b (c - 1) (c - 1)) = true ∧ sdirV (hoN a b (c - 1) a) (hoN a b (c - 1) b) (hoN a b (c - 1) (c - 1)) a b c = true ∧
    tgB a b c (hoN a b (c - 1) a) (hoN a b (c - 1) b) (hoN a b (c - 1) (c - 1)) = true ∧ tgB (hoN a b (c - 1) a) (hoN a b (c - 1) b) (hoN a b (c - 1) (c - 1)) a b c = false := by
  have hv := hoOk_valid ho
  refine ⟨hv, ?_⟩
  have hd := halfOkV_dir k1
  have hz := szV_pos k1
  rw [hoN_yes ho, hoN_yes ho, hoN_yes ho] at *
  have hg : 0 < gcdL [a, b, c - 1] := by
    rcases Nat.eq_zero_or_pos (gcdL [a, b, c - 1]) with h | h
    · have := gcdL3_zero h; omega
    · exact h
  obtain ⟨d1, d2, d3⟩ := gcdL3_dvd a b (c - 1)
  have m1 := quo_mul d1
  have m2 := quo_mul d2
  have m3 := quo_mul d3
  generalize gcdL [a, b, c - 1] = g at *
  generalize quoV a g = A at *
  generalize quoV b g = B at *
  generalize quoV (c - 1) g = C at *
  have hgI : (0 : Int) < (g : Int) := by omega
  generalize (g : Int) = t at *
  have e1 := up_scale (A := A) (B := B) hgI
  have e2 := szV_scale (A := A) (B := B) hgI
  rw [m1, m2] at e1 e2
  have hz' := szV_pos hv
  have cr : crV a b A B = 0 := by unfold crV; rw [← m1, ← m2]; grind
  have cr' : crV A B a b = 0 := by rw [crV_neg a b A B, cr]; rfl
  refine ⟨?_, ?_, ?_, ?_⟩
  · unfold sdirV sdV; rw [k1, hv, cr, e1]; simp
  · unfold sdirV sdV; rw [k1, hv, cr', e1]; simp
  · unfold tgB
    rw [e2, decide_eq_true_eq]
    have : C * (szV A B * t) = (C * t) * szV A B := by grind
    rw [this, m3]
    have : (c - 1) * szV A B = c * szV A B - szV A B := by grind
    omega
  · unfold tgB
    rw [e2, decide_eq_false_iff_not]
    have : C * (szV A B * t) = (C * t) * szV A B := by grind
    rw [this, m3]
    have : (c - 1) * szV A B = c * szV A B - szV A B := by grind
    omega

theorem tgV_second {a b c a' b' c' : Int} (h1 : sdirV a b c a' b' c' = true) (h2 : tgB a b c a' b' c' = true) (s t : Int) : tgV a b c a' b' c' s t = t := by unfold tgV; rw [h1, h2]; rfl

theorem tgV_first {a b c a' b' c' : Int} (h1 : sdirV a b c a' b' c' = true) (h2 : tgB a b c a' b' c' = false) (s t : Int) : tgV a b c a' b' c' s t = s := by unfold tgV; rw [h1, h2]; rfl

theorem tgV_none {a b c a' b' c' : Int} (h1 : sdirV a b c a' b' c' = false) (s t : Int) : tgV a b c a' b' c' s t = 0 := by unfold tgV; rw [h1]; rfl

theorem tight_is {a b c a' b' c' p q r : Int} (h1 : tgV a b c a' b' c' a a' = p) (h2 : tgV a b c a' b' c' b b' = q) (h3 : tgV a b c a' b' c' c c' = r) (w : World) :
    Calls Try.prog 16 #[.agg #[.int .i64 a, .int .i64 b, .int .i64 c], .agg #[.int .i64 a', .int .i64 b', .int .i64 c']] w fun e w' => e = .returned (.agg #[.int .i64 p, .int .i64 q, .int .i64 r]) ∧ Below w.heap.size w w' := by
  subst h1 h2 h3; exact iTighterHalf_any a b c a' b' c' w

theorem iBeforeAngle_lit {a b c a' b' c' : Int} {v : Bool} (h : bangV a b c a' b' c' = v) (w : World) :
    Calls Try.prog 12 #[.agg #[.int .i64 a, .int .i64 b, .int .i64 c], .agg #[.int .i64 a', .int .i64 b', .int .i64 c']] w fun e w' => e = .returned (.bool v) ∧ Below w.heap.size w w' := by
  rw [← h]; exact iBeforeAngle_any a b c a' b' c' w

end Go.Proofs.Ytkcklbjjpbaimaa
