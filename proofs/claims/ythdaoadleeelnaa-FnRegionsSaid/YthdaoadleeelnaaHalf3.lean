/- Contracts of HalfOf, of the program and of the reference, and the walk of its law. -/
import Derived.Test.YthdaoadleeelnaaSpot2
import Derived.Test.YthdaoadleeelnaaHalf2
namespace Go.Proofs.Ythdaoadleeelnaa
open Go.ChangeShapes Go.WideShapes Go.ChangeAt Go.RowKit
attribute [local go_sem ↓] Go.wp_at_zero Go.wp_at_succ
set_option linter.unusedVariables false

/-- Is there a valid half plane with these numbers? -/
def hoOk (a b c : Int) : Bool := !leastB a && (!leastB b && (!leastB c && halfOkV (quoV a (gcdL [a, b, c])) (quoV b (gcdL [a, b, c])) (quoV c (gcdL [a, b, c]))))

def hoN (a b c t : Int) : Int := if hoOk a b c then quoV t (gcdL [a, b, c]) else 0

theorem hoN_no {a b c : Int} (h : hoOk a b c = false) : ∀ t, hoN a b c t = 0 := by intro t; unfold hoN; rw [h]; rfl

theorem hoN_yes {a b c : Int} (h : hoOk a b c = true) : ∀ t, hoN a b c t = quoV t (gcdL [a, b, c]) := by intro t; unfold hoN; rw [h]; rfl

theorem gcdL3_zero {a b c : Int} (h : gcdL [a, b, c] = 0) : a = 0 ∧ b = 0 ∧ c = 0 := by
  rw [gcdL_three] at h
  have h1 := Nat.eq_zero_of_gcd_eq_zero_left h
  have h2 := Nat.eq_zero_of_gcd_eq_zero_right h
  have h3 := Int.gcd_eq_zero_iff.1 h1
  omega

theorem gcdL3_le (a b c : Int) (h1 : a.natAbs ≤ 9223372036854775807) (h2 : b.natAbs ≤ 9223372036854775807) (h3 : c.natAbs ≤ 9223372036854775807) : gcdL [a, b, c] ≤ 9223372036854775807 := by
  by_cases h0 : gcdL [a, b, c] = 0
  · omega
  · rw [gcdL_three] at *
    by_cases hc : c = 0
    · subst hc
      simp only [Int.natAbs_zero, Nat.gcd_zero_right] at *
      by_cases hb : b = 0
      · subst hb; rw [Int.gcd_zero_right]; exact h1
      · exact Nat.le_trans (Int.gcd_le_natAbs_right _ hb) h2
    · exact Nat.le_trans (Nat.gcd_le_right _ (by omega)) h3

theorem gcdV_one_iff (x : Int) : (gcdV x 1 == 0) = leastB x := by
  unfold gcdV
  have h1 : leastB 1 = false := by decide
  rw [h1]
  cases h : leastB x
  · simp
  · simp

set_option maxHeartbeats 4000000 in
theorem sHalfOf_any (a b c : Int) (w : World) (ha1 : -9223372036854775808 ≤ a) (ha2 : a ≤ 9223372036854775807) (hb1 : -9223372036854775808 ≤ b) (hb2 : b ≤ 9223372036854775807) (hc1 : -9223372036854775808 ≤ c) (hc2 : c ≤ 9223372036854775807) :
    Calls Try.prog 77 #[.int .i64 a, .int .i64 b, .int .i64 c] w fun e w' => e = .returned (.tuple #[.agg #[.int .i64 (hoN a b c a), .int .i64 (hoN a b c b), .int .i64 (hoN a b c c)], .bool (hoOk a b c)]) ∧ Below w.heap.size w w' := by
  have na := gcdV_one_iff a
  have nb := gcdV_one_iff b
  have nc := gcdV_one_iff c
  cases hla : leastB a
  · cases hlb : leastB b
    · cases hlc : leastB c
      · rw [hla] at na
        rw [hlb] at nb
        rw [hlc] at nc
        by_cases hab : a = 0 ∧ b = 0
        · have HR : hoOk a b c = false := by
            obtain ⟨rfl, rfl⟩ := hab
            unfold hoOk
            rw [show halfOkV (quoV 0 (gcdL [0, 0, c])) (quoV 0 (gcdL [0, 0, c])) (quoV c (gcdL [0, 0, c])) = false by unfold halfOkV quoV; simp]
            simp
          have HE := Lib.hid (hoN_no HR)
          rw [HR]
          have za : (a == 0) = true := by rw [beq_iff_eq]; exact hab.1
          have zb : (b == 0) = true := by rw [beq_iff_eq]; exact hab.2
          clear hab HR
          go_enter Try.func77, Try.ntmps77
          go_wp2_with (first | (go_at_call 67; with_reducible refine (sGcdOf_any a 1 _ ha1 ha2 (by omega) (by omega)).mono ?_; rintro e w1 ⟨rfl, nd, rfl⟩) | (go_at_call 67; with_reducible refine (sGcdOf_any b 1 _ hb1 hb2 (by omega) (by omega)).mono ?_; rintro e w1 ⟨rfl, nd, rfl⟩) | (go_at_call 67; with_reducible refine (sGcdOf_any c 1 _ hc1 hc2 (by omega) (by omega)).mono ?_; rintro e w1 ⟨rfl, nd, rfl⟩))
          exact bodyPost_ret (v := .tuple #[.agg #[.int .i64 0, .int .i64 0, .int .i64 0], .bool false]) (by simp [results, Try.results77, go_sem]) rfl ⟨ret_spot (HE.out _).symm (HE.out _).symm (HE.out _).symm rfl, (by repeat (first | exact Below.refl _ _ | assumption | refine below_drewN ?_ _ | refine Below.drew ?_ | refine Below.alloc ?_ (by first | omega | (simp <;> omega)) _ | refine Below.setCell ?_ (by first | omega | (simp <;> omega)) _))⟩
        · have aa := natAbs_of_least ha1 ha2 hla
          have ab := natAbs_of_least hb1 hb2 hlb
          have ac := natAbs_of_least hc1 hc2 hlc
          have gp1 : 0 < gcdL [a, b, c] := by
            by_cases h0 : gcdL [a, b, c] = 0
            · have := gcdL3_zero h0; omega
            · omega
          have gp2 := gcdL3_le a b c aa ab ac
          have g1 := gcd_lt a b ha1 ha2 hb1 hb2 hla hlb
          have e : gcdV a b = (Int.gcd a b : Int) := by unfold gcdV; rw [hla, hlb]; rfl
          have lg : leastB (gcdV a b) = false := by rw [e]; unfold leastB; simp <;> omega
          have eg := gcdL3_gcdV a b c hla hlb lg hlc
          have gb1 : -9223372036854775808 ≤ gcdV a b := by rw [e]; omega
          have gb2 : gcdV a b ≤ 9223372036854775807 := by rw [e]; omega
          have HOK := Lib.hid (show hoOk a b c = halfOkV (quoV a (gcdL [a, b, c])) (quoV b (gcdL [a, b, c])) (quoV c (gcdL [a, b, c])) by unfold hoOk; rw [hla, hlb, hlc]; rfl)
          have bx := quoV_range a (gcdL [a, b, c]) aa
          have by' := quoV_range b (gcdL [a, b, c]) ab
          have bd := quoV_range c (gcdL [a, b, c]) ac
          have ta := quoV_tdiv a _ gp1
          have tb := quoV_tdiv b _ gp1
          have tc := quoV_tdiv c _ gp1
          have Q1 := Lib.hid (show IntKind.i64.wrap (a.tdiv (gcdL [a, b, c] : Int)) = quoV a (gcdL [a, b, c]) by rw [ta]; exact IntWalk.i64_in _ (by omega))
          have Q2 := Lib.hid (show IntKind.i64.wrap (b.tdiv (gcdL [a, b, c] : Int)) = quoV b (gcdL [a, b, c]) by rw [tb]; exact IntWalk.i64_in _ (by omega))
          have Q3 := Lib.hid (show IntKind.i64.wrap (c.tdiv (gcdL [a, b, c] : Int)) = quoV c (gcdL [a, b, c]) by rw [tc]; exact IntWalk.i64_in _ (by omega))
          have Q0 := Lib.hid (show ¬ ((gcdL [a, b, c] : Int) = 0) by omega)
          have EG := Lib.hid eg
          clear eg e lg g1 ta tb tc
          generalize hgx : gcdV a b = gxy at *
          have HGX := Lib.hid hgx; clear hgx
          cases HR : hoOk a b c
          · have HE := Lib.hid (hoN_no HR)
            cases za : (a == 0)
            · have HK := Lib.hid (HOK.out.symm.trans HR)
              clear HR HOK
              clear hab
              go_enter Try.func77, Try.ntmps77
              go_wp2_with (first | (go_at_call 67; with_reducible refine (sGcdOf_any a 1 _ ha1 ha2 (by omega) (by omega)).mono ?_; rintro e w1 ⟨rfl, nd, rfl⟩) | (go_at_call 67; with_reducible refine (sGcdOf_any b 1 _ hb1 hb2 (by omega) (by omega)).mono ?_; rintro e w1 ⟨rfl, nd, rfl⟩) | (go_at_call 67; with_reducible refine (sGcdOf_any c 1 _ hc1 hc2 (by omega) (by omega)).mono ?_; rintro e w1 ⟨rfl, nd, rfl⟩))
              refine (sGcdOf_lit HGX.out _ ha1 ha2 hb1 hb2).mono ?_
              rintro e w1 ⟨rfl, nd, rfl⟩
              go_wp2_with fail
              refine (sGcdOf_lit EG.out _ gb1 gb2 hc1 hc2).mono ?_
              rintro e w1 ⟨rfl, nd, rfl⟩
              go_wp2_with fail
              have q0 := Q0.out
              have q1 := Q1.out
              have q2 := Q2.out
              have q3 := Q3.out
              generalize gcdL [a, b, c] = g at *
              generalize hX : quoV a g = X at *
              generalize hY : quoV b g = Y at *
              generalize hD : quoV c g = D at *
              clear Q0 Q1 Q2 Q3 hX hY hD
              go_region
              go_wp2_with (first | (go_at_call 48; with_reducible refine (sHalfOk_lit HK.out _).mono ?_; rintro e w1 ⟨rfl, hb1⟩; have cc0 := cell_keep (p := ⟨w.heap.size, 0, none⟩) (v := .int .i64 0) hb1 (by first | assumption | (go_keep; done) | (go_simp; done) | (simp; done)) (by first | omega | (simp <;> omega)); have cc1 := cell_keep (p := ⟨w.heap.size, 1, none⟩) (v := .int .i64 0) hb1 (by first | assumption | (go_keep; done) | (go_simp; done) | (simp; done)) (by first | omega | (simp <;> omega)); have cc2 := cell_keep (p := ⟨w.heap.size, 2, none⟩) (v := .int .i64 0) hb1 (by first | assumption | (go_keep; done) | (go_simp; done) | (simp; done)) (by first | omega | (simp <;> omega)); have cc3 := cell_keep (p := ⟨w.heap.size + 1, 0, none⟩) (v := .int .i64 X) hb1 (by first | assumption | (go_keep; done) | (go_simp; done) | (simp; done)) (by first | omega | (simp <;> omega)); have cc4 := cell_keep (p := ⟨w.heap.size + 1, 1, none⟩) (v := .int .i64 Y) hb1 (by first | assumption | (go_keep; done) | (go_simp; done) | (simp; done)) (by first | omega | (simp <;> omega)); have cc5 := cell_keep (p := ⟨w.heap.size + 1, 2, none⟩) (v := .int .i64 D) hb1 (by first | assumption | (go_keep; done) | (go_simp; done) | (simp; done)) (by first | omega | (simp <;> omega)); have cf0 := frozen_keep (p := ⟨w.heap.size, 0, none⟩) hb1 (by first | assumption | (go_keep; done) | (go_simp; done) | (simp; done)) (by first | omega | (simp <;> omega)); have cf1 := frozen_keep (p := ⟨w.heap.size, 1, none⟩) hb1 (by first | assumption | (go_keep; done) | (go_simp; done) | (simp; done)) (by first | omega | (simp <;> omega)); have cf2 := frozen_keep (p := ⟨w.heap.size, 2, none⟩) hb1 (by first | assumption | (go_keep; done) | (go_simp; done) | (simp; done)) (by first | omega | (simp <;> omega)); have hS1 : Below w.heap.size w w1 := S_below hb1 (by repeat (first | exact Below.refl _ _ | assumption | refine below_drewN ?_ _ | refine Below.drew ?_ | refine Below.alloc ?_ (by first | omega | (simp <;> omega)) _ | refine Below.setCell ?_ (by first | omega | (simp <;> omega)) _)) (by first | omega | (simp <;> omega)); have hz1 : w.heap.size + 1 + 1 ≤ w1.heap.size := S_size hb1 (by first | omega | (simp <;> omega)); have hqb0 : w.heap.size < w1.heap.size := S_lt hb1 (by first | omega | (simp <;> omega)); have hqb1 : w.heap.size + 1 < w1.heap.size := S_lt hb1 (by first | omega | (simp <;> omega)); clear hb1))
              exact bodyPost_ret (v := .tuple #[.agg #[.int .i64 0, .int .i64 0, .int .i64 0], .bool false]) (by simp [results, Try.results77, go_sem, set_0 cc0, set2_1 cc1, set3_2 cc2]) rfl ⟨ret_spot (HE.out _).symm (HE.out _).symm (HE.out _).symm rfl, (by repeat (first | exact Below.refl _ _ | assumption | refine below_drewN ?_ _ | refine Below.drew ?_ | refine Below.alloc ?_ (by first | omega | (simp <;> omega)) _ | refine Below.setCell ?_ (by first | omega | (simp <;> omega)) _))⟩
            · have HK := Lib.hid (HOK.out.symm.trans HR)
              clear HR HOK
              have zb : (b == 0) = false := by rw [beq_eq_false_iff_ne]; rw [beq_iff_eq] at za; omega
              clear hab
              go_enter Try.func77, Try.ntmps77
              go_wp2_with (first | (go_at_call 67; with_reducible refine (sGcdOf_any a 1 _ ha1 ha2 (by omega) (by omega)).mono ?_; rintro e w1 ⟨rfl, nd, rfl⟩) | (go_at_call 67; with_reducible refine (sGcdOf_any b 1 _ hb1 hb2 (by omega) (by omega)).mono ?_; rintro e w1 ⟨rfl, nd, rfl⟩) | (go_at_call 67; with_reducible refine (sGcdOf_any c 1 _ hc1 hc2 (by omega) (by omega)).mono ?_; rintro e w1 ⟨rfl, nd, rfl⟩))
              refine (sGcdOf_lit HGX.out _ ha1 ha2 hb1 hb2).mono ?_
              rintro e w1 ⟨rfl, nd, rfl⟩
              go_wp2_with fail
              refine (sGcdOf_lit EG.out _ gb1 gb2 hc1 hc2).mono ?_
              rintro e w1 ⟨rfl, nd, rfl⟩
              go_wp2_with fail
              have q0 := Q0.out
              have q1 := Q1.out
              have q2 := Q2.out
              have q3 := Q3.out
              generalize gcdL [a, b, c] = g at *
              generalize hX : quoV a g = X at *
              generalize hY : quoV b g = Y at *
              generalize hD : quoV c g = D at *
              clear Q0 Q1 Q2 Q3 hX hY hD
              go_region
              go_wp2_with (first | (go_at_call 48; with_reducible refine (sHalfOk_lit HK.out _).mono ?_; rintro e w1 ⟨rfl, hb1⟩; have cc0 := cell_keep (p := ⟨w.heap.size, 0, none⟩) (v := .int .i64 0) hb1 (by first | assumption | (go_keep; done) | (go_simp; done) | (simp; done)) (by first | omega | (simp <;> omega)); have cc1 := cell_keep (p := ⟨w.heap.size, 1, none⟩) (v := .int .i64 0) hb1 (by first | assumption | (go_keep; done) | (go_simp; done) | (simp; done)) (by first | omega | (simp <;> omega)); have cc2 := cell_keep (p := ⟨w.heap.size, 2, none⟩) (v := .int .i64 0) hb1 (by first | assumption | (go_keep; done) | (go_simp; done) | (simp; done)) (by first | omega | (simp <;> omega)); have cc3 := cell_keep (p := ⟨w.heap.size + 1, 0, none⟩) (v := .int .i64 X) hb1 (by first | assumption | (go_keep; done) | (go_simp; done) | (simp; done)) (by first | omega | (simp <;> omega)); have cc4 := cell_keep (p := ⟨w.heap.size + 1, 1, none⟩) (v := .int .i64 Y) hb1 (by first | assumption | (go_keep; done) | (go_simp; done) | (simp; done)) (by first | omega | (simp <;> omega)); have cc5 := cell_keep (p := ⟨w.heap.size + 1, 2, none⟩) (v := .int .i64 D) hb1 (by first | assumption | (go_keep; done) | (go_simp; done) | (simp; done)) (by first | omega | (simp <;> omega)); have cf0 := frozen_keep (p := ⟨w.heap.size, 0, none⟩) hb1 (by first | assumption | (go_keep; done) | (go_simp; done) | (simp; done)) (by first | omega | (simp <;> omega)); have cf1 := frozen_keep (p := ⟨w.heap.size, 1, none⟩) hb1 (by first | assumption | (go_keep; done) | (go_simp; done) | (simp; done)) (by first | omega | (simp <;> omega)); have cf2 := frozen_keep (p := ⟨w.heap.size, 2, none⟩) hb1 (by first | assumption | (go_keep; done) | (go_simp; done) | (simp; done)) (by first | omega | (simp <;> omega)); have hS1 : Below w.heap.size w w1 := S_below hb1 (by repeat (first | exact Below.refl _ _ | assumption | refine below_drewN ?_ _ | refine Below.drew ?_ | refine Below.alloc ?_ (by first | omega | (simp <;> omega)) _ | refine Below.setCell ?_ (by first | omega | (simp <;> omega)) _)) (by first | omega | (simp <;> omega)); have hz1 : w.heap.size + 1 + 1 ≤ w1.heap.size := S_size hb1 (by first | omega | (simp <;> omega)); have hqb0 : w.heap.size < w1.heap.size := S_lt hb1 (by first | omega | (simp <;> omega)); have hqb1 : w.heap.size + 1 < w1.heap.size := S_lt hb1 (by first | omega | (simp <;> omega)); clear hb1))
              exact bodyPost_ret (v := .tuple #[.agg #[.int .i64 0, .int .i64 0, .int .i64 0], .bool false]) (by simp [results, Try.results77, go_sem, set_0 cc0, set2_1 cc1, set3_2 cc2]) rfl ⟨ret_spot (HE.out _).symm (HE.out _).symm (HE.out _).symm rfl, (by repeat (first | exact Below.refl _ _ | assumption | refine below_drewN ?_ _ | refine Below.drew ?_ | refine Below.alloc ?_ (by first | omega | (simp <;> omega)) _ | refine Below.setCell ?_ (by first | omega | (simp <;> omega)) _))⟩
          · have HE := Lib.hid (And.intro (hoN_yes HR a) (And.intro (hoN_yes HR b) (hoN_yes HR c)))
            cases za : (a == 0)
            · have HK := Lib.hid (HOK.out.symm.trans HR)
              clear HR HOK
              clear hab
              go_enter Try.func77, Try.ntmps77
              go_wp2_with (first | (go_at_call 67; with_reducible refine (sGcdOf_any a 1 _ ha1 ha2 (by omega) (by omega)).mono ?_; rintro e w1 ⟨rfl, nd, rfl⟩) | (go_at_call 67; with_reducible refine (sGcdOf_any b 1 _ hb1 hb2 (by omega) (by omega)).mono ?_; rintro e w1 ⟨rfl, nd, rfl⟩) | (go_at_call 67; with_reducible refine (sGcdOf_any c 1 _ hc1 hc2 (by omega) (by omega)).mono ?_; rintro e w1 ⟨rfl, nd, rfl⟩))
              refine (sGcdOf_lit HGX.out _ ha1 ha2 hb1 hb2).mono ?_
              rintro e w1 ⟨rfl, nd, rfl⟩
              go_wp2_with fail
              refine (sGcdOf_lit EG.out _ gb1 gb2 hc1 hc2).mono ?_
              rintro e w1 ⟨rfl, nd, rfl⟩
              go_wp2_with fail
              have q0 := Q0.out
              have q1 := Q1.out
              have q2 := Q2.out
              have q3 := Q3.out
              generalize gcdL [a, b, c] = g at *
              generalize hX : quoV a g = X at *
              generalize hY : quoV b g = Y at *
              generalize hD : quoV c g = D at *
              clear Q0 Q1 Q2 Q3 hX hY hD
              go_region
              go_wp2_with (first | (go_at_call 48; with_reducible refine (sHalfOk_lit HK.out _).mono ?_; rintro e w1 ⟨rfl, hb1⟩; have cc0 := cell_keep (p := ⟨w.heap.size, 0, none⟩) (v := .int .i64 0) hb1 (by first | assumption | (go_keep; done) | (go_simp; done) | (simp; done)) (by first | omega | (simp <;> omega)); have cc1 := cell_keep (p := ⟨w.heap.size, 1, none⟩) (v := .int .i64 0) hb1 (by first | assumption | (go_keep; done) | (go_simp; done) | (simp; done)) (by first | omega | (simp <;> omega)); have cc2 := cell_keep (p := ⟨w.heap.size, 2, none⟩) (v := .int .i64 0) hb1 (by first | assumption | (go_keep; done) | (go_simp; done) | (simp; done)) (by first | omega | (simp <;> omega)); have cc3 := cell_keep (p := ⟨w.heap.size + 1, 0, none⟩) (v := .int .i64 X) hb1 (by first | assumption | (go_keep; done) | (go_simp; done) | (simp; done)) (by first | omega | (simp <;> omega)); have cc4 := cell_keep (p := ⟨w.heap.size + 1, 1, none⟩) (v := .int .i64 Y) hb1 (by first | assumption | (go_keep; done) | (go_simp; done) | (simp; done)) (by first | omega | (simp <;> omega)); have cc5 := cell_keep (p := ⟨w.heap.size + 1, 2, none⟩) (v := .int .i64 D) hb1 (by first | assumption | (go_keep; done) | (go_simp; done) | (simp; done)) (by first | omega | (simp <;> omega)); have cf0 := frozen_keep (p := ⟨w.heap.size, 0, none⟩) hb1 (by first | assumption | (go_keep; done) | (go_simp; done) | (simp; done)) (by first | omega | (simp <;> omega)); have cf1 := frozen_keep (p := ⟨w.heap.size, 1, none⟩) hb1 (by first | assumption | (go_keep; done) | (go_simp; done) | (simp; done)) (by first | omega | (simp <;> omega)); have cf2 := frozen_keep (p := ⟨w.heap.size, 2, none⟩) hb1 (by first | assumption | (go_keep; done) | (go_simp; done) | (simp; done)) (by first | omega | (simp <;> omega)); have hS1 : Below w.heap.size w w1 := S_below hb1 (by repeat (first | exact Below.refl _ _ | assumption | refine below_drewN ?_ _ | refine Below.drew ?_ | refine Below.alloc ?_ (by first | omega | (simp <;> omega)) _ | refine Below.setCell ?_ (by first | omega | (simp <;> omega)) _)) (by first | omega | (simp <;> omega)); have hz1 : w.heap.size + 1 + 1 ≤ w1.heap.size := S_size hb1 (by first | omega | (simp <;> omega)); have hqb0 : w.heap.size < w1.heap.size := S_lt hb1 (by first | omega | (simp <;> omega)); have hqb1 : w.heap.size + 1 < w1.heap.size := S_lt hb1 (by first | omega | (simp <;> omega)); clear hb1))
              exact bodyPost_ret (v := .tuple #[.agg #[.int .i64 X, .int .i64 Y, .int .i64 D], .bool true]) (by simp [results, Try.results77, go_sem, set_0 cc0, set2_1 cc1, set3_2 cc2]) rfl ⟨ret_spot HE.out.1.symm HE.out.2.1.symm HE.out.2.2.symm rfl, (by repeat (first | exact Below.refl _ _ | assumption | refine below_drewN ?_ _ | refine Below.drew ?_ | refine Below.alloc ?_ (by first | omega | (simp <;> omega)) _ | refine Below.setCell ?_ (by first | omega | (simp <;> omega)) _))⟩
            · have HK := Lib.hid (HOK.out.symm.trans HR)
              clear HR HOK
              have zb : (b == 0) = false := by rw [beq_eq_false_iff_ne]; rw [beq_iff_eq] at za; omega
              clear hab
              go_enter Try.func77, Try.ntmps77
              go_wp2_with (first | (go_at_call 67; with_reducible refine (sGcdOf_any a 1 _ ha1 ha2 (by omega) (by omega)).mono ?_; rintro e w1 ⟨rfl, nd, rfl⟩) | (go_at_call 67; with_reducible refine (sGcdOf_any b 1 _ hb1 hb2 (by omega) (by omega)).mono ?_; rintro e w1 ⟨rfl, nd, rfl⟩) | (go_at_call 67; with_reducible refine (sGcdOf_any c 1 _ hc1 hc2 (by omega) (by omega)).mono ?_; rintro e w1 ⟨rfl, nd, rfl⟩))
              refine (sGcdOf_lit HGX.out _ ha1 ha2 hb1 hb2).mono ?_
              rintro e w1 ⟨rfl, nd, rfl⟩
              go_wp2_with fail
              refine (sGcdOf_lit EG.out _ gb1 gb2 hc1 hc2).mono ?_
              rintro e w1 ⟨rfl, nd, rfl⟩
              go_wp2_with fail
              have q0 := Q0.out
              have q1 := Q1.out
              have q2 := Q2.out
              have q3 := Q3.out
              generalize gcdL [a, b, c] = g at *
              generalize hX : quoV a g = X at *
              generalize hY : quoV b g = Y at *
              generalize hD : quoV c g = D at *
              clear Q0 Q1 Q2 Q3 hX hY hD
              go_region
              go_wp2_with (first | (go_at_call 48; with_reducible refine (sHalfOk_lit HK.out _).mono ?_; rintro e w1 ⟨rfl, hb1⟩; have cc0 := cell_keep (p := ⟨w.heap.size, 0, none⟩) (v := .int .i64 0) hb1 (by first | assumption | (go_keep; done) | (go_simp; done) | (simp; done)) (by first | omega | (simp <;> omega)); have cc1 := cell_keep (p := ⟨w.heap.size, 1, none⟩) (v := .int .i64 0) hb1 (by first | assumption | (go_keep; done) | (go_simp; done) | (simp; done)) (by first | omega | (simp <;> omega)); have cc2 := cell_keep (p := ⟨w.heap.size, 2, none⟩) (v := .int .i64 0) hb1 (by first | assumption | (go_keep; done) | (go_simp; done) | (simp; done)) (by first | omega | (simp <;> omega)); have cc3 := cell_keep (p := ⟨w.heap.size + 1, 0, none⟩) (v := .int .i64 X) hb1 (by first | assumption | (go_keep; done) | (go_simp; done) | (simp; done)) (by first | omega | (simp <;> omega)); have cc4 := cell_keep (p := ⟨w.heap.size + 1, 1, none⟩) (v := .int .i64 Y) hb1 (by first | assumption | (go_keep; done) | (go_simp; done) | (simp; done)) (by first | omega | (simp <;> omega)); have cc5 := cell_keep (p := ⟨w.heap.size + 1, 2, none⟩) (v := .int .i64 D) hb1 (by first | assumption | (go_keep; done) | (go_simp; done) | (simp; done)) (by first | omega | (simp <;> omega)); have cf0 := frozen_keep (p := ⟨w.heap.size, 0, none⟩) hb1 (by first | assumption | (go_keep; done) | (go_simp; done) | (simp; done)) (by first | omega | (simp <;> omega)); have cf1 := frozen_keep (p := ⟨w.heap.size, 1, none⟩) hb1 (by first | assumption | (go_keep; done) | (go_simp; done) | (simp; done)) (by first | omega | (simp <;> omega)); have cf2 := frozen_keep (p := ⟨w.heap.size, 2, none⟩) hb1 (by first | assumption | (go_keep; done) | (go_simp; done) | (simp; done)) (by first | omega | (simp <;> omega)); have hS1 : Below w.heap.size w w1 := S_below hb1 (by repeat (first | exact Below.refl _ _ | assumption | refine below_drewN ?_ _ | refine Below.drew ?_ | refine Below.alloc ?_ (by first | omega | (simp <;> omega)) _ | refine Below.setCell ?_ (by first | omega | (simp <;> omega)) _)) (by first | omega | (simp <;> omega)); have hz1 : w.heap.size + 1 + 1 ≤ w1.heap.size := S_size hb1 (by first | omega | (simp <;> omega)); have hqb0 : w.heap.size < w1.heap.size := S_lt hb1 (by first | omega | (simp <;> omega)); have hqb1 : w.heap.size + 1 < w1.heap.size := S_lt hb1 (by first | omega | (simp <;> omega)); clear hb1))
              exact bodyPost_ret (v := .tuple #[.agg #[.int .i64 X, .int .i64 Y, .int .i64 D], .bool true]) (by simp [results, Try.results77, go_sem, set_0 cc0, set2_1 cc1, set3_2 cc2]) rfl ⟨ret_spot HE.out.1.symm HE.out.2.1.symm HE.out.2.2.symm rfl, (by repeat (first | exact Below.refl _ _ | assumption | refine below_drewN ?_ _ | refine Below.drew ?_ | refine Below.alloc ?_ (by first | omega | (simp <;> omega)) _ | refine Below.setCell ?_ (by first | omega | (simp <;> omega)) _))⟩
      · have HR : hoOk a b c = false := by unfold hoOk; rw [hlc]; simp
        have HE := Lib.hid (hoN_no HR)
        rw [HR]
        clear HR
        rw [hla] at na
        rw [hlb] at nb
        rw [hlc] at nc
        go_enter Try.func77, Try.ntmps77
        go_wp2_with (first | (go_at_call 67; with_reducible refine (sGcdOf_any a 1 _ ha1 ha2 (by omega) (by omega)).mono ?_; rintro e w1 ⟨rfl, nd, rfl⟩) | (go_at_call 67; with_reducible refine (sGcdOf_any b 1 _ hb1 hb2 (by omega) (by omega)).mono ?_; rintro e w1 ⟨rfl, nd, rfl⟩) | (go_at_call 67; with_reducible refine (sGcdOf_any c 1 _ hc1 hc2 (by omega) (by omega)).mono ?_; rintro e w1 ⟨rfl, nd, rfl⟩))
        exact bodyPost_ret (v := .tuple #[.agg #[.int .i64 0, .int .i64 0, .int .i64 0], .bool false]) (by simp [results, Try.results77, go_sem]) rfl ⟨ret_spot (HE.out _).symm (HE.out _).symm (HE.out _).symm rfl, (by repeat (first | exact Below.refl _ _ | assumption | refine below_drewN ?_ _ | refine Below.drew ?_ | refine Below.alloc ?_ (by first | omega | (simp <;> omega)) _ | refine Below.setCell ?_ (by first | omega | (simp <;> omega)) _))⟩
    · have HR : hoOk a b c = false := by unfold hoOk; rw [hlb]; simp
      have HE := Lib.hid (hoN_no HR)
      rw [HR]
      clear HR
      rw [hla] at na
      rw [hlb] at nb
      clear nc
      go_enter Try.func77, Try.ntmps77
      go_wp2_with (first | (go_at_call 67; with_reducible refine (sGcdOf_any a 1 _ ha1 ha2 (by omega) (by omega)).mono ?_; rintro e w1 ⟨rfl, nd, rfl⟩) | (go_at_call 67; with_reducible refine (sGcdOf_any b 1 _ hb1 hb2 (by omega) (by omega)).mono ?_; rintro e w1 ⟨rfl, nd, rfl⟩) | (go_at_call 67; with_reducible refine (sGcdOf_any c 1 _ hc1 hc2 (by omega) (by omega)).mono ?_; rintro e w1 ⟨rfl, nd, rfl⟩))
      exact bodyPost_ret (v := .tuple #[.agg #[.int .i64 0, .int .i64 0, .int .i64 0], .bool false]) (by simp [results, Try.results77, go_sem]) rfl ⟨ret_spot (HE.out _).symm (HE.out _).symm (HE.out _).symm rfl, (by repeat (first | exact Below.refl _ _ | assumption | refine below_drewN ?_ _ | refine Below.drew ?_ | refine Below.alloc ?_ (by first | omega | (simp <;> omega)) _ | refine Below.setCell ?_ (by first | omega | (simp <;> omega)) _))⟩
  · have HR : hoOk a b c = false := by unfold hoOk; rw [hla]; simp
    have HE := Lib.hid (hoN_no HR)
    rw [HR]
    clear HR
    rw [hla] at na
    clear nb nc
    go_enter Try.func77, Try.ntmps77
    go_wp2_with (first | (go_at_call 67; with_reducible refine (sGcdOf_any a 1 _ ha1 ha2 (by omega) (by omega)).mono ?_; rintro e w1 ⟨rfl, nd, rfl⟩) | (go_at_call 67; with_reducible refine (sGcdOf_any b 1 _ hb1 hb2 (by omega) (by omega)).mono ?_; rintro e w1 ⟨rfl, nd, rfl⟩) | (go_at_call 67; with_reducible refine (sGcdOf_any c 1 _ hc1 hc2 (by omega) (by omega)).mono ?_; rintro e w1 ⟨rfl, nd, rfl⟩))
    exact bodyPost_ret (v := .tuple #[.agg #[.int .i64 0, .int .i64 0, .int .i64 0], .bool false]) (by simp [results, Try.results77, go_sem]) rfl ⟨ret_spot (HE.out _).symm (HE.out _).symm (HE.out _).symm rfl, (by repeat (first | exact Below.refl _ _ | assumption | refine below_drewN ?_ _ | refine Below.drew ?_ | refine Below.alloc ?_ (by first | omega | (simp <;> omega)) _ | refine Below.setCell ?_ (by first | omega | (simp <;> omega)) _))⟩

theorem sHalfOf_lit {a b c : Int} {v : Bool} (h : hoOk a b c = v) (w : World) (ha1 : -9223372036854775808 ≤ a) (ha2 : a ≤ 9223372036854775807) (hb1 : -9223372036854775808 ≤ b) (hb2 : b ≤ 9223372036854775807) (hc1 : -9223372036854775808 ≤ c) (hc2 : c ≤ 9223372036854775807) :
    Calls Try.prog 77 #[.int .i64 a, .int .i64 b, .int .i64 c] w fun e w' => e = .returned (.tuple #[.agg #[.int .i64 (hoN a b c a), .int .i64 (hoN a b c b), .int .i64 (hoN a b c c)], .bool v]) ∧ Below w.heap.size w w' := by
  rw [← h]; exact sHalfOf_any a b c w ha1 ha2 hb1 hb2 hc1 hc2

end Go.Proofs.Ythdaoadleeelnaa
