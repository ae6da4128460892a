/- Contracts of SpotOf, IsWhole, ShiftSpot and HalfWay, of the program and of the reference. -/
import Derived.Test.YthdaoadleeelnaaSpot
import Derived.Test.YthdaoadleeelnaaPlain
namespace Go.Proofs.Ythdaoadleeelnaa
open Go.ChangeShapes Go.WideShapes Go.ChangeAt Go.RowKit
attribute [local go_sem ↓] Go.wp_at_zero Go.wp_at_succ
set_option linter.unusedVariables false

/-- n divided by g, rounded to 0. -/
def quoV (n : Int) (g : Nat) : Int := if 0 ≤ n then ((n.natAbs / g : Nat) : Int) else -((n.natAbs / g : Nat) : Int)

theorem quoV_tdiv (n : Int) (g : Nat) (hg : 0 < g) : n.tdiv (g : Int) = quoV n g := tdiv_pos n g hg

theorem quoV_abs (n : Int) (g : Nat) : (quoV n g).natAbs = n.natAbs / g := by
  unfold quoV; split
  · exact Int.natAbs_natCast _
  · rw [Int.natAbs_neg]; exact Int.natAbs_natCast _

theorem quoV_range (n : Int) (g : Nat) (h : n.natAbs ≤ 9223372036854775807) : -9223372036854775807 ≤ quoV n g ∧ quoV n g ≤ 9223372036854775807 := by
  have h1 := quoV_abs n g
  have h2 := tdiv_bound n g
  omega

theorem natAbs_of_least {n : Int} (h1 : -9223372036854775808 ≤ n) (h2 : n ≤ 9223372036854775807) (h : leastB n = false) : n.natAbs ≤ 9223372036854775807 := by
  unfold leastB at h; simp at h; omega

/-- Is there a valid spot with these coordinates? Its numbers. -/
def spOk (x y d : Int) : Bool := decide (1 ≤ d) && !leastB x && !leastB y && spotOkV (quoV x (gcdL [x, y, d])) (quoV y (gcdL [x, y, d])) (quoV d (gcdL [x, y, d]))

def spX (x y d : Int) : Int := if spOk x y d then quoV x (gcdL [x, y, d]) else 0

def spY (x y d : Int) : Int := if spOk x y d then quoV y (gcdL [x, y, d]) else 0

def spD (x y d : Int) : Int := if spOk x y d then quoV d (gcdL [x, y, d]) else 0

theorem gcdL3_pos (x y d : Int) (h : 1 ≤ d) : 0 < gcdL [x, y, d] ∧ gcdL [x, y, d] ≤ d.natAbs := by
  rw [gcdL_three]
  refine ⟨Nat.gcd_pos_of_pos_right _ (by omega), Nat.gcd_le_right _ (by omega)⟩

theorem iSpotOk_lit {x y d : Int} {v : Bool} (h : spotOkV x y d = v) (w : World) (hx1 : -9223372036854775808 ≤ x) (hx2 : x ≤ 9223372036854775807) (hy1 : -9223372036854775808 ≤ y) (hy2 : y ≤ 9223372036854775807) :
    Calls Try.prog 55 #[.agg #[.int .i64 x, .int .i64 y, .int .i64 d]] w fun e w' => e = .returned (.bool v) ∧ Below w.heap.size w w' := by
  rw [← h]; exact iSpotOk_any x y d w hx1 hx2 hy1 hy2

theorem sSpotOk_lit {x y d : Int} {v : Bool} (h : spotOkV x y d = v) (w : World) (hx1 : -9223372036854775808 ≤ x) (hx2 : x ≤ 9223372036854775807) (hy1 : -9223372036854775808 ≤ y) (hy2 : y ≤ 9223372036854775807) :
    Calls Try.prog 53 #[.agg #[.int .i64 x, .int .i64 y, .int .i64 d]] w fun e w' => e = .returned (.bool v) ∧ Below w.heap.size w w' := by
  rw [← h]; exact sSpotOk_any x y d w hx1 hx2 hy1 hy2

theorem ret_spot {a b c a' b' c' : Int} {v v' : Bool} (h1 : a = a') (h2 : b = b') (h3 : c = c') (h4 : v = v') : Ending.returned (.tuple #[.agg #[.int .i64 a, .int .i64 b, .int .i64 c], .bool v]) = .returned (.tuple #[.agg #[.int .i64 a', .int .i64 b', .int .i64 c'], .bool v']) := by rw [h1, h2, h3, h4]

theorem spOk_zero {x y d : Int} (h : spOk x y d = false) : spX x y d = 0 ∧ spY x y d = 0 ∧ spD x y d = 0 := by
  unfold spX spY spD; rw [h]; exact ⟨rfl, rfl, rfl⟩

theorem spOk_some {x y d : Int} (h : spOk x y d = true) : spX x y d = quoV x (gcdL [x, y, d]) ∧ spY x y d = quoV y (gcdL [x, y, d]) ∧ spD x y d = quoV d (gcdL [x, y, d]) := by
  unfold spX spY spD; rw [h]; exact ⟨rfl, rfl, rfl⟩

theorem gcdV_least_iff (x d : Int) (hd : 1 ≤ d) : (gcdV x d = 0) ↔ (leastB x || leastB d) = true := by
  unfold gcdV
  cases h : (leastB x || leastB d)
  · simp only [Bool.false_eq_true, if_false, iff_false]
    have := Int.gcd_pos_of_ne_zero_right x (show d ≠ 0 by omega)
    omega
  · simp

theorem gcdV_range (x y : Int) (hx1 : -9223372036854775808 ≤ x) (hx2 : x ≤ 9223372036854775807) (hy1 : -9223372036854775808 ≤ y) (hy2 : y ≤ 9223372036854775807) : -9223372036854775808 ≤ gcdV x y ∧ gcdV x y ≤ 9223372036854775807 := by
  cases hlx : leastB x
  · cases hly : leastB y
    · have g1 := gcd_lt x y hx1 hx2 hy1 hy2 hlx hly
      unfold gcdV; rw [hlx, hly]; simp; omega
    · unfold gcdV; rw [hly]; simp
  · unfold gcdV; rw [hlx]; simp

set_option maxHeartbeats 4000000 in
theorem sSpotOf_any (x y d : Int) (w : World) (hx1 : -9223372036854775808 ≤ x) (hx2 : x ≤ 9223372036854775807) (hy1 : -9223372036854775808 ≤ y) (hy2 : y ≤ 9223372036854775807) (hd1 : -9223372036854775808 ≤ d) (hd2 : d ≤ 9223372036854775807) :
    Calls Try.prog 98 #[.int .i64 x, .int .i64 y, .int .i64 d] w fun e w' => e = .returned (.tuple #[.agg #[.int .i64 (spX x y d), .int .i64 (spY x y d), .int .i64 (spD x y d)], .bool (spOk x y d)]) ∧ Below w.heap.size w w' := by
  by_cases hz : d ≤ 0
  · have HR : spOk x y d = false := by unfold spOk; rw [show decide (1 ≤ d) = false from decide_eq_false (by omega)]; rfl
    have HE := Lib.hid (And.intro HR (spOk_zero HR)); clear HR
    go_enter Try.func98, Try.ntmps98
    go_wp2_with fail
    exact bodyPost_ret (v := .tuple #[.agg #[.int .i64 0, .int .i64 0, .int .i64 0], .bool false]) (by simp [results, Try.results98, go_sem]) rfl ⟨ret_spot HE.out.2.1.symm HE.out.2.2.1.symm HE.out.2.2.2.symm HE.out.1.symm, (by repeat (first | exact Below.refl _ _ | assumption | refine below_drewN ?_ _ | refine Below.drew ?_ | refine Below.alloc ?_ (by first | omega | (simp <;> omega)) _ | refine Below.setCell ?_ (by first | omega | (simp <;> omega)) _))⟩
  · have ld : leastB d = false := by unfold leastB; simp; omega
    have qx := gcdV_least_iff x d (by omega)
    have qy := gcdV_least_iff y d (by omega)
    rw [ld] at qx qy
    simp only [Bool.or_false] at qx qy
    cases hlx : leastB x
    · cases hly : leastB y
      · have ax := natAbs_of_least hx1 hx2 hlx
        have ay := natAbs_of_least hy1 hy2 hly
        have gp := gcdL3_pos x y d (by omega)
        have gp1 := gp.1
        have gp2 : gcdL [x, y, d] ≤ 9223372036854775807 := by omega
        clear gp
        have bx := quoV_range x (gcdL [x, y, d]) ax
        have by' := quoV_range y (gcdL [x, y, d]) ay
        have bd := quoV_range d (gcdL [x, y, d]) (by omega)
        have g1 := gcd_lt x y hx1 hx2 hy1 hy2 hlx hly
        have e : gcdV x y = (Int.gcd x y : Int) := by unfold gcdV; rw [hlx, hly]; rfl
        have lg : leastB (gcdV x y) = false := by rw [e]; unfold leastB; simp <;> omega
        have eg := gcdL3_gcdV x y d hlx hly lg ld
        have gb1 : -9223372036854775808 ≤ gcdV x y := by rw [e]; omega
        have gb2 : gcdV x y ≤ 9223372036854775807 := by rw [e]; omega
        have n1 : (gcdV x d == 0) = false := by rw [beq_eq_false_iff_ne]; intro h; rw [qx.1 h] at hlx; cases hlx
        have n2 : (gcdV y d == 0) = false := by rw [beq_eq_false_iff_ne]; intro h; rw [qy.1 h] at hly; cases hly
        have HOK := Lib.hid (show spOk x y d = spotOkV (quoV x (gcdL [x, y, d])) (quoV y (gcdL [x, y, d])) (quoV d (gcdL [x, y, d])) by unfold spOk; rw [hlx, hly, show decide (1 ≤ d) = true from decide_eq_true (by omega)]; rfl)
        have tx := quoV_tdiv x _ gp1
        have ty := quoV_tdiv y _ gp1
        have td := quoV_tdiv d _ gp1
        have Q1 := Lib.hid (show IntKind.i64.wrap (x.tdiv (gcdL [x, y, d] : Int)) = quoV x (gcdL [x, y, d]) by rw [tx]; exact IntWalk.i64_in _ (by omega))
        have Q2 := Lib.hid (show IntKind.i64.wrap (y.tdiv (gcdL [x, y, d] : Int)) = quoV y (gcdL [x, y, d]) by rw [ty]; exact IntWalk.i64_in _ (by omega))
        have Q3 := Lib.hid (show IntKind.i64.wrap (d.tdiv (gcdL [x, y, d] : Int)) = quoV d (gcdL [x, y, d]) by rw [td]; exact IntWalk.i64_in _ (by omega))
        have EG := Lib.hid eg
        clear eg e lg g1 ld tx ty td qx qy hlx hly
        generalize hgx : gcdV x y = gxy at *
        have HGX := Lib.hid hgx; clear hgx
        have Q0 := Lib.hid (show ¬ ((gcdL [x, y, d] : Int) = 0) by omega)
        cases HR : spOk x y d
        · have HE := Lib.hid (spOk_zero HR)
          have HK := Lib.hid (HOK.out.symm.trans HR)
          clear HR HOK
          cases hxz : (x != 0)
          · cases hyz : (y != 0)
            · go_enter Try.func98, Try.ntmps98
              go_wp2_with fail
              refine (sGcdOf_any _ _ _ hx1 hx2 hy1 hy2).mono ?_
              rintro e w1 ⟨rfl, nd, rfl⟩
              rw [HGX.out]
              go_wp2_with fail
              refine (sGcdOf_any _ _ _ gb1 gb2 hd1 hd2).mono ?_
              rintro e w1 ⟨rfl, nd2, rfl⟩
              rw [EG.out]
              go_wp2_with (first | (go_at_call 67; with_reducible refine (sGcdOf_any _ _ _ hx1 hx2 hd1 hd2).mono ?_; rintro e w1 ⟨rfl, nd, rfl⟩) | (go_at_call 67; with_reducible refine (sGcdOf_any _ _ _ hy1 hy2 hd1 hd2).mono ?_; rintro e w1 ⟨rfl, nd, rfl⟩))
              have q0 := Q0.out
              have q1 := Q1.out
              have q2 := Q2.out
              have q3 := Q3.out
              generalize gcdL [x, y, d] = g at *
              generalize hX : quoV x g = X at *
              generalize hY : quoV y g = Y at *
              generalize hD : quoV d g = D at *
              clear Q0 Q1 Q2 Q3 hX hY hD
              go_region
              go_wp2_with (first | (go_at_call 53; with_reducible refine (sSpotOk_lit HK.out _ (by omega) (by omega) (by omega) (by omega)).mono ?_; rintro e w1 ⟨rfl, hb1⟩; have cc0 := cell_keep (p := ⟨w.heap.size, 0, none⟩) (v := .int .i64 0) hb1 (by first | assumption | (go_keep; done) | (go_simp; done) | (simp; done)) (by first | omega | (simp <;> omega)); have cc1 := cell_keep (p := ⟨w.heap.size, 1, none⟩) (v := .int .i64 0) hb1 (by first | assumption | (go_keep; done) | (go_simp; done) | (simp; done)) (by first | omega | (simp <;> omega)); have cc2 := cell_keep (p := ⟨w.heap.size, 2, none⟩) (v := .int .i64 0) hb1 (by first | assumption | (go_keep; done) | (go_simp; done) | (simp; done)) (by first | omega | (simp <;> omega)); have cc3 := cell_keep (p := ⟨w.heap.size + 1, 0, none⟩) (v := .int .i64 X) hb1 (by first | assumption | (go_keep; done) | (go_simp; done) | (simp; done)) (by first | omega | (simp <;> omega)); have cc4 := cell_keep (p := ⟨w.heap.size + 1, 1, none⟩) (v := .int .i64 Y) hb1 (by first | assumption | (go_keep; done) | (go_simp; done) | (simp; done)) (by first | omega | (simp <;> omega)); have cc5 := cell_keep (p := ⟨w.heap.size + 1, 2, none⟩) (v := .int .i64 D) hb1 (by first | assumption | (go_keep; done) | (go_simp; done) | (simp; done)) (by first | omega | (simp <;> omega)); have cf0 := frozen_keep (p := ⟨w.heap.size, 0, none⟩) hb1 (by first | assumption | (go_keep; done) | (go_simp; done) | (simp; done)) (by first | omega | (simp <;> omega)); have cf1 := frozen_keep (p := ⟨w.heap.size, 1, none⟩) hb1 (by first | assumption | (go_keep; done) | (go_simp; done) | (simp; done)) (by first | omega | (simp <;> omega)); have cf2 := frozen_keep (p := ⟨w.heap.size, 2, none⟩) hb1 (by first | assumption | (go_keep; done) | (go_simp; done) | (simp; done)) (by first | omega | (simp <;> omega)); have hS1 : Below w.heap.size w w1 := S_below hb1 (by repeat (first | exact Below.refl _ _ | assumption | refine below_drewN ?_ _ | refine Below.drew ?_ | refine Below.alloc ?_ (by first | omega | (simp <;> omega)) _ | refine Below.setCell ?_ (by first | omega | (simp <;> omega)) _)) (by first | omega | (simp <;> omega)); have hz1 : w.heap.size + 1 + 1 ≤ w1.heap.size := S_size hb1 (by first | omega | (simp <;> omega)); have hqb0 : w.heap.size < w1.heap.size := S_lt hb1 (by first | omega | (simp <;> omega)); have hqb1 : w.heap.size + 1 < w1.heap.size := S_lt hb1 (by first | omega | (simp <;> omega)); clear hb1))
              exact bodyPost_ret (v := .tuple #[.agg #[.int .i64 0, .int .i64 0, .int .i64 0], .bool false]) (by simp [results, Try.results98, go_sem, set_0 cc0, set2_1 cc1, set3_2 cc2]) rfl ⟨ret_spot HE.out.1.symm HE.out.2.1.symm HE.out.2.2.symm rfl, (by repeat (first | exact Below.refl _ _ | assumption | refine below_drewN ?_ _ | refine Below.drew ?_ | refine Below.alloc ?_ (by first | omega | (simp <;> omega)) _ | refine Below.setCell ?_ (by first | omega | (simp <;> omega)) _))⟩
            · go_enter Try.func98, Try.ntmps98
              go_wp2_with fail
              refine (sGcdOf_any _ _ _ hx1 hx2 hy1 hy2).mono ?_
              rintro e w1 ⟨rfl, nd, rfl⟩
              rw [HGX.out]
              go_wp2_with fail
              refine (sGcdOf_any _ _ _ gb1 gb2 hd1 hd2).mono ?_
              rintro e w1 ⟨rfl, nd2, rfl⟩
              rw [EG.out]
              go_wp2_with (first | (go_at_call 67; with_reducible refine (sGcdOf_any _ _ _ hx1 hx2 hd1 hd2).mono ?_; rintro e w1 ⟨rfl, nd, rfl⟩) | (go_at_call 67; with_reducible refine (sGcdOf_any _ _ _ hy1 hy2 hd1 hd2).mono ?_; rintro e w1 ⟨rfl, nd, rfl⟩))
              have q0 := Q0.out
              have q1 := Q1.out
              have q2 := Q2.out
              have q3 := Q3.out
              generalize gcdL [x, y, d] = g at *
              generalize hX : quoV x g = X at *
              generalize hY : quoV y g = Y at *
              generalize hD : quoV d g = D at *
              clear Q0 Q1 Q2 Q3 hX hY hD
              go_region
              go_wp2_with (first | (go_at_call 53; with_reducible refine (sSpotOk_lit HK.out _ (by omega) (by omega) (by omega) (by omega)).mono ?_; rintro e w1 ⟨rfl, hb1⟩; have cc0 := cell_keep (p := ⟨w.heap.size, 0, none⟩) (v := .int .i64 0) hb1 (by first | assumption | (go_keep; done) | (go_simp; done) | (simp; done)) (by first | omega | (simp <;> omega)); have cc1 := cell_keep (p := ⟨w.heap.size, 1, none⟩) (v := .int .i64 0) hb1 (by first | assumption | (go_keep; done) | (go_simp; done) | (simp; done)) (by first | omega | (simp <;> omega)); have cc2 := cell_keep (p := ⟨w.heap.size, 2, none⟩) (v := .int .i64 0) hb1 (by first | assumption | (go_keep; done) | (go_simp; done) | (simp; done)) (by first | omega | (simp <;> omega)); have cc3 := cell_keep (p := ⟨w.heap.size + 1, 0, none⟩) (v := .int .i64 X) hb1 (by first | assumption | (go_keep; done) | (go_simp; done) | (simp; done)) (by first | omega | (simp <;> omega)); have cc4 := cell_keep (p := ⟨w.heap.size + 1, 1, none⟩) (v := .int .i64 Y) hb1 (by first | assumption | (go_keep; done) | (go_simp; done) | (simp; done)) (by first | omega | (simp <;> omega)); have cc5 := cell_keep (p := ⟨w.heap.size + 1, 2, none⟩) (v := .int .i64 D) hb1 (by first | assumption | (go_keep; done) | (go_simp; done) | (simp; done)) (by first | omega | (simp <;> omega)); have cf0 := frozen_keep (p := ⟨w.heap.size, 0, none⟩) hb1 (by first | assumption | (go_keep; done) | (go_simp; done) | (simp; done)) (by first | omega | (simp <;> omega)); have cf1 := frozen_keep (p := ⟨w.heap.size, 1, none⟩) hb1 (by first | assumption | (go_keep; done) | (go_simp; done) | (simp; done)) (by first | omega | (simp <;> omega)); have cf2 := frozen_keep (p := ⟨w.heap.size, 2, none⟩) hb1 (by first | assumption | (go_keep; done) | (go_simp; done) | (simp; done)) (by first | omega | (simp <;> omega)); have hS1 : Below w.heap.size w w1 := S_below hb1 (by repeat (first | exact Below.refl _ _ | assumption | refine below_drewN ?_ _ | refine Below.drew ?_ | refine Below.alloc ?_ (by first | omega | (simp <;> omega)) _ | refine Below.setCell ?_ (by first | omega | (simp <;> omega)) _)) (by first | omega | (simp <;> omega)); have hz1 : w.heap.size + 1 + 1 ≤ w1.heap.size := S_size hb1 (by first | omega | (simp <;> omega)); have hqb0 : w.heap.size < w1.heap.size := S_lt hb1 (by first | omega | (simp <;> omega)); have hqb1 : w.heap.size + 1 < w1.heap.size := S_lt hb1 (by first | omega | (simp <;> omega)); clear hb1))
              exact bodyPost_ret (v := .tuple #[.agg #[.int .i64 0, .int .i64 0, .int .i64 0], .bool false]) (by simp [results, Try.results98, go_sem, set_0 cc0, set2_1 cc1, set3_2 cc2]) rfl ⟨ret_spot HE.out.1.symm HE.out.2.1.symm HE.out.2.2.symm rfl, (by repeat (first | exact Below.refl _ _ | assumption | refine below_drewN ?_ _ | refine Below.drew ?_ | refine Below.alloc ?_ (by first | omega | (simp <;> omega)) _ | refine Below.setCell ?_ (by first | omega | (simp <;> omega)) _))⟩
          · cases hyz : (y != 0)
            · go_enter Try.func98, Try.ntmps98
              go_wp2_with fail
              refine (sGcdOf_any _ _ _ hx1 hx2 hy1 hy2).mono ?_
              rintro e w1 ⟨rfl, nd, rfl⟩
              rw [HGX.out]
              go_wp2_with fail
              refine (sGcdOf_any _ _ _ gb1 gb2 hd1 hd2).mono ?_
              rintro e w1 ⟨rfl, nd2, rfl⟩
              rw [EG.out]
              go_wp2_with (first | (go_at_call 67; with_reducible refine (sGcdOf_any _ _ _ hx1 hx2 hd1 hd2).mono ?_; rintro e w1 ⟨rfl, nd, rfl⟩) | (go_at_call 67; with_reducible refine (sGcdOf_any _ _ _ hy1 hy2 hd1 hd2).mono ?_; rintro e w1 ⟨rfl, nd, rfl⟩))
              have q0 := Q0.out
              have q1 := Q1.out
              have q2 := Q2.out
              have q3 := Q3.out
              generalize gcdL [x, y, d] = g at *
              generalize hX : quoV x g = X at *
              generalize hY : quoV y g = Y at *
              generalize hD : quoV d g = D at *
              clear Q0 Q1 Q2 Q3 hX hY hD
              go_region
              go_wp2_with (first | (go_at_call 53; with_reducible refine (sSpotOk_lit HK.out _ (by omega) (by omega) (by omega) (by omega)).mono ?_; rintro e w1 ⟨rfl, hb1⟩; have cc0 := cell_keep (p := ⟨w.heap.size, 0, none⟩) (v := .int .i64 0) hb1 (by first | assumption | (go_keep; done) | (go_simp; done) | (simp; done)) (by first | omega | (simp <;> omega)); have cc1 := cell_keep (p := ⟨w.heap.size, 1, none⟩) (v := .int .i64 0) hb1 (by first | assumption | (go_keep; done) | (go_simp; done) | (simp; done)) (by first | omega | (simp <;> omega)); have cc2 := cell_keep (p := ⟨w.heap.size, 2, none⟩) (v := .int .i64 0) hb1 (by first | assumption | (go_keep; done) | (go_simp; done) | (simp; done)) (by first | omega | (simp <;> omega)); have cc3 := cell_keep (p := ⟨w.heap.size + 1, 0, none⟩) (v := .int .i64 X) hb1 (by first | assumption | (go_keep; done) | (go_simp; done) | (simp; done)) (by first | omega | (simp <;> omega)); have cc4 := cell_keep (p := ⟨w.heap.size + 1, 1, none⟩) (v := .int .i64 Y) hb1 (by first | assumption | (go_keep; done) | (go_simp; done) | (simp; done)) (by first | omega | (simp <;> omega)); have cc5 := cell_keep (p := ⟨w.heap.size + 1, 2, none⟩) (v := .int .i64 D) hb1 (by first | assumption | (go_keep; done) | (go_simp; done) | (simp; done)) (by first | omega | (simp <;> omega)); have cf0 := frozen_keep (p := ⟨w.heap.size, 0, none⟩) hb1 (by first | assumption | (go_keep; done) | (go_simp; done) | (simp; done)) (by first | omega | (simp <;> omega)); have cf1 := frozen_keep (p := ⟨w.heap.size, 1, none⟩) hb1 (by first | assumption | (go_keep; done) | (go_simp; done) | (simp; done)) (by first | omega | (simp <;> omega)); have cf2 := frozen_keep (p := ⟨w.heap.size, 2, none⟩) hb1 (by first | assumption | (go_keep; done) | (go_simp; done) | (simp; done)) (by first | omega | (simp <;> omega)); have hS1 : Below w.heap.size w w1 := S_below hb1 (by repeat (first | exact Below.refl _ _ | assumption | refine below_drewN ?_ _ | refine Below.drew ?_ | refine Below.alloc ?_ (by first | omega | (simp <;> omega)) _ | refine Below.setCell ?_ (by first | omega | (simp <;> omega)) _)) (by first | omega | (simp <;> omega)); have hz1 : w.heap.size + 1 + 1 ≤ w1.heap.size := S_size hb1 (by first | omega | (simp <;> omega)); have hqb0 : w.heap.size < w1.heap.size := S_lt hb1 (by first | omega | (simp <;> omega)); have hqb1 : w.heap.size + 1 < w1.heap.size := S_lt hb1 (by first | omega | (simp <;> omega)); clear hb1))
              exact bodyPost_ret (v := .tuple #[.agg #[.int .i64 0, .int .i64 0, .int .i64 0], .bool false]) (by simp [results, Try.results98, go_sem, set_0 cc0, set2_1 cc1, set3_2 cc2]) rfl ⟨ret_spot HE.out.1.symm HE.out.2.1.symm HE.out.2.2.symm rfl, (by repeat (first | exact Below.refl _ _ | assumption | refine below_drewN ?_ _ | refine Below.drew ?_ | refine Below.alloc ?_ (by first | omega | (simp <;> omega)) _ | refine Below.setCell ?_ (by first | omega | (simp <;> omega)) _))⟩
            · go_enter Try.func98, Try.ntmps98
              go_wp2_with fail
              refine (sGcdOf_any _ _ _ hx1 hx2 hy1 hy2).mono ?_
              rintro e w1 ⟨rfl, nd, rfl⟩
              rw [HGX.out]
              go_wp2_with fail
              refine (sGcdOf_any _ _ _ gb1 gb2 hd1 hd2).mono ?_
              rintro e w1 ⟨rfl, nd2, rfl⟩
              rw [EG.out]
              go_wp2_with (first | (go_at_call 67; with_reducible refine (sGcdOf_any _ _ _ hx1 hx2 hd1 hd2).mono ?_; rintro e w1 ⟨rfl, nd, rfl⟩) | (go_at_call 67; with_reducible refine (sGcdOf_any _ _ _ hy1 hy2 hd1 hd2).mono ?_; rintro e w1 ⟨rfl, nd, rfl⟩))
              have q0 := Q0.out
              have q1 := Q1.out
              have q2 := Q2.out
              have q3 := Q3.out
              generalize gcdL [x, y, d] = g at *
              generalize hX : quoV x g = X at *
              generalize hY : quoV y g = Y at *
              generalize hD : quoV d g = D at *
              clear Q0 Q1 Q2 Q3 hX hY hD
              go_region
              go_wp2_with (first | (go_at_call 53; with_reducible refine (sSpotOk_lit HK.out _ (by omega) (by omega) (by omega) (by omega)).mono ?_; rintro e w1 ⟨rfl, hb1⟩; have cc0 := cell_keep (p := ⟨w.heap.size, 0, none⟩) (v := .int .i64 0) hb1 (by first | assumption | (go_keep; done) | (go_simp; done) | (simp; done)) (by first | omega | (simp <;> omega)); have cc1 := cell_keep (p := ⟨w.heap.size, 1, none⟩) (v := .int .i64 0) hb1 (by first | assumption | (go_keep; done) | (go_simp; done) | (simp; done)) (by first | omega | (simp <;> omega)); have cc2 := cell_keep (p := ⟨w.heap.size, 2, none⟩) (v := .int .i64 0) hb1 (by first | assumption | (go_keep; done) | (go_simp; done) | (simp; done)) (by first | omega | (simp <;> omega)); have cc3 := cell_keep (p := ⟨w.heap.size + 1, 0, none⟩) (v := .int .i64 X) hb1 (by first | assumption | (go_keep; done) | (go_simp; done) | (simp; done)) (by first | omega | (simp <;> omega)); have cc4 := cell_keep (p := ⟨w.heap.size + 1, 1, none⟩) (v := .int .i64 Y) hb1 (by first | assumption | (go_keep; done) | (go_simp; done) | (simp; done)) (by first | omega | (simp <;> omega)); have cc5 := cell_keep (p := ⟨w.heap.size + 1, 2, none⟩) (v := .int .i64 D) hb1 (by first | assumption | (go_keep; done) | (go_simp; done) | (simp; done)) (by first | omega | (simp <;> omega)); have cf0 := frozen_keep (p := ⟨w.heap.size, 0, none⟩) hb1 (by first | assumption | (go_keep; done) | (go_simp; done) | (simp; done)) (by first | omega | (simp <;> omega)); have cf1 := frozen_keep (p := ⟨w.heap.size, 1, none⟩) hb1 (by first | assumption | (go_keep; done) | (go_simp; done) | (simp; done)) (by first | omega | (simp <;> omega)); have cf2 := frozen_keep (p := ⟨w.heap.size, 2, none⟩) hb1 (by first | assumption | (go_keep; done) | (go_simp; done) | (simp; done)) (by first | omega | (simp <;> omega)); have hS1 : Below w.heap.size w w1 := S_below hb1 (by repeat (first | exact Below.refl _ _ | assumption | refine below_drewN ?_ _ | refine Below.drew ?_ | refine Below.alloc ?_ (by first | omega | (simp <;> omega)) _ | refine Below.setCell ?_ (by first | omega | (simp <;> omega)) _)) (by first | omega | (simp <;> omega)); have hz1 : w.heap.size + 1 + 1 ≤ w1.heap.size := S_size hb1 (by first | omega | (simp <;> omega)); have hqb0 : w.heap.size < w1.heap.size := S_lt hb1 (by first | omega | (simp <;> omega)); have hqb1 : w.heap.size + 1 < w1.heap.size := S_lt hb1 (by first | omega | (simp <;> omega)); clear hb1))
              exact bodyPost_ret (v := .tuple #[.agg #[.int .i64 0, .int .i64 0, .int .i64 0], .bool false]) (by simp [results, Try.results98, go_sem, set_0 cc0, set2_1 cc1, set3_2 cc2]) rfl ⟨ret_spot HE.out.1.symm HE.out.2.1.symm HE.out.2.2.symm rfl, (by repeat (first | exact Below.refl _ _ | assumption | refine below_drewN ?_ _ | refine Below.drew ?_ | refine Below.alloc ?_ (by first | omega | (simp <;> omega)) _ | refine Below.setCell ?_ (by first | omega | (simp <;> omega)) _))⟩
        · have HE := Lib.hid (spOk_some HR)
          have HK := Lib.hid (HOK.out.symm.trans HR)
          clear HR HOK
          cases hxz : (x != 0)
          · cases hyz : (y != 0)
            · go_enter Try.func98, Try.ntmps98
              go_wp2_with fail
              refine (sGcdOf_any _ _ _ hx1 hx2 hy1 hy2).mono ?_
              rintro e w1 ⟨rfl, nd, rfl⟩
              rw [HGX.out]
              go_wp2_with fail
              refine (sGcdOf_any _ _ _ gb1 gb2 hd1 hd2).mono ?_
              rintro e w1 ⟨rfl, nd2, rfl⟩
              rw [EG.out]
              go_wp2_with (first | (go_at_call 67; with_reducible refine (sGcdOf_any _ _ _ hx1 hx2 hd1 hd2).mono ?_; rintro e w1 ⟨rfl, nd, rfl⟩) | (go_at_call 67; with_reducible refine (sGcdOf_any _ _ _ hy1 hy2 hd1 hd2).mono ?_; rintro e w1 ⟨rfl, nd, rfl⟩))
              have q0 := Q0.out
              have q1 := Q1.out
              have q2 := Q2.out
              have q3 := Q3.out
              generalize gcdL [x, y, d] = g at *
              generalize hX : quoV x g = X at *
              generalize hY : quoV y g = Y at *
              generalize hD : quoV d g = D at *
              clear Q0 Q1 Q2 Q3 hX hY hD
              go_region
              go_wp2_with (first | (go_at_call 53; with_reducible refine (sSpotOk_lit HK.out _ (by omega) (by omega) (by omega) (by omega)).mono ?_; rintro e w1 ⟨rfl, hb1⟩; have cc0 := cell_keep (p := ⟨w.heap.size, 0, none⟩) (v := .int .i64 0) hb1 (by first | assumption | (go_keep; done) | (go_simp; done) | (simp; done)) (by first | omega | (simp <;> omega)); have cc1 := cell_keep (p := ⟨w.heap.size, 1, none⟩) (v := .int .i64 0) hb1 (by first | assumption | (go_keep; done) | (go_simp; done) | (simp; done)) (by first | omega | (simp <;> omega)); have cc2 := cell_keep (p := ⟨w.heap.size, 2, none⟩) (v := .int .i64 0) hb1 (by first | assumption | (go_keep; done) | (go_simp; done) | (simp; done)) (by first | omega | (simp <;> omega)); have cc3 := cell_keep (p := ⟨w.heap.size + 1, 0, none⟩) (v := .int .i64 X) hb1 (by first | assumption | (go_keep; done) | (go_simp; done) | (simp; done)) (by first | omega | (simp <;> omega)); have cc4 := cell_keep (p := ⟨w.heap.size + 1, 1, none⟩) (v := .int .i64 Y) hb1 (by first | assumption | (go_keep; done) | (go_simp; done) | (simp; done)) (by first | omega | (simp <;> omega)); have cc5 := cell_keep (p := ⟨w.heap.size + 1, 2, none⟩) (v := .int .i64 D) hb1 (by first | assumption | (go_keep; done) | (go_simp; done) | (simp; done)) (by first | omega | (simp <;> omega)); have cf0 := frozen_keep (p := ⟨w.heap.size, 0, none⟩) hb1 (by first | assumption | (go_keep; done) | (go_simp; done) | (simp; done)) (by first | omega | (simp <;> omega)); have cf1 := frozen_keep (p := ⟨w.heap.size, 1, none⟩) hb1 (by first | assumption | (go_keep; done) | (go_simp; done) | (simp; done)) (by first | omega | (simp <;> omega)); have cf2 := frozen_keep (p := ⟨w.heap.size, 2, none⟩) hb1 (by first | assumption | (go_keep; done) | (go_simp; done) | (simp; done)) (by first | omega | (simp <;> omega)); have hS1 : Below w.heap.size w w1 := S_below hb1 (by repeat (first | exact Below.refl _ _ | assumption | refine below_drewN ?_ _ | refine Below.drew ?_ | refine Below.alloc ?_ (by first | omega | (simp <;> omega)) _ | refine Below.setCell ?_ (by first | omega | (simp <;> omega)) _)) (by first | omega | (simp <;> omega)); have hz1 : w.heap.size + 1 + 1 ≤ w1.heap.size := S_size hb1 (by first | omega | (simp <;> omega)); have hqb0 : w.heap.size < w1.heap.size := S_lt hb1 (by first | omega | (simp <;> omega)); have hqb1 : w.heap.size + 1 < w1.heap.size := S_lt hb1 (by first | omega | (simp <;> omega)); clear hb1))
              exact bodyPost_ret (v := .tuple #[.agg #[.int .i64 X, .int .i64 Y, .int .i64 D], .bool true]) (by simp [results, Try.results98, go_sem, set_0 cc0, set2_1 cc1, set3_2 cc2]) rfl ⟨ret_spot HE.out.1.symm HE.out.2.1.symm HE.out.2.2.symm rfl, (by repeat (first | exact Below.refl _ _ | assumption | refine below_drewN ?_ _ | refine Below.drew ?_ | refine Below.alloc ?_ (by first | omega | (simp <;> omega)) _ | refine Below.setCell ?_ (by first | omega | (simp <;> omega)) _))⟩
            · go_enter Try.func98, Try.ntmps98
              go_wp2_with fail
              refine (sGcdOf_any _ _ _ hx1 hx2 hy1 hy2).mono ?_
              rintro e w1 ⟨rfl, nd, rfl⟩
              rw [HGX.out]
              go_wp2_with fail
              refine (sGcdOf_any _ _ _ gb1 gb2 hd1 hd2).mono ?_
              rintro e w1 ⟨rfl, nd2, rfl⟩
              rw [EG.out]
              go_wp2_with (first | (go_at_call 67; with_reducible refine (sGcdOf_any _ _ _ hx1 hx2 hd1 hd2).mono ?_; rintro e w1 ⟨rfl, nd, rfl⟩) | (go_at_call 67; with_reducible refine (sGcdOf_any _ _ _ hy1 hy2 hd1 hd2).mono ?_; rintro e w1 ⟨rfl, nd, rfl⟩))
              have q0 := Q0.out
              have q1 := Q1.out
              have q2 := Q2.out
              have q3 := Q3.out
              generalize gcdL [x, y, d] = g at *
              generalize hX : quoV x g = X at *
              generalize hY : quoV y g = Y at *
              generalize hD : quoV d g = D at *
              clear Q0 Q1 Q2 Q3 hX hY hD
              go_region
              go_wp2_with (first | (go_at_call 53; with_reducible refine (sSpotOk_lit HK.out _ (by omega) (by omega) (by omega) (by omega)).mono ?_; rintro e w1 ⟨rfl, hb1⟩; have cc0 := cell_keep (p := ⟨w.heap.size, 0, none⟩) (v := .int .i64 0) hb1 (by first | assumption | (go_keep; done) | (go_simp; done) | (simp; done)) (by first | omega | (simp <;> omega)); have cc1 := cell_keep (p := ⟨w.heap.size, 1, none⟩) (v := .int .i64 0) hb1 (by first | assumption | (go_keep; done) | (go_simp; done) | (simp; done)) (by first | omega | (simp <;> omega)); have cc2 := cell_keep (p := ⟨w.heap.size, 2, none⟩) (v := .int .i64 0) hb1 (by first | assumption | (go_keep; done) | (go_simp; done) | (simp; done)) (by first | omega | (simp <;> omega)); have cc3 := cell_keep (p := ⟨w.heap.size + 1, 0, none⟩) (v := .int .i64 X) hb1 (by first | assumption | (go_keep; done) | (go_simp; done) | (simp; done)) (by first | omega | (simp <;> omega)); have cc4 := cell_keep (p := ⟨w.heap.size + 1, 1, none⟩) (v := .int .i64 Y) hb1 (by first | assumption | (go_keep; done) | (go_simp; done) | (simp; done)) (by first | omega | (simp <;> omega)); have cc5 := cell_keep (p := ⟨w.heap.size + 1, 2, none⟩) (v := .int .i64 D) hb1 (by first | assumption | (go_keep; done) | (go_simp; done) | (simp; done)) (by first | omega | (simp <;> omega)); have cf0 := frozen_keep (p := ⟨w.heap.size, 0, none⟩) hb1 (by first | assumption | (go_keep; done) | (go_simp; done) | (simp; done)) (by first | omega | (simp <;> omega)); have cf1 := frozen_keep (p := ⟨w.heap.size, 1, none⟩) hb1 (by first | assumption | (go_keep; done) | (go_simp; done) | (simp; done)) (by first | omega | (simp <;> omega)); have cf2 := frozen_keep (p := ⟨w.heap.size, 2, none⟩) hb1 (by first | assumption | (go_keep; done) | (go_simp; done) | (simp; done)) (by first | omega | (simp <;> omega)); have hS1 : Below w.heap.size w w1 := S_below hb1 (by repeat (first | exact Below.refl _ _ | assumption | refine below_drewN ?_ _ | refine Below.drew ?_ | refine Below.alloc ?_ (by first | omega | (simp <;> omega)) _ | refine Below.setCell ?_ (by first | omega | (simp <;> omega)) _)) (by first | omega | (simp <;> omega)); have hz1 : w.heap.size + 1 + 1 ≤ w1.heap.size := S_size hb1 (by first | omega | (simp <;> omega)); have hqb0 : w.heap.size < w1.heap.size := S_lt hb1 (by first | omega | (simp <;> omega)); have hqb1 : w.heap.size + 1 < w1.heap.size := S_lt hb1 (by first | omega | (simp <;> omega)); clear hb1))
              exact bodyPost_ret (v := .tuple #[.agg #[.int .i64 X, .int .i64 Y, .int .i64 D], .bool true]) (by simp [results, Try.results98, go_sem, set_0 cc0, set2_1 cc1, set3_2 cc2]) rfl ⟨ret_spot HE.out.1.symm HE.out.2.1.symm HE.out.2.2.symm rfl, (by repeat (first | exact Below.refl _ _ | assumption | refine below_drewN ?_ _ | refine Below.drew ?_ | refine Below.alloc ?_ (by first | omega | (simp <;> omega)) _ | refine Below.setCell ?_ (by first | omega | (simp <;> omega)) _))⟩
          · cases hyz : (y != 0)
            · go_enter Try.func98, Try.ntmps98
              go_wp2_with fail
              refine (sGcdOf_any _ _ _ hx1 hx2 hy1 hy2).mono ?_
              rintro e w1 ⟨rfl, nd, rfl⟩
              rw [HGX.out]
              go_wp2_with fail
              refine (sGcdOf_any _ _ _ gb1 gb2 hd1 hd2).mono ?_
              rintro e w1 ⟨rfl, nd2, rfl⟩
              rw [EG.out]
              go_wp2_with (first | (go_at_call 67; with_reducible refine (sGcdOf_any _ _ _ hx1 hx2 hd1 hd2).mono ?_; rintro e w1 ⟨rfl, nd, rfl⟩) | (go_at_call 67; with_reducible refine (sGcdOf_any _ _ _ hy1 hy2 hd1 hd2).mono ?_; rintro e w1 ⟨rfl, nd, rfl⟩))
              have q0 := Q0.out
              have q1 := Q1.out
              have q2 := Q2.out
              have q3 := Q3.out
              generalize gcdL [x, y, d] = g at *
              generalize hX : quoV x g = X at *
              generalize hY : quoV y g = Y at *
              generalize hD : quoV d g = D at *
              clear Q0 Q1 Q2 Q3 hX hY hD
              go_region
              go_wp2_with (first | (go_at_call 53; with_reducible refine (sSpotOk_lit HK.out _ (by omega) (by omega) (by omega) (by omega)).mono ?_; rintro e w1 ⟨rfl, hb1⟩; have cc0 := cell_keep (p := ⟨w.heap.size, 0, none⟩) (v := .int .i64 0) hb1 (by first | assumption | (go_keep; done) | (go_simp; done) | (simp; done)) (by first | omega | (simp <;> omega)); have cc1 := cell_keep (p := ⟨w.heap.size, 1, none⟩) (v := .int .i64 0) hb1 (by first | assumption | (go_keep; done) | (go_simp; done) | (simp; done)) (by first | omega | (simp <;> omega)); have cc2 := cell_keep (p := ⟨w.heap.size, 2, none⟩) (v := .int .i64 0) hb1 (by first | assumption | (go_keep; done) | (go_simp; done) | (simp; done)) (by first | omega | (simp <;> omega)); have cc3 := cell_keep (p := ⟨w.heap.size + 1, 0, none⟩) (v := .int .i64 X) hb1 (by first | assumption | (go_keep; done) | (go_simp; done) | (simp; done)) (by first | omega | (simp <;> omega)); have cc4 := cell_keep (p := ⟨w.heap.size + 1, 1, none⟩) (v := .int .i64 Y) hb1 (by first | assumption | (go_keep; done) | (go_simp; done) | (simp; done)) (by first | omega | (simp <;> omega)); have cc5 := cell_keep (p := ⟨w.heap.size + 1, 2, none⟩) (v := .int .i64 D) hb1 (by first | assumption | (go_keep; done) | (go_simp; done) | (simp; done)) (by first | omega | (simp <;> omega)); have cf0 := frozen_keep (p := ⟨w.heap.size, 0, none⟩) hb1 (by first | assumption | (go_keep; done) | (go_simp; done) | (simp; done)) (by first | omega | (simp <;> omega)); have cf1 := frozen_keep (p := ⟨w.heap.size, 1, none⟩) hb1 (by first | assumption | (go_keep; done) | (go_simp; done) | (simp; done)) (by first | omega | (simp <;> omega)); have cf2 := frozen_keep (p := ⟨w.heap.size, 2, none⟩) hb1 (by first | assumption | (go_keep; done) | (go_simp; done) | (simp; done)) (by first | omega | (simp <;> omega)); have hS1 : Below w.heap.size w w1 := S_below hb1 (by repeat (first | exact Below.refl _ _ | assumption | refine below_drewN ?_ _ | refine Below.drew ?_ | refine Below.alloc ?_ (by first | omega | (simp <;> omega)) _ | refine Below.setCell ?_ (by first | omega | (simp <;> omega)) _)) (by first | omega | (simp <;> omega)); have hz1 : w.heap.size + 1 + 1 ≤ w1.heap.size := S_size hb1 (by first | omega | (simp <;> omega)); have hqb0 : w.heap.size < w1.heap.size := S_lt hb1 (by first | omega | (simp <;> omega)); have hqb1 : w.heap.size + 1 < w1.heap.size := S_lt hb1 (by first | omega | (simp <;> omega)); clear hb1))
              exact bodyPost_ret (v := .tuple #[.agg #[.int .i64 X, .int .i64 Y, .int .i64 D], .bool true]) (by simp [results, Try.results98, go_sem, set_0 cc0, set2_1 cc1, set3_2 cc2]) rfl ⟨ret_spot HE.out.1.symm HE.out.2.1.symm HE.out.2.2.symm rfl, (by repeat (first | exact Below.refl _ _ | assumption | refine below_drewN ?_ _ | refine Below.drew ?_ | refine Below.alloc ?_ (by first | omega | (simp <;> omega)) _ | refine Below.setCell ?_ (by first | omega | (simp <;> omega)) _))⟩
            · go_enter Try.func98, Try.ntmps98
              go_wp2_with fail
              refine (sGcdOf_any _ _ _ hx1 hx2 hy1 hy2).mono ?_
              rintro e w1 ⟨rfl, nd, rfl⟩
              rw [HGX.out]
              go_wp2_with fail
              refine (sGcdOf_any _ _ _ gb1 gb2 hd1 hd2).mono ?_
              rintro e w1 ⟨rfl, nd2, rfl⟩
              rw [EG.out]
              go_wp2_with (first | (go_at_call 67; with_reducible refine (sGcdOf_any _ _ _ hx1 hx2 hd1 hd2).mono ?_; rintro e w1 ⟨rfl, nd, rfl⟩) | (go_at_call 67; with_reducible refine (sGcdOf_any _ _ _ hy1 hy2 hd1 hd2).mono ?_; rintro e w1 ⟨rfl, nd, rfl⟩))
              have q0 := Q0.out
              have q1 := Q1.out
              have q2 := Q2.out
              have q3 := Q3.out
              generalize gcdL [x, y, d] = g at *
              generalize hX : quoV x g = X at *
              generalize hY : quoV y g = Y at *
              generalize hD : quoV d g = D at *
              clear Q0 Q1 Q2 Q3 hX hY hD
              go_region
              go_wp2_with (first | (go_at_call 53; with_reducible refine (sSpotOk_lit HK.out _ (by omega) (by omega) (by omega) (by omega)).mono ?_; rintro e w1 ⟨rfl, hb1⟩; have cc0 := cell_keep (p := ⟨w.heap.size, 0, none⟩) (v := .int .i64 0) hb1 (by first | assumption | (go_keep; done) | (go_simp; done) | (simp; done)) (by first | omega | (simp <;> omega)); have cc1 := cell_keep (p := ⟨w.heap.size, 1, none⟩) (v := .int .i64 0) hb1 (by first | assumption | (go_keep; done) | (go_simp; done) | (simp; done)) (by first | omega | (simp <;> omega)); have cc2 := cell_keep (p := ⟨w.heap.size, 2, none⟩) (v := .int .i64 0) hb1 (by first | assumption | (go_keep; done) | (go_simp; done) | (simp; done)) (by first | omega | (simp <;> omega)); have cc3 := cell_keep (p := ⟨w.heap.size + 1, 0, none⟩) (v := .int .i64 X) hb1 (by first | assumption | (go_keep; done) | (go_simp; done) | (simp; done)) (by first | omega | (simp <;> omega)); have cc4 := cell_keep (p := ⟨w.heap.size + 1, 1, none⟩) (v := .int .i64 Y) hb1 (by first | assumption | (go_keep; done) | (go_simp; done) | (simp; done)) (by first | omega | (simp <;> omega)); have cc5 := cell_keep (p := ⟨w.heap.size + 1, 2, none⟩) (v := .int .i64 D) hb1 (by first | assumption | (go_keep; done) | (go_simp; done) | (simp; done)) (by first | omega | (simp <;> omega)); have cf0 := frozen_keep (p := ⟨w.heap.size, 0, none⟩) hb1 (by first | assumption | (go_keep; done) | (go_simp; done) | (simp; done)) (by first | omega | (simp <;> omega)); have cf1 := frozen_keep (p := ⟨w.heap.size, 1, none⟩) hb1 (by first | assumption | (go_keep; done) | (go_simp; done) | (simp; done)) (by first | omega | (simp <;> omega)); have cf2 := frozen_keep (p := ⟨w.heap.size, 2, none⟩) hb1 (by first | assumption | (go_keep; done) | (go_simp; done) | (simp; done)) (by first | omega | (simp <;> omega)); have hS1 : Below w.heap.size w w1 := S_below hb1 (by repeat (first | exact Below.refl _ _ | assumption | refine below_drewN ?_ _ | refine Below.drew ?_ | refine Below.alloc ?_ (by first | omega | (simp <;> omega)) _ | refine Below.setCell ?_ (by first | omega | (simp <;> omega)) _)) (by first | omega | (simp <;> omega)); have hz1 : w.heap.size + 1 + 1 ≤ w1.heap.size := S_size hb1 (by first | omega | (simp <;> omega)); have hqb0 : w.heap.size < w1.heap.size := S_lt hb1 (by first | omega | (simp <;> omega)); have hqb1 : w.heap.size + 1 < w1.heap.size := S_lt hb1 (by first | omega | (simp <;> omega)); clear hb1))
              exact bodyPost_ret (v := .tuple #[.agg #[.int .i64 X, .int .i64 Y, .int .i64 D], .bool true]) (by simp [results, Try.results98, go_sem, set_0 cc0, set2_1 cc1, set3_2 cc2]) rfl ⟨ret_spot HE.out.1.symm HE.out.2.1.symm HE.out.2.2.symm rfl, (by repeat (first | exact Below.refl _ _ | assumption | refine below_drewN ?_ _ | refine Below.drew ?_ | refine Below.alloc ?_ (by first | omega | (simp <;> omega)) _ | refine Below.setCell ?_ (by first | omega | (simp <;> omega)) _))⟩
      · have HR : spOk x y d = false := by unfold spOk; rw [hly]; simp
        have HE := Lib.hid (And.intro HR (spOk_zero HR)); clear HR
        have n1 : (gcdV x d == 0) = false := by rw [beq_eq_false_iff_ne]; intro h; rw [qx.1 h] at hlx; cases hlx
        have n2 : (gcdV y d == 0) = true := by rw [beq_iff_eq]; exact qy.2 hly
        have n3 : (y != 0) = true := by rw [bne_iff_ne]; unfold leastB at hly; simp at hly; omega
        have n4 : ¬ y = 0 := by unfold leastB at hly; simp at hly; omega
        clear hlx hly
        generalize hgx : gcdV x y = gxy at *
        have gb : -9223372036854775808 ≤ gxy ∧ gxy ≤ 9223372036854775807 := by rw [← hgx]; exact gcdV_range x y hx1 hx2 hy1 hy2
        have HGX := Lib.hid hgx; clear hgx
        obtain ⟨gb1, gb2⟩ := gb
        clear qx qy
        cases hxz : (x != 0)
        · go_enter Try.func98, Try.ntmps98
          go_wp2_with fail
          refine (sGcdOf_any _ _ _ hx1 hx2 hy1 hy2).mono ?_
          rintro e w1 ⟨rfl, nd, rfl⟩
          rw [HGX.out]
          go_wp2_with fail
          refine (sGcdOf_any _ _ _ gb1 gb2 hd1 hd2).mono ?_
          rintro e w1 ⟨rfl, nd2, rfl⟩
          go_wp2_with (first | (go_at_call 67; with_reducible refine (sGcdOf_any _ _ _ hx1 hx2 hd1 hd2).mono ?_; rintro e w1 ⟨rfl, nd, rfl⟩) | (go_at_call 67; with_reducible refine (sGcdOf_any _ _ _ hy1 hy2 hd1 hd2).mono ?_; rintro e w1 ⟨rfl, nd, rfl⟩))
          exact bodyPost_ret (v := .tuple #[.agg #[.int .i64 0, .int .i64 0, .int .i64 0], .bool false]) (by simp [results, Try.results98, go_sem]) rfl ⟨ret_spot HE.out.2.1.symm HE.out.2.2.1.symm HE.out.2.2.2.symm HE.out.1.symm, (by repeat (first | exact Below.refl _ _ | assumption | refine below_drewN ?_ _ | refine Below.drew ?_ | refine Below.alloc ?_ (by first | omega | (simp <;> omega)) _ | refine Below.setCell ?_ (by first | omega | (simp <;> omega)) _))⟩
        · go_enter Try.func98, Try.ntmps98
          go_wp2_with fail
          refine (sGcdOf_any _ _ _ hx1 hx2 hy1 hy2).mono ?_
          rintro e w1 ⟨rfl, nd, rfl⟩
          rw [HGX.out]
          go_wp2_with fail
          refine (sGcdOf_any _ _ _ gb1 gb2 hd1 hd2).mono ?_
          rintro e w1 ⟨rfl, nd2, rfl⟩
          go_wp2_with (first | (go_at_call 67; with_reducible refine (sGcdOf_any _ _ _ hx1 hx2 hd1 hd2).mono ?_; rintro e w1 ⟨rfl, nd, rfl⟩) | (go_at_call 67; with_reducible refine (sGcdOf_any _ _ _ hy1 hy2 hd1 hd2).mono ?_; rintro e w1 ⟨rfl, nd, rfl⟩))
          exact bodyPost_ret (v := .tuple #[.agg #[.int .i64 0, .int .i64 0, .int .i64 0], .bool false]) (by simp [results, Try.results98, go_sem]) rfl ⟨ret_spot HE.out.2.1.symm HE.out.2.2.1.symm HE.out.2.2.2.symm HE.out.1.symm, (by repeat (first | exact Below.refl _ _ | assumption | refine below_drewN ?_ _ | refine Below.drew ?_ | refine Below.alloc ?_ (by first | omega | (simp <;> omega)) _ | refine Below.setCell ?_ (by first | omega | (simp <;> omega)) _))⟩
    · have HR : spOk x y d = false := by unfold spOk; rw [hlx]; simp
      have HE := Lib.hid (And.intro HR (spOk_zero HR)); clear HR
      have n1 : (gcdV x d == 0) = true := by rw [beq_iff_eq]; exact qx.2 hlx
      have n3 : (x != 0) = true := by rw [bne_iff_ne]; unfold leastB at hlx; simp at hlx; omega
      have n4 : ¬ x = 0 := by unfold leastB at hlx; simp at hlx; omega
      clear hlx
      generalize hgx : gcdV x y = gxy at *
      have gb : -9223372036854775808 ≤ gxy ∧ gxy ≤ 9223372036854775807 := by rw [← hgx]; exact gcdV_range x y hx1 hx2 hy1 hy2
      have HGX := Lib.hid hgx; clear hgx
      obtain ⟨gb1, gb2⟩ := gb
      clear qx qy
      go_enter Try.func98, Try.ntmps98
      go_wp2_with fail
      refine (sGcdOf_any _ _ _ hx1 hx2 hy1 hy2).mono ?_
      rintro e w1 ⟨rfl, nd, rfl⟩
      rw [HGX.out]
      go_wp2_with fail
      refine (sGcdOf_any _ _ _ gb1 gb2 hd1 hd2).mono ?_
      rintro e w1 ⟨rfl, nd2, rfl⟩
      go_wp2_with (first | (go_at_call 67; with_reducible refine (sGcdOf_any _ _ _ hx1 hx2 hd1 hd2).mono ?_; rintro e w1 ⟨rfl, nd, rfl⟩) | (go_at_call 67; with_reducible refine (sGcdOf_any _ _ _ hy1 hy2 hd1 hd2).mono ?_; rintro e w1 ⟨rfl, nd, rfl⟩))
      exact bodyPost_ret (v := .tuple #[.agg #[.int .i64 0, .int .i64 0, .int .i64 0], .bool false]) (by simp [results, Try.results98, go_sem]) rfl ⟨ret_spot HE.out.2.1.symm HE.out.2.2.1.symm HE.out.2.2.2.symm HE.out.1.symm, (by repeat (first | exact Below.refl _ _ | assumption | refine below_drewN ?_ _ | refine Below.drew ?_ | refine Below.alloc ?_ (by first | omega | (simp <;> omega)) _ | refine Below.setCell ?_ (by first | omega | (simp <;> omega)) _))⟩

theorem sSpotOf_lit {x y d : Int} {v : Bool} (h : spOk x y d = v) (w : World) (hx1 : -9223372036854775808 ≤ x) (hx2 : x ≤ 9223372036854775807) (hy1 : -9223372036854775808 ≤ y) (hy2 : y ≤ 9223372036854775807) (hd1 : -9223372036854775808 ≤ d) (hd2 : d ≤ 9223372036854775807) :
    Calls Try.prog 98 #[.int .i64 x, .int .i64 y, .int .i64 d] w fun e w' => e = .returned (.tuple #[.agg #[.int .i64 (spX x y d), .int .i64 (spY x y d), .int .i64 (spD x y d)], .bool v]) ∧ Below w.heap.size w w' := by
  rw [← h]; exact sSpotOf_any x y d w hx1 hx2 hy1 hy2 hd1 hd2

end Go.Proofs.Ythdaoadleeelnaa
