/- The walk of the law FnHalves. -/
import Derived.Test.YtkcklbjjpbaimaaHavL
import Derived.Test.YtkcklbjjpbaimaaThrW
import Derived.Test.YtkcklbjjpbaimaaQb
namespace Go.Proofs.Ytkcklbjjpbaimaa
open Go.ChangeShapes Go.WideShapes Go.ChangeAt Go.RowKit
attribute [local go_sem ↓] Go.wp_at_zero Go.wp_at_succ
set_option linter.unusedVariables false

/-- What the walk asks of two valid half planes and a valid spot. -/
def HavF (a b c a' b' c' x y d : Int) (v1 v2 vo : Bool) (n m p q r : Int) : Prop :=
  othV a b c a = -a ∧ othV a b c b = -b ∧ othV a b c c = -c ∧ othV (-a) (-b) (-c) (-a) = a ∧ othV (-a) (-b) (-c) (-b) = b ∧ othV (-a) (-b) (-c) (-c) = c ∧
  sideV a b c x y d = n ∧ sideV (-a) (-b) (-c) x y d = m ∧ holdsV a b c x y d = v1 ∧ holdsV (-a) (-b) (-c) x y d = v2 ∧ halfOkV a b c = true ∧ halfOkV (-a) (-b) (-c) = true ∧
  coX a b c a' b' c' = p ∧ coY a b c a' b' c' = q ∧ coD a b c a' b' c' = r ∧ coOk a b c a' b' c' = vo ∧
  coX a' b' c' a b c = p ∧ coY a' b' c' a b c = q ∧ coD a' b' c' a b c = r ∧ coOk a' b' c' a b c = vo ∧
  (vo = true → sideV a b c p q r = 0 ∧ sideV a' b' c' p q r = 0 ∧ (¬ a * b' = a' * b) ∧ spotOkV p q r = true)

def HavO (a b c a' b' c' x y d : Int) (vo : Bool) (p q r : Int) : Prop :=
  HavF a b c a' b' c' x y d true false vo (-1) 1 p q r ∨ HavF a b c a' b' c' x y d true true vo 0 0 p q r ∨ HavF a b c a' b' c' x y d false true vo 1 (-1) p q r

theorem havF_of {a b c a' b' c' x y d : Int} (k1 : halfOkV a b c = true) (k2 : halfOkV a' b' c' = true) (hs : spotOkV x y d = true) :
    HavO a b c a' b' c' x y d false 0 0 0 ∨ ∃ p q r, HavO a b c a' b' c' x y d true p q r := by
  obtain ⟨o1, o2, o3, o4, o5, o6, o7, o8⟩ := other_facts k1 hs
  obtain ⟨s1, s2, s3, s4⟩ := cross_swap a b c a' b' c'
  have k3 := halfOkV_neg k1
  cases ho : coOk a b c a' b' c'
  · obtain ⟨z1, z2, z3⟩ := co_none ho
    left
    rcases three_ways k1 hs with ⟨t1, t2, t3, t4⟩ | ⟨t1, t2, t3, t4⟩ | ⟨t1, t2, t3, t4⟩
    · exact .inl ⟨o1, o2, o3, o4, o5, o6, t1, t2, t3, t4, k1, k3, z1, z2, z3, ho, s2.trans z1, s3.trans z2, s4.trans z3, s1.trans ho, fun h => by cases h⟩
    · exact .inr (.inl ⟨o1, o2, o3, o4, o5, o6, t1, t2, t3, t4, k1, k3, z1, z2, z3, ho, s2.trans z1, s3.trans z2, s4.trans z3, s1.trans ho, fun h => by cases h⟩)
    · exact .inr (.inr ⟨o1, o2, o3, o4, o5, o6, t1, t2, t3, t4, k1, k3, z1, z2, z3, ho, s2.trans z1, s3.trans z2, s4.trans z3, s1.trans ho, fun h => by cases h⟩)
  · right
    refine ⟨coX a b c a' b' c', coY a b c a' b' c', coD a b c a' b' c', ?_⟩
    rcases three_ways k1 hs with ⟨t1, t2, t3, t4⟩ | ⟨t1, t2, t3, t4⟩ | ⟨t1, t2, t3, t4⟩
    · exact .inl ⟨o1, o2, o3, o4, o5, o6, t1, t2, t3, t4, k1, k3, rfl, rfl, rfl, ho, s2, s3, s4, s1.trans ho, fun _ => cross_on k1 k2 ho⟩
    · exact .inr (.inl ⟨o1, o2, o3, o4, o5, o6, t1, t2, t3, t4, k1, k3, rfl, rfl, rfl, ho, s2, s3, s4, s1.trans ho, fun _ => cross_on k1 k2 ho⟩)
    · exact .inr (.inr ⟨o1, o2, o3, o4, o5, o6, t1, t2, t3, t4, k1, k3, rfl, rfl, rfl, ho, s2, s3, s4, s1.trans ho, fun _ => cross_on k1 k2 ho⟩)

set_option maxHeartbeats 4000000 in
set_option maxRecDepth 1000000 in
theorem exHalves_walk (A : Option Addr) (n0 c0 : Nat) (w : World) (hn : n0 ≤ maxLen) (hB : BytesAt w w.heap.size A n0) :
    Calls Try.prog 5 #[.slice A n0 c0] w fun e w' => e = .returned (.bool true) ∧ Below w.heap.size w w' := by
  unfold maxLen at hn
  have HB := Lib.hid hB; clear hB
  by_cases hz : 1048576 < n0
  · go_enter Try.func5, Try.ntmps5
    go_wp2
    go_ret
    exact ⟨rfl, (by repeat (first | exact Below.refl _ _ | assumption | refine below_drewN ?_ _ | refine Below.drew ?_ | refine Below.alloc ?_ (by first | omega | (simp <;> omega)) _ | refine Below.setCell ?_ (by first | omega | (simp <;> omega)) _))⟩
  · go_enter Try.func5, Try.ntmps5
    go_wp2_with fail
    go_at_call 11; refine (MakeHalf_any 1 A n0 c0 w (by omega) HB.out (by omega) (by omega)).mono ?_; rintro e wa ⟨a, b, c, k1, hr1, rfl, hba⟩
    have HSa := Lib.hid hba
    have hza := hba.size
    have HK1 := Lib.hid k1
    clear hba k1
    go_wp2_with fail
    go_at_call 11; refine (MakeHalf_any 20 A n0 c0 _ (by omega) (bytes_step HB.out (HSa.out.alloc hza _)) (by omega) (by omega)).mono ?_; rintro e wb ⟨a', b', c', k2, hr2, rfl, hbb⟩
    have HK3 := Lib.hid (blk_below hbb (heap_alloc_new wa _))
    have HSb : RowKit.Hid (Below w.heap.size w wb) := Lib.hid (S_below hbb (HSa.out.alloc hza _) (by simp; omega))
    have hzb := HSb.out.size
    have hlt3 := heap_lt HK3.out
    have HK2 := Lib.hid k2
    clear hbb HSa k2
    go_wp2_with fail
    go_at_call 17; refine (MakeSpot_any 40 A n0 c0 _ (by omega) (bytes_step HB.out (HSb.out.alloc hzb _)) (by omega) (by omega)).mono ?_; rintro e wd ⟨x, y, d, k3, hr3, rfl, hbd⟩
    have K4 := blk_below hbd (alloc_blk HK3.out _)
    have K5 := blk_below hbd (heap_alloc_new wb _)
    have c30 : wd.cell? ⟨wa.heap.size, 0, none⟩ = some (.int .i64 a) := cell_of_row wd _ 0 _ _ _ K4
    have c31 : wd.cell? ⟨wa.heap.size, 1, none⟩ = some (.int .i64 b) := cell_of_row wd _ 1 _ _ _ K4
    have c32 : wd.cell? ⟨wa.heap.size, 2, none⟩ = some (.int .i64 c) := cell_of_row wd _ 2 _ _ _ K4
    have c40 : wd.cell? ⟨wb.heap.size, 0, none⟩ = some (.int .i64 a') := cell_of_row wd _ 0 _ _ _ K5
    have c41 : wd.cell? ⟨wb.heap.size, 1, none⟩ = some (.int .i64 b') := cell_of_row wd _ 1 _ _ _ K5
    have c42 : wd.cell? ⟨wb.heap.size, 2, none⟩ = some (.int .i64 c') := cell_of_row wd _ 2 _ _ _ K5
    have hlt4 := heap_lt K4
    have hlt5 := heap_lt K5
    have hSd : Below w.heap.size w wd := S_below hbd (HSb.out.alloc hzb _) (by simp; omega)
    have hzd := hSd.size
    have bd1 := halfOkV_bounds HK1.out
    have bd2 := halfOkV_bounds HK2.out
    have bd3 := spotOkV_bounds k3
    have hc := havF_of HK1.out HK2.out k3
    clear hbd K4 K5 HK3 HSb k3
    have HX1 := Lib.hid (show -9223372036854775808 ≤ x by omega)
    have HX2 := Lib.hid (show x ≤ 9223372036854775807 by omega)
    have HY1 := Lib.hid (show -9223372036854775808 ≤ y by omega)
    have HY2 := Lib.hid (show y ≤ 9223372036854775807 by omega)
    have HM1 := Lib.hid (show IntKind.i64.wrap (a * b') = a * b' from IntWalk.i64_in _ (by have := mul_range a b' 50000 50000 bd1.1.1 bd1.1.2 bd2.2.1.1 bd2.2.1.2; omega))
    have HM2 := Lib.hid (show IntKind.i64.wrap (a' * b) = a' * b from IntWalk.i64_in _ (by have := mul_range a' b 50000 50000 bd2.1.1 bd2.1.2 bd1.2.1.1 bd1.2.1.2; omega))
    clear bd1 bd2 bd3 hr1 hr2 hr3 hn hz
    have hw1 : IntKind.i64.wrap (-(-1)) = 1 := by decide
    have hw2 : IntKind.i64.wrap (-1) = -1 := by decide
    have hw3 : IntKind.i64.wrap (-0) = 0 := by decide
    have hw4 : IntKind.i64.wrap 1 = 1 := by decide
    rcases hc with hc | ⟨p, q, r, hc⟩
    · rcases hc with hc | hc | hc
      all_goals
        have O1 := Lib.hid hc.1
        have O2 := Lib.hid hc.2.1
        have O3 := Lib.hid hc.2.2.1
        have O4 := Lib.hid hc.2.2.2.1
        have O5 := Lib.hid hc.2.2.2.2.1
        have O6 := Lib.hid hc.2.2.2.2.2.1
        have S1 := Lib.hid hc.2.2.2.2.2.2.1
        have S2 := Lib.hid hc.2.2.2.2.2.2.2.1
        have V1 := Lib.hid hc.2.2.2.2.2.2.2.2.1
        have V2 := Lib.hid hc.2.2.2.2.2.2.2.2.2.1
        have H1 := Lib.hid hc.2.2.2.2.2.2.2.2.2.2.1
        have H2 := Lib.hid hc.2.2.2.2.2.2.2.2.2.2.2.1
        have X1 := Lib.hid hc.2.2.2.2.2.2.2.2.2.2.2.2.1
        have X2 := Lib.hid hc.2.2.2.2.2.2.2.2.2.2.2.2.2.1
        have X3 := Lib.hid hc.2.2.2.2.2.2.2.2.2.2.2.2.2.2.1
        have X4 := Lib.hid hc.2.2.2.2.2.2.2.2.2.2.2.2.2.2.2.1
        have Y1 := Lib.hid hc.2.2.2.2.2.2.2.2.2.2.2.2.2.2.2.2.1
        have Y2 := Lib.hid hc.2.2.2.2.2.2.2.2.2.2.2.2.2.2.2.2.2.1
        have Y3 := Lib.hid hc.2.2.2.2.2.2.2.2.2.2.2.2.2.2.2.2.2.2.1
        have Y4 := Lib.hid hc.2.2.2.2.2.2.2.2.2.2.2.2.2.2.2.2.2.2.2.1
        try have Z1 := Lib.hid (hc.2.2.2.2.2.2.2.2.2.2.2.2.2.2.2.2.2.2.2.2 rfl)
        clear hc
      all_goals
        go_wp2_with fail
        go_at_call 18; with_reducible refine (oth_is O1.out O2.out O3.out _).mono ?_
        rintro e wf ⟨rfl, hb1⟩
        have cc_wf0 := cell_keep (p := ⟨wa.heap.size, 0, none⟩) (v := .int .i64 a) hb1 (by first | assumption | (go_keep; done) | (go_simp; done) | (simp; done)) (by first | omega | (simp <;> omega))
        have cc_wf1 := cell_keep (p := ⟨wa.heap.size, 1, none⟩) (v := .int .i64 b) hb1 (by first | assumption | (go_keep; done) | (go_simp; done) | (simp; done)) (by first | omega | (simp <;> omega))
        have cc_wf2 := cell_keep (p := ⟨wa.heap.size, 2, none⟩) (v := .int .i64 c) hb1 (by first | assumption | (go_keep; done) | (go_simp; done) | (simp; done)) (by first | omega | (simp <;> omega))
        have cc_wf3 := cell_keep (p := ⟨wb.heap.size, 0, none⟩) (v := .int .i64 a') hb1 (by first | assumption | (go_keep; done) | (go_simp; done) | (simp; done)) (by first | omega | (simp <;> omega))
        have cc_wf4 := cell_keep (p := ⟨wb.heap.size, 1, none⟩) (v := .int .i64 b') hb1 (by first | assumption | (go_keep; done) | (go_simp; done) | (simp; done)) (by first | omega | (simp <;> omega))
        have cc_wf5 := cell_keep (p := ⟨wb.heap.size, 2, none⟩) (v := .int .i64 c') hb1 (by first | assumption | (go_keep; done) | (go_simp; done) | (simp; done)) (by first | omega | (simp <;> omega))
        have cc_wf6 := cell_keep (p := ⟨wd.heap.size, 0, none⟩) (v := .int .i64 x) hb1 (by first | assumption | (go_keep; done) | (go_simp; done) | (simp; done)) (by first | omega | (simp <;> omega))
        have cc_wf7 := cell_keep (p := ⟨wd.heap.size, 1, none⟩) (v := .int .i64 y) hb1 (by first | assumption | (go_keep; done) | (go_simp; done) | (simp; done)) (by first | omega | (simp <;> omega))
        have cc_wf8 := cell_keep (p := ⟨wd.heap.size, 2, none⟩) (v := .int .i64 d) hb1 (by first | assumption | (go_keep; done) | (go_simp; done) | (simp; done)) (by first | omega | (simp <;> omega))
        have hS1_wf : Below w.heap.size w wf := S_below hb1 (by repeat (first | exact Below.refl _ _ | assumption | refine below_drewN ?_ _ | refine Below.drew ?_ | refine Below.alloc ?_ (by first | omega | (simp <;> omega)) _ | refine Below.setCell ?_ (by first | omega | (simp <;> omega)) _)) (by first | omega | (simp <;> omega))
        have hz1_wf : w.heap.size ≤ wf.heap.size := S_size hb1 (by first | omega | (simp <;> omega))
        have hqb_wf0 : wa.heap.size < wf.heap.size := S_lt hb1 (by first | omega | (simp <;> omega))
        have hqb_wf1 : wb.heap.size < wf.heap.size := S_lt hb1 (by first | omega | (simp <;> omega))
        have hqb_wf2 : wd.heap.size < wf.heap.size := S_lt hb1 (by first | omega | (simp <;> omega))
        clear hb1
        clear c30 c31 c32 c40 c41 c42 hSd
        go_wp2_with fail
        go_at_call 19; with_reducible refine (cros_is X1.out X2.out X3.out X4.out _).mono ?_
        rintro e wg ⟨rfl, hb1⟩
        have cc_wg0 := cell_keep (p := ⟨wa.heap.size, 0, none⟩) (v := .int .i64 a) hb1 (by first | assumption | (go_keep; done) | (go_simp; done) | (simp; done)) (by first | omega | (simp <;> omega))
        have cc_wg1 := cell_keep (p := ⟨wa.heap.size, 1, none⟩) (v := .int .i64 b) hb1 (by first | assumption | (go_keep; done) | (go_simp; done) | (simp; done)) (by first | omega | (simp <;> omega))
        have cc_wg2 := cell_keep (p := ⟨wa.heap.size, 2, none⟩) (v := .int .i64 c) hb1 (by first | assumption | (go_keep; done) | (go_simp; done) | (simp; done)) (by first | omega | (simp <;> omega))
        have cc_wg3 := cell_keep (p := ⟨wb.heap.size, 0, none⟩) (v := .int .i64 a') hb1 (by first | assumption | (go_keep; done) | (go_simp; done) | (simp; done)) (by first | omega | (simp <;> omega))
        have cc_wg4 := cell_keep (p := ⟨wb.heap.size, 1, none⟩) (v := .int .i64 b') hb1 (by first | assumption | (go_keep; done) | (go_simp; done) | (simp; done)) (by first | omega | (simp <;> omega))
        have cc_wg5 := cell_keep (p := ⟨wb.heap.size, 2, none⟩) (v := .int .i64 c') hb1 (by first | assumption | (go_keep; done) | (go_simp; done) | (simp; done)) (by first | omega | (simp <;> omega))
        have cc_wg6 := cell_keep (p := ⟨wd.heap.size, 0, none⟩) (v := .int .i64 x) hb1 (by first | assumption | (go_keep; done) | (go_simp; done) | (simp; done)) (by first | omega | (simp <;> omega))
        have cc_wg7 := cell_keep (p := ⟨wd.heap.size, 1, none⟩) (v := .int .i64 y) hb1 (by first | assumption | (go_keep; done) | (go_simp; done) | (simp; done)) (by first | omega | (simp <;> omega))
        have cc_wg8 := cell_keep (p := ⟨wd.heap.size, 2, none⟩) (v := .int .i64 d) hb1 (by first | assumption | (go_keep; done) | (go_simp; done) | (simp; done)) (by first | omega | (simp <;> omega))
        have cc_wg9 := cell_keep (p := ⟨wf.heap.size, 0, none⟩) (v := .int .i64 (-a)) hb1 (by first | assumption | (go_keep; done) | (go_simp; done) | (simp; done)) (by first | omega | (simp <;> omega))
        have cc_wg10 := cell_keep (p := ⟨wf.heap.size, 1, none⟩) (v := .int .i64 (-b)) hb1 (by first | assumption | (go_keep; done) | (go_simp; done) | (simp; done)) (by first | omega | (simp <;> omega))
        have cc_wg11 := cell_keep (p := ⟨wf.heap.size, 2, none⟩) (v := .int .i64 (-c)) hb1 (by first | assumption | (go_keep; done) | (go_simp; done) | (simp; done)) (by first | omega | (simp <;> omega))
        have hS1_wg : Below w.heap.size w wg := S_below hb1 (by repeat (first | exact Below.refl _ _ | assumption | refine below_drewN ?_ _ | refine Below.drew ?_ | refine Below.alloc ?_ (by first | omega | (simp <;> omega)) _ | refine Below.setCell ?_ (by first | omega | (simp <;> omega)) _)) (by first | omega | (simp <;> omega))
        have hz1_wg : w.heap.size ≤ wg.heap.size := S_size hb1 (by first | omega | (simp <;> omega))
        have hqb_wg0 : wa.heap.size < wg.heap.size := S_lt hb1 (by first | omega | (simp <;> omega))
        have hqb_wg1 : wb.heap.size < wg.heap.size := S_lt hb1 (by first | omega | (simp <;> omega))
        have hqb_wg2 : wd.heap.size < wg.heap.size := S_lt hb1 (by first | omega | (simp <;> omega))
        have hqb_wg3 : wf.heap.size < wg.heap.size := S_lt hb1 (by first | omega | (simp <;> omega))
        clear hb1
        clear cc_wf0 cc_wf1 cc_wf2 cc_wf3 cc_wf4 cc_wf5 cc_wf6 cc_wf7 cc_wf8 hS1_wf
        go_wp2_with fail
        go_at_call 19; with_reducible refine (cros_is Y1.out Y2.out Y3.out Y4.out _).mono ?_
        rintro e wh ⟨rfl, hb1⟩
        have cc_wh0 := cell_keep (p := ⟨wa.heap.size, 0, none⟩) (v := .int .i64 a) hb1 (by first | assumption | (go_keep; done) | (go_simp; done) | (simp; done)) (by first | omega | (simp <;> omega))
        have cc_wh1 := cell_keep (p := ⟨wa.heap.size, 1, none⟩) (v := .int .i64 b) hb1 (by first | assumption | (go_keep; done) | (go_simp; done) | (simp; done)) (by first | omega | (simp <;> omega))
        have cc_wh2 := cell_keep (p := ⟨wa.heap.size, 2, none⟩) (v := .int .i64 c) hb1 (by first | assumption | (go_keep; done) | (go_simp; done) | (simp; done)) (by first | omega | (simp <;> omega))
        have cc_wh3 := cell_keep (p := ⟨wb.heap.size, 0, none⟩) (v := .int .i64 a') hb1 (by first | assumption | (go_keep; done) | (go_simp; done) | (simp; done)) (by first | omega | (simp <;> omega))
        have cc_wh4 := cell_keep (p := ⟨wb.heap.size, 1, none⟩) (v := .int .i64 b') hb1 (by first | assumption | (go_keep; done) | (go_simp; done) | (simp; done)) (by first | omega | (simp <;> omega))
        have cc_wh5 := cell_keep (p := ⟨wb.heap.size, 2, none⟩) (v := .int .i64 c') hb1 (by first | assumption | (go_keep; done) | (go_simp; done) | (simp; done)) (by first | omega | (simp <;> omega))
        have cc_wh6 := cell_keep (p := ⟨wd.heap.size, 0, none⟩) (v := .int .i64 x) hb1 (by first | assumption | (go_keep; done) | (go_simp; done) | (simp; done)) (by first | omega | (simp <;> omega))
        have cc_wh7 := cell_keep (p := ⟨wd.heap.size, 1, none⟩) (v := .int .i64 y) hb1 (by first | assumption | (go_keep; done) | (go_simp; done) | (simp; done)) (by first | omega | (simp <;> omega))
        have cc_wh8 := cell_keep (p := ⟨wd.heap.size, 2, none⟩) (v := .int .i64 d) hb1 (by first | assumption | (go_keep; done) | (go_simp; done) | (simp; done)) (by first | omega | (simp <;> omega))
        have cc_wh9 := cell_keep (p := ⟨wf.heap.size, 0, none⟩) (v := .int .i64 (-a)) hb1 (by first | assumption | (go_keep; done) | (go_simp; done) | (simp; done)) (by first | omega | (simp <;> omega))
        have cc_wh10 := cell_keep (p := ⟨wf.heap.size, 1, none⟩) (v := .int .i64 (-b)) hb1 (by first | assumption | (go_keep; done) | (go_simp; done) | (simp; done)) (by first | omega | (simp <;> omega))
        have cc_wh11 := cell_keep (p := ⟨wf.heap.size, 2, none⟩) (v := .int .i64 (-c)) hb1 (by first | assumption | (go_keep; done) | (go_simp; done) | (simp; done)) (by first | omega | (simp <;> omega))
        have cc_wh12 := cell_keep (p := ⟨wg.heap.size, 0, none⟩) (v := .int .i64 0) hb1 (by first | assumption | (go_keep; done) | (go_simp; done) | (simp; done)) (by first | omega | (simp <;> omega))
        have cc_wh13 := cell_keep (p := ⟨wg.heap.size, 1, none⟩) (v := .int .i64 0) hb1 (by first | assumption | (go_keep; done) | (go_simp; done) | (simp; done)) (by first | omega | (simp <;> omega))
        have cc_wh14 := cell_keep (p := ⟨wg.heap.size, 2, none⟩) (v := .int .i64 0) hb1 (by first | assumption | (go_keep; done) | (go_simp; done) | (simp; done)) (by first | omega | (simp <;> omega))
        have hS1_wh : Below w.heap.size w wh := S_below hb1 (by repeat (first | exact Below.refl _ _ | assumption | refine below_drewN ?_ _ | refine Below.drew ?_ | refine Below.alloc ?_ (by first | omega | (simp <;> omega)) _ | refine Below.setCell ?_ (by first | omega | (simp <;> omega)) _)) (by first | omega | (simp <;> omega))
        have hz1_wh : w.heap.size ≤ wh.heap.size := S_size hb1 (by first | omega | (simp <;> omega))
        have hqb_wh0 : wa.heap.size < wh.heap.size := S_lt hb1 (by first | omega | (simp <;> omega))
        have hqb_wh1 : wb.heap.size < wh.heap.size := S_lt hb1 (by first | omega | (simp <;> omega))
        have hqb_wh2 : wd.heap.size < wh.heap.size := S_lt hb1 (by first | omega | (simp <;> omega))
        have hqb_wh3 : wf.heap.size < wh.heap.size := S_lt hb1 (by first | omega | (simp <;> omega))
        have hqb_wh4 : wg.heap.size < wh.heap.size := S_lt hb1 (by first | omega | (simp <;> omega))
        clear hb1
        clear cc_wg0 cc_wg1 cc_wg2 cc_wg3 cc_wg4 cc_wg5 cc_wg6 cc_wg7 cc_wg8 cc_wg9 cc_wg10 cc_wg11 hS1_wg O1 O2 O3 X1 X2 X3 X4 Y1 Y2 Y3 Y4 HB HK1 HK2
        go_wp2_with fail
        refine wp_region_qb (by kernel_rfl) (by kernel_rfl) (fun W_q hW_q => ?_)
        have kq0 : ∀ d_ os_, (Sort.grow (redrawn W_q d_) os_).cell? ⟨wa.heap.size, 0, none⟩ = some (.int .i64 a) := fun d_ os_ => cell_regrown (by rw [hW_q.out]; first | assumption | (go_keep; done) | (go_simp; done) | (simp; done)) d_ os_
        have kq1 : ∀ d_ os_, (Sort.grow (redrawn W_q d_) os_).cell? ⟨wa.heap.size, 1, none⟩ = some (.int .i64 b) := fun d_ os_ => cell_regrown (by rw [hW_q.out]; first | assumption | (go_keep; done) | (go_simp; done) | (simp; done)) d_ os_
        have kq2 : ∀ d_ os_, (Sort.grow (redrawn W_q d_) os_).cell? ⟨wa.heap.size, 2, none⟩ = some (.int .i64 c) := fun d_ os_ => cell_regrown (by rw [hW_q.out]; first | assumption | (go_keep; done) | (go_simp; done) | (simp; done)) d_ os_
        have kq3 : ∀ d_ os_, (Sort.grow (redrawn W_q d_) os_).cell? ⟨wd.heap.size, 0, none⟩ = some (.int .i64 x) := fun d_ os_ => cell_regrown (by rw [hW_q.out]; first | assumption | (go_keep; done) | (go_simp; done) | (simp; done)) d_ os_
        have kq4 : ∀ d_ os_, (Sort.grow (redrawn W_q d_) os_).cell? ⟨wd.heap.size, 1, none⟩ = some (.int .i64 y) := fun d_ os_ => cell_regrown (by rw [hW_q.out]; first | assumption | (go_keep; done) | (go_simp; done) | (simp; done)) d_ os_
        have kq5 : ∀ d_ os_, (Sort.grow (redrawn W_q d_) os_).cell? ⟨wd.heap.size, 2, none⟩ = some (.int .i64 d) := fun d_ os_ => cell_regrown (by rw [hW_q.out]; first | assumption | (go_keep; done) | (go_simp; done) | (simp; done)) d_ os_
        have kq6 : ∀ d_ os_, (Sort.grow (redrawn W_q d_) os_).cell? ⟨wf.heap.size, 0, none⟩ = some (.int .i64 (-a)) := fun d_ os_ => cell_regrown (by rw [hW_q.out]; first | assumption | (go_keep; done) | (go_simp; done) | (simp; done)) d_ os_
        have kq7 : ∀ d_ os_, (Sort.grow (redrawn W_q d_) os_).cell? ⟨wf.heap.size, 1, none⟩ = some (.int .i64 (-b)) := fun d_ os_ => cell_regrown (by rw [hW_q.out]; first | assumption | (go_keep; done) | (go_simp; done) | (simp; done)) d_ os_
        have kq8 : ∀ d_ os_, (Sort.grow (redrawn W_q d_) os_).cell? ⟨wf.heap.size, 2, none⟩ = some (.int .i64 (-c)) := fun d_ os_ => cell_regrown (by rw [hW_q.out]; first | assumption | (go_keep; done) | (go_simp; done) | (simp; done)) d_ os_
        repeat (go_big_quiet_step (first | (go_at_call 15; with_reducible exact Calls.regrown_of (iHalfOk_lit H1.out _)) | (go_at_call 15; with_reducible exact Calls.regrown_of (iHalfOk_lit H2.out _)) | (go_at_call 10; with_reducible exact Calls.regrown_of (side_is S1.out _ HX1.out HX2.out HY1.out HY2.out)) | (go_at_call 10; with_reducible exact Calls.regrown_of (side_is S2.out _ HX1.out HX2.out HY1.out HY2.out)) | (go_at_call 20; with_reducible exact Calls.regrown_of (holds_is V1.out _ HX1.out HX2.out HY1.out HY2.out)) | (go_at_call 20; with_reducible exact Calls.regrown_of (holds_is V2.out _ HX1.out HX2.out HY1.out HY2.out)) | (go_at_call 18; with_reducible exact Calls.regrown_of (oth_is O4.out O5.out O6.out _))))
        refine wpQuiet_nil ?_
        intro _ hw_q
        obtain ⟨⟨dq_, osq_⟩, hw_q⟩ := hw_q
        subst hw_q
        have hb1 := below_regrown W_q dq_ osq_
        clear kq0 kq1 kq2 kq3 kq4 kq5 kq6 kq7 kq8
        generalize Sort.grow (redrawn W_q dq_) osq_ = wi at *
        have hW_q := hW_q.out
        subst hW_q
        have cc_wi0 := cell_keep (p := ⟨wa.heap.size, 0, none⟩) (v := .int .i64 a) hb1 (by first | assumption | (go_keep; done) | (go_simp; done) | (simp; done)) (by first | omega | (simp <;> omega))
        have cc_wi1 := cell_keep (p := ⟨wa.heap.size, 1, none⟩) (v := .int .i64 b) hb1 (by first | assumption | (go_keep; done) | (go_simp; done) | (simp; done)) (by first | omega | (simp <;> omega))
        have cc_wi2 := cell_keep (p := ⟨wa.heap.size, 2, none⟩) (v := .int .i64 c) hb1 (by first | assumption | (go_keep; done) | (go_simp; done) | (simp; done)) (by first | omega | (simp <;> omega))
        have cc_wi3 := cell_keep (p := ⟨wd.heap.size, 0, none⟩) (v := .int .i64 x) hb1 (by first | assumption | (go_keep; done) | (go_simp; done) | (simp; done)) (by first | omega | (simp <;> omega))
        have cc_wi4 := cell_keep (p := ⟨wd.heap.size, 1, none⟩) (v := .int .i64 y) hb1 (by first | assumption | (go_keep; done) | (go_simp; done) | (simp; done)) (by first | omega | (simp <;> omega))
        have cc_wi5 := cell_keep (p := ⟨wd.heap.size, 2, none⟩) (v := .int .i64 d) hb1 (by first | assumption | (go_keep; done) | (go_simp; done) | (simp; done)) (by first | omega | (simp <;> omega))
        have cc_wi6 := cell_keep (p := ⟨wf.heap.size, 0, none⟩) (v := .int .i64 (-a)) hb1 (by first | assumption | (go_keep; done) | (go_simp; done) | (simp; done)) (by first | omega | (simp <;> omega))
        have cc_wi7 := cell_keep (p := ⟨wf.heap.size, 1, none⟩) (v := .int .i64 (-b)) hb1 (by first | assumption | (go_keep; done) | (go_simp; done) | (simp; done)) (by first | omega | (simp <;> omega))
        have cc_wi8 := cell_keep (p := ⟨wf.heap.size, 2, none⟩) (v := .int .i64 (-c)) hb1 (by first | assumption | (go_keep; done) | (go_simp; done) | (simp; done)) (by first | omega | (simp <;> omega))
        have hS1_wi : Below w.heap.size w wi := S_below hb1 (by repeat (first | exact Below.refl _ _ | assumption | refine below_drewN ?_ _ | refine Below.drew ?_ | refine Below.alloc ?_ (by first | omega | (simp <;> omega)) _ | refine Below.setCell ?_ (by first | omega | (simp <;> omega)) _)) (by first | omega | (simp <;> omega))
        have hz1_wi : w.heap.size ≤ wi.heap.size := S_size hb1 (by first | omega | (simp <;> omega))
        have hqb_wi0 : wa.heap.size < wi.heap.size := S_lt hb1 (by first | omega | (simp <;> omega))
        have hqb_wi1 : wd.heap.size < wi.heap.size := S_lt hb1 (by first | omega | (simp <;> omega))
        have hqb_wi2 : wf.heap.size < wi.heap.size := S_lt hb1 (by first | omega | (simp <;> omega))
        clear hb1
        go_wp2_with fail
        go_ret
        exact ⟨rfl, (by repeat (first | exact Below.refl _ _ | assumption | refine below_drewN ?_ _ | refine Below.drew ?_ | refine Below.alloc ?_ (by first | omega | (simp <;> omega)) _ | refine Below.setCell ?_ (by first | omega | (simp <;> omega)) _))⟩
    · rcases hc with hc | hc | hc
      all_goals
        have O1 := Lib.hid hc.1
        have O2 := Lib.hid hc.2.1
        have O3 := Lib.hid hc.2.2.1
        have O4 := Lib.hid hc.2.2.2.1
        have O5 := Lib.hid hc.2.2.2.2.1
        have O6 := Lib.hid hc.2.2.2.2.2.1
        have S1 := Lib.hid hc.2.2.2.2.2.2.1
        have S2 := Lib.hid hc.2.2.2.2.2.2.2.1
        have V1 := Lib.hid hc.2.2.2.2.2.2.2.2.1
        have V2 := Lib.hid hc.2.2.2.2.2.2.2.2.2.1
        have H1 := Lib.hid hc.2.2.2.2.2.2.2.2.2.2.1
        have H2 := Lib.hid hc.2.2.2.2.2.2.2.2.2.2.2.1
        have X1 := Lib.hid hc.2.2.2.2.2.2.2.2.2.2.2.2.1
        have X2 := Lib.hid hc.2.2.2.2.2.2.2.2.2.2.2.2.2.1
        have X3 := Lib.hid hc.2.2.2.2.2.2.2.2.2.2.2.2.2.2.1
        have X4 := Lib.hid hc.2.2.2.2.2.2.2.2.2.2.2.2.2.2.2.1
        have Y1 := Lib.hid hc.2.2.2.2.2.2.2.2.2.2.2.2.2.2.2.2.1
        have Y2 := Lib.hid hc.2.2.2.2.2.2.2.2.2.2.2.2.2.2.2.2.2.1
        have Y3 := Lib.hid hc.2.2.2.2.2.2.2.2.2.2.2.2.2.2.2.2.2.2.1
        have Y4 := Lib.hid hc.2.2.2.2.2.2.2.2.2.2.2.2.2.2.2.2.2.2.2.1
        try have Z1 := Lib.hid (hc.2.2.2.2.2.2.2.2.2.2.2.2.2.2.2.2.2.2.2.2 rfl)
        clear hc
      all_goals
        go_wp2_with fail
        go_at_call 18; with_reducible refine (oth_is O1.out O2.out O3.out _).mono ?_
        rintro e wf ⟨rfl, hb1⟩
        have cc_wf0 := cell_keep (p := ⟨wa.heap.size, 0, none⟩) (v := .int .i64 a) hb1 (by first | assumption | (go_keep; done) | (go_simp; done) | (simp; done)) (by first | omega | (simp <;> omega))
        have cc_wf1 := cell_keep (p := ⟨wa.heap.size, 1, none⟩) (v := .int .i64 b) hb1 (by first | assumption | (go_keep; done) | (go_simp; done) | (simp; done)) (by first | omega | (simp <;> omega))
        have cc_wf2 := cell_keep (p := ⟨wa.heap.size, 2, none⟩) (v := .int .i64 c) hb1 (by first | assumption | (go_keep; done) | (go_simp; done) | (simp; done)) (by first | omega | (simp <;> omega))
        have cc_wf3 := cell_keep (p := ⟨wb.heap.size, 0, none⟩) (v := .int .i64 a') hb1 (by first | assumption | (go_keep; done) | (go_simp; done) | (simp; done)) (by first | omega | (simp <;> omega))
        have cc_wf4 := cell_keep (p := ⟨wb.heap.size, 1, none⟩) (v := .int .i64 b') hb1 (by first | assumption | (go_keep; done) | (go_simp; done) | (simp; done)) (by first | omega | (simp <;> omega))
        have cc_wf5 := cell_keep (p := ⟨wb.heap.size, 2, none⟩) (v := .int .i64 c') hb1 (by first | assumption | (go_keep; done) | (go_simp; done) | (simp; done)) (by first | omega | (simp <;> omega))
        have cc_wf6 := cell_keep (p := ⟨wd.heap.size, 0, none⟩) (v := .int .i64 x) hb1 (by first | assumption | (go_keep; done) | (go_simp; done) | (simp; done)) (by first | omega | (simp <;> omega))
        have cc_wf7 := cell_keep (p := ⟨wd.heap.size, 1, none⟩) (v := .int .i64 y) hb1 (by first | assumption | (go_keep; done) | (go_simp; done) | (simp; done)) (by first | omega | (simp <;> omega))
        have cc_wf8 := cell_keep (p := ⟨wd.heap.size, 2, none⟩) (v := .int .i64 d) hb1 (by first | assumption | (go_keep; done) | (go_simp; done) | (simp; done)) (by first | omega | (simp <;> omega))
        have hS1_wf : Below w.heap.size w wf := S_below hb1 (by repeat (first | exact Below.refl _ _ | assumption | refine below_drewN ?_ _ | refine Below.drew ?_ | refine Below.alloc ?_ (by first | omega | (simp <;> omega)) _ | refine Below.setCell ?_ (by first | omega | (simp <;> omega)) _)) (by first | omega | (simp <;> omega))
        have hz1_wf : w.heap.size ≤ wf.heap.size := S_size hb1 (by first | omega | (simp <;> omega))
        have hqb_wf0 : wa.heap.size < wf.heap.size := S_lt hb1 (by first | omega | (simp <;> omega))
        have hqb_wf1 : wb.heap.size < wf.heap.size := S_lt hb1 (by first | omega | (simp <;> omega))
        have hqb_wf2 : wd.heap.size < wf.heap.size := S_lt hb1 (by first | omega | (simp <;> omega))
        clear hb1
        clear c30 c31 c32 c40 c41 c42 hSd
        go_wp2_with fail
        go_at_call 19; with_reducible refine (cros_is X1.out X2.out X3.out X4.out _).mono ?_
        rintro e wg ⟨rfl, hb1⟩
        have cc_wg0 := cell_keep (p := ⟨wa.heap.size, 0, none⟩) (v := .int .i64 a) hb1 (by first | assumption | (go_keep; done) | (go_simp; done) | (simp; done)) (by first | omega | (simp <;> omega))
        have cc_wg1 := cell_keep (p := ⟨wa.heap.size, 1, none⟩) (v := .int .i64 b) hb1 (by first | assumption | (go_keep; done) | (go_simp; done) | (simp; done)) (by first | omega | (simp <;> omega))
        have cc_wg2 := cell_keep (p := ⟨wa.heap.size, 2, none⟩) (v := .int .i64 c) hb1 (by first | assumption | (go_keep; done) | (go_simp; done) | (simp; done)) (by first | omega | (simp <;> omega))
        have cc_wg3 := cell_keep (p := ⟨wb.heap.size, 0, none⟩) (v := .int .i64 a') hb1 (by first | assumption | (go_keep; done) | (go_simp; done) | (simp; done)) (by first | omega | (simp <;> omega))
        have cc_wg4 := cell_keep (p := ⟨wb.heap.size, 1, none⟩) (v := .int .i64 b') hb1 (by first | assumption | (go_keep; done) | (go_simp; done) | (simp; done)) (by first | omega | (simp <;> omega))
        have cc_wg5 := cell_keep (p := ⟨wb.heap.size, 2, none⟩) (v := .int .i64 c') hb1 (by first | assumption | (go_keep; done) | (go_simp; done) | (simp; done)) (by first | omega | (simp <;> omega))
        have cc_wg6 := cell_keep (p := ⟨wd.heap.size, 0, none⟩) (v := .int .i64 x) hb1 (by first | assumption | (go_keep; done) | (go_simp; done) | (simp; done)) (by first | omega | (simp <;> omega))
        have cc_wg7 := cell_keep (p := ⟨wd.heap.size, 1, none⟩) (v := .int .i64 y) hb1 (by first | assumption | (go_keep; done) | (go_simp; done) | (simp; done)) (by first | omega | (simp <;> omega))
        have cc_wg8 := cell_keep (p := ⟨wd.heap.size, 2, none⟩) (v := .int .i64 d) hb1 (by first | assumption | (go_keep; done) | (go_simp; done) | (simp; done)) (by first | omega | (simp <;> omega))
        have cc_wg9 := cell_keep (p := ⟨wf.heap.size, 0, none⟩) (v := .int .i64 (-a)) hb1 (by first | assumption | (go_keep; done) | (go_simp; done) | (simp; done)) (by first | omega | (simp <;> omega))
        have cc_wg10 := cell_keep (p := ⟨wf.heap.size, 1, none⟩) (v := .int .i64 (-b)) hb1 (by first | assumption | (go_keep; done) | (go_simp; done) | (simp; done)) (by first | omega | (simp <;> omega))
        have cc_wg11 := cell_keep (p := ⟨wf.heap.size, 2, none⟩) (v := .int .i64 (-c)) hb1 (by first | assumption | (go_keep; done) | (go_simp; done) | (simp; done)) (by first | omega | (simp <;> omega))
        have hS1_wg : Below w.heap.size w wg := S_below hb1 (by repeat (first | exact Below.refl _ _ | assumption | refine below_drewN ?_ _ | refine Below.drew ?_ | refine Below.alloc ?_ (by first | omega | (simp <;> omega)) _ | refine Below.setCell ?_ (by first | omega | (simp <;> omega)) _)) (by first | omega | (simp <;> omega))
        have hz1_wg : w.heap.size ≤ wg.heap.size := S_size hb1 (by first | omega | (simp <;> omega))
        have hqb_wg0 : wa.heap.size < wg.heap.size := S_lt hb1 (by first | omega | (simp <;> omega))
        have hqb_wg1 : wb.heap.size < wg.heap.size := S_lt hb1 (by first | omega | (simp <;> omega))
        have hqb_wg2 : wd.heap.size < wg.heap.size := S_lt hb1 (by first | omega | (simp <;> omega))
        have hqb_wg3 : wf.heap.size < wg.heap.size := S_lt hb1 (by first | omega | (simp <;> omega))
        clear hb1
        clear cc_wf0 cc_wf1 cc_wf2 cc_wf3 cc_wf4 cc_wf5 cc_wf6 cc_wf7 cc_wf8 hS1_wf
        go_wp2_with fail
        go_at_call 19; with_reducible refine (cros_is Y1.out Y2.out Y3.out Y4.out _).mono ?_
        rintro e wh ⟨rfl, hb1⟩
        have cc_wh0 := cell_keep (p := ⟨wa.heap.size, 0, none⟩) (v := .int .i64 a) hb1 (by first | assumption | (go_keep; done) | (go_simp; done) | (simp; done)) (by first | omega | (simp <;> omega))
        have cc_wh1 := cell_keep (p := ⟨wa.heap.size, 1, none⟩) (v := .int .i64 b) hb1 (by first | assumption | (go_keep; done) | (go_simp; done) | (simp; done)) (by first | omega | (simp <;> omega))
        have cc_wh2 := cell_keep (p := ⟨wa.heap.size, 2, none⟩) (v := .int .i64 c) hb1 (by first | assumption | (go_keep; done) | (go_simp; done) | (simp; done)) (by first | omega | (simp <;> omega))
        have cc_wh3 := cell_keep (p := ⟨wb.heap.size, 0, none⟩) (v := .int .i64 a') hb1 (by first | assumption | (go_keep; done) | (go_simp; done) | (simp; done)) (by first | omega | (simp <;> omega))
        have cc_wh4 := cell_keep (p := ⟨wb.heap.size, 1, none⟩) (v := .int .i64 b') hb1 (by first | assumption | (go_keep; done) | (go_simp; done) | (simp; done)) (by first | omega | (simp <;> omega))
        have cc_wh5 := cell_keep (p := ⟨wb.heap.size, 2, none⟩) (v := .int .i64 c') hb1 (by first | assumption | (go_keep; done) | (go_simp; done) | (simp; done)) (by first | omega | (simp <;> omega))
        have cc_wh6 := cell_keep (p := ⟨wd.heap.size, 0, none⟩) (v := .int .i64 x) hb1 (by first | assumption | (go_keep; done) | (go_simp; done) | (simp; done)) (by first | omega | (simp <;> omega))
        have cc_wh7 := cell_keep (p := ⟨wd.heap.size, 1, none⟩) (v := .int .i64 y) hb1 (by first | assumption | (go_keep; done) | (go_simp; done) | (simp; done)) (by first | omega | (simp <;> omega))
        have cc_wh8 := cell_keep (p := ⟨wd.heap.size, 2, none⟩) (v := .int .i64 d) hb1 (by first | assumption | (go_keep; done) | (go_simp; done) | (simp; done)) (by first | omega | (simp <;> omega))
        have cc_wh9 := cell_keep (p := ⟨wf.heap.size, 0, none⟩) (v := .int .i64 (-a)) hb1 (by first | assumption | (go_keep; done) | (go_simp; done) | (simp; done)) (by first | omega | (simp <;> omega))
        have cc_wh10 := cell_keep (p := ⟨wf.heap.size, 1, none⟩) (v := .int .i64 (-b)) hb1 (by first | assumption | (go_keep; done) | (go_simp; done) | (simp; done)) (by first | omega | (simp <;> omega))
        have cc_wh11 := cell_keep (p := ⟨wf.heap.size, 2, none⟩) (v := .int .i64 (-c)) hb1 (by first | assumption | (go_keep; done) | (go_simp; done) | (simp; done)) (by first | omega | (simp <;> omega))
        have cc_wh12 := cell_keep (p := ⟨wg.heap.size, 0, none⟩) (v := .int .i64 p) hb1 (by first | assumption | (go_keep; done) | (go_simp; done) | (simp; done)) (by first | omega | (simp <;> omega))
        have cc_wh13 := cell_keep (p := ⟨wg.heap.size, 1, none⟩) (v := .int .i64 q) hb1 (by first | assumption | (go_keep; done) | (go_simp; done) | (simp; done)) (by first | omega | (simp <;> omega))
        have cc_wh14 := cell_keep (p := ⟨wg.heap.size, 2, none⟩) (v := .int .i64 r) hb1 (by first | assumption | (go_keep; done) | (go_simp; done) | (simp; done)) (by first | omega | (simp <;> omega))
        have hS1_wh : Below w.heap.size w wh := S_below hb1 (by repeat (first | exact Below.refl _ _ | assumption | refine below_drewN ?_ _ | refine Below.drew ?_ | refine Below.alloc ?_ (by first | omega | (simp <;> omega)) _ | refine Below.setCell ?_ (by first | omega | (simp <;> omega)) _)) (by first | omega | (simp <;> omega))
        have hz1_wh : w.heap.size ≤ wh.heap.size := S_size hb1 (by first | omega | (simp <;> omega))
        have hqb_wh0 : wa.heap.size < wh.heap.size := S_lt hb1 (by first | omega | (simp <;> omega))
        have hqb_wh1 : wb.heap.size < wh.heap.size := S_lt hb1 (by first | omega | (simp <;> omega))
        have hqb_wh2 : wd.heap.size < wh.heap.size := S_lt hb1 (by first | omega | (simp <;> omega))
        have hqb_wh3 : wf.heap.size < wh.heap.size := S_lt hb1 (by first | omega | (simp <;> omega))
        have hqb_wh4 : wg.heap.size < wh.heap.size := S_lt hb1 (by first | omega | (simp <;> omega))
        clear hb1
        clear cc_wg0 cc_wg1 cc_wg2 cc_wg3 cc_wg4 cc_wg5 cc_wg6 cc_wg7 cc_wg8 cc_wg9 cc_wg10 cc_wg11 hS1_wg O1 O2 O3 X1 X2 X3 X4 Y1 Y2 Y3 Y4 HB HK1 HK2
        go_wp2_with fail
        refine wp_region_qb (by kernel_rfl) (by kernel_rfl) (fun W_q hW_q => ?_)
        have kq0 : ∀ d_ os_, (Sort.grow (redrawn W_q d_) os_).cell? ⟨wa.heap.size, 0, none⟩ = some (.int .i64 a) := fun d_ os_ => cell_regrown (by rw [hW_q.out]; first | assumption | (go_keep; done) | (go_simp; done) | (simp; done)) d_ os_
        have kq1 : ∀ d_ os_, (Sort.grow (redrawn W_q d_) os_).cell? ⟨wa.heap.size, 1, none⟩ = some (.int .i64 b) := fun d_ os_ => cell_regrown (by rw [hW_q.out]; first | assumption | (go_keep; done) | (go_simp; done) | (simp; done)) d_ os_
        have kq2 : ∀ d_ os_, (Sort.grow (redrawn W_q d_) os_).cell? ⟨wa.heap.size, 2, none⟩ = some (.int .i64 c) := fun d_ os_ => cell_regrown (by rw [hW_q.out]; first | assumption | (go_keep; done) | (go_simp; done) | (simp; done)) d_ os_
        have kq3 : ∀ d_ os_, (Sort.grow (redrawn W_q d_) os_).cell? ⟨wd.heap.size, 0, none⟩ = some (.int .i64 x) := fun d_ os_ => cell_regrown (by rw [hW_q.out]; first | assumption | (go_keep; done) | (go_simp; done) | (simp; done)) d_ os_
        have kq4 : ∀ d_ os_, (Sort.grow (redrawn W_q d_) os_).cell? ⟨wd.heap.size, 1, none⟩ = some (.int .i64 y) := fun d_ os_ => cell_regrown (by rw [hW_q.out]; first | assumption | (go_keep; done) | (go_simp; done) | (simp; done)) d_ os_
        have kq5 : ∀ d_ os_, (Sort.grow (redrawn W_q d_) os_).cell? ⟨wd.heap.size, 2, none⟩ = some (.int .i64 d) := fun d_ os_ => cell_regrown (by rw [hW_q.out]; first | assumption | (go_keep; done) | (go_simp; done) | (simp; done)) d_ os_
        have kq6 : ∀ d_ os_, (Sort.grow (redrawn W_q d_) os_).cell? ⟨wf.heap.size, 0, none⟩ = some (.int .i64 (-a)) := fun d_ os_ => cell_regrown (by rw [hW_q.out]; first | assumption | (go_keep; done) | (go_simp; done) | (simp; done)) d_ os_
        have kq7 : ∀ d_ os_, (Sort.grow (redrawn W_q d_) os_).cell? ⟨wf.heap.size, 1, none⟩ = some (.int .i64 (-b)) := fun d_ os_ => cell_regrown (by rw [hW_q.out]; first | assumption | (go_keep; done) | (go_simp; done) | (simp; done)) d_ os_
        have kq8 : ∀ d_ os_, (Sort.grow (redrawn W_q d_) os_).cell? ⟨wf.heap.size, 2, none⟩ = some (.int .i64 (-c)) := fun d_ os_ => cell_regrown (by rw [hW_q.out]; first | assumption | (go_keep; done) | (go_simp; done) | (simp; done)) d_ os_
        have kq9 : ∀ d_ os_, (Sort.grow (redrawn W_q d_) os_).cell? ⟨wb.heap.size, 0, none⟩ = some (.int .i64 a') := fun d_ os_ => cell_regrown (by rw [hW_q.out]; first | assumption | (go_keep; done) | (go_simp; done) | (simp; done)) d_ os_
        have kq10 : ∀ d_ os_, (Sort.grow (redrawn W_q d_) os_).cell? ⟨wb.heap.size, 1, none⟩ = some (.int .i64 b') := fun d_ os_ => cell_regrown (by rw [hW_q.out]; first | assumption | (go_keep; done) | (go_simp; done) | (simp; done)) d_ os_
        have kq11 : ∀ d_ os_, (Sort.grow (redrawn W_q d_) os_).cell? ⟨wb.heap.size, 2, none⟩ = some (.int .i64 c') := fun d_ os_ => cell_regrown (by rw [hW_q.out]; first | assumption | (go_keep; done) | (go_simp; done) | (simp; done)) d_ os_
        have kq12 : ∀ d_ os_, (Sort.grow (redrawn W_q d_) os_).cell? ⟨wg.heap.size, 0, none⟩ = some (.int .i64 p) := fun d_ os_ => cell_regrown (by rw [hW_q.out]; first | assumption | (go_keep; done) | (go_simp; done) | (simp; done)) d_ os_
        have kq13 : ∀ d_ os_, (Sort.grow (redrawn W_q d_) os_).cell? ⟨wg.heap.size, 1, none⟩ = some (.int .i64 q) := fun d_ os_ => cell_regrown (by rw [hW_q.out]; first | assumption | (go_keep; done) | (go_simp; done) | (simp; done)) d_ os_
        have kq14 : ∀ d_ os_, (Sort.grow (redrawn W_q d_) os_).cell? ⟨wg.heap.size, 2, none⟩ = some (.int .i64 r) := fun d_ os_ => cell_regrown (by rw [hW_q.out]; first | assumption | (go_keep; done) | (go_simp; done) | (simp; done)) d_ os_
        have kq15 : ∀ d_ os_, (Sort.grow (redrawn W_q d_) os_).cell? ⟨wh.heap.size, 0, none⟩ = some (.int .i64 p) := fun d_ os_ => cell_regrown (by rw [hW_q.out]; first | assumption | (go_keep; done) | (go_simp; done) | (simp; done)) d_ os_
        have kq16 : ∀ d_ os_, (Sort.grow (redrawn W_q d_) os_).cell? ⟨wh.heap.size, 1, none⟩ = some (.int .i64 q) := fun d_ os_ => cell_regrown (by rw [hW_q.out]; first | assumption | (go_keep; done) | (go_simp; done) | (simp; done)) d_ os_
        have kq17 : ∀ d_ os_, (Sort.grow (redrawn W_q d_) os_).cell? ⟨wh.heap.size, 2, none⟩ = some (.int .i64 r) := fun d_ os_ => cell_regrown (by rw [hW_q.out]; first | assumption | (go_keep; done) | (go_simp; done) | (simp; done)) d_ os_
        repeat (go_big_quiet_step (first | (go_at_call 15; with_reducible exact Calls.regrown_of (iHalfOk_lit H1.out _)) | (go_at_call 15; with_reducible exact Calls.regrown_of (iHalfOk_lit H2.out _)) | (go_at_call 10; with_reducible exact Calls.regrown_of (side_is S1.out _ HX1.out HX2.out HY1.out HY2.out)) | (go_at_call 10; with_reducible exact Calls.regrown_of (side_is S2.out _ HX1.out HX2.out HY1.out HY2.out)) | (go_at_call 20; with_reducible exact Calls.regrown_of (holds_is V1.out _ HX1.out HX2.out HY1.out HY2.out)) | (go_at_call 20; with_reducible exact Calls.regrown_of (holds_is V2.out _ HX1.out HX2.out HY1.out HY2.out)) | (go_at_call 18; with_reducible exact Calls.regrown_of (oth_is O4.out O5.out O6.out _))))
        refine wpQuiet_nil ?_
        intro _ hw_q
        obtain ⟨⟨dq_, osq_⟩, hw_q⟩ := hw_q
        subst hw_q
        have hb1 := below_regrown W_q dq_ osq_
        clear kq0 kq1 kq2 kq3 kq4 kq5 kq6 kq7 kq8 kq9 kq10 kq11 kq12 kq13 kq14 kq15 kq16 kq17
        generalize Sort.grow (redrawn W_q dq_) osq_ = wi at *
        have hW_q := hW_q.out
        subst hW_q
        have cc_wi0 := cell_keep (p := ⟨wa.heap.size, 0, none⟩) (v := .int .i64 a) hb1 (by first | assumption | (go_keep; done) | (go_simp; done) | (simp; done)) (by first | omega | (simp <;> omega))
        have cc_wi1 := cell_keep (p := ⟨wa.heap.size, 1, none⟩) (v := .int .i64 b) hb1 (by first | assumption | (go_keep; done) | (go_simp; done) | (simp; done)) (by first | omega | (simp <;> omega))
        have cc_wi2 := cell_keep (p := ⟨wa.heap.size, 2, none⟩) (v := .int .i64 c) hb1 (by first | assumption | (go_keep; done) | (go_simp; done) | (simp; done)) (by first | omega | (simp <;> omega))
        have cc_wi3 := cell_keep (p := ⟨wd.heap.size, 0, none⟩) (v := .int .i64 x) hb1 (by first | assumption | (go_keep; done) | (go_simp; done) | (simp; done)) (by first | omega | (simp <;> omega))
        have cc_wi4 := cell_keep (p := ⟨wd.heap.size, 1, none⟩) (v := .int .i64 y) hb1 (by first | assumption | (go_keep; done) | (go_simp; done) | (simp; done)) (by first | omega | (simp <;> omega))
        have cc_wi5 := cell_keep (p := ⟨wd.heap.size, 2, none⟩) (v := .int .i64 d) hb1 (by first | assumption | (go_keep; done) | (go_simp; done) | (simp; done)) (by first | omega | (simp <;> omega))
        have cc_wi6 := cell_keep (p := ⟨wf.heap.size, 0, none⟩) (v := .int .i64 (-a)) hb1 (by first | assumption | (go_keep; done) | (go_simp; done) | (simp; done)) (by first | omega | (simp <;> omega))
        have cc_wi7 := cell_keep (p := ⟨wf.heap.size, 1, none⟩) (v := .int .i64 (-b)) hb1 (by first | assumption | (go_keep; done) | (go_simp; done) | (simp; done)) (by first | omega | (simp <;> omega))
        have cc_wi8 := cell_keep (p := ⟨wf.heap.size, 2, none⟩) (v := .int .i64 (-c)) hb1 (by first | assumption | (go_keep; done) | (go_simp; done) | (simp; done)) (by first | omega | (simp <;> omega))
        have cc_wi9 := cell_keep (p := ⟨wb.heap.size, 0, none⟩) (v := .int .i64 a') hb1 (by first | assumption | (go_keep; done) | (go_simp; done) | (simp; done)) (by first | omega | (simp <;> omega))
        have cc_wi10 := cell_keep (p := ⟨wb.heap.size, 1, none⟩) (v := .int .i64 b') hb1 (by first | assumption | (go_keep; done) | (go_simp; done) | (simp; done)) (by first | omega | (simp <;> omega))
        have cc_wi11 := cell_keep (p := ⟨wb.heap.size, 2, none⟩) (v := .int .i64 c') hb1 (by first | assumption | (go_keep; done) | (go_simp; done) | (simp; done)) (by first | omega | (simp <;> omega))
        have cc_wi12 := cell_keep (p := ⟨wg.heap.size, 0, none⟩) (v := .int .i64 p) hb1 (by first | assumption | (go_keep; done) | (go_simp; done) | (simp; done)) (by first | omega | (simp <;> omega))
        have cc_wi13 := cell_keep (p := ⟨wg.heap.size, 1, none⟩) (v := .int .i64 q) hb1 (by first | assumption | (go_keep; done) | (go_simp; done) | (simp; done)) (by first | omega | (simp <;> omega))
        have cc_wi14 := cell_keep (p := ⟨wg.heap.size, 2, none⟩) (v := .int .i64 r) hb1 (by first | assumption | (go_keep; done) | (go_simp; done) | (simp; done)) (by first | omega | (simp <;> omega))
        have cc_wi15 := cell_keep (p := ⟨wh.heap.size, 0, none⟩) (v := .int .i64 p) hb1 (by first | assumption | (go_keep; done) | (go_simp; done) | (simp; done)) (by first | omega | (simp <;> omega))
        have cc_wi16 := cell_keep (p := ⟨wh.heap.size, 1, none⟩) (v := .int .i64 q) hb1 (by first | assumption | (go_keep; done) | (go_simp; done) | (simp; done)) (by first | omega | (simp <;> omega))
        have cc_wi17 := cell_keep (p := ⟨wh.heap.size, 2, none⟩) (v := .int .i64 r) hb1 (by first | assumption | (go_keep; done) | (go_simp; done) | (simp; done)) (by first | omega | (simp <;> omega))
        have hS1_wi : Below w.heap.size w wi := S_below hb1 (by repeat (first | exact Below.refl _ _ | assumption | refine below_drewN ?_ _ | refine Below.drew ?_ | refine Below.alloc ?_ (by first | omega | (simp <;> omega)) _ | refine Below.setCell ?_ (by first | omega | (simp <;> omega)) _)) (by first | omega | (simp <;> omega))
        have hz1_wi : w.heap.size ≤ wi.heap.size := S_size hb1 (by first | omega | (simp <;> omega))
        have hqb_wi0 : wa.heap.size < wi.heap.size := S_lt hb1 (by first | omega | (simp <;> omega))
        have hqb_wi1 : wd.heap.size < wi.heap.size := S_lt hb1 (by first | omega | (simp <;> omega))
        have hqb_wi2 : wf.heap.size < wi.heap.size := S_lt hb1 (by first | omega | (simp <;> omega))
        have hqb_wi3 : wb.heap.size < wi.heap.size := S_lt hb1 (by first | omega | (simp <;> omega))
        have hqb_wi4 : wg.heap.size < wi.heap.size := S_lt hb1 (by first | omega | (simp <;> omega))
        have hqb_wi5 : wh.heap.size < wi.heap.size := S_lt hb1 (by first | omega | (simp <;> omega))
        clear hb1
        go_wp2_with fail
        have Hz := Lib.hid Z1.out
        clear cc_wh0 cc_wh1 cc_wh2 cc_wh3 cc_wh4 cc_wh5 cc_wh6 cc_wh7 cc_wh8 cc_wh9 cc_wh10 cc_wh11 cc_wh12 cc_wh13 cc_wh14 hS1_wh cc_wi3 cc_wi4 cc_wi5 cc_wi6 cc_wi7 cc_wi8
        have hm1 := HM1.out
        have hm2 := HM2.out
        have hdd : ¬ a * b' = a' * b := Z1.out.2.2.1
        have bz := spotOkV_bounds Z1.out.2.2.2
        have HP1 := Lib.hid (show -9223372036854775808 ≤ p by omega)
        have HP2 := Lib.hid (show p ≤ 9223372036854775807 by omega)
        have HQ1 := Lib.hid (show -9223372036854775808 ≤ q by omega)
        have HQ2 := Lib.hid (show q ≤ 9223372036854775807 by omega)
        clear bz
        go_wp2_with fail
        go_at_call 10; with_reducible refine (side_is Z1.out.1 _ HP1.out HP2.out HQ1.out HQ2.out).mono ?_
        rintro e wj ⟨rfl, hb1⟩
        have cc_wj0 := cell_keep (p := ⟨wa.heap.size, 0, none⟩) (v := .int .i64 a) hb1 (by first | assumption | (go_keep; done) | (go_simp; done) | (simp; done)) (by first | omega | (simp <;> omega))
        have cc_wj1 := cell_keep (p := ⟨wa.heap.size, 1, none⟩) (v := .int .i64 b) hb1 (by first | assumption | (go_keep; done) | (go_simp; done) | (simp; done)) (by first | omega | (simp <;> omega))
        have cc_wj2 := cell_keep (p := ⟨wa.heap.size, 2, none⟩) (v := .int .i64 c) hb1 (by first | assumption | (go_keep; done) | (go_simp; done) | (simp; done)) (by first | omega | (simp <;> omega))
        have cc_wj3 := cell_keep (p := ⟨wb.heap.size, 0, none⟩) (v := .int .i64 a') hb1 (by first | assumption | (go_keep; done) | (go_simp; done) | (simp; done)) (by first | omega | (simp <;> omega))
        have cc_wj4 := cell_keep (p := ⟨wb.heap.size, 1, none⟩) (v := .int .i64 b') hb1 (by first | assumption | (go_keep; done) | (go_simp; done) | (simp; done)) (by first | omega | (simp <;> omega))
        have cc_wj5 := cell_keep (p := ⟨wb.heap.size, 2, none⟩) (v := .int .i64 c') hb1 (by first | assumption | (go_keep; done) | (go_simp; done) | (simp; done)) (by first | omega | (simp <;> omega))
        have cc_wj6 := cell_keep (p := ⟨wg.heap.size, 0, none⟩) (v := .int .i64 p) hb1 (by first | assumption | (go_keep; done) | (go_simp; done) | (simp; done)) (by first | omega | (simp <;> omega))
        have cc_wj7 := cell_keep (p := ⟨wg.heap.size, 1, none⟩) (v := .int .i64 q) hb1 (by first | assumption | (go_keep; done) | (go_simp; done) | (simp; done)) (by first | omega | (simp <;> omega))
        have cc_wj8 := cell_keep (p := ⟨wg.heap.size, 2, none⟩) (v := .int .i64 r) hb1 (by first | assumption | (go_keep; done) | (go_simp; done) | (simp; done)) (by first | omega | (simp <;> omega))
        have cc_wj9 := cell_keep (p := ⟨wh.heap.size, 0, none⟩) (v := .int .i64 p) hb1 (by first | assumption | (go_keep; done) | (go_simp; done) | (simp; done)) (by first | omega | (simp <;> omega))
        have cc_wj10 := cell_keep (p := ⟨wh.heap.size, 1, none⟩) (v := .int .i64 q) hb1 (by first | assumption | (go_keep; done) | (go_simp; done) | (simp; done)) (by first | omega | (simp <;> omega))
        have cc_wj11 := cell_keep (p := ⟨wh.heap.size, 2, none⟩) (v := .int .i64 r) hb1 (by first | assumption | (go_keep; done) | (go_simp; done) | (simp; done)) (by first | omega | (simp <;> omega))
        have hS1_wj : Below w.heap.size w wj := S_below hb1 (by repeat (first | exact Below.refl _ _ | assumption | refine below_drewN ?_ _ | refine Below.drew ?_ | refine Below.alloc ?_ (by first | omega | (simp <;> omega)) _ | refine Below.setCell ?_ (by first | omega | (simp <;> omega)) _)) (by first | omega | (simp <;> omega))
        have hz1_wj : w.heap.size ≤ wj.heap.size := S_size hb1 (by first | omega | (simp <;> omega))
        have hqb_wj0 : wa.heap.size < wj.heap.size := S_lt hb1 (by first | omega | (simp <;> omega))
        have hqb_wj1 : wb.heap.size < wj.heap.size := S_lt hb1 (by first | omega | (simp <;> omega))
        have hqb_wj2 : wg.heap.size < wj.heap.size := S_lt hb1 (by first | omega | (simp <;> omega))
        have hqb_wj3 : wh.heap.size < wj.heap.size := S_lt hb1 (by first | omega | (simp <;> omega))
        clear hb1
        go_wp2_with fail
        go_at_call 10; with_reducible refine (side_is Z1.out.2.1 _ HP1.out HP2.out HQ1.out HQ2.out).mono ?_
        rintro e wk ⟨rfl, hb1⟩
        have cc_wk0 := cell_keep (p := ⟨wa.heap.size, 0, none⟩) (v := .int .i64 a) hb1 (by first | assumption | (go_keep; done) | (go_simp; done) | (simp; done)) (by first | omega | (simp <;> omega))
        have cc_wk1 := cell_keep (p := ⟨wa.heap.size, 1, none⟩) (v := .int .i64 b) hb1 (by first | assumption | (go_keep; done) | (go_simp; done) | (simp; done)) (by first | omega | (simp <;> omega))
        have cc_wk2 := cell_keep (p := ⟨wa.heap.size, 2, none⟩) (v := .int .i64 c) hb1 (by first | assumption | (go_keep; done) | (go_simp; done) | (simp; done)) (by first | omega | (simp <;> omega))
        have cc_wk3 := cell_keep (p := ⟨wb.heap.size, 0, none⟩) (v := .int .i64 a') hb1 (by first | assumption | (go_keep; done) | (go_simp; done) | (simp; done)) (by first | omega | (simp <;> omega))
        have cc_wk4 := cell_keep (p := ⟨wb.heap.size, 1, none⟩) (v := .int .i64 b') hb1 (by first | assumption | (go_keep; done) | (go_simp; done) | (simp; done)) (by first | omega | (simp <;> omega))
        have cc_wk5 := cell_keep (p := ⟨wb.heap.size, 2, none⟩) (v := .int .i64 c') hb1 (by first | assumption | (go_keep; done) | (go_simp; done) | (simp; done)) (by first | omega | (simp <;> omega))
        have cc_wk6 := cell_keep (p := ⟨wg.heap.size, 0, none⟩) (v := .int .i64 p) hb1 (by first | assumption | (go_keep; done) | (go_simp; done) | (simp; done)) (by first | omega | (simp <;> omega))
        have cc_wk7 := cell_keep (p := ⟨wg.heap.size, 1, none⟩) (v := .int .i64 q) hb1 (by first | assumption | (go_keep; done) | (go_simp; done) | (simp; done)) (by first | omega | (simp <;> omega))
        have cc_wk8 := cell_keep (p := ⟨wg.heap.size, 2, none⟩) (v := .int .i64 r) hb1 (by first | assumption | (go_keep; done) | (go_simp; done) | (simp; done)) (by first | omega | (simp <;> omega))
        have cc_wk9 := cell_keep (p := ⟨wh.heap.size, 0, none⟩) (v := .int .i64 p) hb1 (by first | assumption | (go_keep; done) | (go_simp; done) | (simp; done)) (by first | omega | (simp <;> omega))
        have cc_wk10 := cell_keep (p := ⟨wh.heap.size, 1, none⟩) (v := .int .i64 q) hb1 (by first | assumption | (go_keep; done) | (go_simp; done) | (simp; done)) (by first | omega | (simp <;> omega))
        have cc_wk11 := cell_keep (p := ⟨wh.heap.size, 2, none⟩) (v := .int .i64 r) hb1 (by first | assumption | (go_keep; done) | (go_simp; done) | (simp; done)) (by first | omega | (simp <;> omega))
        have hS1_wk : Below w.heap.size w wk := S_below hb1 (by repeat (first | exact Below.refl _ _ | assumption | refine below_drewN ?_ _ | refine Below.drew ?_ | refine Below.alloc ?_ (by first | omega | (simp <;> omega)) _ | refine Below.setCell ?_ (by first | omega | (simp <;> omega)) _)) (by first | omega | (simp <;> omega))
        have hz1_wk : w.heap.size ≤ wk.heap.size := S_size hb1 (by first | omega | (simp <;> omega))
        have hqb_wk0 : wa.heap.size < wk.heap.size := S_lt hb1 (by first | omega | (simp <;> omega))
        have hqb_wk1 : wb.heap.size < wk.heap.size := S_lt hb1 (by first | omega | (simp <;> omega))
        have hqb_wk2 : wg.heap.size < wk.heap.size := S_lt hb1 (by first | omega | (simp <;> omega))
        have hqb_wk3 : wh.heap.size < wk.heap.size := S_lt hb1 (by first | omega | (simp <;> omega))
        clear hb1
        go_wp2_with fail
        go_ret
        exact ⟨ret_bool (by simpa using hdd), (by repeat (first | exact Below.refl _ _ | assumption | refine below_drewN ?_ _ | refine Below.drew ?_ | refine Below.alloc ?_ (by first | omega | (simp <;> omega)) _ | refine Below.setCell ?_ (by first | omega | (simp <;> omega)) _))⟩

end Go.Proofs.Ytkcklbjjpbaimaa
