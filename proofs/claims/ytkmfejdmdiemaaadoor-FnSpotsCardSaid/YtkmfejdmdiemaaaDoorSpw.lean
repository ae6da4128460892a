/- The walk of FnSpots. -/
import Derived.Test.YtkmfejdmdiemaaaDoorMks
import Derived.Test.YtkmfejdmdiemaaaDoorMkt
import Derived.Test.YtkmfejdmdiemaaaDoorPst
namespace Go.Proofs.YtkmfejdmdiemaaaDoor
open Go.ChangeShapes Go.WideShapes Go.ChangeAt Go.RowKit
attribute [local go_sem ↓] Go.wp_at_zero Go.wp_at_succ
set_option linter.unusedVariables false

theorem shift_is {x y d dx dy X Y D : Int} (h : shOk x y d dx dy = true) (h1 : shX x y d dx dy = X) (h2 : shY x y d dx dy = Y) (h3 : shD x y d dx dy = D) (w : World) (hx1 : -9223372036854775808 ≤ x) (hx2 : x ≤ 9223372036854775807) (hy1 : -9223372036854775808 ≤ y) (hy2 : y ≤ 9223372036854775807) :
    Calls Tryd.prog 31 #[.agg #[.int .i64 x, .int .i64 y, .int .i64 d], .int .i64 dx, .int .i64 dy] w fun e w' => e = .returned (.tuple #[.agg #[.int .i64 X, .int .i64 Y, .int .i64 D], .bool true]) ∧ Below w.heap.size w w' := by
  subst h1; subst h2; subst h3; exact iShiftSpot_lit h w hx1 hx2 hy1 hy2

theorem half_is {x y d x' y' d' X Y D : Int} (h : hwOk x y d x' y' d' = true) (h1 : hwX x y d x' y' d' = X) (h2 : hwY x y d x' y' d' = Y) (h3 : hwD x y d x' y' d' = D) (w : World) (hx1 : -9223372036854775808 ≤ x) (hx2 : x ≤ 9223372036854775807) (hy1 : -9223372036854775808 ≤ y) (hy2 : y ≤ 9223372036854775807) (hp1 : -9223372036854775808 ≤ x') (hp2 : x' ≤ 9223372036854775807) (hq1 : -9223372036854775808 ≤ y') (hq2 : y' ≤ 9223372036854775807) :
    Calls Tryd.prog 32 #[.agg #[.int .i64 x, .int .i64 y, .int .i64 d], .agg #[.int .i64 x', .int .i64 y', .int .i64 d']] w fun e w' => e = .returned (.tuple #[.agg #[.int .i64 X, .int .i64 Y, .int .i64 D], .bool true]) ∧ Below w.heap.size w w' := by
  subst h1; subst h2; subst h3; exact iHalfWay_lit h w hx1 hx2 hy1 hy2 hp1 hp2 hq1 hq2

theorem five_is {x y d X Y D : Int} (h : spOk x y d = true) (h1 : spX x y d = X) (h2 : spY x y d = Y) (h3 : spD x y d = D) (w : World) (hx1 : -9223372036854775808 ≤ x) (hx2 : x ≤ 9223372036854775807) (hy1 : -9223372036854775808 ≤ y) (hy2 : y ≤ 9223372036854775807) (hd1 : -9223372036854775808 ≤ d) (hd2 : d ≤ 9223372036854775807) :
    Calls Tryd.prog 33 #[.int .i64 x, .int .i64 y, .int .i64 d] w fun e w' => e = .returned (.tuple #[.agg #[.int .i64 X, .int .i64 Y, .int .i64 D], .bool true]) ∧ Below w.heap.size w w' := by
  subst h1; subst h2; subst h3; exact iSpotOf_lit h w hx1 hx2 hy1 hy2 hd1 hd2

theorem same_is (x y d : Int) (w : World) :
    Calls Tryd.prog 34 #[.agg #[.int .i64 x, .int .i64 y, .int .i64 d], .agg #[.int .i64 x, .int .i64 y, .int .i64 d]] w fun e w' => e = .returned (.bool true) ∧ Below w.heap.size w w' := by
  have := iSameSpot_any x y d x y d w
  rwa [show same3 x y d x y d = true by unfold same3; simp] at this

theorem bytes_step2 {w w' : World} {A : Option Addr} {n : Nat} (h : BytesAt w w.heap.size A n) (hb : Below w.heap.size w w') : BytesAt w' w'.heap.size A n := (h.below hb).mono hb.size

set_option maxHeartbeats 4000000 in
set_option maxRecDepth 100000 in
theorem exSpots_walk (A : Option Addr) (n0 c0 : Nat) (w : World) (hn : n0 ≤ maxLen) (hB : BytesAt w w.heap.size A n0) (ht : Tab10 w) (he : Errs w) :
    Calls Tryd.prog 8 #[.slice A n0 c0] w fun e w' => e = .returned (.bool true) ∧ Below w.heap.size w w' := by
  unfold maxLen at hn
  have HB := Lib.hid hB; clear hB
  have HT := Lib.hid ht; clear ht
  have HE := Lib.hid he; clear he
  by_cases hz : 1048576 < n0
  · go_enter Tryd.func8, Tryd.ntmps8
    go_wp2
    go_ret
    exact ⟨rfl, (by repeat (first | exact Below.refl _ _ | assumption | refine below_drewN ?_ _ | refine Below.drew ?_ | refine Below.alloc ?_ (by first | omega | (simp <;> omega)) _ | refine Below.setCell ?_ (by first | omega | (simp <;> omega)) _))⟩
  · go_enter Tryd.func8, Tryd.ntmps8
    go_wp2_with fail
    go_at_call 29; refine (MakeSpot_sm 1 A n0 c0 w (by omega) HB.out (by omega) (by omega)).mono ?_; rintro e_ wa ⟨x, y, d, k1, hr1, rfl, hba⟩
    have HSa := Lib.hid hba
    have hza := hba.size
    have HK1 := Lib.hid k1
    clear hba k1
    go_wp2_with fail
    go_at_call 29; refine (MakeSpot_sm 20 A n0 c0 _ (by omega) (bytes_step2 HB.out (HSa.out.alloc hza _)) (by omega) (by omega)).mono ?_; rintro e_ wb ⟨x', y', d', k2, hr2, rfl, hbb⟩
    have HK2 := Lib.hid k2
    have K3 := Lib.hid (blk_below hbb (heap_alloc_new wa _))
    have HSb : RowKit.Hid (Below w.heap.size w wb) := Lib.hid (S_below hbb (HSa.out.alloc hza _) (by simp; omega))
    have hzb := HSb.out.size
    have hlt3 := heap_lt K3.out
    clear hbb HSa k2
    go_wp2_with fail
    go_at_call 30; refine (MakeNum_any 40 A n0 c0 _ (by omega) (bytes_step2 HB.out (HSb.out.alloc hzb _)) (by omega) (by omega)).mono ?_; rintro e_ wc ⟨t, ht1, ht2, rfl, hbc⟩
    have K4 := blk_below hbc (alloc_blk K3.out _)
    have K5 := blk_below hbc (heap_alloc_new wb _)
    have c30 : wc.cell? ⟨wa.heap.size, 0, none⟩ = some (.int .i64 x) := cell_of_row wc _ 0 _ _ _ K4
    have c31 : wc.cell? ⟨wa.heap.size, 1, none⟩ = some (.int .i64 y) := cell_of_row wc _ 1 _ _ _ K4
    have c32 : wc.cell? ⟨wa.heap.size, 2, none⟩ = some (.int .i64 d) := cell_of_row wc _ 2 _ _ _ K4
    have c40 : wc.cell? ⟨wb.heap.size, 0, none⟩ = some (.int .i64 x') := cell_of_row wc _ 0 _ _ _ K5
    have c41 : wc.cell? ⟨wb.heap.size, 1, none⟩ = some (.int .i64 y') := cell_of_row wc _ 1 _ _ _ K5
    have c42 : wc.cell? ⟨wb.heap.size, 2, none⟩ = some (.int .i64 d') := cell_of_row wc _ 2 _ _ _ K5
    have hlt4 := heap_lt K4
    have hlt5 := heap_lt K5
    have hSc : Below w.heap.size w wc := S_below hbc (HSb.out.alloc hzb _) (by simp; omega)
    have hzc := hSc.size
    clear hbc K4 K5 K3 HSb
    go_upto_region 6 with fail
    have hdx : -50 ≤ t % 100 - 50 ∧ t % 100 - 50 ≤ 49 := by omega
    generalize t % 100 - 50 = dx at *
    obtain ⟨v1, o1, o2, o3, o4⟩ := shift_small (dx := dx) (dy := -dx) HK1.out (by omega) (by omega) (by omega) (by omega) (by omega)
    obtain ⟨r1, r2, r3, r4⟩ := shift_back HK1.out v1 (dx := dx) (dy := -dx) (by omega) (by omega)
    rw [Int.neg_neg] at r1 r2 r3 r4
    have bd1 := spotOkV_bounds HK1.out
    have bd2 := spotOkV_bounds HK2.out
    have bv := spotOkV_bounds v1
    generalize x + dx * d = sx at *
    generalize y + -dx * d = sy at *
    obtain ⟨X, Y, D, f1, f2, f3, f4, f5, f6, f7, f8, f9, f10, f11, f12⟩ := half_small HK1.out HK2.out (by omega) (by omega)
    obtain ⟨q1, q2, q3, q4⟩ := five HK1.out
    have bm := spotOkV_bounds f9
    obtain ⟨s, hs⟩ : ∃ s, fmtS x y d = s := ⟨_, rfl⟩
    have hsz := fmtS_size x y d
    rw [hs] at hsz
    have PV := Lib.hid (show psV s = some (x, y, d) by rw [← hs]; exact psV_fmtS HK1.out)
    have HS := Lib.hid hs; clear hs
    have O1 := Lib.hid o1; have O2 := Lib.hid o2; have O3 := Lib.hid o3; have O4 := Lib.hid o4
    have R1 := Lib.hid r1; have R2 := Lib.hid r2; have R3 := Lib.hid r3; have R4 := Lib.hid r4
    have F1 := Lib.hid f1; have F2 := Lib.hid f2; have F3 := Lib.hid f3; have F4 := Lib.hid f4
    have F5 := Lib.hid f5; have F6 := Lib.hid f6; have F7 := Lib.hid f7; have F8 := Lib.hid f8
    have F9 := Lib.hid f9; have F11 := Lib.hid f11; have F12 := Lib.hid f12
    have Q1 := Lib.hid q1; have Q2 := Lib.hid q2; have Q3 := Lib.hid q3; have Q4 := Lib.hid q4
    clear o1 o2 o3 o4 r1 r2 r3 r4 f1 f2 f3 f4 f5 f6 f7 f8 f9 f11 f12 q1 q2 q3 q4 v1
    go_wp2_with fail
    go_at_call 31; with_reducible refine (shift_is O1.out O2.out O3.out O4.out _ (by omega) (by omega) (by omega) (by omega)).mono ?_
    rintro e wd ⟨rfl, hb1⟩
    have cc_wd0 := cell_keep (p := ⟨wa.heap.size, 0, none⟩) (v := .int .i64 x) hb1 (by first | assumption | (go_keep; done) | (go_simp; done) | (simp; done)) (by first | omega | (simp <;> omega))
    have cc_wd1 := cell_keep (p := ⟨wa.heap.size, 1, none⟩) (v := .int .i64 y) hb1 (by first | assumption | (go_keep; done) | (go_simp; done) | (simp; done)) (by first | omega | (simp <;> omega))
    have cc_wd2 := cell_keep (p := ⟨wa.heap.size, 2, none⟩) (v := .int .i64 d) hb1 (by first | assumption | (go_keep; done) | (go_simp; done) | (simp; done)) (by first | omega | (simp <;> omega))
    have cc_wd3 := cell_keep (p := ⟨wb.heap.size, 0, none⟩) (v := .int .i64 x') hb1 (by first | assumption | (go_keep; done) | (go_simp; done) | (simp; done)) (by first | omega | (simp <;> omega))
    have cc_wd4 := cell_keep (p := ⟨wb.heap.size, 1, none⟩) (v := .int .i64 y') hb1 (by first | assumption | (go_keep; done) | (go_simp; done) | (simp; done)) (by first | omega | (simp <;> omega))
    have cc_wd5 := cell_keep (p := ⟨wb.heap.size, 2, none⟩) (v := .int .i64 d') hb1 (by first | assumption | (go_keep; done) | (go_simp; done) | (simp; done)) (by first | omega | (simp <;> omega))
    have hS1_wd : Below w.heap.size w wd := S_below hb1 (by repeat (first | exact Below.refl _ _ | assumption | refine below_drewN ?_ _ | refine Below.drew ?_ | refine Below.alloc ?_ (by first | omega | (simp <;> omega)) _ | refine Below.setCell ?_ (by first | omega | (simp <;> omega)) _)) (by first | omega | (simp <;> omega))
    have hz1_wd : w.heap.size ≤ wd.heap.size := S_size hb1 (by first | omega | (simp <;> omega))
    have hqb_wd0 : wa.heap.size < wd.heap.size := S_lt hb1 (by first | omega | (simp <;> omega))
    have hqb_wd1 : wb.heap.size < wd.heap.size := S_lt hb1 (by first | omega | (simp <;> omega))
    clear hb1
    clear c30 c31 c32 c40 c41 c42 hSc
    go_wp2_with fail
    go_at_call 31; with_reducible refine (shift_is R1.out R2.out R3.out R4.out _ (by omega) (by omega) (by omega) (by omega)).mono ?_
    rintro e we ⟨rfl, hb1⟩
    have cc_we0 := cell_keep (p := ⟨wa.heap.size, 0, none⟩) (v := .int .i64 x) hb1 (by first | assumption | (go_keep; done) | (go_simp; done) | (simp; done)) (by first | omega | (simp <;> omega))
    have cc_we1 := cell_keep (p := ⟨wa.heap.size, 1, none⟩) (v := .int .i64 y) hb1 (by first | assumption | (go_keep; done) | (go_simp; done) | (simp; done)) (by first | omega | (simp <;> omega))
    have cc_we2 := cell_keep (p := ⟨wa.heap.size, 2, none⟩) (v := .int .i64 d) hb1 (by first | assumption | (go_keep; done) | (go_simp; done) | (simp; done)) (by first | omega | (simp <;> omega))
    have cc_we3 := cell_keep (p := ⟨wb.heap.size, 0, none⟩) (v := .int .i64 x') hb1 (by first | assumption | (go_keep; done) | (go_simp; done) | (simp; done)) (by first | omega | (simp <;> omega))
    have cc_we4 := cell_keep (p := ⟨wb.heap.size, 1, none⟩) (v := .int .i64 y') hb1 (by first | assumption | (go_keep; done) | (go_simp; done) | (simp; done)) (by first | omega | (simp <;> omega))
    have cc_we5 := cell_keep (p := ⟨wb.heap.size, 2, none⟩) (v := .int .i64 d') hb1 (by first | assumption | (go_keep; done) | (go_simp; done) | (simp; done)) (by first | omega | (simp <;> omega))
    have cc_we6 := cell_keep (p := ⟨wd.heap.size, 0, none⟩) (v := .int .i64 sx) hb1 (by first | assumption | (go_keep; done) | (go_simp; done) | (simp; done)) (by first | omega | (simp <;> omega))
    have cc_we7 := cell_keep (p := ⟨wd.heap.size, 1, none⟩) (v := .int .i64 sy) hb1 (by first | assumption | (go_keep; done) | (go_simp; done) | (simp; done)) (by first | omega | (simp <;> omega))
    have cc_we8 := cell_keep (p := ⟨wd.heap.size, 2, none⟩) (v := .int .i64 d) hb1 (by first | assumption | (go_keep; done) | (go_simp; done) | (simp; done)) (by first | omega | (simp <;> omega))
    have hS1_we : Below w.heap.size w we := S_below hb1 (by repeat (first | exact Below.refl _ _ | assumption | refine below_drewN ?_ _ | refine Below.drew ?_ | refine Below.alloc ?_ (by first | omega | (simp <;> omega)) _ | refine Below.setCell ?_ (by first | omega | (simp <;> omega)) _)) (by first | omega | (simp <;> omega))
    have hz1_we : w.heap.size ≤ we.heap.size := S_size hb1 (by first | omega | (simp <;> omega))
    have hqb_we0 : wa.heap.size < we.heap.size := S_lt hb1 (by first | omega | (simp <;> omega))
    have hqb_we1 : wb.heap.size < we.heap.size := S_lt hb1 (by first | omega | (simp <;> omega))
    have hqb_we2 : wd.heap.size < we.heap.size := S_lt hb1 (by first | omega | (simp <;> omega))
    clear hb1
    clear cc_wd0 cc_wd1 cc_wd2 cc_wd3 cc_wd4 cc_wd5 hS1_wd
    go_wp2_with fail
    go_at_call 32; with_reducible refine (half_is F1.out F2.out F3.out F4.out _ (by omega) (by omega) (by omega) (by omega) (by omega) (by omega) (by omega) (by omega)).mono ?_
    rintro e wf ⟨rfl, hb1⟩
    have cc_wf0 := cell_keep (p := ⟨wa.heap.size, 0, none⟩) (v := .int .i64 x) hb1 (by first | assumption | (go_keep; done) | (go_simp; done) | (simp; done)) (by first | omega | (simp <;> omega))
    have cc_wf1 := cell_keep (p := ⟨wa.heap.size, 1, none⟩) (v := .int .i64 y) hb1 (by first | assumption | (go_keep; done) | (go_simp; done) | (simp; done)) (by first | omega | (simp <;> omega))
    have cc_wf2 := cell_keep (p := ⟨wa.heap.size, 2, none⟩) (v := .int .i64 d) hb1 (by first | assumption | (go_keep; done) | (go_simp; done) | (simp; done)) (by first | omega | (simp <;> omega))
    have cc_wf3 := cell_keep (p := ⟨wb.heap.size, 0, none⟩) (v := .int .i64 x') hb1 (by first | assumption | (go_keep; done) | (go_simp; done) | (simp; done)) (by first | omega | (simp <;> omega))
    have cc_wf4 := cell_keep (p := ⟨wb.heap.size, 1, none⟩) (v := .int .i64 y') hb1 (by first | assumption | (go_keep; done) | (go_simp; done) | (simp; done)) (by first | omega | (simp <;> omega))
    have cc_wf5 := cell_keep (p := ⟨wb.heap.size, 2, none⟩) (v := .int .i64 d') hb1 (by first | assumption | (go_keep; done) | (go_simp; done) | (simp; done)) (by first | omega | (simp <;> omega))
    have cc_wf6 := cell_keep (p := ⟨we.heap.size, 0, none⟩) (v := .int .i64 x) hb1 (by first | assumption | (go_keep; done) | (go_simp; done) | (simp; done)) (by first | omega | (simp <;> omega))
    have cc_wf7 := cell_keep (p := ⟨we.heap.size, 1, none⟩) (v := .int .i64 y) hb1 (by first | assumption | (go_keep; done) | (go_simp; done) | (simp; done)) (by first | omega | (simp <;> omega))
    have cc_wf8 := cell_keep (p := ⟨we.heap.size, 2, none⟩) (v := .int .i64 d) hb1 (by first | assumption | (go_keep; done) | (go_simp; done) | (simp; done)) (by first | omega | (simp <;> omega))
    have hS1_wf : Below w.heap.size w wf := S_below hb1 (by repeat (first | exact Below.refl _ _ | assumption | refine below_drewN ?_ _ | refine Below.drew ?_ | refine Below.alloc ?_ (by first | omega | (simp <;> omega)) _ | refine Below.setCell ?_ (by first | omega | (simp <;> omega)) _)) (by first | omega | (simp <;> omega))
    have hz1_wf : w.heap.size ≤ wf.heap.size := S_size hb1 (by first | omega | (simp <;> omega))
    have hqb_wf0 : wa.heap.size < wf.heap.size := S_lt hb1 (by first | omega | (simp <;> omega))
    have hqb_wf1 : wb.heap.size < wf.heap.size := S_lt hb1 (by first | omega | (simp <;> omega))
    have hqb_wf2 : we.heap.size < wf.heap.size := S_lt hb1 (by first | omega | (simp <;> omega))
    clear hb1
    clear cc_we0 cc_we1 cc_we2 cc_we3 cc_we4 cc_we5 cc_we6 cc_we7 cc_we8 hS1_we
    go_wp2_with fail
    go_at_call 32; with_reducible refine (half_is F5.out F6.out F7.out F8.out _ (by omega) (by omega) (by omega) (by omega) (by omega) (by omega) (by omega) (by omega)).mono ?_
    rintro e wg ⟨rfl, hb1⟩
    have cc_wg0 := cell_keep (p := ⟨wa.heap.size, 0, none⟩) (v := .int .i64 x) hb1 (by first | assumption | (go_keep; done) | (go_simp; done) | (simp; done)) (by first | omega | (simp <;> omega))
    have cc_wg1 := cell_keep (p := ⟨wa.heap.size, 1, none⟩) (v := .int .i64 y) hb1 (by first | assumption | (go_keep; done) | (go_simp; done) | (simp; done)) (by first | omega | (simp <;> omega))
    have cc_wg2 := cell_keep (p := ⟨wa.heap.size, 2, none⟩) (v := .int .i64 d) hb1 (by first | assumption | (go_keep; done) | (go_simp; done) | (simp; done)) (by first | omega | (simp <;> omega))
    have cc_wg3 := cell_keep (p := ⟨wb.heap.size, 0, none⟩) (v := .int .i64 x') hb1 (by first | assumption | (go_keep; done) | (go_simp; done) | (simp; done)) (by first | omega | (simp <;> omega))
    have cc_wg4 := cell_keep (p := ⟨wb.heap.size, 1, none⟩) (v := .int .i64 y') hb1 (by first | assumption | (go_keep; done) | (go_simp; done) | (simp; done)) (by first | omega | (simp <;> omega))
    have cc_wg5 := cell_keep (p := ⟨wb.heap.size, 2, none⟩) (v := .int .i64 d') hb1 (by first | assumption | (go_keep; done) | (go_simp; done) | (simp; done)) (by first | omega | (simp <;> omega))
    have cc_wg6 := cell_keep (p := ⟨we.heap.size, 0, none⟩) (v := .int .i64 x) hb1 (by first | assumption | (go_keep; done) | (go_simp; done) | (simp; done)) (by first | omega | (simp <;> omega))
    have cc_wg7 := cell_keep (p := ⟨we.heap.size, 1, none⟩) (v := .int .i64 y) hb1 (by first | assumption | (go_keep; done) | (go_simp; done) | (simp; done)) (by first | omega | (simp <;> omega))
    have cc_wg8 := cell_keep (p := ⟨we.heap.size, 2, none⟩) (v := .int .i64 d) hb1 (by first | assumption | (go_keep; done) | (go_simp; done) | (simp; done)) (by first | omega | (simp <;> omega))
    have cc_wg9 := cell_keep (p := ⟨wf.heap.size, 0, none⟩) (v := .int .i64 X) hb1 (by first | assumption | (go_keep; done) | (go_simp; done) | (simp; done)) (by first | omega | (simp <;> omega))
    have cc_wg10 := cell_keep (p := ⟨wf.heap.size, 1, none⟩) (v := .int .i64 Y) hb1 (by first | assumption | (go_keep; done) | (go_simp; done) | (simp; done)) (by first | omega | (simp <;> omega))
    have cc_wg11 := cell_keep (p := ⟨wf.heap.size, 2, none⟩) (v := .int .i64 D) hb1 (by first | assumption | (go_keep; done) | (go_simp; done) | (simp; done)) (by first | omega | (simp <;> omega))
    have hS1_wg : Below w.heap.size w wg := S_below hb1 (by repeat (first | exact Below.refl _ _ | assumption | refine below_drewN ?_ _ | refine Below.drew ?_ | refine Below.alloc ?_ (by first | omega | (simp <;> omega)) _ | refine Below.setCell ?_ (by first | omega | (simp <;> omega)) _)) (by first | omega | (simp <;> omega))
    have hz1_wg : w.heap.size ≤ wg.heap.size := S_size hb1 (by first | omega | (simp <;> omega))
    have hqb_wg0 : wa.heap.size < wg.heap.size := S_lt hb1 (by first | omega | (simp <;> omega))
    have hqb_wg1 : wb.heap.size < wg.heap.size := S_lt hb1 (by first | omega | (simp <;> omega))
    have hqb_wg2 : we.heap.size < wg.heap.size := S_lt hb1 (by first | omega | (simp <;> omega))
    have hqb_wg3 : wf.heap.size < wg.heap.size := S_lt hb1 (by first | omega | (simp <;> omega))
    clear hb1
    clear cc_wf0 cc_wf1 cc_wf2 cc_wf3 cc_wf4 cc_wf5 cc_wf6 cc_wf7 cc_wf8 hS1_wf
    go_wp2_with fail
    go_at_call 14; with_reducible refine (iFormatSpot_lit HS.out _ (HT.out.step (by repeat (first | exact Below.refl _ _ | assumption | refine below_drewN ?_ _ | refine Below.drew ?_ | refine Below.alloc ?_ (by first | omega | (simp <;> omega)) _ | refine Below.setCell ?_ (by first | omega | (simp <;> omega)) _))) (by omega) (by omega) (by omega) (by omega)).mono ?_
    rintro e wh ⟨rfl, hb1⟩
    have cc_wh0 := cell_keep (p := ⟨wa.heap.size, 0, none⟩) (v := .int .i64 x) hb1 (by first | assumption | (go_keep; done) | (go_simp; done) | (simp; done)) (by first | omega | (simp <;> omega))
    have cc_wh1 := cell_keep (p := ⟨wa.heap.size, 1, none⟩) (v := .int .i64 y) hb1 (by first | assumption | (go_keep; done) | (go_simp; done) | (simp; done)) (by first | omega | (simp <;> omega))
    have cc_wh2 := cell_keep (p := ⟨wa.heap.size, 2, none⟩) (v := .int .i64 d) hb1 (by first | assumption | (go_keep; done) | (go_simp; done) | (simp; done)) (by first | omega | (simp <;> omega))
    have cc_wh3 := cell_keep (p := ⟨wb.heap.size, 0, none⟩) (v := .int .i64 x') hb1 (by first | assumption | (go_keep; done) | (go_simp; done) | (simp; done)) (by first | omega | (simp <;> omega))
    have cc_wh4 := cell_keep (p := ⟨wb.heap.size, 1, none⟩) (v := .int .i64 y') hb1 (by first | assumption | (go_keep; done) | (go_simp; done) | (simp; done)) (by first | omega | (simp <;> omega))
    have cc_wh5 := cell_keep (p := ⟨wb.heap.size, 2, none⟩) (v := .int .i64 d') hb1 (by first | assumption | (go_keep; done) | (go_simp; done) | (simp; done)) (by first | omega | (simp <;> omega))
    have cc_wh6 := cell_keep (p := ⟨we.heap.size, 0, none⟩) (v := .int .i64 x) hb1 (by first | assumption | (go_keep; done) | (go_simp; done) | (simp; done)) (by first | omega | (simp <;> omega))
    have cc_wh7 := cell_keep (p := ⟨we.heap.size, 1, none⟩) (v := .int .i64 y) hb1 (by first | assumption | (go_keep; done) | (go_simp; done) | (simp; done)) (by first | omega | (simp <;> omega))
    have cc_wh8 := cell_keep (p := ⟨we.heap.size, 2, none⟩) (v := .int .i64 d) hb1 (by first | assumption | (go_keep; done) | (go_simp; done) | (simp; done)) (by first | omega | (simp <;> omega))
    have cc_wh9 := cell_keep (p := ⟨wf.heap.size, 0, none⟩) (v := .int .i64 X) hb1 (by first | assumption | (go_keep; done) | (go_simp; done) | (simp; done)) (by first | omega | (simp <;> omega))
    have cc_wh10 := cell_keep (p := ⟨wf.heap.size, 1, none⟩) (v := .int .i64 Y) hb1 (by first | assumption | (go_keep; done) | (go_simp; done) | (simp; done)) (by first | omega | (simp <;> omega))
    have cc_wh11 := cell_keep (p := ⟨wf.heap.size, 2, none⟩) (v := .int .i64 D) hb1 (by first | assumption | (go_keep; done) | (go_simp; done) | (simp; done)) (by first | omega | (simp <;> omega))
    have cc_wh12 := cell_keep (p := ⟨wg.heap.size, 0, none⟩) (v := .int .i64 X) hb1 (by first | assumption | (go_keep; done) | (go_simp; done) | (simp; done)) (by first | omega | (simp <;> omega))
    have cc_wh13 := cell_keep (p := ⟨wg.heap.size, 1, none⟩) (v := .int .i64 Y) hb1 (by first | assumption | (go_keep; done) | (go_simp; done) | (simp; done)) (by first | omega | (simp <;> omega))
    have cc_wh14 := cell_keep (p := ⟨wg.heap.size, 2, none⟩) (v := .int .i64 D) hb1 (by first | assumption | (go_keep; done) | (go_simp; done) | (simp; done)) (by first | omega | (simp <;> omega))
    have hS1_wh : Below w.heap.size w wh := S_below hb1 (by repeat (first | exact Below.refl _ _ | assumption | refine below_drewN ?_ _ | refine Below.drew ?_ | refine Below.alloc ?_ (by first | omega | (simp <;> omega)) _ | refine Below.setCell ?_ (by first | omega | (simp <;> omega)) _)) (by first | omega | (simp <;> omega))
    have hz1_wh : w.heap.size ≤ wh.heap.size := S_size hb1 (by first | omega | (simp <;> omega))
    have hqb_wh0 : wa.heap.size < wh.heap.size := S_lt hb1 (by first | omega | (simp <;> omega))
    have hqb_wh1 : wb.heap.size < wh.heap.size := S_lt hb1 (by first | omega | (simp <;> omega))
    have hqb_wh2 : we.heap.size < wh.heap.size := S_lt hb1 (by first | omega | (simp <;> omega))
    have hqb_wh3 : wf.heap.size < wh.heap.size := S_lt hb1 (by first | omega | (simp <;> omega))
    have hqb_wh4 : wg.heap.size < wh.heap.size := S_lt hb1 (by first | omega | (simp <;> omega))
    clear hb1
    go_wp2_with fail
    go_at_call 19; with_reducible refine (iParseSpot_lit PV.out _ (HT.out.step (by repeat (first | exact Below.refl _ _ | assumption | refine below_drewN ?_ _ | refine Below.drew ?_ | refine Below.alloc ?_ (by first | omega | (simp <;> omega)) _ | refine Below.setCell ?_ (by first | omega | (simp <;> omega)) _))) (HE.out.step (by repeat (first | exact Below.refl _ _ | assumption | refine below_drewN ?_ _ | refine Below.drew ?_ | refine Below.alloc ?_ (by first | omega | (simp <;> omega)) _ | refine Below.setCell ?_ (by first | omega | (simp <;> omega)) _))) (by omega)).mono ?_
    rintro e wi ⟨rfl, hb1⟩
    simp only [PResS]
    have cc_wi0 := cell_keep (p := ⟨wa.heap.size, 0, none⟩) (v := .int .i64 x) hb1 (by first | assumption | (go_keep; done) | (go_simp; done) | (simp; done)) (by first | omega | (simp <;> omega))
    have cc_wi1 := cell_keep (p := ⟨wa.heap.size, 1, none⟩) (v := .int .i64 y) hb1 (by first | assumption | (go_keep; done) | (go_simp; done) | (simp; done)) (by first | omega | (simp <;> omega))
    have cc_wi2 := cell_keep (p := ⟨wa.heap.size, 2, none⟩) (v := .int .i64 d) hb1 (by first | assumption | (go_keep; done) | (go_simp; done) | (simp; done)) (by first | omega | (simp <;> omega))
    have cc_wi3 := cell_keep (p := ⟨wb.heap.size, 0, none⟩) (v := .int .i64 x') hb1 (by first | assumption | (go_keep; done) | (go_simp; done) | (simp; done)) (by first | omega | (simp <;> omega))
    have cc_wi4 := cell_keep (p := ⟨wb.heap.size, 1, none⟩) (v := .int .i64 y') hb1 (by first | assumption | (go_keep; done) | (go_simp; done) | (simp; done)) (by first | omega | (simp <;> omega))
    have cc_wi5 := cell_keep (p := ⟨wb.heap.size, 2, none⟩) (v := .int .i64 d') hb1 (by first | assumption | (go_keep; done) | (go_simp; done) | (simp; done)) (by first | omega | (simp <;> omega))
    have cc_wi6 := cell_keep (p := ⟨we.heap.size, 0, none⟩) (v := .int .i64 x) hb1 (by first | assumption | (go_keep; done) | (go_simp; done) | (simp; done)) (by first | omega | (simp <;> omega))
    have cc_wi7 := cell_keep (p := ⟨we.heap.size, 1, none⟩) (v := .int .i64 y) hb1 (by first | assumption | (go_keep; done) | (go_simp; done) | (simp; done)) (by first | omega | (simp <;> omega))
    have cc_wi8 := cell_keep (p := ⟨we.heap.size, 2, none⟩) (v := .int .i64 d) hb1 (by first | assumption | (go_keep; done) | (go_simp; done) | (simp; done)) (by first | omega | (simp <;> omega))
    have cc_wi9 := cell_keep (p := ⟨wf.heap.size, 0, none⟩) (v := .int .i64 X) hb1 (by first | assumption | (go_keep; done) | (go_simp; done) | (simp; done)) (by first | omega | (simp <;> omega))
    have cc_wi10 := cell_keep (p := ⟨wf.heap.size, 1, none⟩) (v := .int .i64 Y) hb1 (by first | assumption | (go_keep; done) | (go_simp; done) | (simp; done)) (by first | omega | (simp <;> omega))
    have cc_wi11 := cell_keep (p := ⟨wf.heap.size, 2, none⟩) (v := .int .i64 D) hb1 (by first | assumption | (go_keep; done) | (go_simp; done) | (simp; done)) (by first | omega | (simp <;> omega))
    have cc_wi12 := cell_keep (p := ⟨wg.heap.size, 0, none⟩) (v := .int .i64 X) hb1 (by first | assumption | (go_keep; done) | (go_simp; done) | (simp; done)) (by first | omega | (simp <;> omega))
    have cc_wi13 := cell_keep (p := ⟨wg.heap.size, 1, none⟩) (v := .int .i64 Y) hb1 (by first | assumption | (go_keep; done) | (go_simp; done) | (simp; done)) (by first | omega | (simp <;> omega))
    have cc_wi14 := cell_keep (p := ⟨wg.heap.size, 2, none⟩) (v := .int .i64 D) hb1 (by first | assumption | (go_keep; done) | (go_simp; done) | (simp; done)) (by first | omega | (simp <;> omega))
    have hS1_wi : Below w.heap.size w wi := S_below hb1 (by repeat (first | exact Below.refl _ _ | assumption | refine below_drewN ?_ _ | refine Below.drew ?_ | refine Below.alloc ?_ (by first | omega | (simp <;> omega)) _ | refine Below.setCell ?_ (by first | omega | (simp <;> omega)) _)) (by first | omega | (simp <;> omega))
    have hz1_wi : w.heap.size ≤ wi.heap.size := S_size hb1 (by first | omega | (simp <;> omega))
    have hqb_wi0 : wa.heap.size < wi.heap.size := S_lt hb1 (by first | omega | (simp <;> omega))
    have hqb_wi1 : wb.heap.size < wi.heap.size := S_lt hb1 (by first | omega | (simp <;> omega))
    have hqb_wi2 : we.heap.size < wi.heap.size := S_lt hb1 (by first | omega | (simp <;> omega))
    have hqb_wi3 : wf.heap.size < wi.heap.size := S_lt hb1 (by first | omega | (simp <;> omega))
    have hqb_wi4 : wg.heap.size < wi.heap.size := S_lt hb1 (by first | omega | (simp <;> omega))
    clear hb1
    go_wp2_with fail
    go_at_call 33; with_reducible refine (five_is Q1.out Q2.out Q3.out Q4.out _ (by omega) (by omega) (by omega) (by omega) (by omega) (by omega)).mono ?_
    rintro e wj ⟨rfl, hb1⟩
    have cc_wj0 := cell_keep (p := ⟨wa.heap.size, 0, none⟩) (v := .int .i64 x) hb1 (by first | assumption | (go_keep; done) | (go_simp; done) | (simp; done)) (by first | omega | (simp <;> omega))
    have cc_wj1 := cell_keep (p := ⟨wa.heap.size, 1, none⟩) (v := .int .i64 y) hb1 (by first | assumption | (go_keep; done) | (go_simp; done) | (simp; done)) (by first | omega | (simp <;> omega))
    have cc_wj2 := cell_keep (p := ⟨wa.heap.size, 2, none⟩) (v := .int .i64 d) hb1 (by first | assumption | (go_keep; done) | (go_simp; done) | (simp; done)) (by first | omega | (simp <;> omega))
    have cc_wj3 := cell_keep (p := ⟨wb.heap.size, 0, none⟩) (v := .int .i64 x') hb1 (by first | assumption | (go_keep; done) | (go_simp; done) | (simp; done)) (by first | omega | (simp <;> omega))
    have cc_wj4 := cell_keep (p := ⟨wb.heap.size, 1, none⟩) (v := .int .i64 y') hb1 (by first | assumption | (go_keep; done) | (go_simp; done) | (simp; done)) (by first | omega | (simp <;> omega))
    have cc_wj5 := cell_keep (p := ⟨wb.heap.size, 2, none⟩) (v := .int .i64 d') hb1 (by first | assumption | (go_keep; done) | (go_simp; done) | (simp; done)) (by first | omega | (simp <;> omega))
    have cc_wj6 := cell_keep (p := ⟨we.heap.size, 0, none⟩) (v := .int .i64 x) hb1 (by first | assumption | (go_keep; done) | (go_simp; done) | (simp; done)) (by first | omega | (simp <;> omega))
    have cc_wj7 := cell_keep (p := ⟨we.heap.size, 1, none⟩) (v := .int .i64 y) hb1 (by first | assumption | (go_keep; done) | (go_simp; done) | (simp; done)) (by first | omega | (simp <;> omega))
    have cc_wj8 := cell_keep (p := ⟨we.heap.size, 2, none⟩) (v := .int .i64 d) hb1 (by first | assumption | (go_keep; done) | (go_simp; done) | (simp; done)) (by first | omega | (simp <;> omega))
    have cc_wj9 := cell_keep (p := ⟨wf.heap.size, 0, none⟩) (v := .int .i64 X) hb1 (by first | assumption | (go_keep; done) | (go_simp; done) | (simp; done)) (by first | omega | (simp <;> omega))
    have cc_wj10 := cell_keep (p := ⟨wf.heap.size, 1, none⟩) (v := .int .i64 Y) hb1 (by first | assumption | (go_keep; done) | (go_simp; done) | (simp; done)) (by first | omega | (simp <;> omega))
    have cc_wj11 := cell_keep (p := ⟨wf.heap.size, 2, none⟩) (v := .int .i64 D) hb1 (by first | assumption | (go_keep; done) | (go_simp; done) | (simp; done)) (by first | omega | (simp <;> omega))
    have cc_wj12 := cell_keep (p := ⟨wg.heap.size, 0, none⟩) (v := .int .i64 X) hb1 (by first | assumption | (go_keep; done) | (go_simp; done) | (simp; done)) (by first | omega | (simp <;> omega))
    have cc_wj13 := cell_keep (p := ⟨wg.heap.size, 1, none⟩) (v := .int .i64 Y) hb1 (by first | assumption | (go_keep; done) | (go_simp; done) | (simp; done)) (by first | omega | (simp <;> omega))
    have cc_wj14 := cell_keep (p := ⟨wg.heap.size, 2, none⟩) (v := .int .i64 D) hb1 (by first | assumption | (go_keep; done) | (go_simp; done) | (simp; done)) (by first | omega | (simp <;> omega))
    have cc_wj15 := cell_keep (p := ⟨wi.heap.size, 0, none⟩) (v := .int .i64 x) hb1 (by first | assumption | (go_keep; done) | (go_simp; done) | (simp; done)) (by first | omega | (simp <;> omega))
    have cc_wj16 := cell_keep (p := ⟨wi.heap.size, 1, none⟩) (v := .int .i64 y) hb1 (by first | assumption | (go_keep; done) | (go_simp; done) | (simp; done)) (by first | omega | (simp <;> omega))
    have cc_wj17 := cell_keep (p := ⟨wi.heap.size, 2, none⟩) (v := .int .i64 d) hb1 (by first | assumption | (go_keep; done) | (go_simp; done) | (simp; done)) (by first | omega | (simp <;> omega))
    have hS1_wj : Below w.heap.size w wj := S_below hb1 (by repeat (first | exact Below.refl _ _ | assumption | refine below_drewN ?_ _ | refine Below.drew ?_ | refine Below.alloc ?_ (by first | omega | (simp <;> omega)) _ | refine Below.setCell ?_ (by first | omega | (simp <;> omega)) _)) (by first | omega | (simp <;> omega))
    have hz1_wj : w.heap.size ≤ wj.heap.size := S_size hb1 (by first | omega | (simp <;> omega))
    have hqb_wj0 : wa.heap.size < wj.heap.size := S_lt hb1 (by first | omega | (simp <;> omega))
    have hqb_wj1 : wb.heap.size < wj.heap.size := S_lt hb1 (by first | omega | (simp <;> omega))
    have hqb_wj2 : we.heap.size < wj.heap.size := S_lt hb1 (by first | omega | (simp <;> omega))
    have hqb_wj3 : wf.heap.size < wj.heap.size := S_lt hb1 (by first | omega | (simp <;> omega))
    have hqb_wj4 : wg.heap.size < wj.heap.size := S_lt hb1 (by first | omega | (simp <;> omega))
    have hqb_wj5 : wi.heap.size < wj.heap.size := S_lt hb1 (by first | omega | (simp <;> omega))
    clear hb1
    go_wp2_with fail
    have h11 := F11.out
    have h12 := F12.out
    have bX : -200000 ≤ X ∧ X ≤ 200000 := by omega
    have bY : -200000 ≤ Y ∧ Y ≤ 200000 := by omega
    have a1 := mul_range (2 * X) d 400000 10 (by omega) (by omega) (by omega) (by omega)
    have a2 := mul_range (2 * X * d) d' 4000000 10 (by omega) (by omega) (by omega) (by omega)
    have a3 := mul_range x d' 200 10 (by omega) (by omega) (by omega) (by omega)
    have a4 := mul_range x' d 200 10 (by omega) (by omega) (by omega) (by omega)
    have a5 := mul_range (x * d' + x' * d) D 4000 200 (by omega) (by omega) (by omega) (by omega)
    have e1 := mul_range (2 * Y) d 400000 10 (by omega) (by omega) (by omega) (by omega)
    have e2 := mul_range (2 * Y * d) d' 4000000 10 (by omega) (by omega) (by omega) (by omega)
    have e3 := mul_range y d' 200 10 (by omega) (by omega) (by omega) (by omega)
    have e4 := mul_range y' d 200 10 (by omega) (by omega) (by omega) (by omega)
    have e5 := mul_range (y * d' + y' * d) D 4000 200 (by omega) (by omega) (by omega) (by omega)
    clear cc_wg0 cc_wg1 cc_wg2 cc_wg3 cc_wg4 cc_wg5 cc_wg6 cc_wg7 cc_wg8 cc_wg9 cc_wg10 cc_wg11 hS1_wg cc_wh0 cc_wh1 cc_wh2 cc_wh3 cc_wh4 cc_wh5 cc_wh6 cc_wh7 cc_wh8 cc_wh9 cc_wh10 cc_wh11 cc_wh12 cc_wh13 cc_wh14 hS1_wh cc_wi0 cc_wi1 cc_wi2 cc_wi3 cc_wi4 cc_wi5 cc_wi6 cc_wi7 cc_wi8 cc_wi9 cc_wi10 cc_wi11 cc_wi12 cc_wi13 cc_wi14 hS1_wi
    go_wp2_with (first | (go_at_call 34; with_reducible refine (same_is _ _ _ _).mono ?_; rintro e w1 ⟨rfl, hb1⟩; have cc0 := cell_keep (p := ⟨wa.heap.size, 0, none⟩) (v := .int .i64 x) hb1 (by first | assumption | (go_keep; done) | (go_simp; done) | (simp; done)) (by first | omega | (simp <;> omega)); have cc1 := cell_keep (p := ⟨wa.heap.size, 1, none⟩) (v := .int .i64 y) hb1 (by first | assumption | (go_keep; done) | (go_simp; done) | (simp; done)) (by first | omega | (simp <;> omega)); have cc2 := cell_keep (p := ⟨wa.heap.size, 2, none⟩) (v := .int .i64 d) hb1 (by first | assumption | (go_keep; done) | (go_simp; done) | (simp; done)) (by first | omega | (simp <;> omega)); have cc3 := cell_keep (p := ⟨wb.heap.size, 0, none⟩) (v := .int .i64 x') hb1 (by first | assumption | (go_keep; done) | (go_simp; done) | (simp; done)) (by first | omega | (simp <;> omega)); have cc4 := cell_keep (p := ⟨wb.heap.size, 1, none⟩) (v := .int .i64 y') hb1 (by first | assumption | (go_keep; done) | (go_simp; done) | (simp; done)) (by first | omega | (simp <;> omega)); have cc5 := cell_keep (p := ⟨wb.heap.size, 2, none⟩) (v := .int .i64 d') hb1 (by first | assumption | (go_keep; done) | (go_simp; done) | (simp; done)) (by first | omega | (simp <;> omega)); have cc6 := cell_keep (p := ⟨we.heap.size, 0, none⟩) (v := .int .i64 x) hb1 (by first | assumption | (go_keep; done) | (go_simp; done) | (simp; done)) (by first | omega | (simp <;> omega)); have cc7 := cell_keep (p := ⟨we.heap.size, 1, none⟩) (v := .int .i64 y) hb1 (by first | assumption | (go_keep; done) | (go_simp; done) | (simp; done)) (by first | omega | (simp <;> omega)); have cc8 := cell_keep (p := ⟨we.heap.size, 2, none⟩) (v := .int .i64 d) hb1 (by first | assumption | (go_keep; done) | (go_simp; done) | (simp; done)) (by first | omega | (simp <;> omega)); have cc9 := cell_keep (p := ⟨wf.heap.size, 0, none⟩) (v := .int .i64 X) hb1 (by first | assumption | (go_keep; done) | (go_simp; done) | (simp; done)) (by first | omega | (simp <;> omega)); have cc10 := cell_keep (p := ⟨wf.heap.size, 1, none⟩) (v := .int .i64 Y) hb1 (by first | assumption | (go_keep; done) | (go_simp; done) | (simp; done)) (by first | omega | (simp <;> omega)); have cc11 := cell_keep (p := ⟨wf.heap.size, 2, none⟩) (v := .int .i64 D) hb1 (by first | assumption | (go_keep; done) | (go_simp; done) | (simp; done)) (by first | omega | (simp <;> omega)); have cc12 := cell_keep (p := ⟨wg.heap.size, 0, none⟩) (v := .int .i64 X) hb1 (by first | assumption | (go_keep; done) | (go_simp; done) | (simp; done)) (by first | omega | (simp <;> omega)); have cc13 := cell_keep (p := ⟨wg.heap.size, 1, none⟩) (v := .int .i64 Y) hb1 (by first | assumption | (go_keep; done) | (go_simp; done) | (simp; done)) (by first | omega | (simp <;> omega)); have cc14 := cell_keep (p := ⟨wg.heap.size, 2, none⟩) (v := .int .i64 D) hb1 (by first | assumption | (go_keep; done) | (go_simp; done) | (simp; done)) (by first | omega | (simp <;> omega)); have cc15 := cell_keep (p := ⟨wi.heap.size, 0, none⟩) (v := .int .i64 x) hb1 (by first | assumption | (go_keep; done) | (go_simp; done) | (simp; done)) (by first | omega | (simp <;> omega)); have cc16 := cell_keep (p := ⟨wi.heap.size, 1, none⟩) (v := .int .i64 y) hb1 (by first | assumption | (go_keep; done) | (go_simp; done) | (simp; done)) (by first | omega | (simp <;> omega)); have cc17 := cell_keep (p := ⟨wi.heap.size, 2, none⟩) (v := .int .i64 d) hb1 (by first | assumption | (go_keep; done) | (go_simp; done) | (simp; done)) (by first | omega | (simp <;> omega)); have cc18 := cell_keep (p := ⟨wj.heap.size, 0, none⟩) (v := .int .i64 x) hb1 (by first | assumption | (go_keep; done) | (go_simp; done) | (simp; done)) (by first | omega | (simp <;> omega)); have cc19 := cell_keep (p := ⟨wj.heap.size, 1, none⟩) (v := .int .i64 y) hb1 (by first | assumption | (go_keep; done) | (go_simp; done) | (simp; done)) (by first | omega | (simp <;> omega)); have cc20 := cell_keep (p := ⟨wj.heap.size, 2, none⟩) (v := .int .i64 d) hb1 (by first | assumption | (go_keep; done) | (go_simp; done) | (simp; done)) (by first | omega | (simp <;> omega)); have hS1 : Below w.heap.size w w1 := S_below hb1 (by repeat (first | exact Below.refl _ _ | assumption | refine below_drewN ?_ _ | refine Below.drew ?_ | refine Below.alloc ?_ (by first | omega | (simp <;> omega)) _ | refine Below.setCell ?_ (by first | omega | (simp <;> omega)) _)) (by first | omega | (simp <;> omega)); have hz1 : w.heap.size ≤ w1.heap.size := S_size hb1 (by first | omega | (simp <;> omega)); have hqb0 : wa.heap.size < w1.heap.size := S_lt hb1 (by first | omega | (simp <;> omega)); have hqb1 : wb.heap.size < w1.heap.size := S_lt hb1 (by first | omega | (simp <;> omega)); have hqb2 : we.heap.size < w1.heap.size := S_lt hb1 (by first | omega | (simp <;> omega)); have hqb3 : wf.heap.size < w1.heap.size := S_lt hb1 (by first | omega | (simp <;> omega)); have hqb4 : wg.heap.size < w1.heap.size := S_lt hb1 (by first | omega | (simp <;> omega)); have hqb5 : wi.heap.size < w1.heap.size := S_lt hb1 (by first | omega | (simp <;> omega)); have hqb6 : wj.heap.size < w1.heap.size := S_lt hb1 (by first | omega | (simp <;> omega)); clear hb1) | (go_at_call 35; with_reducible refine (iSpotOk_lit F9.out _ (by omega) (by omega) (by omega) (by omega)).mono ?_; rintro e w1 ⟨rfl, hb1⟩; have cc0 := cell_keep (p := ⟨wa.heap.size, 0, none⟩) (v := .int .i64 x) hb1 (by first | assumption | (go_keep; done) | (go_simp; done) | (simp; done)) (by first | omega | (simp <;> omega)); have cc1 := cell_keep (p := ⟨wa.heap.size, 1, none⟩) (v := .int .i64 y) hb1 (by first | assumption | (go_keep; done) | (go_simp; done) | (simp; done)) (by first | omega | (simp <;> omega)); have cc2 := cell_keep (p := ⟨wa.heap.size, 2, none⟩) (v := .int .i64 d) hb1 (by first | assumption | (go_keep; done) | (go_simp; done) | (simp; done)) (by first | omega | (simp <;> omega)); have cc3 := cell_keep (p := ⟨wb.heap.size, 0, none⟩) (v := .int .i64 x') hb1 (by first | assumption | (go_keep; done) | (go_simp; done) | (simp; done)) (by first | omega | (simp <;> omega)); have cc4 := cell_keep (p := ⟨wb.heap.size, 1, none⟩) (v := .int .i64 y') hb1 (by first | assumption | (go_keep; done) | (go_simp; done) | (simp; done)) (by first | omega | (simp <;> omega)); have cc5 := cell_keep (p := ⟨wb.heap.size, 2, none⟩) (v := .int .i64 d') hb1 (by first | assumption | (go_keep; done) | (go_simp; done) | (simp; done)) (by first | omega | (simp <;> omega)); have cc6 := cell_keep (p := ⟨we.heap.size, 0, none⟩) (v := .int .i64 x) hb1 (by first | assumption | (go_keep; done) | (go_simp; done) | (simp; done)) (by first | omega | (simp <;> omega)); have cc7 := cell_keep (p := ⟨we.heap.size, 1, none⟩) (v := .int .i64 y) hb1 (by first | assumption | (go_keep; done) | (go_simp; done) | (simp; done)) (by first | omega | (simp <;> omega)); have cc8 := cell_keep (p := ⟨we.heap.size, 2, none⟩) (v := .int .i64 d) hb1 (by first | assumption | (go_keep; done) | (go_simp; done) | (simp; done)) (by first | omega | (simp <;> omega)); have cc9 := cell_keep (p := ⟨wf.heap.size, 0, none⟩) (v := .int .i64 X) hb1 (by first | assumption | (go_keep; done) | (go_simp; done) | (simp; done)) (by first | omega | (simp <;> omega)); have cc10 := cell_keep (p := ⟨wf.heap.size, 1, none⟩) (v := .int .i64 Y) hb1 (by first | assumption | (go_keep; done) | (go_simp; done) | (simp; done)) (by first | omega | (simp <;> omega)); have cc11 := cell_keep (p := ⟨wf.heap.size, 2, none⟩) (v := .int .i64 D) hb1 (by first | assumption | (go_keep; done) | (go_simp; done) | (simp; done)) (by first | omega | (simp <;> omega)); have cc12 := cell_keep (p := ⟨wg.heap.size, 0, none⟩) (v := .int .i64 X) hb1 (by first | assumption | (go_keep; done) | (go_simp; done) | (simp; done)) (by first | omega | (simp <;> omega)); have cc13 := cell_keep (p := ⟨wg.heap.size, 1, none⟩) (v := .int .i64 Y) hb1 (by first | assumption | (go_keep; done) | (go_simp; done) | (simp; done)) (by first | omega | (simp <;> omega)); have cc14 := cell_keep (p := ⟨wg.heap.size, 2, none⟩) (v := .int .i64 D) hb1 (by first | assumption | (go_keep; done) | (go_simp; done) | (simp; done)) (by first | omega | (simp <;> omega)); have cc15 := cell_keep (p := ⟨wi.heap.size, 0, none⟩) (v := .int .i64 x) hb1 (by first | assumption | (go_keep; done) | (go_simp; done) | (simp; done)) (by first | omega | (simp <;> omega)); have cc16 := cell_keep (p := ⟨wi.heap.size, 1, none⟩) (v := .int .i64 y) hb1 (by first | assumption | (go_keep; done) | (go_simp; done) | (simp; done)) (by first | omega | (simp <;> omega)); have cc17 := cell_keep (p := ⟨wi.heap.size, 2, none⟩) (v := .int .i64 d) hb1 (by first | assumption | (go_keep; done) | (go_simp; done) | (simp; done)) (by first | omega | (simp <;> omega)); have cc18 := cell_keep (p := ⟨wj.heap.size, 0, none⟩) (v := .int .i64 x) hb1 (by first | assumption | (go_keep; done) | (go_simp; done) | (simp; done)) (by first | omega | (simp <;> omega)); have cc19 := cell_keep (p := ⟨wj.heap.size, 1, none⟩) (v := .int .i64 y) hb1 (by first | assumption | (go_keep; done) | (go_simp; done) | (simp; done)) (by first | omega | (simp <;> omega)); have cc20 := cell_keep (p := ⟨wj.heap.size, 2, none⟩) (v := .int .i64 d) hb1 (by first | assumption | (go_keep; done) | (go_simp; done) | (simp; done)) (by first | omega | (simp <;> omega)); have hS1 : Below w.heap.size w w1 := S_below hb1 (by repeat (first | exact Below.refl _ _ | assumption | refine below_drewN ?_ _ | refine Below.drew ?_ | refine Below.alloc ?_ (by first | omega | (simp <;> omega)) _ | refine Below.setCell ?_ (by first | omega | (simp <;> omega)) _)) (by first | omega | (simp <;> omega)); have hz1 : w.heap.size ≤ w1.heap.size := S_size hb1 (by first | omega | (simp <;> omega)); have hqb0 : wa.heap.size < w1.heap.size := S_lt hb1 (by first | omega | (simp <;> omega)); have hqb1 : wb.heap.size < w1.heap.size := S_lt hb1 (by first | omega | (simp <;> omega)); have hqb2 : we.heap.size < w1.heap.size := S_lt hb1 (by first | omega | (simp <;> omega)); have hqb3 : wf.heap.size < w1.heap.size := S_lt hb1 (by first | omega | (simp <;> omega)); have hqb4 : wg.heap.size < w1.heap.size := S_lt hb1 (by first | omega | (simp <;> omega)); have hqb5 : wi.heap.size < w1.heap.size := S_lt hb1 (by first | omega | (simp <;> omega)); have hqb6 : wj.heap.size < w1.heap.size := S_lt hb1 (by first | omega | (simp <;> omega)); clear hb1))
    go_ret
    exact ⟨rfl, (by repeat (first | exact Below.refl _ _ | assumption | refine below_drewN ?_ _ | refine Below.drew ?_ | refine Below.alloc ?_ (by first | omega | (simp <;> omega)) _ | refine Below.setCell ?_ (by first | omega | (simp <;> omega)) _))⟩

end Go.Proofs.YtkmfejdmdiemaaaDoor
