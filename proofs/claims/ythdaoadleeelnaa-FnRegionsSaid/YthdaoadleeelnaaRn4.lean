/- l05Differ of the reference: do two points differ? -/
import Derived.Test.YthdaoadleeelnaaRn3
import Derived.Test.YthdaoadleeelnaaSpot2
namespace Go.Proofs.Ythdaoadleeelnaa
open Go.ChangeShapes Go.WideShapes Go.ChangeAt Go.RowKit
attribute [local go_sem ↓] Go.wp_at_zero Go.wp_at_succ
set_option linter.unusedVariables false

theorem sSpotOf_is {x y d X Y D : Int} (h : spOk x y d = true) (hX : spX x y d = X) (hY : spY x y d = Y) (hD : spD x y d = D) (w : World) (hx1 : -9223372036854775808 ≤ x) (hx2 : x ≤ 9223372036854775807) (hy1 : -9223372036854775808 ≤ y) (hy2 : y ≤ 9223372036854775807) (hd1 : -9223372036854775808 ≤ d) (hd2 : d ≤ 9223372036854775807) :
    Calls Try.prog 98 #[.int .i64 x, .int .i64 y, .int .i64 d] w fun e w' => e = .returned (.tuple #[.agg #[.int .i64 X, .int .i64 Y, .int .i64 D], .bool true]) ∧ Below w.heap.size w w' := by
  subst hX; subst hY; subst hD; exact sSpotOf_lit h w hx1 hx2 hy1 hy2 hd1 hd2

set_option maxHeartbeats 1000000 in
set_option maxRecDepth 100000 in
theorem l05Differ_any {x y d x' y' d' X Y D X' Y' D' : Int} (h : spOk x y d = true) (hX : spX x y d = X) (hY : spY x y d = Y) (hD : spD x y d = D) (h' : spOk x' y' d' = true) (hX' : spX x' y' d' = X') (hY' : spY x' y' d' = Y') (hD' : spD x' y' d' = D')
    (w : World) (x1 : -20000000000000 ≤ x) (x2 : x ≤ 20000000000000) (y1 : -20000000000000 ≤ y) (y2 : y ≤ 20000000000000) (d1 : 0 ≤ d) (d2 : d ≤ 5000000000) (x1' : -20000000000000 ≤ x') (x2' : x' ≤ 20000000000000) (y1' : -20000000000000 ≤ y') (y2' : y' ≤ 20000000000000) (d1' : 0 ≤ d') (d2' : d' ≤ 5000000000) :
    Calls Try.prog 84 #[.agg #[.int .i64 x, .int .i64 y, .int .i64 d], .agg #[.int .i64 x', .int .i64 y', .int .i64 d']] w fun e w' => e = .returned (.bool (!(same3 X Y D X' Y' D'))) ∧ Below w.heap.size w w' := by
  have O1 := Lib.hid h; have O2 := Lib.hid hX; have O3 := Lib.hid hY; have O4 := Lib.hid hD
  have P1 := Lib.hid h'; have P2 := Lib.hid hX'; have P3 := Lib.hid hY'; have P4 := Lib.hid hD'
  clear h hX hY hD h' hX' hY' hD'
  go_enter Try.func84, Try.ntmps84
  go_wp2_with fail
  go_at_call 98; with_reducible refine (sSpotOf_is O1.out O2.out O3.out O4.out _ (by omega) (by omega) (by omega) (by omega) (by omega) (by omega)).mono ?_
  rintro e wa ⟨rfl, hb1⟩
  have cc_wa0 := cell_keep (p := ⟨w.heap.size, 0, none⟩) (v := .int .i64 x) hb1 (by first | assumption | (go_keep; done) | (go_simp; done) | (simp; done)) (by first | omega | (simp <;> omega))
  have cc_wa1 := cell_keep (p := ⟨w.heap.size, 1, none⟩) (v := .int .i64 y) hb1 (by first | assumption | (go_keep; done) | (go_simp; done) | (simp; done)) (by first | omega | (simp <;> omega))
  have cc_wa2 := cell_keep (p := ⟨w.heap.size, 2, none⟩) (v := .int .i64 d) hb1 (by first | assumption | (go_keep; done) | (go_simp; done) | (simp; done)) (by first | omega | (simp <;> omega))
  have cc_wa3 := cell_keep (p := ⟨w.heap.size + 1, 0, none⟩) (v := .int .i64 x') hb1 (by first | assumption | (go_keep; done) | (go_simp; done) | (simp; done)) (by first | omega | (simp <;> omega))
  have cc_wa4 := cell_keep (p := ⟨w.heap.size + 1, 1, none⟩) (v := .int .i64 y') hb1 (by first | assumption | (go_keep; done) | (go_simp; done) | (simp; done)) (by first | omega | (simp <;> omega))
  have cc_wa5 := cell_keep (p := ⟨w.heap.size + 1, 2, none⟩) (v := .int .i64 d') hb1 (by first | assumption | (go_keep; done) | (go_simp; done) | (simp; done)) (by first | omega | (simp <;> omega))
  have hS1_wa : Below w.heap.size w wa := S_below hb1 (by repeat (first | exact Below.refl _ _ | assumption | refine below_drewN ?_ _ | refine Below.drew ?_ | refine Below.alloc ?_ (by first | omega | (simp <;> omega)) _ | refine Below.setCell ?_ (by first | omega | (simp <;> omega)) _)) (by first | omega | (simp <;> omega))
  have hz1_wa : w.heap.size + 1 + 1 ≤ wa.heap.size := S_size hb1 (by first | omega | (simp <;> omega))
  have hqb_wa0 : w.heap.size < wa.heap.size := S_lt hb1 (by first | omega | (simp <;> omega))
  have hqb_wa1 : w.heap.size + 1 < wa.heap.size := S_lt hb1 (by first | omega | (simp <;> omega))
  clear hb1
  go_wp2_with fail
  go_at_call 98; with_reducible refine (sSpotOf_is P1.out P2.out P3.out P4.out _ (by omega) (by omega) (by omega) (by omega) (by omega) (by omega)).mono ?_
  rintro e wb ⟨rfl, hb1⟩
  have cc_wb0 := cell_keep (p := ⟨wa.heap.size, 0, none⟩) (v := .int .i64 X) hb1 (by first | assumption | (go_keep; done) | (go_simp; done) | (simp; done)) (by first | omega | (simp <;> omega))
  have cc_wb1 := cell_keep (p := ⟨wa.heap.size, 1, none⟩) (v := .int .i64 Y) hb1 (by first | assumption | (go_keep; done) | (go_simp; done) | (simp; done)) (by first | omega | (simp <;> omega))
  have cc_wb2 := cell_keep (p := ⟨wa.heap.size, 2, none⟩) (v := .int .i64 D) hb1 (by first | assumption | (go_keep; done) | (go_simp; done) | (simp; done)) (by first | omega | (simp <;> omega))
  have hS1_wb : Below w.heap.size w wb := S_below hb1 (by repeat (first | exact Below.refl _ _ | assumption | refine below_drewN ?_ _ | refine Below.drew ?_ | refine Below.alloc ?_ (by first | omega | (simp <;> omega)) _ | refine Below.setCell ?_ (by first | omega | (simp <;> omega)) _)) (by first | omega | (simp <;> omega))
  have hz1_wb : w.heap.size + 1 + 1 ≤ wb.heap.size := S_size hb1 (by first | omega | (simp <;> omega))
  have hqb_wb0 : wa.heap.size < wb.heap.size := S_lt hb1 (by first | omega | (simp <;> omega))
  clear hb1
  go_wp2
  all_goals
    go_ret
    exact ⟨ret_bool (by unfold same3; simp_all), (by repeat (first | exact Below.refl _ _ | assumption | refine below_drewN ?_ _ | refine Below.drew ?_ | refine Below.alloc ?_ (by first | omega | (simp <;> omega)) _ | refine Below.setCell ?_ (by first | omega | (simp <;> omega)) _))⟩

end Go.Proofs.Ythdaoadleeelnaa
