/- The walk of the law FnExactBoxRegion. -/
import Derived.Test.YthdaoadleeelnaaBox
namespace Go.Proofs.Ythdaoadleeelnaa
open Go.ChangeShapes Go.WideShapes Go.ChangeAt Go.RowKit
attribute [local go_sem ↓] Go.wp_at_zero Go.wp_at_succ
set_option linter.unusedVariables false

theorem iBox_to {x0 y0 x1 y1 : Int} {R : List Hp} {b : Bool} (hR : bxR x0 y0 x1 y1 = R) (hb : bxB x0 y0 x1 y1 = b) (hx : I64 x0) (hy : I64 y0) (w : World) :
    Calls Try.prog 25 #[.int .i64 x0, .int .i64 y0, .int .i64 x1, .int .i64 y1] w (RPost R b w) := by
  subst hR; subst hb; exact iBoxRegion_any x0 y0 x1 y1 hx hy w

theorem sBox_to {x0 y0 x1 y1 : Int} {R : List Hp} {b : Bool} (hR : bxR x0 y0 x1 y1 = R) (hb : bxB x0 y0 x1 y1 = b) (hx : I64 x0) (hy : I64 y0) (w : World) :
    Calls Try.prog 24 #[.int .i64 x0, .int .i64 y0, .int .i64 x1, .int .i64 y1] w (RPost R b w) := by
  subst hR; subst hb; exact sBoxRegion_any x0 y0 x1 y1 hx hy w

theorem bxR_len {x0 y0 x1 y1 : Int} : (bxR x0 y0 x1 y1).length ≤ 8 := by
  unfold bxR
  split
  · exact mkR_len (hs := boxL x0 y0 x1 y1)
  · simp

set_option maxHeartbeats 1000000 in
set_option maxRecDepth 100000 in
theorem exBoxRegion_walk (x0 : Int) (hx : I64 x0) (y0 : Int) (hy : I64 y0) (x1 : Int) (hx' : I64 x1) (y1 : Int) (hy' : I64 y1) (w : World) :
    Calls Try.prog 6 #[.int .i64 x0, .int .i64 y0, .int .i64 x1, .int .i64 y1] w fun e w' => e = .returned (.bool true) ∧ Below w.heap.size w w' := by
  obtain ⟨R, hR⟩ : ∃ R, bxR x0 y0 x1 y1 = R := ⟨_, rfl⟩
  obtain ⟨b, hb⟩ : ∃ b, bxB x0 y0 x1 y1 = b := ⟨_, rfl⟩
  have hRl := bxR_len (x0 := x0) (y0 := y0) (x1 := x1) (y1 := y1)
  rw [hR] at hRl
  have HR := Lib.hid hR
  have HB := Lib.hid hb
  have HX := Lib.hid hx
  have HY := Lib.hid hy
  clear hR hb hx hy hx' hy'
  obtain ⟨q, hq⟩ : ∃ q : Int, 1 + 3 * (R.length : Int) = q := ⟨_, rfl⟩
  have hq0 : ¬ q < 0 := by omega
  have HQ := Lib.hid hq; clear hq
  go_enter Try.func6, Try.ntmps6
  have hS1_w : Below w.heap.size w w := Below.refl _ _
  go_wp2_with fail
  go_at_call 24; with_reducible refine (sBox_to HR.out HB.out HX.out HY.out _).mono ?_
  rintro e wb ⟨A1, c1, rfl, hO1, hb1⟩
  have hS1_wb : Below w.heap.size w wb := S_below hb1 (by repeat (first | exact Below.refl _ _ | assumption | refine below_drewN ?_ _ | refine Below.drew ?_ | refine Below.alloc ?_ (by first | omega | (simp <;> omega)) _ | refine Below.setCell ?_ (by first | omega | (simp <;> omega)) _)) (by first | omega | (simp <;> omega))
  have hz1_wb : w.heap.size ≤ wb.heap.size := S_size hb1 (by first | omega | (simp <;> omega))
  clear hb1
  have O1 := Lib.hid hO1; clear hO1
  have D1 := Lib.hid O1.out.lt
  go_wp2_with fail
  go_at_call 25; with_reducible refine (iBox_to HR.out HB.out HX.out HY.out _).mono ?_
  rintro e wd ⟨A2, c2, rfl, hO2, hb1⟩
  have O1d := Lib.hid ((O1.out.kept ((Below.refl _ _).alloc (Nat.le_refl _) _)).kept hb1)
  have cc_wd0 := cell_keep (p := ⟨wb.heap.size, 0, none⟩) (v := .slice A1 R.length c1) hb1 (by first | assumption | (go_keep; done) | (go_simp; done) | (simp; done)) (by first | omega | (simp <;> omega))
  have hS1_wd : Below w.heap.size w wd := S_below hb1 (by repeat (first | exact Below.refl _ _ | assumption | refine below_drewN ?_ _ | refine Below.drew ?_ | refine Below.alloc ?_ (by first | omega | (simp <;> omega)) _ | refine Below.setCell ?_ (by first | omega | (simp <;> omega)) _)) (by first | omega | (simp <;> omega))
  have hz1_wd : w.heap.size ≤ wd.heap.size := S_size hb1 (by first | omega | (simp <;> omega))
  have hqb_wd0 : wb.heap.size < wd.heap.size := S_lt hb1 (by first | omega | (simp <;> omega))
  clear hb1
  have O2 := Lib.hid hO2; clear hO2 O1
  have D2 := Lib.hid O2.out.low
  have D3 := Lib.hid O2.out.lt
  go_wp2_with fail
  go_at_call 21; with_reducible refine (eqRegion_same _ _ _ _ _ _ R _ rfl rfl (O2.out.kept ((Below.refl _ _).alloc (Nat.le_refl _) _)).of_len (O1d.out.kept ((Below.refl _ _).alloc (Nat.le_refl _) _)).of_len (by omega)).mono ?_
  rintro e wi ⟨rfl, hb1⟩
  have O1i := Lib.hid ((O1d.out.kept ((Below.refl _ _).alloc (Nat.le_refl _) _)).kept hb1)
  have O2i := Lib.hid ((O2.out.kept ((Below.refl _ _).alloc (Nat.le_refl _) _)).kept hb1)
  have cc_wi0 := cell_keep (p := ⟨wb.heap.size, 0, none⟩) (v := .slice A1 R.length c1) hb1 (by first | assumption | (go_keep; done) | (go_simp; done) | (simp; done)) (by first | omega | (simp <;> omega))
  have cc_wi1 := cell_keep (p := ⟨wd.heap.size, 0, none⟩) (v := .slice A2 R.length c2) hb1 (by first | assumption | (go_keep; done) | (go_simp; done) | (simp; done)) (by first | omega | (simp <;> omega))
  have hS1_wi : Below w.heap.size w wi := S_below hb1 (by repeat (first | exact Below.refl _ _ | assumption | refine below_drewN ?_ _ | refine Below.drew ?_ | refine Below.alloc ?_ (by first | omega | (simp <;> omega)) _ | refine Below.setCell ?_ (by first | omega | (simp <;> omega)) _)) (by first | omega | (simp <;> omega))
  have hz1_wi : w.heap.size ≤ wi.heap.size := S_size hb1 (by first | omega | (simp <;> omega))
  have hqb_wi0 : wb.heap.size < wi.heap.size := S_lt hb1 (by first | omega | (simp <;> omega))
  have hqb_wi1 : wd.heap.size < wi.heap.size := S_lt hb1 (by first | omega | (simp <;> omega))
  clear hb1
  clear O1d O2
  go_wp2_with fail
  go_at_call 26; refine (markRegion_own O2i.out (by omega) (by decide) (by decide) HQ.out).mono ?_; rintro e wj ⟨R', hR', rfl, hOj, hMj, hGj⟩
  have hgz := hGj.size
  have cc_wj0 := hGj.cell cc_wi0 (fun e => by have := D2.out _ e.symm; simp at this; omega)
  have cc_wj1 := hGj.cell cc_wi1 (fun e => by have := D3.out _ e.symm; simp at this)
  have hS1_wj : Below w.heap.size w wj := hS1_wi.grown hGj (by omega) (fun q hq => by have := D2.out q hq; simp at this; omega)
  have O1j := Lib.hid (O1i.out.besides hGj (fun q hq e => by have := D2.out q e; have := D1.out q hq; simp at *; omega))
  have O2j := Lib.hid hOj
  have M2 := Lib.hid hMj
  have L2 := Lib.hid hR'
  have hqb_wj0 : wb.heap.size < wj.heap.size := by omega
  have hqb_wj1 : wd.heap.size < wj.heap.size := by omega
  clear O1i O2i hOj hMj hGj hR' hgz cc_wi0 cc_wi1
  go_wp2_with fail
  go_at_call 27; with_reducible refine (heldRegion_lit L2.out.symm O2j.out.of_len M2.out (by omega) (by decide) (by decide) HQ.out (by omega)).mono ?_
  rintro e wk ⟨rfl, hb1⟩
  have O1k := Lib.hid (O1j.out.kept hb1)
  have O2k := Lib.hid (O2j.out.kept hb1)
  have cc_wk0 := cell_keep (p := ⟨wb.heap.size, 0, none⟩) (v := .slice A1 R.length c1) hb1 (by first | assumption | (go_keep; done) | (go_simp; done) | (simp; done)) (by first | omega | (simp <;> omega))
  have cc_wk1 := cell_keep (p := ⟨wd.heap.size, 0, none⟩) (v := .slice A2 R.length c2) hb1 (by first | assumption | (go_keep; done) | (go_simp; done) | (simp; done)) (by first | omega | (simp <;> omega))
  have hS1_wk : Below w.heap.size w wk := S_below hb1 (by repeat (first | exact Below.refl _ _ | assumption | refine below_drewN ?_ _ | refine Below.drew ?_ | refine Below.alloc ?_ (by first | omega | (simp <;> omega)) _ | refine Below.setCell ?_ (by first | omega | (simp <;> omega)) _)) (by first | omega | (simp <;> omega))
  have hz1_wk : w.heap.size ≤ wk.heap.size := S_size hb1 (by first | omega | (simp <;> omega))
  have hqb_wk0 : wb.heap.size < wk.heap.size := S_lt hb1 (by first | omega | (simp <;> omega))
  have hqb_wk1 : wd.heap.size < wk.heap.size := S_lt hb1 (by first | omega | (simp <;> omega))
  clear hb1
  clear O1j O2j
  go_wp2_with fail
  go_at_call 25; with_reducible refine (iBox_to HR.out HB.out HX.out HY.out _).mono ?_
  rintro e wm ⟨A3, c3, rfl, hO3, hb1⟩
  have O1m := Lib.hid (O1k.out.kept hb1)
  have O2m := Lib.hid (O2k.out.kept hb1)
  have cc_wm0 := cell_keep (p := ⟨wb.heap.size, 0, none⟩) (v := .slice A1 R.length c1) hb1 (by first | assumption | (go_keep; done) | (go_simp; done) | (simp; done)) (by first | omega | (simp <;> omega))
  have cc_wm1 := cell_keep (p := ⟨wd.heap.size, 0, none⟩) (v := .slice A2 R.length c2) hb1 (by first | assumption | (go_keep; done) | (go_simp; done) | (simp; done)) (by first | omega | (simp <;> omega))
  have hS1_wm : Below w.heap.size w wm := S_below hb1 (by repeat (first | exact Below.refl _ _ | assumption | refine below_drewN ?_ _ | refine Below.drew ?_ | refine Below.alloc ?_ (by first | omega | (simp <;> omega)) _ | refine Below.setCell ?_ (by first | omega | (simp <;> omega)) _)) (by first | omega | (simp <;> omega))
  have hz1_wm : w.heap.size ≤ wm.heap.size := S_size hb1 (by first | omega | (simp <;> omega))
  have hqb_wm0 : wb.heap.size < wm.heap.size := S_lt hb1 (by first | omega | (simp <;> omega))
  have hqb_wm1 : wd.heap.size < wm.heap.size := S_lt hb1 (by first | omega | (simp <;> omega))
  clear hb1
  have O3 := Lib.hid hO3
  clear O1k O2k hO3
  go_wp2_with fail
  go_at_call 21; with_reducible refine (eqRegion_same _ _ _ _ _ _ R _ rfl rfl (O3.out.kept ((Below.refl _ _).alloc (Nat.le_refl _) _)).of_len (O1m.out.kept ((Below.refl _ _).alloc (Nat.le_refl _) _)).of_len (by omega)).mono ?_
  rintro e wn ⟨rfl, hb1⟩
  have O2n := Lib.hid ((O2m.out.kept ((Below.refl _ _).alloc (Nat.le_refl _) _)).kept hb1)
  have cc_wn0 := cell_keep (p := ⟨wb.heap.size, 0, none⟩) (v := .slice A1 R.length c1) hb1 (by first | assumption | (go_keep; done) | (go_simp; done) | (simp; done)) (by first | omega | (simp <;> omega))
  have cc_wn1 := cell_keep (p := ⟨wd.heap.size, 0, none⟩) (v := .slice A2 R.length c2) hb1 (by first | assumption | (go_keep; done) | (go_simp; done) | (simp; done)) (by first | omega | (simp <;> omega))
  have cc_wn2 := cell_keep (p := ⟨wm.heap.size, 0, none⟩) (v := .slice A3 R.length c3) hb1 (by first | assumption | (go_keep; done) | (go_simp; done) | (simp; done)) (by first | omega | (simp <;> omega))
  have hS1_wn : Below w.heap.size w wn := S_below hb1 (by repeat (first | exact Below.refl _ _ | assumption | refine below_drewN ?_ _ | refine Below.drew ?_ | refine Below.alloc ?_ (by first | omega | (simp <;> omega)) _ | refine Below.setCell ?_ (by first | omega | (simp <;> omega)) _)) (by first | omega | (simp <;> omega))
  have hz1_wn : w.heap.size ≤ wn.heap.size := S_size hb1 (by first | omega | (simp <;> omega))
  have hqb_wn0 : wb.heap.size < wn.heap.size := S_lt hb1 (by first | omega | (simp <;> omega))
  have hqb_wn1 : wd.heap.size < wn.heap.size := S_lt hb1 (by first | omega | (simp <;> omega))
  have hqb_wn2 : wm.heap.size < wn.heap.size := S_lt hb1 (by first | omega | (simp <;> omega))
  clear hb1
  clear O1m O2m O3
  go_wp2_with fail
  go_at_call 27; with_reducible refine (heldRegion_lit L2.out.symm O2n.out.of_len M2.out (by omega) (by decide) (by decide) HQ.out (by omega)).mono ?_
  rintro e wo ⟨rfl, hb1⟩
  have cc_wo0 := cell_keep (p := ⟨wb.heap.size, 0, none⟩) (v := .slice A1 R.length c1) hb1 (by first | assumption | (go_keep; done) | (go_simp; done) | (simp; done)) (by first | omega | (simp <;> omega))
  have cc_wo1 := cell_keep (p := ⟨wd.heap.size, 0, none⟩) (v := .slice A2 R.length c2) hb1 (by first | assumption | (go_keep; done) | (go_simp; done) | (simp; done)) (by first | omega | (simp <;> omega))
  have cc_wo2 := cell_keep (p := ⟨wm.heap.size, 0, none⟩) (v := .slice A3 R.length c3) hb1 (by first | assumption | (go_keep; done) | (go_simp; done) | (simp; done)) (by first | omega | (simp <;> omega))
  have hS1_wo : Below w.heap.size w wo := S_below hb1 (by repeat (first | exact Below.refl _ _ | assumption | refine below_drewN ?_ _ | refine Below.drew ?_ | refine Below.alloc ?_ (by first | omega | (simp <;> omega)) _ | refine Below.setCell ?_ (by first | omega | (simp <;> omega)) _)) (by first | omega | (simp <;> omega))
  have hz1_wo : w.heap.size ≤ wo.heap.size := S_size hb1 (by first | omega | (simp <;> omega))
  have hqb_wo0 : wb.heap.size < wo.heap.size := S_lt hb1 (by first | omega | (simp <;> omega))
  have hqb_wo1 : wd.heap.size < wo.heap.size := S_lt hb1 (by first | omega | (simp <;> omega))
  have hqb_wo2 : wm.heap.size < wo.heap.size := S_lt hb1 (by first | omega | (simp <;> omega))
  clear hb1
  go_wp2_with fail
  go_ret
  exact ⟨rfl, (by repeat (first | exact Below.refl _ _ | assumption | refine below_drewN ?_ _ | refine Below.drew ?_ | refine Below.alloc ?_ (by first | omega | (simp <;> omega)) _ | refine Below.setCell ?_ (by first | omega | (simp <;> omega)) _))⟩

end Go.Proofs.Ythdaoadleeelnaa
