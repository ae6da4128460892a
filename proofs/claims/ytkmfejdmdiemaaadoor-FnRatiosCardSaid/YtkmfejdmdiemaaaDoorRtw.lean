/- The walk of FnRatios. -/
import Derived.Test.YtkmfejdmdiemaaaDoorRtl
import Derived.Test.YtkmfejdmdiemaaaDoorFast
import Derived.Test.YtkmfejdmdiemaaaDoorPrrS
namespace Go.Proofs.YtkmfejdmdiemaaaDoor
open Go.ChangeShapes Go.WideShapes Go.ChangeAt Go.RowKit
attribute [local go_sem ↓] Go.wp_at_zero Go.wp_at_succ
set_option linter.unusedVariables false

theorem bytes_step' {w w' : World} {A : Option Addr} {n : Nat} (h : BytesAt w w.heap.size A n) (hb : Below w.heap.size w w') : BytesAt w' w'.heap.size A n := (h.below hb).mono hb.size

set_option maxHeartbeats 4000000 in
set_option maxRecDepth 100000 in
theorem exRatios_walk (A : Option Addr) (n0 c0 : Nat) (w : World) (hn : n0 ≤ maxLen) (hB : BytesAt w w.heap.size A n0) (ht : Tab10 w) (he : Errs w) :
    Calls Tryd.prog 7 #[.slice A n0 c0] w fun e w' => e = .returned (.bool true) ∧ Below w.heap.size w w' := by
  unfold maxLen at hn
  have HB := Lib.hid hB; clear hB
  have HT := Lib.hid ht; clear ht
  have HE := Lib.hid he; clear he
  by_cases hz : 1048576 < n0
  · go_enter Tryd.func7, Tryd.ntmps7
    go_wp2
    go_ret
    exact ⟨rfl, (by repeat (first | exact Below.refl _ _ | assumption | refine below_drewN ?_ _ | refine Below.drew ?_ | refine Below.alloc ?_ (by first | omega | (simp <;> omega)) _ | refine Below.setCell ?_ (by first | omega | (simp <;> omega)) _))⟩
  · go_enter Tryd.func7, Tryd.ntmps7
    go_wp2_with fail
    go_at_call 21; refine (MakeRatio_any 1 A n0 c0 w (by omega) HB.out (by omega) (by omega)).mono ?_; rintro e wa ⟨n, d, k1, hn1, hd1, rfl, hba⟩
    have HSa := Lib.hid hba
    have hza := hba.size
    have HK1 := Lib.hid k1
    clear hba k1
    go_wp2_with fail
    go_at_call 21; refine (MakeRatio_any 20 A n0 c0 _ (by omega) (bytes_step' HB.out (HSa.out.alloc hza _)) (by omega) (by omega)).mono ?_; rintro e wb ⟨m, e, k2, hm1, he1, rfl, hbb⟩
    have HK2 := Lib.hid k2
    have K3 := blk_below hbb (heap_alloc_new wa _)
    have c30 : wb.cell? ⟨wa.heap.size, 0, none⟩ = some (.int .i64 n) := cell_of_row wb _ 0 _ _ _ K3
    have c31 : wb.cell? ⟨wa.heap.size, 1, none⟩ = some (.int .i64 d) := cell_of_row wb _ 1 _ _ _ K3
    have hlt3 := heap_lt K3
    have hSb : Below w.heap.size w wb := S_below hbb (HSa.out.alloc hza _) (by simp; omega)
    have hzb := hSb.size
    clear K3 hbb HSa k2
    obtain ⟨s, hs⟩ : ∃ s, fmtR n d = s := ⟨_, rfl⟩
    have hsz := fmtR_size n d
    rw [hs] at hsz
    have PV := Lib.hid (show prV s = some (n, d) by rw [← hs]; exact prV_fmtR HK1.out)
    have HS := Lib.hid hs; clear hs
    obtain ⟨F1, F2⟩ := floor_facts HK1.out
    obtain ⟨G1, G2⟩ := ceil_facts HK1.out
    obtain ⟨fb, gb⟩ := floor_small HK1.out hn1
    obtain ⟨f, hf⟩ : ∃ f, floorV n d = f := ⟨_, rfl⟩
    obtain ⟨g, hg⟩ : ∃ g, ceilV n d = g := ⟨_, rfl⟩
    rw [hf] at F1 F2 fb
    rw [hg] at G1 G2 gb
    have HF := Lib.hid hf; clear hf
    have HG := Lib.hid hg; clear hg
    have HR3 := Lib.hid (rat_scale (k := 3) HK1.out (by omega) (by omega) (by omega) (by omega) (by omega))
    have HR1 := Lib.hid (show ratN (-n) (-d) = n ∧ ratD (-n) (-d) = d by have := rat_scale (k := -1) HK1.out (by omega) (by omega) (by omega) (by omega) (by omega); rwa [show -1 * n = -n by omega, show -1 * d = -d by omega] at this)
    have b1 := mul_range n e 200 12 (by omega) (by omega) (by omega) (by omega)
    have b2 := mul_range m d 200 12 (by omega) (by omega) (by omega) (by omega)
    have b3 := mul_range f d 200 12 (by omega) (by omega) (by omega) (by omega)
    have b4 := mul_range (f + 1) d 201 12 (by omega) (by omega) (by omega) (by omega)
    have b5 := mul_range g d 200 12 (by omega) (by omega) (by omega) (by omega)
    have b6 := mul_range (g - 1) d 201 12 (by omega) (by omega) (by omega) (by omega)
    have w1 : IntKind.i64.wrap (f * d) = f * d := IntWalk.i64_in _ (by omega)
    have w2 : IntKind.i64.wrap (f + 1) = f + 1 := IntWalk.i64_in _ (by omega)
    have w3 : IntKind.i64.wrap ((f + 1) * d) = (f + 1) * d := IntWalk.i64_in _ (by omega)
    have w4 : IntKind.i64.wrap (g * d) = g * d := IntWalk.i64_in _ (by omega)
    have w5 : IntKind.i64.wrap (g - 1) = g - 1 := IntWalk.i64_in _ (by omega)
    have w6 : IntKind.i64.wrap ((g - 1) * d) = (g - 1) * d := IntWalk.i64_in _ (by omega)
    have w7 : IntKind.i64.wrap (3 * n) = 3 * n := IntWalk.i64_in _ (by omega)
    have w8 : IntKind.i64.wrap (3 * d) = 3 * d := IntWalk.i64_in _ (by omega)
    have w9 : IntKind.i64.wrap (-n) = -n := IntWalk.i64_in _ (by omega)
    have w10 : IntKind.i64.wrap (-d) = -d := IntWalk.i64_in _ (by omega)
    have w11 : IntKind.i64.wrap (-(-1)) = 1 := by decide
    have w12 : IntKind.i64.wrap (-1) = -1 := by decide
    have w13 : IntKind.i64.wrap (-0) = 0 := by decide
    have w14 : IntKind.i64.wrap 1 = 1 := by decide
    rcases ratF_of HK1.out HK2.out with ⟨R, hD⟩ | ⟨R, hD⟩ | ⟨R, hD⟩
    all_goals
      have R1 := Lib.hid R.1
      have R2 := Lib.hid R.2.1
      have R3 := Lib.hid R.2.2.1
      have R4 := Lib.hid R.2.2.2.1
      have R5 := Lib.hid R.2.2.2.2.1
      have R6 := Lib.hid R.2.2.2.2.2.1
      have R7 := Lib.hid R.2.2.2.2.2.2
      clear R
    all_goals as_aux_lemma =>
      go_wp2_with (first | (go_at_call 22; with_reducible refine (iRatioOk_lit HK1.out _ (by omega) (by omega)).mono ?_; rintro e w1 ⟨rfl, hb1⟩; have cc0 := cell_keep (p := ⟨wa.heap.size, 0, none⟩) (v := .int .i64 n) hb1 (by first | assumption | (go_keep; done) | (go_simp; done) | (simp; done)) (by first | omega | (simp <;> omega)); have cc1 := cell_keep (p := ⟨wa.heap.size, 1, none⟩) (v := .int .i64 d) hb1 (by first | assumption | (go_keep; done) | (go_simp; done) | (simp; done)) (by first | omega | (simp <;> omega)); have cc2 := cell_keep (p := ⟨wb.heap.size, 0, none⟩) (v := .int .i64 m) hb1 (by first | assumption | (go_keep; done) | (go_simp; done) | (simp; done)) (by first | omega | (simp <;> omega)); have cc3 := cell_keep (p := ⟨wb.heap.size, 1, none⟩) (v := .int .i64 e) hb1 (by first | assumption | (go_keep; done) | (go_simp; done) | (simp; done)) (by first | omega | (simp <;> omega)); have hS1 : Below w.heap.size w w1 := S_below hb1 (by repeat (first | exact Below.refl _ _ | assumption | refine below_drewN ?_ _ | refine Below.drew ?_ | refine Below.alloc ?_ (by first | omega | (simp <;> omega)) _ | refine Below.setCell ?_ (by first | omega | (simp <;> omega)) _)) (by first | omega | (simp <;> omega)); have hz1 : w.heap.size ≤ w1.heap.size := S_size hb1 (by first | omega | (simp <;> omega)); have hqb0 : wa.heap.size < w1.heap.size := S_lt hb1 (by first | omega | (simp <;> omega)); have hqb1 : wb.heap.size < w1.heap.size := S_lt hb1 (by first | omega | (simp <;> omega)); clear hb1) | (go_at_call 22; with_reducible refine (iRatioOk_lit HK2.out _ (by omega) (by omega)).mono ?_; rintro e w1 ⟨rfl, hb1⟩; have cc0 := cell_keep (p := ⟨wa.heap.size, 0, none⟩) (v := .int .i64 n) hb1 (by first | assumption | (go_keep; done) | (go_simp; done) | (simp; done)) (by first | omega | (simp <;> omega)); have cc1 := cell_keep (p := ⟨wa.heap.size, 1, none⟩) (v := .int .i64 d) hb1 (by first | assumption | (go_keep; done) | (go_simp; done) | (simp; done)) (by first | omega | (simp <;> omega)); have cc2 := cell_keep (p := ⟨wb.heap.size, 0, none⟩) (v := .int .i64 m) hb1 (by first | assumption | (go_keep; done) | (go_simp; done) | (simp; done)) (by first | omega | (simp <;> omega)); have cc3 := cell_keep (p := ⟨wb.heap.size, 1, none⟩) (v := .int .i64 e) hb1 (by first | assumption | (go_keep; done) | (go_simp; done) | (simp; done)) (by first | omega | (simp <;> omega)); have hS1 : Below w.heap.size w w1 := S_below hb1 (by repeat (first | exact Below.refl _ _ | assumption | refine below_drewN ?_ _ | refine Below.drew ?_ | refine Below.alloc ?_ (by first | omega | (simp <;> omega)) _ | refine Below.setCell ?_ (by first | omega | (simp <;> omega)) _)) (by first | omega | (simp <;> omega)); have hz1 : w.heap.size ≤ w1.heap.size := S_size hb1 (by first | omega | (simp <;> omega)); have hqb0 : wa.heap.size < w1.heap.size := S_lt hb1 (by first | omega | (simp <;> omega)); have hqb1 : wb.heap.size < w1.heap.size := S_lt hb1 (by first | omega | (simp <;> omega)); clear hb1) | (go_at_call 23; with_reducible refine (iRatioCmp_lit R1.out _ (by omega) (by omega) (by omega) (by omega)).mono ?_; rintro e w1 ⟨rfl, hb1⟩; have cc0 := cell_keep (p := ⟨wa.heap.size, 0, none⟩) (v := .int .i64 n) hb1 (by first | assumption | (go_keep; done) | (go_simp; done) | (simp; done)) (by first | omega | (simp <;> omega)); have cc1 := cell_keep (p := ⟨wa.heap.size, 1, none⟩) (v := .int .i64 d) hb1 (by first | assumption | (go_keep; done) | (go_simp; done) | (simp; done)) (by first | omega | (simp <;> omega)); have cc2 := cell_keep (p := ⟨wb.heap.size, 0, none⟩) (v := .int .i64 m) hb1 (by first | assumption | (go_keep; done) | (go_simp; done) | (simp; done)) (by first | omega | (simp <;> omega)); have cc3 := cell_keep (p := ⟨wb.heap.size, 1, none⟩) (v := .int .i64 e) hb1 (by first | assumption | (go_keep; done) | (go_simp; done) | (simp; done)) (by first | omega | (simp <;> omega)); have hS1 : Below w.heap.size w w1 := S_below hb1 (by repeat (first | exact Below.refl _ _ | assumption | refine below_drewN ?_ _ | refine Below.drew ?_ | refine Below.alloc ?_ (by first | omega | (simp <;> omega)) _ | refine Below.setCell ?_ (by first | omega | (simp <;> omega)) _)) (by first | omega | (simp <;> omega)); have hz1 : w.heap.size ≤ w1.heap.size := S_size hb1 (by first | omega | (simp <;> omega)); have hqb0 : wa.heap.size < w1.heap.size := S_lt hb1 (by first | omega | (simp <;> omega)); have hqb1 : wb.heap.size < w1.heap.size := S_lt hb1 (by first | omega | (simp <;> omega)); clear hb1))
      go_at_call 11; with_reducible refine (iFormatRatio_lit HS.out _ (HT.out.step (by repeat (first | exact Below.refl _ _ | assumption | refine below_drewN ?_ _ | refine Below.drew ?_ | refine Below.alloc ?_ (by first | omega | (simp <;> omega)) _ | refine Below.setCell ?_ (by first | omega | (simp <;> omega)) _))) (by omega) (by omega)).mono ?_
      rintro e_ wf ⟨rfl, hb1⟩
      have d0 := cell_keep (p := ⟨wa.heap.size, 0, none⟩) (v := .int .i64 n) hb1 (by first | assumption | (go_keep; done) | (go_simp; done) | (simp; done)) (by first | omega | (simp <;> omega))
      have d1 := cell_keep (p := ⟨wa.heap.size, 1, none⟩) (v := .int .i64 d) hb1 (by first | assumption | (go_keep; done) | (go_simp; done) | (simp; done)) (by first | omega | (simp <;> omega))
      have d2 := cell_keep (p := ⟨wb.heap.size, 0, none⟩) (v := .int .i64 m) hb1 (by first | assumption | (go_keep; done) | (go_simp; done) | (simp; done)) (by first | omega | (simp <;> omega))
      have d3 := cell_keep (p := ⟨wb.heap.size, 1, none⟩) (v := .int .i64 e) hb1 (by first | assumption | (go_keep; done) | (go_simp; done) | (simp; done)) (by first | omega | (simp <;> omega))
      have hSf : Below w.heap.size w wf := S_below hb1 (by repeat (first | exact Below.refl _ _ | assumption | refine below_drewN ?_ _ | refine Below.drew ?_ | refine Below.alloc ?_ (by first | omega | (simp <;> omega)) _ | refine Below.setCell ?_ (by first | omega | (simp <;> omega)) _)) (by first | omega | (simp <;> omega))
      have hzf := hSf.size
      have hqf1 : wa.heap.size < wf.heap.size := S_lt hb1 (by first | omega | (simp <;> omega))
      have hqf2 : wb.heap.size < wf.heap.size := S_lt hb1 (by first | omega | (simp <;> omega))
      clear hb1
      go_wp2_with fail
      go_at_call 16; with_reducible refine (iParseRatio_lit PV.out _ (HT.out.step (by repeat (first | exact Below.refl _ _ | assumption | refine below_drewN ?_ _ | refine Below.drew ?_ | refine Below.alloc ?_ (by first | omega | (simp <;> omega)) _ | refine Below.setCell ?_ (by first | omega | (simp <;> omega)) _))) (HE.out.step (by repeat (first | exact Below.refl _ _ | assumption | refine below_drewN ?_ _ | refine Below.drew ?_ | refine Below.alloc ?_ (by first | omega | (simp <;> omega)) _ | refine Below.setCell ?_ (by first | omega | (simp <;> omega)) _))) (by omega)).mono ?_
      rintro e wp ⟨rfl, hb1⟩
      simp only [PResR]
      have cc_wp0 := cell_keep (p := ⟨wa.heap.size, 0, none⟩) (v := .int .i64 n) hb1 (by first | assumption | (go_keep; done) | (go_simp; done) | (simp; done)) (by first | omega | (simp <;> omega))
      have cc_wp1 := cell_keep (p := ⟨wa.heap.size, 1, none⟩) (v := .int .i64 d) hb1 (by first | assumption | (go_keep; done) | (go_simp; done) | (simp; done)) (by first | omega | (simp <;> omega))
      have cc_wp2 := cell_keep (p := ⟨wb.heap.size, 0, none⟩) (v := .int .i64 m) hb1 (by first | assumption | (go_keep; done) | (go_simp; done) | (simp; done)) (by first | omega | (simp <;> omega))
      have cc_wp3 := cell_keep (p := ⟨wb.heap.size, 1, none⟩) (v := .int .i64 e) hb1 (by first | assumption | (go_keep; done) | (go_simp; done) | (simp; done)) (by first | omega | (simp <;> omega))
      have hS1_wp : Below w.heap.size w wp := S_below hb1 (by repeat (first | exact Below.refl _ _ | assumption | refine below_drewN ?_ _ | refine Below.drew ?_ | refine Below.alloc ?_ (by first | omega | (simp <;> omega)) _ | refine Below.setCell ?_ (by first | omega | (simp <;> omega)) _)) (by first | omega | (simp <;> omega))
      have hz1_wp : w.heap.size ≤ wp.heap.size := S_size hb1 (by first | omega | (simp <;> omega))
      have hqb_wp0 : wa.heap.size < wp.heap.size := S_lt hb1 (by first | omega | (simp <;> omega))
      have hqb_wp1 : wb.heap.size < wp.heap.size := S_lt hb1 (by first | omega | (simp <;> omega))
      clear hb1
      go_wp2_with fail
      go_at_call 24; with_reducible refine (iRatioFloor_lit HF.out _ (by omega) (by omega)).mono ?_
      rintro e wq ⟨rfl, hb1⟩
      have cc_wq0 := cell_keep (p := ⟨wa.heap.size, 0, none⟩) (v := .int .i64 n) hb1 (by first | assumption | (go_keep; done) | (go_simp; done) | (simp; done)) (by first | omega | (simp <;> omega))
      have cc_wq1 := cell_keep (p := ⟨wa.heap.size, 1, none⟩) (v := .int .i64 d) hb1 (by first | assumption | (go_keep; done) | (go_simp; done) | (simp; done)) (by first | omega | (simp <;> omega))
      have cc_wq2 := cell_keep (p := ⟨wb.heap.size, 0, none⟩) (v := .int .i64 m) hb1 (by first | assumption | (go_keep; done) | (go_simp; done) | (simp; done)) (by first | omega | (simp <;> omega))
      have cc_wq3 := cell_keep (p := ⟨wb.heap.size, 1, none⟩) (v := .int .i64 e) hb1 (by first | assumption | (go_keep; done) | (go_simp; done) | (simp; done)) (by first | omega | (simp <;> omega))
      have cc_wq4 := cell_keep (p := ⟨wp.heap.size, 0, none⟩) (v := .int .i64 n) hb1 (by first | assumption | (go_keep; done) | (go_simp; done) | (simp; done)) (by first | omega | (simp <;> omega))
      have cc_wq5 := cell_keep (p := ⟨wp.heap.size, 1, none⟩) (v := .int .i64 d) hb1 (by first | assumption | (go_keep; done) | (go_simp; done) | (simp; done)) (by first | omega | (simp <;> omega))
      have hS1_wq : Below w.heap.size w wq := S_below hb1 (by repeat (first | exact Below.refl _ _ | assumption | refine below_drewN ?_ _ | refine Below.drew ?_ | refine Below.alloc ?_ (by first | omega | (simp <;> omega)) _ | refine Below.setCell ?_ (by first | omega | (simp <;> omega)) _)) (by first | omega | (simp <;> omega))
      have hz1_wq : w.heap.size ≤ wq.heap.size := S_size hb1 (by first | omega | (simp <;> omega))
      have hqb_wq0 : wa.heap.size < wq.heap.size := S_lt hb1 (by first | omega | (simp <;> omega))
      have hqb_wq1 : wb.heap.size < wq.heap.size := S_lt hb1 (by first | omega | (simp <;> omega))
      have hqb_wq2 : wp.heap.size < wq.heap.size := S_lt hb1 (by first | omega | (simp <;> omega))
      clear hb1
      go_wp2_with fail
      go_at_call 25; with_reducible refine (iRatioCeil_lit HG.out _ (by omega) (by omega)).mono ?_
      rintro e wr ⟨rfl, hb1⟩
      have cc_wr0 := cell_keep (p := ⟨wa.heap.size, 0, none⟩) (v := .int .i64 n) hb1 (by first | assumption | (go_keep; done) | (go_simp; done) | (simp; done)) (by first | omega | (simp <;> omega))
      have cc_wr1 := cell_keep (p := ⟨wa.heap.size, 1, none⟩) (v := .int .i64 d) hb1 (by first | assumption | (go_keep; done) | (go_simp; done) | (simp; done)) (by first | omega | (simp <;> omega))
      have cc_wr2 := cell_keep (p := ⟨wb.heap.size, 0, none⟩) (v := .int .i64 m) hb1 (by first | assumption | (go_keep; done) | (go_simp; done) | (simp; done)) (by first | omega | (simp <;> omega))
      have cc_wr3 := cell_keep (p := ⟨wb.heap.size, 1, none⟩) (v := .int .i64 e) hb1 (by first | assumption | (go_keep; done) | (go_simp; done) | (simp; done)) (by first | omega | (simp <;> omega))
      have cc_wr4 := cell_keep (p := ⟨wp.heap.size, 0, none⟩) (v := .int .i64 n) hb1 (by first | assumption | (go_keep; done) | (go_simp; done) | (simp; done)) (by first | omega | (simp <;> omega))
      have cc_wr5 := cell_keep (p := ⟨wp.heap.size, 1, none⟩) (v := .int .i64 d) hb1 (by first | assumption | (go_keep; done) | (go_simp; done) | (simp; done)) (by first | omega | (simp <;> omega))
      have hS1_wr : Below w.heap.size w wr := S_below hb1 (by repeat (first | exact Below.refl _ _ | assumption | refine below_drewN ?_ _ | refine Below.drew ?_ | refine Below.alloc ?_ (by first | omega | (simp <;> omega)) _ | refine Below.setCell ?_ (by first | omega | (simp <;> omega)) _)) (by first | omega | (simp <;> omega))
      have hz1_wr : w.heap.size ≤ wr.heap.size := S_size hb1 (by first | omega | (simp <;> omega))
      have hqb_wr0 : wa.heap.size < wr.heap.size := S_lt hb1 (by first | omega | (simp <;> omega))
      have hqb_wr1 : wb.heap.size < wr.heap.size := S_lt hb1 (by first | omega | (simp <;> omega))
      have hqb_wr2 : wp.heap.size < wr.heap.size := S_lt hb1 (by first | omega | (simp <;> omega))
      clear hb1
      clear cc_wp0 cc_wp1 cc_wp2 cc_wp3 cc_wq0 cc_wq1 cc_wq2 cc_wq3 cc_wq4 cc_wq5 hS1_wp hS1_wq
      go_wp2_with fail
      generalize n * e - m * d = D at *
      try have hD2 : ¬ 0 < D := by omega
      try have hD3 : ¬ D < 0 := by omega
      try simp only [List.append_eq, List.cons_append, List.nil_append]
      refine wp_region_qb' (by kernel_rfl) (by kernel_rfl) (by kernel_rfl) (fun W_q hW_q => ?_)
      have kq0 : ∀ d_ os_, (Sort.grow (redrawn W_q d_) os_).cell? ⟨wa.heap.size, 0, none⟩ = some (.int .i64 n) := fun d_ os_ => cell_regrown (by rw [hW_q.out]; first | assumption | (go_keep; done) | (go_simp; done) | (simp; done)) d_ os_
      have kq1 : ∀ d_ os_, (Sort.grow (redrawn W_q d_) os_).cell? ⟨wa.heap.size, 1, none⟩ = some (.int .i64 d) := fun d_ os_ => cell_regrown (by rw [hW_q.out]; first | assumption | (go_keep; done) | (go_simp; done) | (simp; done)) d_ os_
      have kq2 : ∀ d_ os_, (Sort.grow (redrawn W_q d_) os_).cell? ⟨wb.heap.size, 0, none⟩ = some (.int .i64 m) := fun d_ os_ => cell_regrown (by rw [hW_q.out]; first | assumption | (go_keep; done) | (go_simp; done) | (simp; done)) d_ os_
      have kq3 : ∀ d_ os_, (Sort.grow (redrawn W_q d_) os_).cell? ⟨wb.heap.size, 1, none⟩ = some (.int .i64 e) := fun d_ os_ => cell_regrown (by rw [hW_q.out]; first | assumption | (go_keep; done) | (go_simp; done) | (simp; done)) d_ os_
      have kq4 : ∀ d_ os_, (Sort.grow (redrawn W_q d_) os_).cell? ⟨wp.heap.size, 0, none⟩ = some (.int .i64 n) := fun d_ os_ => cell_regrown (by rw [hW_q.out]; first | assumption | (go_keep; done) | (go_simp; done) | (simp; done)) d_ os_
      have kq5 : ∀ d_ os_, (Sort.grow (redrawn W_q d_) os_).cell? ⟨wp.heap.size, 1, none⟩ = some (.int .i64 d) := fun d_ os_ => cell_regrown (by rw [hW_q.out]; first | assumption | (go_keep; done) | (go_simp; done) | (simp; done)) d_ os_
      repeat (go_big_quiet_step (first | (go_at_call 23; with_reducible exact Calls.regrown_of (iRatioCmp_lit R2.out _ (by omega) (by omega) (by omega) (by omega))) | (go_at_call 23; with_reducible exact Calls.regrown_of (iRatioCmp_lit R7.out _ (by omega) (by omega) (by omega) (by omega))) | (go_at_call 26; with_reducible exact Calls.regrown_of (iRatioMin_lit R3.out R4.out _ (by omega) (by omega) (by omega) (by omega))) | (go_at_call 27; with_reducible exact Calls.regrown_of (iRatioMax_lit R5.out R6.out _ (by omega) (by omega) (by omega) (by omega))) | (go_at_call 28; with_reducible exact Calls.regrown_of (iRatioOf_lit HR3.out.1 HR3.out.2 _ (by omega) (by omega) (by omega) (by omega))) | (go_at_call 28; with_reducible exact Calls.regrown_of (iRatioOf_lit HR1.out.1 HR1.out.2 _ (by omega) (by omega) (by omega) (by omega)))))
      refine wpQuiet_nil ?_
      intro _ hw_q
      obtain ⟨⟨dq_, osq_⟩, hw_q⟩ := hw_q
      subst hw_q
      have hb1 := below_regrown W_q dq_ osq_
      clear kq0 kq1 kq2 kq3 kq4 kq5
      generalize Sort.grow (redrawn W_q dq_) osq_ = wi at *
      have hW_q := hW_q.out
      subst hW_q
      have cc_wi0 := cell_keep (p := ⟨wa.heap.size, 0, none⟩) (v := .int .i64 n) hb1 (by first | assumption | (go_keep; done) | (go_simp; done) | (simp; done)) (by first | omega | (simp <;> omega))
      have cc_wi1 := cell_keep (p := ⟨wa.heap.size, 1, none⟩) (v := .int .i64 d) hb1 (by first | assumption | (go_keep; done) | (go_simp; done) | (simp; done)) (by first | omega | (simp <;> omega))
      have cc_wi2 := cell_keep (p := ⟨wb.heap.size, 0, none⟩) (v := .int .i64 m) hb1 (by first | assumption | (go_keep; done) | (go_simp; done) | (simp; done)) (by first | omega | (simp <;> omega))
      have cc_wi3 := cell_keep (p := ⟨wb.heap.size, 1, none⟩) (v := .int .i64 e) hb1 (by first | assumption | (go_keep; done) | (go_simp; done) | (simp; done)) (by first | omega | (simp <;> omega))
      have cc_wi4 := cell_keep (p := ⟨wp.heap.size, 0, none⟩) (v := .int .i64 n) hb1 (by first | assumption | (go_keep; done) | (go_simp; done) | (simp; done)) (by first | omega | (simp <;> omega))
      have cc_wi5 := cell_keep (p := ⟨wp.heap.size, 1, none⟩) (v := .int .i64 d) hb1 (by first | assumption | (go_keep; done) | (go_simp; done) | (simp; done)) (by first | omega | (simp <;> omega))
      have hS1_wi : Below w.heap.size w wi := S_below hb1 (by repeat (first | exact Below.refl _ _ | assumption | refine below_drewN ?_ _ | refine Below.drew ?_ | refine Below.alloc ?_ (by first | omega | (simp <;> omega)) _ | refine Below.setCell ?_ (by first | omega | (simp <;> omega)) _)) (by first | omega | (simp <;> omega))
      have hz1_wi : w.heap.size ≤ wi.heap.size := S_size hb1 (by first | omega | (simp <;> omega))
      have hqb_wi0 : wa.heap.size < wi.heap.size := S_lt hb1 (by first | omega | (simp <;> omega))
      have hqb_wi1 : wb.heap.size < wi.heap.size := S_lt hb1 (by first | omega | (simp <;> omega))
      have hqb_wi2 : wp.heap.size < wi.heap.size := S_lt hb1 (by first | omega | (simp <;> omega))
      clear hb1
      go_wp2_with fail
      go_ret
      exact ⟨rfl, (by repeat (first | exact Below.refl _ _ | assumption | refine below_drewN ?_ _ | refine Below.drew ?_ | refine Below.alloc ?_ (by first | omega | (simp <;> omega)) _ | refine Below.setCell ?_ (by first | omega | (simp <;> omega)) _))⟩

end Go.Proofs.YtkmfejdmdiemaaaDoor
