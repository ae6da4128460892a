/- ParseSpot of the reference. -/
import Derived.Test.YtkmfejdmdiemaaaDoorPssI
import Derived.Test.YtkmfejdmdiemaaaDoorNew
namespace Go.Proofs.YtkmfejdmdiemaaaDoor
open Go.ChangeShapes Go.WideShapes Go.ChangeAt Go.RowKit
attribute [local go_sem ↓] Go.wp_at_zero Go.wp_at_succ
set_option linter.unusedVariables false

theorem sGcdOf_par {a b g : Int} (h : gcdV a b = g) (w : World) (h1 : -9223372036854775808 ≤ a) (h2 : a ≤ 9223372036854775807) (h3 : -9223372036854775808 ≤ b) (h4 : b ≤ 9223372036854775807) :
    Calls Tryd.prog 45 #[.int .i64 a, .int .i64 b] w fun e w' => e = .returned (.int .i64 g) ∧ Below w.heap.size w w' := by
  subst h; exact (sGcdOf_any a b w h1 h2 h3 h4).mono fun e w' ⟨he, n, hw⟩ => ⟨he, by subst hw; exact below_drewN (Below.refl _ _) n⟩

theorem sSpotOf_ok {x y d : Int} (h : spotOkV x y d = true) (w : World) :
    Calls Tryd.prog 47 #[.int .i64 x, .int .i64 y, .int .i64 d] w fun e w' => e = .returned (.tuple #[.agg #[.int .i64 x, .int .i64 y, .int .i64 d], .bool true]) ∧ Below w.heap.size w w' := by
  obtain ⟨⟨d1, d2⟩, ⟨x1, x2⟩, y1, y2⟩ := spotOkV_bounds h
  obtain ⟨e0, e1, e2, e3⟩ := spOf_ok h
  have := sSpotOf_lit e0 w (by omega) (by omega) (by omega) (by omega) (by omega) (by omega)
  rw [e1, e2, e3] at this
  exact this

set_option maxHeartbeats 1000000 in
set_option maxRecDepth 100000 in
theorem sPS_len {s a b : ByteArray} {X p Y q g p' q' : Int} {ls : List ByteArray} (hls : pcsB s ⟨#[44]⟩ = ls) (h2 : ls.length ≠ 2) (hl2 : ls.length ≤ 1048577) (w : World) (hs : s.size ≤ 1048576) (has : a.size ≤ 1048576) (hbs : b.size ≤ 1048576) :
    Calls Tryd.prog 18 #[.string s] w fun e w' => e = .returned (.tuple #[.agg #[.int .i64 0, .int .i64 0, .int .i64 0], .bool false]) ∧ Below w.heap.size w w' := by
  have HLS := Lib.hid hls; clear hls
  go_enter Tryd.func18, Tryd.ntmps18
  go_wp2_with fail
  go_at_call 41; with_reducible refine (sSplitAny_lit HLS.out _ (by omega) (by decide)).mono ?_
  rintro e wa ⟨g0, c0, rfl, hO0, hg0, hb1⟩
  clear hO0
  have cc_wa0 := cell_keep (p := ⟨w.heap.size, 0, none⟩) (v := .int .i64 0) hb1 (by first | assumption | (go_keep; done) | (go_simp; done) | (simp; done)) (by first | omega | (simp <;> omega))
  have cc_wa1 := cell_keep (p := ⟨w.heap.size, 1, none⟩) (v := .int .i64 0) hb1 (by first | assumption | (go_keep; done) | (go_simp; done) | (simp; done)) (by first | omega | (simp <;> omega))
  have cc_wa2 := cell_keep (p := ⟨w.heap.size, 2, none⟩) (v := .int .i64 0) hb1 (by first | assumption | (go_keep; done) | (go_simp; done) | (simp; done)) (by first | omega | (simp <;> omega))
  have cf_wa0 := frozen_keep (p := ⟨w.heap.size, 0, none⟩) hb1 (by first | assumption | (go_keep; done) | (go_simp; done) | (simp; done)) (by first | omega | (simp <;> omega))
  have cf_wa1 := frozen_keep (p := ⟨w.heap.size, 1, none⟩) hb1 (by first | assumption | (go_keep; done) | (go_simp; done) | (simp; done)) (by first | omega | (simp <;> omega))
  have cf_wa2 := frozen_keep (p := ⟨w.heap.size, 2, none⟩) hb1 (by first | assumption | (go_keep; done) | (go_simp; done) | (simp; done)) (by first | omega | (simp <;> omega))
  have hS1_wa : Below w.heap.size w wa := S_below hb1 (by repeat (first | exact Below.refl _ _ | assumption | refine below_drewN ?_ _ | refine Below.drew ?_ | refine Below.alloc ?_ (by first | omega | (simp <;> omega)) _ | refine Below.setCell ?_ (by first | omega | (simp <;> omega)) _)) (by first | omega | (simp <;> omega))
  have hz1_wa : w.heap.size + 1 ≤ wa.heap.size := S_size hb1 (by first | omega | (simp <;> omega))
  have hqb_wa0 : w.heap.size < wa.heap.size := S_lt hb1 (by first | omega | (simp <;> omega))
  clear hb1
  generalize ls.length = m at *
  go_wp2_with fail
  exact bodyPost_ret (v := .tuple #[.agg #[.int .i64 0, .int .i64 0, .int .i64 0], .bool false]) (by simp [results, Tryd.results18, go_sem, set_0 cc_wa0, set2_1 cc_wa1, set3_2 cc_wa2]) rfl ⟨rfl, (by repeat (first | exact Below.refl _ _ | assumption | refine below_drewN ?_ _ | refine Below.drew ?_ | refine Below.alloc ?_ (by first | omega | (simp <;> omega)) _ | refine Below.setCell ?_ (by first | omega | (simp <;> omega)) _))⟩

set_option maxHeartbeats 1000000 in
set_option maxRecDepth 100000 in
theorem sPS_NN {s a b : ByteArray} {X p Y q g p' q' : Int} {ls : List ByteArray} (hls : pcsB s ⟨#[44]⟩ = ls) (h0 : ls[0]? = some a) (h1 : ls[1]? = some b) (hl : ls.length = 2) (hpa : prV a = none) (hpb : prV b = none) (w : World) (hs : s.size ≤ 1048576) (has : a.size ≤ 1048576) (hbs : b.size ≤ 1048576) :
    Calls Tryd.prog 18 #[.string s] w fun e w' => e = .returned (.tuple #[.agg #[.int .i64 0, .int .i64 0, .int .i64 0], .bool false]) ∧ Below w.heap.size w w' := by
  have HLS := Lib.hid hls; clear hls
  have H0 := Lib.hid h0; clear h0
  have H1 := Lib.hid h1; clear h1
  have HP := Lib.hid hpa; clear hpa
  have HQ := Lib.hid hpb; clear hpb
  go_enter Tryd.func18, Tryd.ntmps18
  go_wp2_with fail
  go_at_call 41; with_reducible refine (sSplitAny_lit HLS.out _ (by omega) (by decide)).mono ?_
  rintro e wa ⟨g0, c0, rfl, hO0, hg0, hb1⟩
  obtain ⟨cA, hga⟩ := own_cell hO0 H0.out
  obtain ⟨cB, _⟩ := own_cell hO0 H1.out
  clear hO0
  have cc_wa0 := cell_keep (p := ⟨w.heap.size, 0, none⟩) (v := .int .i64 0) hb1 (by first | assumption | (go_keep; done) | (go_simp; done) | (simp; done)) (by first | omega | (simp <;> omega))
  have cc_wa1 := cell_keep (p := ⟨w.heap.size, 1, none⟩) (v := .int .i64 0) hb1 (by first | assumption | (go_keep; done) | (go_simp; done) | (simp; done)) (by first | omega | (simp <;> omega))
  have cc_wa2 := cell_keep (p := ⟨w.heap.size, 2, none⟩) (v := .int .i64 0) hb1 (by first | assumption | (go_keep; done) | (go_simp; done) | (simp; done)) (by first | omega | (simp <;> omega))
  have cf_wa0 := frozen_keep (p := ⟨w.heap.size, 0, none⟩) hb1 (by first | assumption | (go_keep; done) | (go_simp; done) | (simp; done)) (by first | omega | (simp <;> omega))
  have cf_wa1 := frozen_keep (p := ⟨w.heap.size, 1, none⟩) hb1 (by first | assumption | (go_keep; done) | (go_simp; done) | (simp; done)) (by first | omega | (simp <;> omega))
  have cf_wa2 := frozen_keep (p := ⟨w.heap.size, 2, none⟩) hb1 (by first | assumption | (go_keep; done) | (go_simp; done) | (simp; done)) (by first | omega | (simp <;> omega))
  have hS1_wa : Below w.heap.size w wa := S_below hb1 (by repeat (first | exact Below.refl _ _ | assumption | refine below_drewN ?_ _ | refine Below.drew ?_ | refine Below.alloc ?_ (by first | omega | (simp <;> omega)) _ | refine Below.setCell ?_ (by first | omega | (simp <;> omega)) _)) (by first | omega | (simp <;> omega))
  have hz1_wa : w.heap.size + 1 ≤ wa.heap.size := S_size hb1 (by first | omega | (simp <;> omega))
  have hqb_wa0 : w.heap.size < wa.heap.size := S_lt hb1 (by first | omega | (simp <;> omega))
  clear hb1
  generalize ls.length = m at *
  subst hl
  go_wp2_with fail
  go_at_call 15; with_reducible refine (sParseRatio_lit HP.out _ (by omega)).mono ?_
  rintro e wb ⟨rfl, hb1⟩
  simp only [PResR]
  have cc_wb0 := cell_keep (p := ⟨w.heap.size, 0, none⟩) (v := .int .i64 0) hb1 (by first | assumption | (go_keep; done) | (go_simp; done) | (simp; done)) (by first | omega | (simp <;> omega))
  have cc_wb1 := cell_keep (p := ⟨w.heap.size, 1, none⟩) (v := .int .i64 0) hb1 (by first | assumption | (go_keep; done) | (go_simp; done) | (simp; done)) (by first | omega | (simp <;> omega))
  have cc_wb2 := cell_keep (p := ⟨w.heap.size, 2, none⟩) (v := .int .i64 0) hb1 (by first | assumption | (go_keep; done) | (go_simp; done) | (simp; done)) (by first | omega | (simp <;> omega))
  have cc_wb3 := cell_keep (p := ⟨g0, 0, none⟩) (v := .string a) hb1 (by first | assumption | (go_keep; done) | (go_simp; done) | (simp; done)) (by first | omega | (simp <;> omega))
  have cc_wb4 := cell_keep (p := ⟨g0, 1, none⟩) (v := .string b) hb1 (by first | assumption | (go_keep; done) | (go_simp; done) | (simp; done)) (by first | omega | (simp <;> omega))
  have cf_wb0 := frozen_keep (p := ⟨w.heap.size, 0, none⟩) hb1 (by first | assumption | (go_keep; done) | (go_simp; done) | (simp; done)) (by first | omega | (simp <;> omega))
  have cf_wb1 := frozen_keep (p := ⟨w.heap.size, 1, none⟩) hb1 (by first | assumption | (go_keep; done) | (go_simp; done) | (simp; done)) (by first | omega | (simp <;> omega))
  have cf_wb2 := frozen_keep (p := ⟨w.heap.size, 2, none⟩) hb1 (by first | assumption | (go_keep; done) | (go_simp; done) | (simp; done)) (by first | omega | (simp <;> omega))
  have hS1_wb : Below w.heap.size w wb := S_below hb1 (by repeat (first | exact Below.refl _ _ | assumption | refine below_drewN ?_ _ | refine Below.drew ?_ | refine Below.alloc ?_ (by first | omega | (simp <;> omega)) _ | refine Below.setCell ?_ (by first | omega | (simp <;> omega)) _)) (by first | omega | (simp <;> omega))
  have hz1_wb : w.heap.size + 1 ≤ wb.heap.size := S_size hb1 (by first | omega | (simp <;> omega))
  have hqb_wb0 : w.heap.size < wb.heap.size := S_lt hb1 (by first | omega | (simp <;> omega))
  have hqb_wb1 : g0 < wb.heap.size := S_lt hb1 (by first | omega | (simp <;> omega))
  clear hb1
  go_wp2_with fail
  go_at_call 15; with_reducible refine (sParseRatio_lit HQ.out _ (by omega)).mono ?_
  rintro e wc ⟨rfl, hb1⟩
  simp only [PResR]
  have cc_wc0 := cell_keep (p := ⟨w.heap.size, 0, none⟩) (v := .int .i64 0) hb1 (by first | assumption | (go_keep; done) | (go_simp; done) | (simp; done)) (by first | omega | (simp <;> omega))
  have cc_wc1 := cell_keep (p := ⟨w.heap.size, 1, none⟩) (v := .int .i64 0) hb1 (by first | assumption | (go_keep; done) | (go_simp; done) | (simp; done)) (by first | omega | (simp <;> omega))
  have cc_wc2 := cell_keep (p := ⟨w.heap.size, 2, none⟩) (v := .int .i64 0) hb1 (by first | assumption | (go_keep; done) | (go_simp; done) | (simp; done)) (by first | omega | (simp <;> omega))
  have cc_wc3 := cell_keep (p := ⟨wb.heap.size, 0, none⟩) (v := .int .i64 0) hb1 (by first | assumption | (go_keep; done) | (go_simp; done) | (simp; done)) (by first | omega | (simp <;> omega))
  have cc_wc4 := cell_keep (p := ⟨wb.heap.size, 1, none⟩) (v := .int .i64 0) hb1 (by first | assumption | (go_keep; done) | (go_simp; done) | (simp; done)) (by first | omega | (simp <;> omega))
  have cf_wc0 := frozen_keep (p := ⟨w.heap.size, 0, none⟩) hb1 (by first | assumption | (go_keep; done) | (go_simp; done) | (simp; done)) (by first | omega | (simp <;> omega))
  have cf_wc1 := frozen_keep (p := ⟨w.heap.size, 1, none⟩) hb1 (by first | assumption | (go_keep; done) | (go_simp; done) | (simp; done)) (by first | omega | (simp <;> omega))
  have cf_wc2 := frozen_keep (p := ⟨w.heap.size, 2, none⟩) hb1 (by first | assumption | (go_keep; done) | (go_simp; done) | (simp; done)) (by first | omega | (simp <;> omega))
  have hS1_wc : Below w.heap.size w wc := S_below hb1 (by repeat (first | exact Below.refl _ _ | assumption | refine below_drewN ?_ _ | refine Below.drew ?_ | refine Below.alloc ?_ (by first | omega | (simp <;> omega)) _ | refine Below.setCell ?_ (by first | omega | (simp <;> omega)) _)) (by first | omega | (simp <;> omega))
  have hz1_wc : w.heap.size + 1 ≤ wc.heap.size := S_size hb1 (by first | omega | (simp <;> omega))
  have hqb_wc0 : w.heap.size < wc.heap.size := S_lt hb1 (by first | omega | (simp <;> omega))
  have hqb_wc1 : wb.heap.size < wc.heap.size := S_lt hb1 (by first | omega | (simp <;> omega))
  clear hb1
  go_wp2_with fail
  exact bodyPost_ret (v := .tuple #[.agg #[.int .i64 0, .int .i64 0, .int .i64 0], .bool false]) (by simp [results, Tryd.results18, go_sem, s3a_0 cc_wc0, s3a_1 cc_wc1, s3a_2 cc_wc2]) rfl ⟨rfl, (by repeat (first | exact Below.refl _ _ | assumption | refine below_drewN ?_ _ | refine Below.drew ?_ | refine Below.alloc ?_ (by first | omega | (simp <;> omega)) _ | refine Below.setCell ?_ (by first | omega | (simp <;> omega)) _))⟩

set_option maxHeartbeats 1000000 in
set_option maxRecDepth 100000 in
theorem sPS_NS {s a b : ByteArray} {X p Y q g p' q' : Int} {ls : List ByteArray} (hls : pcsB s ⟨#[44]⟩ = ls) (h0 : ls[0]? = some a) (h1 : ls[1]? = some b) (hl : ls.length = 2) (hpa : prV a = none) (hpb : prV b = some (Y, q)) (w : World) (hs : s.size ≤ 1048576) (has : a.size ≤ 1048576) (hbs : b.size ≤ 1048576) :
    Calls Tryd.prog 18 #[.string s] w fun e w' => e = .returned (.tuple #[.agg #[.int .i64 0, .int .i64 0, .int .i64 0], .bool false]) ∧ Below w.heap.size w w' := by
  have HLS := Lib.hid hls; clear hls
  have H0 := Lib.hid h0; clear h0
  have H1 := Lib.hid h1; clear h1
  have HP := Lib.hid hpa; clear hpa
  obtain ⟨⟨q1, q2⟩, y1, y2⟩ := ratioOkV_bounds (prV_some hpb).1
  have HQ := Lib.hid hpb; clear hpb
  go_enter Tryd.func18, Tryd.ntmps18
  go_wp2_with fail
  go_at_call 41; with_reducible refine (sSplitAny_lit HLS.out _ (by omega) (by decide)).mono ?_
  rintro e wa ⟨g0, c0, rfl, hO0, hg0, hb1⟩
  obtain ⟨cA, hga⟩ := own_cell hO0 H0.out
  obtain ⟨cB, _⟩ := own_cell hO0 H1.out
  clear hO0
  have cc_wa0 := cell_keep (p := ⟨w.heap.size, 0, none⟩) (v := .int .i64 0) hb1 (by first | assumption | (go_keep; done) | (go_simp; done) | (simp; done)) (by first | omega | (simp <;> omega))
  have cc_wa1 := cell_keep (p := ⟨w.heap.size, 1, none⟩) (v := .int .i64 0) hb1 (by first | assumption | (go_keep; done) | (go_simp; done) | (simp; done)) (by first | omega | (simp <;> omega))
  have cc_wa2 := cell_keep (p := ⟨w.heap.size, 2, none⟩) (v := .int .i64 0) hb1 (by first | assumption | (go_keep; done) | (go_simp; done) | (simp; done)) (by first | omega | (simp <;> omega))
  have cf_wa0 := frozen_keep (p := ⟨w.heap.size, 0, none⟩) hb1 (by first | assumption | (go_keep; done) | (go_simp; done) | (simp; done)) (by first | omega | (simp <;> omega))
  have cf_wa1 := frozen_keep (p := ⟨w.heap.size, 1, none⟩) hb1 (by first | assumption | (go_keep; done) | (go_simp; done) | (simp; done)) (by first | omega | (simp <;> omega))
  have cf_wa2 := frozen_keep (p := ⟨w.heap.size, 2, none⟩) hb1 (by first | assumption | (go_keep; done) | (go_simp; done) | (simp; done)) (by first | omega | (simp <;> omega))
  have hS1_wa : Below w.heap.size w wa := S_below hb1 (by repeat (first | exact Below.refl _ _ | assumption | refine below_drewN ?_ _ | refine Below.drew ?_ | refine Below.alloc ?_ (by first | omega | (simp <;> omega)) _ | refine Below.setCell ?_ (by first | omega | (simp <;> omega)) _)) (by first | omega | (simp <;> omega))
  have hz1_wa : w.heap.size + 1 ≤ wa.heap.size := S_size hb1 (by first | omega | (simp <;> omega))
  have hqb_wa0 : w.heap.size < wa.heap.size := S_lt hb1 (by first | omega | (simp <;> omega))
  clear hb1
  generalize ls.length = m at *
  subst hl
  go_wp2_with fail
  go_at_call 15; with_reducible refine (sParseRatio_lit HP.out _ (by omega)).mono ?_
  rintro e wb ⟨rfl, hb1⟩
  simp only [PResR]
  have cc_wb0 := cell_keep (p := ⟨w.heap.size, 0, none⟩) (v := .int .i64 0) hb1 (by first | assumption | (go_keep; done) | (go_simp; done) | (simp; done)) (by first | omega | (simp <;> omega))
  have cc_wb1 := cell_keep (p := ⟨w.heap.size, 1, none⟩) (v := .int .i64 0) hb1 (by first | assumption | (go_keep; done) | (go_simp; done) | (simp; done)) (by first | omega | (simp <;> omega))
  have cc_wb2 := cell_keep (p := ⟨w.heap.size, 2, none⟩) (v := .int .i64 0) hb1 (by first | assumption | (go_keep; done) | (go_simp; done) | (simp; done)) (by first | omega | (simp <;> omega))
  have cc_wb3 := cell_keep (p := ⟨g0, 0, none⟩) (v := .string a) hb1 (by first | assumption | (go_keep; done) | (go_simp; done) | (simp; done)) (by first | omega | (simp <;> omega))
  have cc_wb4 := cell_keep (p := ⟨g0, 1, none⟩) (v := .string b) hb1 (by first | assumption | (go_keep; done) | (go_simp; done) | (simp; done)) (by first | omega | (simp <;> omega))
  have cf_wb0 := frozen_keep (p := ⟨w.heap.size, 0, none⟩) hb1 (by first | assumption | (go_keep; done) | (go_simp; done) | (simp; done)) (by first | omega | (simp <;> omega))
  have cf_wb1 := frozen_keep (p := ⟨w.heap.size, 1, none⟩) hb1 (by first | assumption | (go_keep; done) | (go_simp; done) | (simp; done)) (by first | omega | (simp <;> omega))
  have cf_wb2 := frozen_keep (p := ⟨w.heap.size, 2, none⟩) hb1 (by first | assumption | (go_keep; done) | (go_simp; done) | (simp; done)) (by first | omega | (simp <;> omega))
  have hS1_wb : Below w.heap.size w wb := S_below hb1 (by repeat (first | exact Below.refl _ _ | assumption | refine below_drewN ?_ _ | refine Below.drew ?_ | refine Below.alloc ?_ (by first | omega | (simp <;> omega)) _ | refine Below.setCell ?_ (by first | omega | (simp <;> omega)) _)) (by first | omega | (simp <;> omega))
  have hz1_wb : w.heap.size + 1 ≤ wb.heap.size := S_size hb1 (by first | omega | (simp <;> omega))
  have hqb_wb0 : w.heap.size < wb.heap.size := S_lt hb1 (by first | omega | (simp <;> omega))
  have hqb_wb1 : g0 < wb.heap.size := S_lt hb1 (by first | omega | (simp <;> omega))
  clear hb1
  go_wp2_with fail
  go_at_call 15; with_reducible refine (sParseRatio_lit HQ.out _ (by omega)).mono ?_
  rintro e wc ⟨rfl, hb1⟩
  simp only [PResR]
  have cc_wc0 := cell_keep (p := ⟨w.heap.size, 0, none⟩) (v := .int .i64 0) hb1 (by first | assumption | (go_keep; done) | (go_simp; done) | (simp; done)) (by first | omega | (simp <;> omega))
  have cc_wc1 := cell_keep (p := ⟨w.heap.size, 1, none⟩) (v := .int .i64 0) hb1 (by first | assumption | (go_keep; done) | (go_simp; done) | (simp; done)) (by first | omega | (simp <;> omega))
  have cc_wc2 := cell_keep (p := ⟨w.heap.size, 2, none⟩) (v := .int .i64 0) hb1 (by first | assumption | (go_keep; done) | (go_simp; done) | (simp; done)) (by first | omega | (simp <;> omega))
  have cc_wc3 := cell_keep (p := ⟨wb.heap.size, 0, none⟩) (v := .int .i64 0) hb1 (by first | assumption | (go_keep; done) | (go_simp; done) | (simp; done)) (by first | omega | (simp <;> omega))
  have cc_wc4 := cell_keep (p := ⟨wb.heap.size, 1, none⟩) (v := .int .i64 0) hb1 (by first | assumption | (go_keep; done) | (go_simp; done) | (simp; done)) (by first | omega | (simp <;> omega))
  have cf_wc0 := frozen_keep (p := ⟨w.heap.size, 0, none⟩) hb1 (by first | assumption | (go_keep; done) | (go_simp; done) | (simp; done)) (by first | omega | (simp <;> omega))
  have cf_wc1 := frozen_keep (p := ⟨w.heap.size, 1, none⟩) hb1 (by first | assumption | (go_keep; done) | (go_simp; done) | (simp; done)) (by first | omega | (simp <;> omega))
  have cf_wc2 := frozen_keep (p := ⟨w.heap.size, 2, none⟩) hb1 (by first | assumption | (go_keep; done) | (go_simp; done) | (simp; done)) (by first | omega | (simp <;> omega))
  have hS1_wc : Below w.heap.size w wc := S_below hb1 (by repeat (first | exact Below.refl _ _ | assumption | refine below_drewN ?_ _ | refine Below.drew ?_ | refine Below.alloc ?_ (by first | omega | (simp <;> omega)) _ | refine Below.setCell ?_ (by first | omega | (simp <;> omega)) _)) (by first | omega | (simp <;> omega))
  have hz1_wc : w.heap.size + 1 ≤ wc.heap.size := S_size hb1 (by first | omega | (simp <;> omega))
  have hqb_wc0 : w.heap.size < wc.heap.size := S_lt hb1 (by first | omega | (simp <;> omega))
  have hqb_wc1 : wb.heap.size < wc.heap.size := S_lt hb1 (by first | omega | (simp <;> omega))
  clear hb1
  go_wp2_with fail
  exact bodyPost_ret (v := .tuple #[.agg #[.int .i64 0, .int .i64 0, .int .i64 0], .bool false]) (by simp [results, Tryd.results18, go_sem, s3a_0 cc_wc0, s3a_1 cc_wc1, s3a_2 cc_wc2]) rfl ⟨rfl, (by repeat (first | exact Below.refl _ _ | assumption | refine below_drewN ?_ _ | refine Below.drew ?_ | refine Below.alloc ?_ (by first | omega | (simp <;> omega)) _ | refine Below.setCell ?_ (by first | omega | (simp <;> omega)) _))⟩

set_option maxHeartbeats 1000000 in
set_option maxRecDepth 100000 in
theorem sPS_SN {s a b : ByteArray} {X p Y q g p' q' : Int} {ls : List ByteArray} (hls : pcsB s ⟨#[44]⟩ = ls) (h0 : ls[0]? = some a) (h1 : ls[1]? = some b) (hl : ls.length = 2) (hpa : prV a = some (X, p)) (hpb : prV b = none) (w : World) (hs : s.size ≤ 1048576) (has : a.size ≤ 1048576) (hbs : b.size ≤ 1048576) :
    Calls Tryd.prog 18 #[.string s] w fun e w' => e = .returned (.tuple #[.agg #[.int .i64 0, .int .i64 0, .int .i64 0], .bool false]) ∧ Below w.heap.size w w' := by
  have HLS := Lib.hid hls; clear hls
  have H0 := Lib.hid h0; clear h0
  have H1 := Lib.hid h1; clear h1
  obtain ⟨⟨p1, p2⟩, x1, x2⟩ := ratioOkV_bounds (prV_some hpa).1
  have HP := Lib.hid hpa; clear hpa
  have HQ := Lib.hid hpb; clear hpb
  go_enter Tryd.func18, Tryd.ntmps18
  go_wp2_with fail
  go_at_call 41; with_reducible refine (sSplitAny_lit HLS.out _ (by omega) (by decide)).mono ?_
  rintro e wa ⟨g0, c0, rfl, hO0, hg0, hb1⟩
  obtain ⟨cA, hga⟩ := own_cell hO0 H0.out
  obtain ⟨cB, _⟩ := own_cell hO0 H1.out
  clear hO0
  have cc_wa0 := cell_keep (p := ⟨w.heap.size, 0, none⟩) (v := .int .i64 0) hb1 (by first | assumption | (go_keep; done) | (go_simp; done) | (simp; done)) (by first | omega | (simp <;> omega))
  have cc_wa1 := cell_keep (p := ⟨w.heap.size, 1, none⟩) (v := .int .i64 0) hb1 (by first | assumption | (go_keep; done) | (go_simp; done) | (simp; done)) (by first | omega | (simp <;> omega))
  have cc_wa2 := cell_keep (p := ⟨w.heap.size, 2, none⟩) (v := .int .i64 0) hb1 (by first | assumption | (go_keep; done) | (go_simp; done) | (simp; done)) (by first | omega | (simp <;> omega))
  have cf_wa0 := frozen_keep (p := ⟨w.heap.size, 0, none⟩) hb1 (by first | assumption | (go_keep; done) | (go_simp; done) | (simp; done)) (by first | omega | (simp <;> omega))
  have cf_wa1 := frozen_keep (p := ⟨w.heap.size, 1, none⟩) hb1 (by first | assumption | (go_keep; done) | (go_simp; done) | (simp; done)) (by first | omega | (simp <;> omega))
  have cf_wa2 := frozen_keep (p := ⟨w.heap.size, 2, none⟩) hb1 (by first | assumption | (go_keep; done) | (go_simp; done) | (simp; done)) (by first | omega | (simp <;> omega))
  have hS1_wa : Below w.heap.size w wa := S_below hb1 (by repeat (first | exact Below.refl _ _ | assumption | refine below_drewN ?_ _ | refine Below.drew ?_ | refine Below.alloc ?_ (by first | omega | (simp <;> omega)) _ | refine Below.setCell ?_ (by first | omega | (simp <;> omega)) _)) (by first | omega | (simp <;> omega))
  have hz1_wa : w.heap.size + 1 ≤ wa.heap.size := S_size hb1 (by first | omega | (simp <;> omega))
  have hqb_wa0 : w.heap.size < wa.heap.size := S_lt hb1 (by first | omega | (simp <;> omega))
  clear hb1
  generalize ls.length = m at *
  subst hl
  go_wp2_with fail
  go_at_call 15; with_reducible refine (sParseRatio_lit HP.out _ (by omega)).mono ?_
  rintro e wb ⟨rfl, hb1⟩
  simp only [PResR]
  have cc_wb0 := cell_keep (p := ⟨w.heap.size, 0, none⟩) (v := .int .i64 0) hb1 (by first | assumption | (go_keep; done) | (go_simp; done) | (simp; done)) (by first | omega | (simp <;> omega))
  have cc_wb1 := cell_keep (p := ⟨w.heap.size, 1, none⟩) (v := .int .i64 0) hb1 (by first | assumption | (go_keep; done) | (go_simp; done) | (simp; done)) (by first | omega | (simp <;> omega))
  have cc_wb2 := cell_keep (p := ⟨w.heap.size, 2, none⟩) (v := .int .i64 0) hb1 (by first | assumption | (go_keep; done) | (go_simp; done) | (simp; done)) (by first | omega | (simp <;> omega))
  have cc_wb3 := cell_keep (p := ⟨g0, 0, none⟩) (v := .string a) hb1 (by first | assumption | (go_keep; done) | (go_simp; done) | (simp; done)) (by first | omega | (simp <;> omega))
  have cc_wb4 := cell_keep (p := ⟨g0, 1, none⟩) (v := .string b) hb1 (by first | assumption | (go_keep; done) | (go_simp; done) | (simp; done)) (by first | omega | (simp <;> omega))
  have cf_wb0 := frozen_keep (p := ⟨w.heap.size, 0, none⟩) hb1 (by first | assumption | (go_keep; done) | (go_simp; done) | (simp; done)) (by first | omega | (simp <;> omega))
  have cf_wb1 := frozen_keep (p := ⟨w.heap.size, 1, none⟩) hb1 (by first | assumption | (go_keep; done) | (go_simp; done) | (simp; done)) (by first | omega | (simp <;> omega))
  have cf_wb2 := frozen_keep (p := ⟨w.heap.size, 2, none⟩) hb1 (by first | assumption | (go_keep; done) | (go_simp; done) | (simp; done)) (by first | omega | (simp <;> omega))
  have hS1_wb : Below w.heap.size w wb := S_below hb1 (by repeat (first | exact Below.refl _ _ | assumption | refine below_drewN ?_ _ | refine Below.drew ?_ | refine Below.alloc ?_ (by first | omega | (simp <;> omega)) _ | refine Below.setCell ?_ (by first | omega | (simp <;> omega)) _)) (by first | omega | (simp <;> omega))
  have hz1_wb : w.heap.size + 1 ≤ wb.heap.size := S_size hb1 (by first | omega | (simp <;> omega))
  have hqb_wb0 : w.heap.size < wb.heap.size := S_lt hb1 (by first | omega | (simp <;> omega))
  have hqb_wb1 : g0 < wb.heap.size := S_lt hb1 (by first | omega | (simp <;> omega))
  clear hb1
  go_wp2_with fail
  go_at_call 15; with_reducible refine (sParseRatio_lit HQ.out _ (by omega)).mono ?_
  rintro e wc ⟨rfl, hb1⟩
  simp only [PResR]
  have cc_wc0 := cell_keep (p := ⟨w.heap.size, 0, none⟩) (v := .int .i64 0) hb1 (by first | assumption | (go_keep; done) | (go_simp; done) | (simp; done)) (by first | omega | (simp <;> omega))
  have cc_wc1 := cell_keep (p := ⟨w.heap.size, 1, none⟩) (v := .int .i64 0) hb1 (by first | assumption | (go_keep; done) | (go_simp; done) | (simp; done)) (by first | omega | (simp <;> omega))
  have cc_wc2 := cell_keep (p := ⟨w.heap.size, 2, none⟩) (v := .int .i64 0) hb1 (by first | assumption | (go_keep; done) | (go_simp; done) | (simp; done)) (by first | omega | (simp <;> omega))
  have cc_wc3 := cell_keep (p := ⟨wb.heap.size, 0, none⟩) (v := .int .i64 X) hb1 (by first | assumption | (go_keep; done) | (go_simp; done) | (simp; done)) (by first | omega | (simp <;> omega))
  have cc_wc4 := cell_keep (p := ⟨wb.heap.size, 1, none⟩) (v := .int .i64 p) hb1 (by first | assumption | (go_keep; done) | (go_simp; done) | (simp; done)) (by first | omega | (simp <;> omega))
  have cf_wc0 := frozen_keep (p := ⟨w.heap.size, 0, none⟩) hb1 (by first | assumption | (go_keep; done) | (go_simp; done) | (simp; done)) (by first | omega | (simp <;> omega))
  have cf_wc1 := frozen_keep (p := ⟨w.heap.size, 1, none⟩) hb1 (by first | assumption | (go_keep; done) | (go_simp; done) | (simp; done)) (by first | omega | (simp <;> omega))
  have cf_wc2 := frozen_keep (p := ⟨w.heap.size, 2, none⟩) hb1 (by first | assumption | (go_keep; done) | (go_simp; done) | (simp; done)) (by first | omega | (simp <;> omega))
  have hS1_wc : Below w.heap.size w wc := S_below hb1 (by repeat (first | exact Below.refl _ _ | assumption | refine below_drewN ?_ _ | refine Below.drew ?_ | refine Below.alloc ?_ (by first | omega | (simp <;> omega)) _ | refine Below.setCell ?_ (by first | omega | (simp <;> omega)) _)) (by first | omega | (simp <;> omega))
  have hz1_wc : w.heap.size + 1 ≤ wc.heap.size := S_size hb1 (by first | omega | (simp <;> omega))
  have hqb_wc0 : w.heap.size < wc.heap.size := S_lt hb1 (by first | omega | (simp <;> omega))
  have hqb_wc1 : wb.heap.size < wc.heap.size := S_lt hb1 (by first | omega | (simp <;> omega))
  clear hb1
  go_wp2_with fail
  exact bodyPost_ret (v := .tuple #[.agg #[.int .i64 0, .int .i64 0, .int .i64 0], .bool false]) (by simp [results, Tryd.results18, go_sem, s3a_0 cc_wc0, s3a_1 cc_wc1, s3a_2 cc_wc2]) rfl ⟨rfl, (by repeat (first | exact Below.refl _ _ | assumption | refine below_drewN ?_ _ | refine Below.drew ?_ | refine Below.alloc ?_ (by first | omega | (simp <;> omega)) _ | refine Below.setCell ?_ (by first | omega | (simp <;> omega)) _))⟩

set_option maxHeartbeats 1000000 in
set_option maxRecDepth 100000 in
theorem sPS_p {s a b : ByteArray} {X p Y q g p' q' : Int} {ls : List ByteArray} (hls : pcsB s ⟨#[44]⟩ = ls) (h0 : ls[0]? = some a) (h1 : ls[1]? = some b) (hl : ls.length = 2) (hpa : prV a = some (X, p)) (hpb : prV b = some (Y, q)) (hp : 5000000000 < p) (w : World) (hs : s.size ≤ 1048576) (has : a.size ≤ 1048576) (hbs : b.size ≤ 1048576) :
    Calls Tryd.prog 18 #[.string s] w fun e w' => e = .returned (.tuple #[.agg #[.int .i64 0, .int .i64 0, .int .i64 0], .bool false]) ∧ Below w.heap.size w w' := by
  have HLS := Lib.hid hls; clear hls
  have H0 := Lib.hid h0; clear h0
  have H1 := Lib.hid h1; clear h1
  obtain ⟨⟨p1, p2⟩, x1, x2⟩ := ratioOkV_bounds (prV_some hpa).1
  have HP := Lib.hid hpa; clear hpa
  obtain ⟨⟨q1, q2⟩, y1, y2⟩ := ratioOkV_bounds (prV_some hpb).1
  have HQ := Lib.hid hpb; clear hpb
  go_enter Tryd.func18, Tryd.ntmps18
  go_wp2_with fail
  go_at_call 41; with_reducible refine (sSplitAny_lit HLS.out _ (by omega) (by decide)).mono ?_
  rintro e wa ⟨g0, c0, rfl, hO0, hg0, hb1⟩
  obtain ⟨cA, hga⟩ := own_cell hO0 H0.out
  obtain ⟨cB, _⟩ := own_cell hO0 H1.out
  clear hO0
  have cc_wa0 := cell_keep (p := ⟨w.heap.size, 0, none⟩) (v := .int .i64 0) hb1 (by first | assumption | (go_keep; done) | (go_simp; done) | (simp; done)) (by first | omega | (simp <;> omega))
  have cc_wa1 := cell_keep (p := ⟨w.heap.size, 1, none⟩) (v := .int .i64 0) hb1 (by first | assumption | (go_keep; done) | (go_simp; done) | (simp; done)) (by first | omega | (simp <;> omega))
  have cc_wa2 := cell_keep (p := ⟨w.heap.size, 2, none⟩) (v := .int .i64 0) hb1 (by first | assumption | (go_keep; done) | (go_simp; done) | (simp; done)) (by first | omega | (simp <;> omega))
  have cf_wa0 := frozen_keep (p := ⟨w.heap.size, 0, none⟩) hb1 (by first | assumption | (go_keep; done) | (go_simp; done) | (simp; done)) (by first | omega | (simp <;> omega))
  have cf_wa1 := frozen_keep (p := ⟨w.heap.size, 1, none⟩) hb1 (by first | assumption | (go_keep; done) | (go_simp; done) | (simp; done)) (by first | omega | (simp <;> omega))
  have cf_wa2 := frozen_keep (p := ⟨w.heap.size, 2, none⟩) hb1 (by first | assumption | (go_keep; done) | (go_simp; done) | (simp; done)) (by first | omega | (simp <;> omega))
  have hS1_wa : Below w.heap.size w wa := S_below hb1 (by repeat (first | exact Below.refl _ _ | assumption | refine below_drewN ?_ _ | refine Below.drew ?_ | refine Below.alloc ?_ (by first | omega | (simp <;> omega)) _ | refine Below.setCell ?_ (by first | omega | (simp <;> omega)) _)) (by first | omega | (simp <;> omega))
  have hz1_wa : w.heap.size + 1 ≤ wa.heap.size := S_size hb1 (by first | omega | (simp <;> omega))
  have hqb_wa0 : w.heap.size < wa.heap.size := S_lt hb1 (by first | omega | (simp <;> omega))
  clear hb1
  generalize ls.length = m at *
  subst hl
  go_wp2_with fail
  go_at_call 15; with_reducible refine (sParseRatio_lit HP.out _ (by omega)).mono ?_
  rintro e wb ⟨rfl, hb1⟩
  simp only [PResR]
  have cc_wb0 := cell_keep (p := ⟨w.heap.size, 0, none⟩) (v := .int .i64 0) hb1 (by first | assumption | (go_keep; done) | (go_simp; done) | (simp; done)) (by first | omega | (simp <;> omega))
  have cc_wb1 := cell_keep (p := ⟨w.heap.size, 1, none⟩) (v := .int .i64 0) hb1 (by first | assumption | (go_keep; done) | (go_simp; done) | (simp; done)) (by first | omega | (simp <;> omega))
  have cc_wb2 := cell_keep (p := ⟨w.heap.size, 2, none⟩) (v := .int .i64 0) hb1 (by first | assumption | (go_keep; done) | (go_simp; done) | (simp; done)) (by first | omega | (simp <;> omega))
  have cc_wb3 := cell_keep (p := ⟨g0, 0, none⟩) (v := .string a) hb1 (by first | assumption | (go_keep; done) | (go_simp; done) | (simp; done)) (by first | omega | (simp <;> omega))
  have cc_wb4 := cell_keep (p := ⟨g0, 1, none⟩) (v := .string b) hb1 (by first | assumption | (go_keep; done) | (go_simp; done) | (simp; done)) (by first | omega | (simp <;> omega))
  have cf_wb0 := frozen_keep (p := ⟨w.heap.size, 0, none⟩) hb1 (by first | assumption | (go_keep; done) | (go_simp; done) | (simp; done)) (by first | omega | (simp <;> omega))
  have cf_wb1 := frozen_keep (p := ⟨w.heap.size, 1, none⟩) hb1 (by first | assumption | (go_keep; done) | (go_simp; done) | (simp; done)) (by first | omega | (simp <;> omega))
  have cf_wb2 := frozen_keep (p := ⟨w.heap.size, 2, none⟩) hb1 (by first | assumption | (go_keep; done) | (go_simp; done) | (simp; done)) (by first | omega | (simp <;> omega))
  have hS1_wb : Below w.heap.size w wb := S_below hb1 (by repeat (first | exact Below.refl _ _ | assumption | refine below_drewN ?_ _ | refine Below.drew ?_ | refine Below.alloc ?_ (by first | omega | (simp <;> omega)) _ | refine Below.setCell ?_ (by first | omega | (simp <;> omega)) _)) (by first | omega | (simp <;> omega))
  have hz1_wb : w.heap.size + 1 ≤ wb.heap.size := S_size hb1 (by first | omega | (simp <;> omega))
  have hqb_wb0 : w.heap.size < wb.heap.size := S_lt hb1 (by first | omega | (simp <;> omega))
  have hqb_wb1 : g0 < wb.heap.size := S_lt hb1 (by first | omega | (simp <;> omega))
  clear hb1
  go_wp2_with fail
  go_at_call 15; with_reducible refine (sParseRatio_lit HQ.out _ (by omega)).mono ?_
  rintro e wc ⟨rfl, hb1⟩
  simp only [PResR]
  have cc_wc0 := cell_keep (p := ⟨w.heap.size, 0, none⟩) (v := .int .i64 0) hb1 (by first | assumption | (go_keep; done) | (go_simp; done) | (simp; done)) (by first | omega | (simp <;> omega))
  have cc_wc1 := cell_keep (p := ⟨w.heap.size, 1, none⟩) (v := .int .i64 0) hb1 (by first | assumption | (go_keep; done) | (go_simp; done) | (simp; done)) (by first | omega | (simp <;> omega))
  have cc_wc2 := cell_keep (p := ⟨w.heap.size, 2, none⟩) (v := .int .i64 0) hb1 (by first | assumption | (go_keep; done) | (go_simp; done) | (simp; done)) (by first | omega | (simp <;> omega))
  have cc_wc3 := cell_keep (p := ⟨wb.heap.size, 0, none⟩) (v := .int .i64 X) hb1 (by first | assumption | (go_keep; done) | (go_simp; done) | (simp; done)) (by first | omega | (simp <;> omega))
  have cc_wc4 := cell_keep (p := ⟨wb.heap.size, 1, none⟩) (v := .int .i64 p) hb1 (by first | assumption | (go_keep; done) | (go_simp; done) | (simp; done)) (by first | omega | (simp <;> omega))
  have cf_wc0 := frozen_keep (p := ⟨w.heap.size, 0, none⟩) hb1 (by first | assumption | (go_keep; done) | (go_simp; done) | (simp; done)) (by first | omega | (simp <;> omega))
  have cf_wc1 := frozen_keep (p := ⟨w.heap.size, 1, none⟩) hb1 (by first | assumption | (go_keep; done) | (go_simp; done) | (simp; done)) (by first | omega | (simp <;> omega))
  have cf_wc2 := frozen_keep (p := ⟨w.heap.size, 2, none⟩) hb1 (by first | assumption | (go_keep; done) | (go_simp; done) | (simp; done)) (by first | omega | (simp <;> omega))
  have hS1_wc : Below w.heap.size w wc := S_below hb1 (by repeat (first | exact Below.refl _ _ | assumption | refine below_drewN ?_ _ | refine Below.drew ?_ | refine Below.alloc ?_ (by first | omega | (simp <;> omega)) _ | refine Below.setCell ?_ (by first | omega | (simp <;> omega)) _)) (by first | omega | (simp <;> omega))
  have hz1_wc : w.heap.size + 1 ≤ wc.heap.size := S_size hb1 (by first | omega | (simp <;> omega))
  have hqb_wc0 : w.heap.size < wc.heap.size := S_lt hb1 (by first | omega | (simp <;> omega))
  have hqb_wc1 : wb.heap.size < wc.heap.size := S_lt hb1 (by first | omega | (simp <;> omega))
  clear hb1
  go_wp2_with fail
  exact bodyPost_ret (v := .tuple #[.agg #[.int .i64 0, .int .i64 0, .int .i64 0], .bool false]) (by simp [results, Tryd.results18, go_sem, s3a_0 cc_wc0, s3a_1 cc_wc1, s3a_2 cc_wc2]) rfl ⟨rfl, (by repeat (first | exact Below.refl _ _ | assumption | refine below_drewN ?_ _ | refine Below.drew ?_ | refine Below.alloc ?_ (by first | omega | (simp <;> omega)) _ | refine Below.setCell ?_ (by first | omega | (simp <;> omega)) _))⟩

set_option maxHeartbeats 1000000 in
set_option maxRecDepth 100000 in
theorem sPS_q {s a b : ByteArray} {X p Y q g p' q' : Int} {ls : List ByteArray} (hls : pcsB s ⟨#[44]⟩ = ls) (h0 : ls[0]? = some a) (h1 : ls[1]? = some b) (hl : ls.length = 2) (hpa : prV a = some (X, p)) (hpb : prV b = some (Y, q)) (hp : p ≤ 5000000000) (hq : 5000000000 < q) (w : World) (hs : s.size ≤ 1048576) (has : a.size ≤ 1048576) (hbs : b.size ≤ 1048576) :
    Calls Tryd.prog 18 #[.string s] w fun e w' => e = .returned (.tuple #[.agg #[.int .i64 0, .int .i64 0, .int .i64 0], .bool false]) ∧ Below w.heap.size w w' := by
  have HLS := Lib.hid hls; clear hls
  have H0 := Lib.hid h0; clear h0
  have H1 := Lib.hid h1; clear h1
  obtain ⟨⟨p1, p2⟩, x1, x2⟩ := ratioOkV_bounds (prV_some hpa).1
  have HP := Lib.hid hpa; clear hpa
  obtain ⟨⟨q1, q2⟩, y1, y2⟩ := ratioOkV_bounds (prV_some hpb).1
  have HQ := Lib.hid hpb; clear hpb
  go_enter Tryd.func18, Tryd.ntmps18
  go_wp2_with fail
  go_at_call 41; with_reducible refine (sSplitAny_lit HLS.out _ (by omega) (by decide)).mono ?_
  rintro e wa ⟨g0, c0, rfl, hO0, hg0, hb1⟩
  obtain ⟨cA, hga⟩ := own_cell hO0 H0.out
  obtain ⟨cB, _⟩ := own_cell hO0 H1.out
  clear hO0
  have cc_wa0 := cell_keep (p := ⟨w.heap.size, 0, none⟩) (v := .int .i64 0) hb1 (by first | assumption | (go_keep; done) | (go_simp; done) | (simp; done)) (by first | omega | (simp <;> omega))
  have cc_wa1 := cell_keep (p := ⟨w.heap.size, 1, none⟩) (v := .int .i64 0) hb1 (by first | assumption | (go_keep; done) | (go_simp; done) | (simp; done)) (by first | omega | (simp <;> omega))
  have cc_wa2 := cell_keep (p := ⟨w.heap.size, 2, none⟩) (v := .int .i64 0) hb1 (by first | assumption | (go_keep; done) | (go_simp; done) | (simp; done)) (by first | omega | (simp <;> omega))
  have cf_wa0 := frozen_keep (p := ⟨w.heap.size, 0, none⟩) hb1 (by first | assumption | (go_keep; done) | (go_simp; done) | (simp; done)) (by first | omega | (simp <;> omega))
  have cf_wa1 := frozen_keep (p := ⟨w.heap.size, 1, none⟩) hb1 (by first | assumption | (go_keep; done) | (go_simp; done) | (simp; done)) (by first | omega | (simp <;> omega))
  have cf_wa2 := frozen_keep (p := ⟨w.heap.size, 2, none⟩) hb1 (by first | assumption | (go_keep; done) | (go_simp; done) | (simp; done)) (by first | omega | (simp <;> omega))
  have hS1_wa : Below w.heap.size w wa := S_below hb1 (by repeat (first | exact Below.refl _ _ | assumption | refine below_drewN ?_ _ | refine Below.drew ?_ | refine Below.alloc ?_ (by first | omega | (simp <;> omega)) _ | refine Below.setCell ?_ (by first | omega | (simp <;> omega)) _)) (by first | omega | (simp <;> omega))
  have hz1_wa : w.heap.size + 1 ≤ wa.heap.size := S_size hb1 (by first | omega | (simp <;> omega))
  have hqb_wa0 : w.heap.size < wa.heap.size := S_lt hb1 (by first | omega | (simp <;> omega))
  clear hb1
  generalize ls.length = m at *
  subst hl
  go_wp2_with fail
  go_at_call 15; with_reducible refine (sParseRatio_lit HP.out _ (by omega)).mono ?_
  rintro e wb ⟨rfl, hb1⟩
  simp only [PResR]
  have cc_wb0 := cell_keep (p := ⟨w.heap.size, 0, none⟩) (v := .int .i64 0) hb1 (by first | assumption | (go_keep; done) | (go_simp; done) | (simp; done)) (by first | omega | (simp <;> omega))
  have cc_wb1 := cell_keep (p := ⟨w.heap.size, 1, none⟩) (v := .int .i64 0) hb1 (by first | assumption | (go_keep; done) | (go_simp; done) | (simp; done)) (by first | omega | (simp <;> omega))
  have cc_wb2 := cell_keep (p := ⟨w.heap.size, 2, none⟩) (v := .int .i64 0) hb1 (by first | assumption | (go_keep; done) | (go_simp; done) | (simp; done)) (by first | omega | (simp <;> omega))
  have cc_wb3 := cell_keep (p := ⟨g0, 0, none⟩) (v := .string a) hb1 (by first | assumption | (go_keep; done) | (go_simp; done) | (simp; done)) (by first | omega | (simp <;> omega))
  have cc_wb4 := cell_keep (p := ⟨g0, 1, none⟩) (v := .string b) hb1 (by first | assumption | (go_keep; done) | (go_simp; done) | (simp; done)) (by first | omega | (simp <;> omega))
  have cf_wb0 := frozen_keep (p := ⟨w.heap.size, 0, none⟩) hb1 (by first | assumption | (go_keep; done) | (go_simp; done) | (simp; done)) (by first | omega | (simp <;> omega))
  have cf_wb1 := frozen_keep (p := ⟨w.heap.size, 1, none⟩) hb1 (by first | assumption | (go_keep; done) | (go_simp; done) | (simp; done)) (by first | omega | (simp <;> omega))
  have cf_wb2 := frozen_keep (p := ⟨w.heap.size, 2, none⟩) hb1 (by first | assumption | (go_keep; done) | (go_simp; done) | (simp; done)) (by first | omega | (simp <;> omega))
  have hS1_wb : Below w.heap.size w wb := S_below hb1 (by repeat (first | exact Below.refl _ _ | assumption | refine below_drewN ?_ _ | refine Below.drew ?_ | refine Below.alloc ?_ (by first | omega | (simp <;> omega)) _ | refine Below.setCell ?_ (by first | omega | (simp <;> omega)) _)) (by first | omega | (simp <;> omega))
  have hz1_wb : w.heap.size + 1 ≤ wb.heap.size := S_size hb1 (by first | omega | (simp <;> omega))
  have hqb_wb0 : w.heap.size < wb.heap.size := S_lt hb1 (by first | omega | (simp <;> omega))
  have hqb_wb1 : g0 < wb.heap.size := S_lt hb1 (by first | omega | (simp <;> omega))
  clear hb1
  go_wp2_with fail
  go_at_call 15; with_reducible refine (sParseRatio_lit HQ.out _ (by omega)).mono ?_
  rintro e wc ⟨rfl, hb1⟩
  simp only [PResR]
  have cc_wc0 := cell_keep (p := ⟨w.heap.size, 0, none⟩) (v := .int .i64 0) hb1 (by first | assumption | (go_keep; done) | (go_simp; done) | (simp; done)) (by first | omega | (simp <;> omega))
  have cc_wc1 := cell_keep (p := ⟨w.heap.size, 1, none⟩) (v := .int .i64 0) hb1 (by first | assumption | (go_keep; done) | (go_simp; done) | (simp; done)) (by first | omega | (simp <;> omega))
  have cc_wc2 := cell_keep (p := ⟨w.heap.size, 2, none⟩) (v := .int .i64 0) hb1 (by first | assumption | (go_keep; done) | (go_simp; done) | (simp; done)) (by first | omega | (simp <;> omega))
  have cc_wc3 := cell_keep (p := ⟨wb.heap.size, 0, none⟩) (v := .int .i64 X) hb1 (by first | assumption | (go_keep; done) | (go_simp; done) | (simp; done)) (by first | omega | (simp <;> omega))
  have cc_wc4 := cell_keep (p := ⟨wb.heap.size, 1, none⟩) (v := .int .i64 p) hb1 (by first | assumption | (go_keep; done) | (go_simp; done) | (simp; done)) (by first | omega | (simp <;> omega))
  have cf_wc0 := frozen_keep (p := ⟨w.heap.size, 0, none⟩) hb1 (by first | assumption | (go_keep; done) | (go_simp; done) | (simp; done)) (by first | omega | (simp <;> omega))
  have cf_wc1 := frozen_keep (p := ⟨w.heap.size, 1, none⟩) hb1 (by first | assumption | (go_keep; done) | (go_simp; done) | (simp; done)) (by first | omega | (simp <;> omega))
  have cf_wc2 := frozen_keep (p := ⟨w.heap.size, 2, none⟩) hb1 (by first | assumption | (go_keep; done) | (go_simp; done) | (simp; done)) (by first | omega | (simp <;> omega))
  have hS1_wc : Below w.heap.size w wc := S_below hb1 (by repeat (first | exact Below.refl _ _ | assumption | refine below_drewN ?_ _ | refine Below.drew ?_ | refine Below.alloc ?_ (by first | omega | (simp <;> omega)) _ | refine Below.setCell ?_ (by first | omega | (simp <;> omega)) _)) (by first | omega | (simp <;> omega))
  have hz1_wc : w.heap.size + 1 ≤ wc.heap.size := S_size hb1 (by first | omega | (simp <;> omega))
  have hqb_wc0 : w.heap.size < wc.heap.size := S_lt hb1 (by first | omega | (simp <;> omega))
  have hqb_wc1 : wb.heap.size < wc.heap.size := S_lt hb1 (by first | omega | (simp <;> omega))
  clear hb1
  go_wp2_with fail
  exact bodyPost_ret (v := .tuple #[.agg #[.int .i64 0, .int .i64 0, .int .i64 0], .bool false]) (by simp [results, Tryd.results18, go_sem, s3a_0 cc_wc0, s3a_1 cc_wc1, s3a_2 cc_wc2]) rfl ⟨rfl, (by repeat (first | exact Below.refl _ _ | assumption | refine below_drewN ?_ _ | refine Below.drew ?_ | refine Below.alloc ?_ (by first | omega | (simp <;> omega)) _ | refine Below.setCell ?_ (by first | omega | (simp <;> omega)) _))⟩

set_option maxHeartbeats 1000000 in
set_option maxRecDepth 100000 in
theorem sPS_L {s a b : ByteArray} {X p Y q g p' q' : Int} {ls : List ByteArray} (hls : pcsB s ⟨#[44]⟩ = ls) (h0 : ls[0]? = some a) (h1 : ls[1]? = some b) (hl : ls.length = 2) (hpa : prV a = some (X, p)) (hpb : prV b = some (Y, q)) (hp : p ≤ 5000000000) (hq : q ≤ 5000000000) (hg : gcdV p q = g) (g1 : 1 ≤ g) (hqq : p.tdiv g = p') (q3 : 1 ≤ p') (q4 : p' ≤ p) {K : Int} (hK : (5000000000 : Int).tdiv q = K) (k0 : 0 ≤ K) (k1 : K ≤ 5000000000) (hKK : K < p') (w : World) (hs : s.size ≤ 1048576) (has : a.size ≤ 1048576) (hbs : b.size ≤ 1048576) :
    Calls Tryd.prog 18 #[.string s] w fun e w' => e = .returned (.tuple #[.agg #[.int .i64 0, .int .i64 0, .int .i64 0], .bool false]) ∧ Below w.heap.size w w' := by
  have HLS := Lib.hid hls; clear hls
  have H0 := Lib.hid h0; clear h0
  have H1 := Lib.hid h1; clear h1
  have HG := Lib.hid hg; clear hg
  obtain ⟨⟨p1, p2⟩, x1, x2⟩ := ratioOkV_bounds (prV_some hpa).1
  have HP := Lib.hid hpa; clear hpa
  obtain ⟨⟨q1, q2⟩, y1, y2⟩ := ratioOkV_bounds (prV_some hpb).1
  have HQ := Lib.hid hpb; clear hpb
  go_enter Tryd.func18, Tryd.ntmps18
  go_wp2_with fail
  go_at_call 41; with_reducible refine (sSplitAny_lit HLS.out _ (by omega) (by decide)).mono ?_
  rintro e wa ⟨g0, c0, rfl, hO0, hg0, hb1⟩
  obtain ⟨cA, hga⟩ := own_cell hO0 H0.out
  obtain ⟨cB, _⟩ := own_cell hO0 H1.out
  clear hO0
  have cc_wa0 := cell_keep (p := ⟨w.heap.size, 0, none⟩) (v := .int .i64 0) hb1 (by first | assumption | (go_keep; done) | (go_simp; done) | (simp; done)) (by first | omega | (simp <;> omega))
  have cc_wa1 := cell_keep (p := ⟨w.heap.size, 1, none⟩) (v := .int .i64 0) hb1 (by first | assumption | (go_keep; done) | (go_simp; done) | (simp; done)) (by first | omega | (simp <;> omega))
  have cc_wa2 := cell_keep (p := ⟨w.heap.size, 2, none⟩) (v := .int .i64 0) hb1 (by first | assumption | (go_keep; done) | (go_simp; done) | (simp; done)) (by first | omega | (simp <;> omega))
  have cf_wa0 := frozen_keep (p := ⟨w.heap.size, 0, none⟩) hb1 (by first | assumption | (go_keep; done) | (go_simp; done) | (simp; done)) (by first | omega | (simp <;> omega))
  have cf_wa1 := frozen_keep (p := ⟨w.heap.size, 1, none⟩) hb1 (by first | assumption | (go_keep; done) | (go_simp; done) | (simp; done)) (by first | omega | (simp <;> omega))
  have cf_wa2 := frozen_keep (p := ⟨w.heap.size, 2, none⟩) hb1 (by first | assumption | (go_keep; done) | (go_simp; done) | (simp; done)) (by first | omega | (simp <;> omega))
  have hS1_wa : Below w.heap.size w wa := S_below hb1 (by repeat (first | exact Below.refl _ _ | assumption | refine below_drewN ?_ _ | refine Below.drew ?_ | refine Below.alloc ?_ (by first | omega | (simp <;> omega)) _ | refine Below.setCell ?_ (by first | omega | (simp <;> omega)) _)) (by first | omega | (simp <;> omega))
  have hz1_wa : w.heap.size + 1 ≤ wa.heap.size := S_size hb1 (by first | omega | (simp <;> omega))
  have hqb_wa0 : w.heap.size < wa.heap.size := S_lt hb1 (by first | omega | (simp <;> omega))
  clear hb1
  generalize ls.length = m at *
  subst hl
  go_wp2_with fail
  go_at_call 15; with_reducible refine (sParseRatio_lit HP.out _ (by omega)).mono ?_
  rintro e wb ⟨rfl, hb1⟩
  simp only [PResR]
  have cc_wb0 := cell_keep (p := ⟨w.heap.size, 0, none⟩) (v := .int .i64 0) hb1 (by first | assumption | (go_keep; done) | (go_simp; done) | (simp; done)) (by first | omega | (simp <;> omega))
  have cc_wb1 := cell_keep (p := ⟨w.heap.size, 1, none⟩) (v := .int .i64 0) hb1 (by first | assumption | (go_keep; done) | (go_simp; done) | (simp; done)) (by first | omega | (simp <;> omega))
  have cc_wb2 := cell_keep (p := ⟨w.heap.size, 2, none⟩) (v := .int .i64 0) hb1 (by first | assumption | (go_keep; done) | (go_simp; done) | (simp; done)) (by first | omega | (simp <;> omega))
  have cc_wb3 := cell_keep (p := ⟨g0, 0, none⟩) (v := .string a) hb1 (by first | assumption | (go_keep; done) | (go_simp; done) | (simp; done)) (by first | omega | (simp <;> omega))
  have cc_wb4 := cell_keep (p := ⟨g0, 1, none⟩) (v := .string b) hb1 (by first | assumption | (go_keep; done) | (go_simp; done) | (simp; done)) (by first | omega | (simp <;> omega))
  have cf_wb0 := frozen_keep (p := ⟨w.heap.size, 0, none⟩) hb1 (by first | assumption | (go_keep; done) | (go_simp; done) | (simp; done)) (by first | omega | (simp <;> omega))
  have cf_wb1 := frozen_keep (p := ⟨w.heap.size, 1, none⟩) hb1 (by first | assumption | (go_keep; done) | (go_simp; done) | (simp; done)) (by first | omega | (simp <;> omega))
  have cf_wb2 := frozen_keep (p := ⟨w.heap.size, 2, none⟩) hb1 (by first | assumption | (go_keep; done) | (go_simp; done) | (simp; done)) (by first | omega | (simp <;> omega))
  have hS1_wb : Below w.heap.size w wb := S_below hb1 (by repeat (first | exact Below.refl _ _ | assumption | refine below_drewN ?_ _ | refine Below.drew ?_ | refine Below.alloc ?_ (by first | omega | (simp <;> omega)) _ | refine Below.setCell ?_ (by first | omega | (simp <;> omega)) _)) (by first | omega | (simp <;> omega))
  have hz1_wb : w.heap.size + 1 ≤ wb.heap.size := S_size hb1 (by first | omega | (simp <;> omega))
  have hqb_wb0 : w.heap.size < wb.heap.size := S_lt hb1 (by first | omega | (simp <;> omega))
  have hqb_wb1 : g0 < wb.heap.size := S_lt hb1 (by first | omega | (simp <;> omega))
  clear hb1
  go_wp2_with fail
  go_at_call 15; with_reducible refine (sParseRatio_lit HQ.out _ (by omega)).mono ?_
  rintro e wc ⟨rfl, hb1⟩
  simp only [PResR]
  have cc_wc0 := cell_keep (p := ⟨w.heap.size, 0, none⟩) (v := .int .i64 0) hb1 (by first | assumption | (go_keep; done) | (go_simp; done) | (simp; done)) (by first | omega | (simp <;> omega))
  have cc_wc1 := cell_keep (p := ⟨w.heap.size, 1, none⟩) (v := .int .i64 0) hb1 (by first | assumption | (go_keep; done) | (go_simp; done) | (simp; done)) (by first | omega | (simp <;> omega))
  have cc_wc2 := cell_keep (p := ⟨w.heap.size, 2, none⟩) (v := .int .i64 0) hb1 (by first | assumption | (go_keep; done) | (go_simp; done) | (simp; done)) (by first | omega | (simp <;> omega))
  have cc_wc3 := cell_keep (p := ⟨wb.heap.size, 0, none⟩) (v := .int .i64 X) hb1 (by first | assumption | (go_keep; done) | (go_simp; done) | (simp; done)) (by first | omega | (simp <;> omega))
  have cc_wc4 := cell_keep (p := ⟨wb.heap.size, 1, none⟩) (v := .int .i64 p) hb1 (by first | assumption | (go_keep; done) | (go_simp; done) | (simp; done)) (by first | omega | (simp <;> omega))
  have cf_wc0 := frozen_keep (p := ⟨w.heap.size, 0, none⟩) hb1 (by first | assumption | (go_keep; done) | (go_simp; done) | (simp; done)) (by first | omega | (simp <;> omega))
  have cf_wc1 := frozen_keep (p := ⟨w.heap.size, 1, none⟩) hb1 (by first | assumption | (go_keep; done) | (go_simp; done) | (simp; done)) (by first | omega | (simp <;> omega))
  have cf_wc2 := frozen_keep (p := ⟨w.heap.size, 2, none⟩) hb1 (by first | assumption | (go_keep; done) | (go_simp; done) | (simp; done)) (by first | omega | (simp <;> omega))
  have hS1_wc : Below w.heap.size w wc := S_below hb1 (by repeat (first | exact Below.refl _ _ | assumption | refine below_drewN ?_ _ | refine Below.drew ?_ | refine Below.alloc ?_ (by first | omega | (simp <;> omega)) _ | refine Below.setCell ?_ (by first | omega | (simp <;> omega)) _)) (by first | omega | (simp <;> omega))
  have hz1_wc : w.heap.size + 1 ≤ wc.heap.size := S_size hb1 (by first | omega | (simp <;> omega))
  have hqb_wc0 : w.heap.size < wc.heap.size := S_lt hb1 (by first | omega | (simp <;> omega))
  have hqb_wc1 : wb.heap.size < wc.heap.size := S_lt hb1 (by first | omega | (simp <;> omega))
  clear hb1
  go_wp2_with fail
  go_at_call 45; with_reducible refine (sGcdOf_par HG.out _ (by omega) (by omega) (by omega) (by omega)).mono ?_
  rintro e wd ⟨rfl, hb1⟩
  have cc_wd0 := cell_keep (p := ⟨w.heap.size, 0, none⟩) (v := .int .i64 0) hb1 (by first | assumption | (go_keep; done) | (go_simp; done) | (simp; done)) (by first | omega | (simp <;> omega))
  have cc_wd1 := cell_keep (p := ⟨w.heap.size, 1, none⟩) (v := .int .i64 0) hb1 (by first | assumption | (go_keep; done) | (go_simp; done) | (simp; done)) (by first | omega | (simp <;> omega))
  have cc_wd2 := cell_keep (p := ⟨w.heap.size, 2, none⟩) (v := .int .i64 0) hb1 (by first | assumption | (go_keep; done) | (go_simp; done) | (simp; done)) (by first | omega | (simp <;> omega))
  have cc_wd3 := cell_keep (p := ⟨wb.heap.size, 0, none⟩) (v := .int .i64 X) hb1 (by first | assumption | (go_keep; done) | (go_simp; done) | (simp; done)) (by first | omega | (simp <;> omega))
  have cc_wd4 := cell_keep (p := ⟨wb.heap.size, 1, none⟩) (v := .int .i64 p) hb1 (by first | assumption | (go_keep; done) | (go_simp; done) | (simp; done)) (by first | omega | (simp <;> omega))
  have cc_wd5 := cell_keep (p := ⟨wc.heap.size, 0, none⟩) (v := .int .i64 Y) hb1 (by first | assumption | (go_keep; done) | (go_simp; done) | (simp; done)) (by first | omega | (simp <;> omega))
  have cc_wd6 := cell_keep (p := ⟨wc.heap.size, 1, none⟩) (v := .int .i64 q) hb1 (by first | assumption | (go_keep; done) | (go_simp; done) | (simp; done)) (by first | omega | (simp <;> omega))
  have cf_wd0 := frozen_keep (p := ⟨w.heap.size, 0, none⟩) hb1 (by first | assumption | (go_keep; done) | (go_simp; done) | (simp; done)) (by first | omega | (simp <;> omega))
  have cf_wd1 := frozen_keep (p := ⟨w.heap.size, 1, none⟩) hb1 (by first | assumption | (go_keep; done) | (go_simp; done) | (simp; done)) (by first | omega | (simp <;> omega))
  have cf_wd2 := frozen_keep (p := ⟨w.heap.size, 2, none⟩) hb1 (by first | assumption | (go_keep; done) | (go_simp; done) | (simp; done)) (by first | omega | (simp <;> omega))
  have hS1_wd : Below w.heap.size w wd := S_below hb1 (by repeat (first | exact Below.refl _ _ | assumption | refine below_drewN ?_ _ | refine Below.drew ?_ | refine Below.alloc ?_ (by first | omega | (simp <;> omega)) _ | refine Below.setCell ?_ (by first | omega | (simp <;> omega)) _)) (by first | omega | (simp <;> omega))
  have hz1_wd : w.heap.size + 1 ≤ wd.heap.size := S_size hb1 (by first | omega | (simp <;> omega))
  have hqb_wd0 : w.heap.size < wd.heap.size := S_lt hb1 (by first | omega | (simp <;> omega))
  have hqb_wd1 : wb.heap.size < wd.heap.size := S_lt hb1 (by first | omega | (simp <;> omega))
  have hqb_wd2 : wc.heap.size < wd.heap.size := S_lt hb1 (by first | omega | (simp <;> omega))
  clear hb1
  go_wp2_with fail
  have hwp : IntKind.i64.wrap p' = p' := IntWalk.i64_in _ (by omega)
  have hwK : IntKind.i64.wrap K = K := IntWalk.i64_in _ (by omega)
  have hg0 : ¬ g = 0 := by omega
  have hq0 : ¬ q = 0 := by omega
  have hp0 : ¬ p = 0 := by omega
  refine wp_region_qb (by kernel_rfl) (by kernel_rfl) (fun W_q hW_q => ?_)
  have kq0 : ∀ d_ os_, (Sort.grow (redrawn W_q d_) os_).cell? ⟨w.heap.size, 0, none⟩ = some (.int .i64 0) := fun d_ os_ => cell_regrown (by rw [hW_q.out]; first | assumption | (go_keep; done) | (go_simp; done) | (simp; done)) d_ os_
  have kq1 : ∀ d_ os_, (Sort.grow (redrawn W_q d_) os_).cell? ⟨w.heap.size, 1, none⟩ = some (.int .i64 0) := fun d_ os_ => cell_regrown (by rw [hW_q.out]; first | assumption | (go_keep; done) | (go_simp; done) | (simp; done)) d_ os_
  have kq2 : ∀ d_ os_, (Sort.grow (redrawn W_q d_) os_).cell? ⟨w.heap.size, 2, none⟩ = some (.int .i64 0) := fun d_ os_ => cell_regrown (by rw [hW_q.out]; first | assumption | (go_keep; done) | (go_simp; done) | (simp; done)) d_ os_
  have kq3 : ∀ d_ os_, (Sort.grow (redrawn W_q d_) os_).cell? ⟨wb.heap.size, 0, none⟩ = some (.int .i64 X) := fun d_ os_ => cell_regrown (by rw [hW_q.out]; first | assumption | (go_keep; done) | (go_simp; done) | (simp; done)) d_ os_
  have kq4 : ∀ d_ os_, (Sort.grow (redrawn W_q d_) os_).cell? ⟨wb.heap.size, 1, none⟩ = some (.int .i64 p) := fun d_ os_ => cell_regrown (by rw [hW_q.out]; first | assumption | (go_keep; done) | (go_simp; done) | (simp; done)) d_ os_
  have kq5 : ∀ d_ os_, (Sort.grow (redrawn W_q d_) os_).cell? ⟨wc.heap.size, 0, none⟩ = some (.int .i64 Y) := fun d_ os_ => cell_regrown (by rw [hW_q.out]; first | assumption | (go_keep; done) | (go_simp; done) | (simp; done)) d_ os_
  have kq6 : ∀ d_ os_, (Sort.grow (redrawn W_q d_) os_).cell? ⟨wc.heap.size, 1, none⟩ = some (.int .i64 q) := fun d_ os_ => cell_regrown (by rw [hW_q.out]; first | assumption | (go_keep; done) | (go_simp; done) | (simp; done)) d_ os_
  repeat (go_big_quiet_step (fail))
  refine wpQuiet_nil ?_
  intro _ hw_q
  obtain ⟨⟨dq_, osq_⟩, hw_q⟩ := hw_q
  subst hw_q
  have hb1 := below_regrown W_q dq_ osq_
  clear kq0 kq1 kq2 kq3 kq4 kq5 kq6
  generalize Sort.grow (redrawn W_q dq_) osq_ = wi at *
  have hW_q := hW_q.out
  subst hW_q
  have cc_wi0 := cell_keep (p := ⟨w.heap.size, 0, none⟩) (v := .int .i64 0) hb1 (by first | assumption | (go_keep; done) | (go_simp; done) | (simp; done)) (by first | omega | (simp <;> omega))
  have cc_wi1 := cell_keep (p := ⟨w.heap.size, 1, none⟩) (v := .int .i64 0) hb1 (by first | assumption | (go_keep; done) | (go_simp; done) | (simp; done)) (by first | omega | (simp <;> omega))
  have cc_wi2 := cell_keep (p := ⟨w.heap.size, 2, none⟩) (v := .int .i64 0) hb1 (by first | assumption | (go_keep; done) | (go_simp; done) | (simp; done)) (by first | omega | (simp <;> omega))
  have cc_wi3 := cell_keep (p := ⟨wb.heap.size, 0, none⟩) (v := .int .i64 X) hb1 (by first | assumption | (go_keep; done) | (go_simp; done) | (simp; done)) (by first | omega | (simp <;> omega))
  have cc_wi4 := cell_keep (p := ⟨wb.heap.size, 1, none⟩) (v := .int .i64 p) hb1 (by first | assumption | (go_keep; done) | (go_simp; done) | (simp; done)) (by first | omega | (simp <;> omega))
  have cc_wi5 := cell_keep (p := ⟨wc.heap.size, 0, none⟩) (v := .int .i64 Y) hb1 (by first | assumption | (go_keep; done) | (go_simp; done) | (simp; done)) (by first | omega | (simp <;> omega))
  have cc_wi6 := cell_keep (p := ⟨wc.heap.size, 1, none⟩) (v := .int .i64 q) hb1 (by first | assumption | (go_keep; done) | (go_simp; done) | (simp; done)) (by first | omega | (simp <;> omega))
  have cf_wi0 := frozen_keep (p := ⟨w.heap.size, 0, none⟩) hb1 (by first | assumption | (go_keep; done) | (go_simp; done) | (simp; done)) (by first | omega | (simp <;> omega))
  have cf_wi1 := frozen_keep (p := ⟨w.heap.size, 1, none⟩) hb1 (by first | assumption | (go_keep; done) | (go_simp; done) | (simp; done)) (by first | omega | (simp <;> omega))
  have cf_wi2 := frozen_keep (p := ⟨w.heap.size, 2, none⟩) hb1 (by first | assumption | (go_keep; done) | (go_simp; done) | (simp; done)) (by first | omega | (simp <;> omega))
  have hS1_wi : Below w.heap.size w wi := S_below hb1 (by repeat (first | exact Below.refl _ _ | assumption | refine below_drewN ?_ _ | refine Below.drew ?_ | refine Below.alloc ?_ (by first | omega | (simp <;> omega)) _ | refine Below.setCell ?_ (by first | omega | (simp <;> omega)) _)) (by first | omega | (simp <;> omega))
  have hz1_wi : w.heap.size + 1 ≤ wi.heap.size := S_size hb1 (by first | omega | (simp <;> omega))
  have hqb_wi0 : w.heap.size < wi.heap.size := S_lt hb1 (by first | omega | (simp <;> omega))
  have hqb_wi1 : wb.heap.size < wi.heap.size := S_lt hb1 (by first | omega | (simp <;> omega))
  have hqb_wi2 : wc.heap.size < wi.heap.size := S_lt hb1 (by first | omega | (simp <;> omega))
  clear hb1
  go_wp2_with fail
  exact bodyPost_ret (v := .tuple #[.agg #[.int .i64 0, .int .i64 0, .int .i64 0], .bool false]) (by simp [results, Tryd.results18, go_sem, set_0 cc_wi0, set2_1 cc_wi1, set3_2 cc_wi2]) rfl ⟨rfl, (by repeat (first | exact Below.refl _ _ | assumption | refine below_drewN ?_ _ | refine Below.drew ?_ | refine Below.alloc ?_ (by first | omega | (simp <;> omega)) _ | refine Below.setCell ?_ (by first | omega | (simp <;> omega)) _))⟩

set_option maxHeartbeats 1000000 in
set_option maxRecDepth 100000 in
theorem sPS_X {s a b : ByteArray} {X p Y q g p' q' : Int} {ls : List ByteArray} (hls : pcsB s ⟨#[44]⟩ = ls) (h0 : ls[0]? = some a) (h1 : ls[1]? = some b) (hl : ls.length = 2) (hpa : prV a = some (X, p)) (hpb : prV b = some (Y, q)) (hp : p ≤ 5000000000) (hq : q ≤ 5000000000) (hg : gcdV p q = g) (g1 : 1 ≤ g) (hqq : p.tdiv g = p') (q3 : 1 ≤ p') (q4 : p' ≤ p) {K : Int} (hK : (5000000000 : Int).tdiv q = K) (k0 : 0 ≤ K) (k1 : K ≤ 5000000000) (hKK : p' ≤ K) (hL : p' * q ≤ 5000000000) (hL1 : 1 ≤ p' * q) (hx : inB X (-1000 * p) (1000 * p) = false) (w : World) (hs : s.size ≤ 1048576) (has : a.size ≤ 1048576) (hbs : b.size ≤ 1048576) :
    Calls Tryd.prog 18 #[.string s] w fun e w' => e = .returned (.tuple #[.agg #[.int .i64 0, .int .i64 0, .int .i64 0], .bool false]) ∧ Below w.heap.size w w' := by
  have HLS := Lib.hid hls; clear hls
  have H0 := Lib.hid h0; clear h0
  have H1 := Lib.hid h1; clear h1
  have HG := Lib.hid hg; clear hg
  obtain ⟨⟨p1, p2⟩, x1, x2⟩ := ratioOkV_bounds (prV_some hpa).1
  have HP := Lib.hid hpa; clear hpa
  obtain ⟨⟨q1, q2⟩, y1, y2⟩ := ratioOkV_bounds (prV_some hpb).1
  have HQ := Lib.hid hpb; clear hpb
  go_enter Tryd.func18, Tryd.ntmps18
  go_wp2_with fail
  go_at_call 41; with_reducible refine (sSplitAny_lit HLS.out _ (by omega) (by decide)).mono ?_
  rintro e wa ⟨g0, c0, rfl, hO0, hg0, hb1⟩
  obtain ⟨cA, hga⟩ := own_cell hO0 H0.out
  obtain ⟨cB, _⟩ := own_cell hO0 H1.out
  clear hO0
  have cc_wa0 := cell_keep (p := ⟨w.heap.size, 0, none⟩) (v := .int .i64 0) hb1 (by first | assumption | (go_keep; done) | (go_simp; done) | (simp; done)) (by first | omega | (simp <;> omega))
  have cc_wa1 := cell_keep (p := ⟨w.heap.size, 1, none⟩) (v := .int .i64 0) hb1 (by first | assumption | (go_keep; done) | (go_simp; done) | (simp; done)) (by first | omega | (simp <;> omega))
  have cc_wa2 := cell_keep (p := ⟨w.heap.size, 2, none⟩) (v := .int .i64 0) hb1 (by first | assumption | (go_keep; done) | (go_simp; done) | (simp; done)) (by first | omega | (simp <;> omega))
  have cf_wa0 := frozen_keep (p := ⟨w.heap.size, 0, none⟩) hb1 (by first | assumption | (go_keep; done) | (go_simp; done) | (simp; done)) (by first | omega | (simp <;> omega))
  have cf_wa1 := frozen_keep (p := ⟨w.heap.size, 1, none⟩) hb1 (by first | assumption | (go_keep; done) | (go_simp; done) | (simp; done)) (by first | omega | (simp <;> omega))
  have cf_wa2 := frozen_keep (p := ⟨w.heap.size, 2, none⟩) hb1 (by first | assumption | (go_keep; done) | (go_simp; done) | (simp; done)) (by first | omega | (simp <;> omega))
  have hS1_wa : Below w.heap.size w wa := S_below hb1 (by repeat (first | exact Below.refl _ _ | assumption | refine below_drewN ?_ _ | refine Below.drew ?_ | refine Below.alloc ?_ (by first | omega | (simp <;> omega)) _ | refine Below.setCell ?_ (by first | omega | (simp <;> omega)) _)) (by first | omega | (simp <;> omega))
  have hz1_wa : w.heap.size + 1 ≤ wa.heap.size := S_size hb1 (by first | omega | (simp <;> omega))
  have hqb_wa0 : w.heap.size < wa.heap.size := S_lt hb1 (by first | omega | (simp <;> omega))
  clear hb1
  generalize ls.length = m at *
  subst hl
  go_wp2_with fail
  go_at_call 15; with_reducible refine (sParseRatio_lit HP.out _ (by omega)).mono ?_
  rintro e wb ⟨rfl, hb1⟩
  simp only [PResR]
  have cc_wb0 := cell_keep (p := ⟨w.heap.size, 0, none⟩) (v := .int .i64 0) hb1 (by first | assumption | (go_keep; done) | (go_simp; done) | (simp; done)) (by first | omega | (simp <;> omega))
  have cc_wb1 := cell_keep (p := ⟨w.heap.size, 1, none⟩) (v := .int .i64 0) hb1 (by first | assumption | (go_keep; done) | (go_simp; done) | (simp; done)) (by first | omega | (simp <;> omega))
  have cc_wb2 := cell_keep (p := ⟨w.heap.size, 2, none⟩) (v := .int .i64 0) hb1 (by first | assumption | (go_keep; done) | (go_simp; done) | (simp; done)) (by first | omega | (simp <;> omega))
  have cc_wb3 := cell_keep (p := ⟨g0, 0, none⟩) (v := .string a) hb1 (by first | assumption | (go_keep; done) | (go_simp; done) | (simp; done)) (by first | omega | (simp <;> omega))
  have cc_wb4 := cell_keep (p := ⟨g0, 1, none⟩) (v := .string b) hb1 (by first | assumption | (go_keep; done) | (go_simp; done) | (simp; done)) (by first | omega | (simp <;> omega))
  have cf_wb0 := frozen_keep (p := ⟨w.heap.size, 0, none⟩) hb1 (by first | assumption | (go_keep; done) | (go_simp; done) | (simp; done)) (by first | omega | (simp <;> omega))
  have cf_wb1 := frozen_keep (p := ⟨w.heap.size, 1, none⟩) hb1 (by first | assumption | (go_keep; done) | (go_simp; done) | (simp; done)) (by first | omega | (simp <;> omega))
  have cf_wb2 := frozen_keep (p := ⟨w.heap.size, 2, none⟩) hb1 (by first | assumption | (go_keep; done) | (go_simp; done) | (simp; done)) (by first | omega | (simp <;> omega))
  have hS1_wb : Below w.heap.size w wb := S_below hb1 (by repeat (first | exact Below.refl _ _ | assumption | refine below_drewN ?_ _ | refine Below.drew ?_ | refine Below.alloc ?_ (by first | omega | (simp <;> omega)) _ | refine Below.setCell ?_ (by first | omega | (simp <;> omega)) _)) (by first | omega | (simp <;> omega))
  have hz1_wb : w.heap.size + 1 ≤ wb.heap.size := S_size hb1 (by first | omega | (simp <;> omega))
  have hqb_wb0 : w.heap.size < wb.heap.size := S_lt hb1 (by first | omega | (simp <;> omega))
  have hqb_wb1 : g0 < wb.heap.size := S_lt hb1 (by first | omega | (simp <;> omega))
  clear hb1
  go_wp2_with fail
  go_at_call 15; with_reducible refine (sParseRatio_lit HQ.out _ (by omega)).mono ?_
  rintro e wc ⟨rfl, hb1⟩
  simp only [PResR]
  have cc_wc0 := cell_keep (p := ⟨w.heap.size, 0, none⟩) (v := .int .i64 0) hb1 (by first | assumption | (go_keep; done) | (go_simp; done) | (simp; done)) (by first | omega | (simp <;> omega))
  have cc_wc1 := cell_keep (p := ⟨w.heap.size, 1, none⟩) (v := .int .i64 0) hb1 (by first | assumption | (go_keep; done) | (go_simp; done) | (simp; done)) (by first | omega | (simp <;> omega))
  have cc_wc2 := cell_keep (p := ⟨w.heap.size, 2, none⟩) (v := .int .i64 0) hb1 (by first | assumption | (go_keep; done) | (go_simp; done) | (simp; done)) (by first | omega | (simp <;> omega))
  have cc_wc3 := cell_keep (p := ⟨wb.heap.size, 0, none⟩) (v := .int .i64 X) hb1 (by first | assumption | (go_keep; done) | (go_simp; done) | (simp; done)) (by first | omega | (simp <;> omega))
  have cc_wc4 := cell_keep (p := ⟨wb.heap.size, 1, none⟩) (v := .int .i64 p) hb1 (by first | assumption | (go_keep; done) | (go_simp; done) | (simp; done)) (by first | omega | (simp <;> omega))
  have cf_wc0 := frozen_keep (p := ⟨w.heap.size, 0, none⟩) hb1 (by first | assumption | (go_keep; done) | (go_simp; done) | (simp; done)) (by first | omega | (simp <;> omega))
  have cf_wc1 := frozen_keep (p := ⟨w.heap.size, 1, none⟩) hb1 (by first | assumption | (go_keep; done) | (go_simp; done) | (simp; done)) (by first | omega | (simp <;> omega))
  have cf_wc2 := frozen_keep (p := ⟨w.heap.size, 2, none⟩) hb1 (by first | assumption | (go_keep; done) | (go_simp; done) | (simp; done)) (by first | omega | (simp <;> omega))
  have hS1_wc : Below w.heap.size w wc := S_below hb1 (by repeat (first | exact Below.refl _ _ | assumption | refine below_drewN ?_ _ | refine Below.drew ?_ | refine Below.alloc ?_ (by first | omega | (simp <;> omega)) _ | refine Below.setCell ?_ (by first | omega | (simp <;> omega)) _)) (by first | omega | (simp <;> omega))
  have hz1_wc : w.heap.size + 1 ≤ wc.heap.size := S_size hb1 (by first | omega | (simp <;> omega))
  have hqb_wc0 : w.heap.size < wc.heap.size := S_lt hb1 (by first | omega | (simp <;> omega))
  have hqb_wc1 : wb.heap.size < wc.heap.size := S_lt hb1 (by first | omega | (simp <;> omega))
  clear hb1
  go_wp2_with fail
  go_at_call 45; with_reducible refine (sGcdOf_par HG.out _ (by omega) (by omega) (by omega) (by omega)).mono ?_
  rintro e wd ⟨rfl, hb1⟩
  have cc_wd0 := cell_keep (p := ⟨w.heap.size, 0, none⟩) (v := .int .i64 0) hb1 (by first | assumption | (go_keep; done) | (go_simp; done) | (simp; done)) (by first | omega | (simp <;> omega))
  have cc_wd1 := cell_keep (p := ⟨w.heap.size, 1, none⟩) (v := .int .i64 0) hb1 (by first | assumption | (go_keep; done) | (go_simp; done) | (simp; done)) (by first | omega | (simp <;> omega))
  have cc_wd2 := cell_keep (p := ⟨w.heap.size, 2, none⟩) (v := .int .i64 0) hb1 (by first | assumption | (go_keep; done) | (go_simp; done) | (simp; done)) (by first | omega | (simp <;> omega))
  have cc_wd3 := cell_keep (p := ⟨wb.heap.size, 0, none⟩) (v := .int .i64 X) hb1 (by first | assumption | (go_keep; done) | (go_simp; done) | (simp; done)) (by first | omega | (simp <;> omega))
  have cc_wd4 := cell_keep (p := ⟨wb.heap.size, 1, none⟩) (v := .int .i64 p) hb1 (by first | assumption | (go_keep; done) | (go_simp; done) | (simp; done)) (by first | omega | (simp <;> omega))
  have cc_wd5 := cell_keep (p := ⟨wc.heap.size, 0, none⟩) (v := .int .i64 Y) hb1 (by first | assumption | (go_keep; done) | (go_simp; done) | (simp; done)) (by first | omega | (simp <;> omega))
  have cc_wd6 := cell_keep (p := ⟨wc.heap.size, 1, none⟩) (v := .int .i64 q) hb1 (by first | assumption | (go_keep; done) | (go_simp; done) | (simp; done)) (by first | omega | (simp <;> omega))
  have cf_wd0 := frozen_keep (p := ⟨w.heap.size, 0, none⟩) hb1 (by first | assumption | (go_keep; done) | (go_simp; done) | (simp; done)) (by first | omega | (simp <;> omega))
  have cf_wd1 := frozen_keep (p := ⟨w.heap.size, 1, none⟩) hb1 (by first | assumption | (go_keep; done) | (go_simp; done) | (simp; done)) (by first | omega | (simp <;> omega))
  have cf_wd2 := frozen_keep (p := ⟨w.heap.size, 2, none⟩) hb1 (by first | assumption | (go_keep; done) | (go_simp; done) | (simp; done)) (by first | omega | (simp <;> omega))
  have hS1_wd : Below w.heap.size w wd := S_below hb1 (by repeat (first | exact Below.refl _ _ | assumption | refine below_drewN ?_ _ | refine Below.drew ?_ | refine Below.alloc ?_ (by first | omega | (simp <;> omega)) _ | refine Below.setCell ?_ (by first | omega | (simp <;> omega)) _)) (by first | omega | (simp <;> omega))
  have hz1_wd : w.heap.size + 1 ≤ wd.heap.size := S_size hb1 (by first | omega | (simp <;> omega))
  have hqb_wd0 : w.heap.size < wd.heap.size := S_lt hb1 (by first | omega | (simp <;> omega))
  have hqb_wd1 : wb.heap.size < wd.heap.size := S_lt hb1 (by first | omega | (simp <;> omega))
  have hqb_wd2 : wc.heap.size < wd.heap.size := S_lt hb1 (by first | omega | (simp <;> omega))
  clear hb1
  go_wp2_with fail
  have hwp : IntKind.i64.wrap p' = p' := IntWalk.i64_in _ (by omega)
  have hwK : IntKind.i64.wrap K = K := IntWalk.i64_in _ (by omega)
  have hg0 : ¬ g = 0 := by omega
  have hq0 : ¬ q = 0 := by omega
  have hp0 : ¬ p = 0 := by omega
  refine wp_region_qb (by kernel_rfl) (by kernel_rfl) (fun W_q hW_q => ?_)
  have kq0 : ∀ d_ os_, (Sort.grow (redrawn W_q d_) os_).cell? ⟨w.heap.size, 0, none⟩ = some (.int .i64 0) := fun d_ os_ => cell_regrown (by rw [hW_q.out]; first | assumption | (go_keep; done) | (go_simp; done) | (simp; done)) d_ os_
  have kq1 : ∀ d_ os_, (Sort.grow (redrawn W_q d_) os_).cell? ⟨w.heap.size, 1, none⟩ = some (.int .i64 0) := fun d_ os_ => cell_regrown (by rw [hW_q.out]; first | assumption | (go_keep; done) | (go_simp; done) | (simp; done)) d_ os_
  have kq2 : ∀ d_ os_, (Sort.grow (redrawn W_q d_) os_).cell? ⟨w.heap.size, 2, none⟩ = some (.int .i64 0) := fun d_ os_ => cell_regrown (by rw [hW_q.out]; first | assumption | (go_keep; done) | (go_simp; done) | (simp; done)) d_ os_
  have kq3 : ∀ d_ os_, (Sort.grow (redrawn W_q d_) os_).cell? ⟨wb.heap.size, 0, none⟩ = some (.int .i64 X) := fun d_ os_ => cell_regrown (by rw [hW_q.out]; first | assumption | (go_keep; done) | (go_simp; done) | (simp; done)) d_ os_
  have kq4 : ∀ d_ os_, (Sort.grow (redrawn W_q d_) os_).cell? ⟨wb.heap.size, 1, none⟩ = some (.int .i64 p) := fun d_ os_ => cell_regrown (by rw [hW_q.out]; first | assumption | (go_keep; done) | (go_simp; done) | (simp; done)) d_ os_
  have kq5 : ∀ d_ os_, (Sort.grow (redrawn W_q d_) os_).cell? ⟨wc.heap.size, 0, none⟩ = some (.int .i64 Y) := fun d_ os_ => cell_regrown (by rw [hW_q.out]; first | assumption | (go_keep; done) | (go_simp; done) | (simp; done)) d_ os_
  have kq6 : ∀ d_ os_, (Sort.grow (redrawn W_q d_) os_).cell? ⟨wc.heap.size, 1, none⟩ = some (.int .i64 q) := fun d_ os_ => cell_regrown (by rw [hW_q.out]; first | assumption | (go_keep; done) | (go_simp; done) | (simp; done)) d_ os_
  repeat (go_big_quiet_step (fail))
  refine wpQuiet_nil ?_
  intro _ hw_q
  obtain ⟨⟨dq_, osq_⟩, hw_q⟩ := hw_q
  subst hw_q
  have hb1 := below_regrown W_q dq_ osq_
  clear kq0 kq1 kq2 kq3 kq4 kq5 kq6
  generalize Sort.grow (redrawn W_q dq_) osq_ = wi at *
  have hW_q := hW_q.out
  subst hW_q
  have cc_wi0 := cell_keep (p := ⟨w.heap.size, 0, none⟩) (v := .int .i64 0) hb1 (by first | assumption | (go_keep; done) | (go_simp; done) | (simp; done)) (by first | omega | (simp <;> omega))
  have cc_wi1 := cell_keep (p := ⟨w.heap.size, 1, none⟩) (v := .int .i64 0) hb1 (by first | assumption | (go_keep; done) | (go_simp; done) | (simp; done)) (by first | omega | (simp <;> omega))
  have cc_wi2 := cell_keep (p := ⟨w.heap.size, 2, none⟩) (v := .int .i64 0) hb1 (by first | assumption | (go_keep; done) | (go_simp; done) | (simp; done)) (by first | omega | (simp <;> omega))
  have cc_wi3 := cell_keep (p := ⟨wb.heap.size, 0, none⟩) (v := .int .i64 X) hb1 (by first | assumption | (go_keep; done) | (go_simp; done) | (simp; done)) (by first | omega | (simp <;> omega))
  have cc_wi4 := cell_keep (p := ⟨wb.heap.size, 1, none⟩) (v := .int .i64 p) hb1 (by first | assumption | (go_keep; done) | (go_simp; done) | (simp; done)) (by first | omega | (simp <;> omega))
  have cc_wi5 := cell_keep (p := ⟨wc.heap.size, 0, none⟩) (v := .int .i64 Y) hb1 (by first | assumption | (go_keep; done) | (go_simp; done) | (simp; done)) (by first | omega | (simp <;> omega))
  have cc_wi6 := cell_keep (p := ⟨wc.heap.size, 1, none⟩) (v := .int .i64 q) hb1 (by first | assumption | (go_keep; done) | (go_simp; done) | (simp; done)) (by first | omega | (simp <;> omega))
  have cf_wi0 := frozen_keep (p := ⟨w.heap.size, 0, none⟩) hb1 (by first | assumption | (go_keep; done) | (go_simp; done) | (simp; done)) (by first | omega | (simp <;> omega))
  have cf_wi1 := frozen_keep (p := ⟨w.heap.size, 1, none⟩) hb1 (by first | assumption | (go_keep; done) | (go_simp; done) | (simp; done)) (by first | omega | (simp <;> omega))
  have cf_wi2 := frozen_keep (p := ⟨w.heap.size, 2, none⟩) hb1 (by first | assumption | (go_keep; done) | (go_simp; done) | (simp; done)) (by first | omega | (simp <;> omega))
  have hS1_wi : Below w.heap.size w wi := S_below hb1 (by repeat (first | exact Below.refl _ _ | assumption | refine below_drewN ?_ _ | refine Below.drew ?_ | refine Below.alloc ?_ (by first | omega | (simp <;> omega)) _ | refine Below.setCell ?_ (by first | omega | (simp <;> omega)) _)) (by first | omega | (simp <;> omega))
  have hz1_wi : w.heap.size + 1 ≤ wi.heap.size := S_size hb1 (by first | omega | (simp <;> omega))
  have hqb_wi0 : w.heap.size < wi.heap.size := S_lt hb1 (by first | omega | (simp <;> omega))
  have hqb_wi1 : wb.heap.size < wi.heap.size := S_lt hb1 (by first | omega | (simp <;> omega))
  have hqb_wi2 : wc.heap.size < wi.heap.size := S_lt hb1 (by first | omega | (simp <;> omega))
  clear hb1
  go_wp2_with fail
  have hwL : IntKind.i64.wrap (p' * q) = p' * q := IntWalk.i64_in _ (by omega)
  refine wp_region_qb (by kernel_rfl) (by kernel_rfl) (fun W_q hW_q => ?_)
  have kq0 : ∀ d_ os_, (Sort.grow (redrawn W_q d_) os_).cell? ⟨w.heap.size, 0, none⟩ = some (.int .i64 0) := fun d_ os_ => cell_regrown (by rw [hW_q.out]; first | assumption | (go_keep; done) | (go_simp; done) | (simp; done)) d_ os_
  have kq1 : ∀ d_ os_, (Sort.grow (redrawn W_q d_) os_).cell? ⟨w.heap.size, 1, none⟩ = some (.int .i64 0) := fun d_ os_ => cell_regrown (by rw [hW_q.out]; first | assumption | (go_keep; done) | (go_simp; done) | (simp; done)) d_ os_
  have kq2 : ∀ d_ os_, (Sort.grow (redrawn W_q d_) os_).cell? ⟨w.heap.size, 2, none⟩ = some (.int .i64 0) := fun d_ os_ => cell_regrown (by rw [hW_q.out]; first | assumption | (go_keep; done) | (go_simp; done) | (simp; done)) d_ os_
  have kq3 : ∀ d_ os_, (Sort.grow (redrawn W_q d_) os_).cell? ⟨wb.heap.size, 0, none⟩ = some (.int .i64 X) := fun d_ os_ => cell_regrown (by rw [hW_q.out]; first | assumption | (go_keep; done) | (go_simp; done) | (simp; done)) d_ os_
  have kq4 : ∀ d_ os_, (Sort.grow (redrawn W_q d_) os_).cell? ⟨wb.heap.size, 1, none⟩ = some (.int .i64 p) := fun d_ os_ => cell_regrown (by rw [hW_q.out]; first | assumption | (go_keep; done) | (go_simp; done) | (simp; done)) d_ os_
  have kq5 : ∀ d_ os_, (Sort.grow (redrawn W_q d_) os_).cell? ⟨wc.heap.size, 0, none⟩ = some (.int .i64 Y) := fun d_ os_ => cell_regrown (by rw [hW_q.out]; first | assumption | (go_keep; done) | (go_simp; done) | (simp; done)) d_ os_
  have kq6 : ∀ d_ os_, (Sort.grow (redrawn W_q d_) os_).cell? ⟨wc.heap.size, 1, none⟩ = some (.int .i64 q) := fun d_ os_ => cell_regrown (by rw [hW_q.out]; first | assumption | (go_keep; done) | (go_simp; done) | (simp; done)) d_ os_
  repeat (go_big_quiet_step (fail))
  refine wpQuiet_nil ?_
  intro _ hw_q
  obtain ⟨⟨dq_, osq_⟩, hw_q⟩ := hw_q
  subst hw_q
  have hb1 := below_regrown W_q dq_ osq_
  clear kq0 kq1 kq2 kq3 kq4 kq5 kq6
  generalize Sort.grow (redrawn W_q dq_) osq_ = wj at *
  have hW_q := hW_q.out
  subst hW_q
  have cc_wj0 := cell_keep (p := ⟨w.heap.size, 0, none⟩) (v := .int .i64 0) hb1 (by first | assumption | (go_keep; done) | (go_simp; done) | (simp; done)) (by first | omega | (simp <;> omega))
  have cc_wj1 := cell_keep (p := ⟨w.heap.size, 1, none⟩) (v := .int .i64 0) hb1 (by first | assumption | (go_keep; done) | (go_simp; done) | (simp; done)) (by first | omega | (simp <;> omega))
  have cc_wj2 := cell_keep (p := ⟨w.heap.size, 2, none⟩) (v := .int .i64 0) hb1 (by first | assumption | (go_keep; done) | (go_simp; done) | (simp; done)) (by first | omega | (simp <;> omega))
  have cc_wj3 := cell_keep (p := ⟨wb.heap.size, 0, none⟩) (v := .int .i64 X) hb1 (by first | assumption | (go_keep; done) | (go_simp; done) | (simp; done)) (by first | omega | (simp <;> omega))
  have cc_wj4 := cell_keep (p := ⟨wb.heap.size, 1, none⟩) (v := .int .i64 p) hb1 (by first | assumption | (go_keep; done) | (go_simp; done) | (simp; done)) (by first | omega | (simp <;> omega))
  have cc_wj5 := cell_keep (p := ⟨wc.heap.size, 0, none⟩) (v := .int .i64 Y) hb1 (by first | assumption | (go_keep; done) | (go_simp; done) | (simp; done)) (by first | omega | (simp <;> omega))
  have cc_wj6 := cell_keep (p := ⟨wc.heap.size, 1, none⟩) (v := .int .i64 q) hb1 (by first | assumption | (go_keep; done) | (go_simp; done) | (simp; done)) (by first | omega | (simp <;> omega))
  have cf_wj0 := frozen_keep (p := ⟨w.heap.size, 0, none⟩) hb1 (by first | assumption | (go_keep; done) | (go_simp; done) | (simp; done)) (by first | omega | (simp <;> omega))
  have cf_wj1 := frozen_keep (p := ⟨w.heap.size, 1, none⟩) hb1 (by first | assumption | (go_keep; done) | (go_simp; done) | (simp; done)) (by first | omega | (simp <;> omega))
  have cf_wj2 := frozen_keep (p := ⟨w.heap.size, 2, none⟩) hb1 (by first | assumption | (go_keep; done) | (go_simp; done) | (simp; done)) (by first | omega | (simp <;> omega))
  have hS1_wj : Below w.heap.size w wj := S_below hb1 (by repeat (first | exact Below.refl _ _ | assumption | refine below_drewN ?_ _ | refine Below.drew ?_ | refine Below.alloc ?_ (by first | omega | (simp <;> omega)) _ | refine Below.setCell ?_ (by first | omega | (simp <;> omega)) _)) (by first | omega | (simp <;> omega))
  have hz1_wj : w.heap.size + 1 ≤ wj.heap.size := S_size hb1 (by first | omega | (simp <;> omega))
  have hqb_wj0 : w.heap.size < wj.heap.size := S_lt hb1 (by first | omega | (simp <;> omega))
  have hqb_wj1 : wb.heap.size < wj.heap.size := S_lt hb1 (by first | omega | (simp <;> omega))
  have hqb_wj2 : wc.heap.size < wj.heap.size := S_lt hb1 (by first | omega | (simp <;> omega))
  clear hb1
  go_wp2_with (first | (go_at_call 46; with_reducible refine (l01In_any _ _ _ _).mono ?_; rintro e w1 ⟨rfl, rfl⟩))
  exact bodyPost_ret (v := .tuple #[.agg #[.int .i64 0, .int .i64 0, .int .i64 0], .bool false]) (by simp [results, Tryd.results18, go_sem, set_0 cc_wj0, set2_1 cc_wj1, set3_2 cc_wj2]) rfl ⟨rfl, (by repeat (first | exact Below.refl _ _ | assumption | refine below_drewN ?_ _ | refine Below.drew ?_ | refine Below.alloc ?_ (by first | omega | (simp <;> omega)) _ | refine Below.setCell ?_ (by first | omega | (simp <;> omega)) _))⟩

set_option maxHeartbeats 1000000 in
set_option maxRecDepth 100000 in
theorem sPS_Y {s a b : ByteArray} {X p Y q g p' q' : Int} {ls : List ByteArray} (hls : pcsB s ⟨#[44]⟩ = ls) (h0 : ls[0]? = some a) (h1 : ls[1]? = some b) (hl : ls.length = 2) (hpa : prV a = some (X, p)) (hpb : prV b = some (Y, q)) (hp : p ≤ 5000000000) (hq : q ≤ 5000000000) (hg : gcdV p q = g) (g1 : 1 ≤ g) (hqq : p.tdiv g = p') (q3 : 1 ≤ p') (q4 : p' ≤ p) {K : Int} (hK : (5000000000 : Int).tdiv q = K) (k0 : 0 ≤ K) (k1 : K ≤ 5000000000) (hKK : p' ≤ K) (hL : p' * q ≤ 5000000000) (hL1 : 1 ≤ p' * q) (hx : inB X (-1000 * p) (1000 * p) = true) (hy : inB Y (-1000 * q) (1000 * q) = false) (w : World) (hs : s.size ≤ 1048576) (has : a.size ≤ 1048576) (hbs : b.size ≤ 1048576) :
    Calls Tryd.prog 18 #[.string s] w fun e w' => e = .returned (.tuple #[.agg #[.int .i64 0, .int .i64 0, .int .i64 0], .bool false]) ∧ Below w.heap.size w w' := by
  have HLS := Lib.hid hls; clear hls
  have H0 := Lib.hid h0; clear h0
  have H1 := Lib.hid h1; clear h1
  have HG := Lib.hid hg; clear hg
  obtain ⟨⟨p1, p2⟩, x1, x2⟩ := ratioOkV_bounds (prV_some hpa).1
  have HP := Lib.hid hpa; clear hpa
  obtain ⟨⟨q1, q2⟩, y1, y2⟩ := ratioOkV_bounds (prV_some hpb).1
  have HQ := Lib.hid hpb; clear hpb
  go_enter Tryd.func18, Tryd.ntmps18
  go_wp2_with fail
  go_at_call 41; with_reducible refine (sSplitAny_lit HLS.out _ (by omega) (by decide)).mono ?_
  rintro e wa ⟨g0, c0, rfl, hO0, hg0, hb1⟩
  obtain ⟨cA, hga⟩ := own_cell hO0 H0.out
  obtain ⟨cB, _⟩ := own_cell hO0 H1.out
  clear hO0
  have cc_wa0 := cell_keep (p := ⟨w.heap.size, 0, none⟩) (v := .int .i64 0) hb1 (by first | assumption | (go_keep; done) | (go_simp; done) | (simp; done)) (by first | omega | (simp <;> omega))
  have cc_wa1 := cell_keep (p := ⟨w.heap.size, 1, none⟩) (v := .int .i64 0) hb1 (by first | assumption | (go_keep; done) | (go_simp; done) | (simp; done)) (by first | omega | (simp <;> omega))
  have cc_wa2 := cell_keep (p := ⟨w.heap.size, 2, none⟩) (v := .int .i64 0) hb1 (by first | assumption | (go_keep; done) | (go_simp; done) | (simp; done)) (by first | omega | (simp <;> omega))
  have cf_wa0 := frozen_keep (p := ⟨w.heap.size, 0, none⟩) hb1 (by first | assumption | (go_keep; done) | (go_simp; done) | (simp; done)) (by first | omega | (simp <;> omega))
  have cf_wa1 := frozen_keep (p := ⟨w.heap.size, 1, none⟩) hb1 (by first | assumption | (go_keep; done) | (go_simp; done) | (simp; done)) (by first | omega | (simp <;> omega))
  have cf_wa2 := frozen_keep (p := ⟨w.heap.size, 2, none⟩) hb1 (by first | assumption | (go_keep; done) | (go_simp; done) | (simp; done)) (by first | omega | (simp <;> omega))
  have hS1_wa : Below w.heap.size w wa := S_below hb1 (by repeat (first | exact Below.refl _ _ | assumption | refine below_drewN ?_ _ | refine Below.drew ?_ | refine Below.alloc ?_ (by first | omega | (simp <;> omega)) _ | refine Below.setCell ?_ (by first | omega | (simp <;> omega)) _)) (by first | omega | (simp <;> omega))
  have hz1_wa : w.heap.size + 1 ≤ wa.heap.size := S_size hb1 (by first | omega | (simp <;> omega))
  have hqb_wa0 : w.heap.size < wa.heap.size := S_lt hb1 (by first | omega | (simp <;> omega))
  clear hb1
  generalize ls.length = m at *
  subst hl
  go_wp2_with fail
  go_at_call 15; with_reducible refine (sParseRatio_lit HP.out _ (by omega)).mono ?_
  rintro e wb ⟨rfl, hb1⟩
  simp only [PResR]
  have cc_wb0 := cell_keep (p := ⟨w.heap.size, 0, none⟩) (v := .int .i64 0) hb1 (by first | assumption | (go_keep; done) | (go_simp; done) | (simp; done)) (by first | omega | (simp <;> omega))
  have cc_wb1 := cell_keep (p := ⟨w.heap.size, 1, none⟩) (v := .int .i64 0) hb1 (by first | assumption | (go_keep; done) | (go_simp; done) | (simp; done)) (by first | omega | (simp <;> omega))
  have cc_wb2 := cell_keep (p := ⟨w.heap.size, 2, none⟩) (v := .int .i64 0) hb1 (by first | assumption | (go_keep; done) | (go_simp; done) | (simp; done)) (by first | omega | (simp <;> omega))
  have cc_wb3 := cell_keep (p := ⟨g0, 0, none⟩) (v := .string a) hb1 (by first | assumption | (go_keep; done) | (go_simp; done) | (simp; done)) (by first | omega | (simp <;> omega))
  have cc_wb4 := cell_keep (p := ⟨g0, 1, none⟩) (v := .string b) hb1 (by first | assumption | (go_keep; done) | (go_simp; done) | (simp; done)) (by first | omega | (simp <;> omega))
  have cf_wb0 := frozen_keep (p := ⟨w.heap.size, 0, none⟩) hb1 (by first | assumption | (go_keep; done) | (go_simp; done) | (simp; done)) (by first | omega | (simp <;> omega))
  have cf_wb1 := frozen_keep (p := ⟨w.heap.size, 1, none⟩) hb1 (by first | assumption | (go_keep; done) | (go_simp; done) | (simp; done)) (by first | omega | (simp <;> omega))
  have cf_wb2 := frozen_keep (p := ⟨w.heap.size, 2, none⟩) hb1 (by first | assumption | (go_keep; done) | (go_simp; done) | (simp; done)) (by first | omega | (simp <;> omega))
  have hS1_wb : Below w.heap.size w wb := S_below hb1 (by repeat (first | exact Below.refl _ _ | assumption | refine below_drewN ?_ _ | refine Below.drew ?_ | refine Below.alloc ?_ (by first | omega | (simp <;> omega)) _ | refine Below.setCell ?_ (by first | omega | (simp <;> omega)) _)) (by first | omega | (simp <;> omega))
  have hz1_wb : w.heap.size + 1 ≤ wb.heap.size := S_size hb1 (by first | omega | (simp <;> omega))
  have hqb_wb0 : w.heap.size < wb.heap.size := S_lt hb1 (by first | omega | (simp <;> omega))
  have hqb_wb1 : g0 < wb.heap.size := S_lt hb1 (by first | omega | (simp <;> omega))
  clear hb1
  go_wp2_with fail
  go_at_call 15; with_reducible refine (sParseRatio_lit HQ.out _ (by omega)).mono ?_
  rintro e wc ⟨rfl, hb1⟩
  simp only [PResR]
  have cc_wc0 := cell_keep (p := ⟨w.heap.size, 0, none⟩) (v := .int .i64 0) hb1 (by first | assumption | (go_keep; done) | (go_simp; done) | (simp; done)) (by first | omega | (simp <;> omega))
  have cc_wc1 := cell_keep (p := ⟨w.heap.size, 1, none⟩) (v := .int .i64 0) hb1 (by first | assumption | (go_keep; done) | (go_simp; done) | (simp; done)) (by first | omega | (simp <;> omega))
  have cc_wc2 := cell_keep (p := ⟨w.heap.size, 2, none⟩) (v := .int .i64 0) hb1 (by first | assumption | (go_keep; done) | (go_simp; done) | (simp; done)) (by first | omega | (simp <;> omega))
  have cc_wc3 := cell_keep (p := ⟨wb.heap.size, 0, none⟩) (v := .int .i64 X) hb1 (by first | assumption | (go_keep; done) | (go_simp; done) | (simp; done)) (by first | omega | (simp <;> omega))
  have cc_wc4 := cell_keep (p := ⟨wb.heap.size, 1, none⟩) (v := .int .i64 p) hb1 (by first | assumption | (go_keep; done) | (go_simp; done) | (simp; done)) (by first | omega | (simp <;> omega))
  have cf_wc0 := frozen_keep (p := ⟨w.heap.size, 0, none⟩) hb1 (by first | assumption | (go_keep; done) | (go_simp; done) | (simp; done)) (by first | omega | (simp <;> omega))
  have cf_wc1 := frozen_keep (p := ⟨w.heap.size, 1, none⟩) hb1 (by first | assumption | (go_keep; done) | (go_simp; done) | (simp; done)) (by first | omega | (simp <;> omega))
  have cf_wc2 := frozen_keep (p := ⟨w.heap.size, 2, none⟩) hb1 (by first | assumption | (go_keep; done) | (go_simp; done) | (simp; done)) (by first | omega | (simp <;> omega))
  have hS1_wc : Below w.heap.size w wc := S_below hb1 (by repeat (first | exact Below.refl _ _ | assumption | refine below_drewN ?_ _ | refine Below.drew ?_ | refine Below.alloc ?_ (by first | omega | (simp <;> omega)) _ | refine Below.setCell ?_ (by first | omega | (simp <;> omega)) _)) (by first | omega | (simp <;> omega))
  have hz1_wc : w.heap.size + 1 ≤ wc.heap.size := S_size hb1 (by first | omega | (simp <;> omega))
  have hqb_wc0 : w.heap.size < wc.heap.size := S_lt hb1 (by first | omega | (simp <;> omega))
  have hqb_wc1 : wb.heap.size < wc.heap.size := S_lt hb1 (by first | omega | (simp <;> omega))
  clear hb1
  go_wp2_with fail
  go_at_call 45; with_reducible refine (sGcdOf_par HG.out _ (by omega) (by omega) (by omega) (by omega)).mono ?_
  rintro e wd ⟨rfl, hb1⟩
  have cc_wd0 := cell_keep (p := ⟨w.heap.size, 0, none⟩) (v := .int .i64 0) hb1 (by first | assumption | (go_keep; done) | (go_simp; done) | (simp; done)) (by first | omega | (simp <;> omega))
  have cc_wd1 := cell_keep (p := ⟨w.heap.size, 1, none⟩) (v := .int .i64 0) hb1 (by first | assumption | (go_keep; done) | (go_simp; done) | (simp; done)) (by first | omega | (simp <;> omega))
  have cc_wd2 := cell_keep (p := ⟨w.heap.size, 2, none⟩) (v := .int .i64 0) hb1 (by first | assumption | (go_keep; done) | (go_simp; done) | (simp; done)) (by first | omega | (simp <;> omega))
  have cc_wd3 := cell_keep (p := ⟨wb.heap.size, 0, none⟩) (v := .int .i64 X) hb1 (by first | assumption | (go_keep; done) | (go_simp; done) | (simp; done)) (by first | omega | (simp <;> omega))
  have cc_wd4 := cell_keep (p := ⟨wb.heap.size, 1, none⟩) (v := .int .i64 p) hb1 (by first | assumption | (go_keep; done) | (go_simp; done) | (simp; done)) (by first | omega | (simp <;> omega))
  have cc_wd5 := cell_keep (p := ⟨wc.heap.size, 0, none⟩) (v := .int .i64 Y) hb1 (by first | assumption | (go_keep; done) | (go_simp; done) | (simp; done)) (by first | omega | (simp <;> omega))
  have cc_wd6 := cell_keep (p := ⟨wc.heap.size, 1, none⟩) (v := .int .i64 q) hb1 (by first | assumption | (go_keep; done) | (go_simp; done) | (simp; done)) (by first | omega | (simp <;> omega))
  have cf_wd0 := frozen_keep (p := ⟨w.heap.size, 0, none⟩) hb1 (by first | assumption | (go_keep; done) | (go_simp; done) | (simp; done)) (by first | omega | (simp <;> omega))
  have cf_wd1 := frozen_keep (p := ⟨w.heap.size, 1, none⟩) hb1 (by first | assumption | (go_keep; done) | (go_simp; done) | (simp; done)) (by first | omega | (simp <;> omega))
  have cf_wd2 := frozen_keep (p := ⟨w.heap.size, 2, none⟩) hb1 (by first | assumption | (go_keep; done) | (go_simp; done) | (simp; done)) (by first | omega | (simp <;> omega))
  have hS1_wd : Below w.heap.size w wd := S_below hb1 (by repeat (first | exact Below.refl _ _ | assumption | refine below_drewN ?_ _ | refine Below.drew ?_ | refine Below.alloc ?_ (by first | omega | (simp <;> omega)) _ | refine Below.setCell ?_ (by first | omega | (simp <;> omega)) _)) (by first | omega | (simp <;> omega))
  have hz1_wd : w.heap.size + 1 ≤ wd.heap.size := S_size hb1 (by first | omega | (simp <;> omega))
  have hqb_wd0 : w.heap.size < wd.heap.size := S_lt hb1 (by first | omega | (simp <;> omega))
  have hqb_wd1 : wb.heap.size < wd.heap.size := S_lt hb1 (by first | omega | (simp <;> omega))
  have hqb_wd2 : wc.heap.size < wd.heap.size := S_lt hb1 (by first | omega | (simp <;> omega))
  clear hb1
  go_wp2_with fail
  have hwp : IntKind.i64.wrap p' = p' := IntWalk.i64_in _ (by omega)
  have hwK : IntKind.i64.wrap K = K := IntWalk.i64_in _ (by omega)
  have hg0 : ¬ g = 0 := by omega
  have hq0 : ¬ q = 0 := by omega
  have hp0 : ¬ p = 0 := by omega
  refine wp_region_qb (by kernel_rfl) (by kernel_rfl) (fun W_q hW_q => ?_)
  have kq0 : ∀ d_ os_, (Sort.grow (redrawn W_q d_) os_).cell? ⟨w.heap.size, 0, none⟩ = some (.int .i64 0) := fun d_ os_ => cell_regrown (by rw [hW_q.out]; first | assumption | (go_keep; done) | (go_simp; done) | (simp; done)) d_ os_
  have kq1 : ∀ d_ os_, (Sort.grow (redrawn W_q d_) os_).cell? ⟨w.heap.size, 1, none⟩ = some (.int .i64 0) := fun d_ os_ => cell_regrown (by rw [hW_q.out]; first | assumption | (go_keep; done) | (go_simp; done) | (simp; done)) d_ os_
  have kq2 : ∀ d_ os_, (Sort.grow (redrawn W_q d_) os_).cell? ⟨w.heap.size, 2, none⟩ = some (.int .i64 0) := fun d_ os_ => cell_regrown (by rw [hW_q.out]; first | assumption | (go_keep; done) | (go_simp; done) | (simp; done)) d_ os_
  have kq3 : ∀ d_ os_, (Sort.grow (redrawn W_q d_) os_).cell? ⟨wb.heap.size, 0, none⟩ = some (.int .i64 X) := fun d_ os_ => cell_regrown (by rw [hW_q.out]; first | assumption | (go_keep; done) | (go_simp; done) | (simp; done)) d_ os_
  have kq4 : ∀ d_ os_, (Sort.grow (redrawn W_q d_) os_).cell? ⟨wb.heap.size, 1, none⟩ = some (.int .i64 p) := fun d_ os_ => cell_regrown (by rw [hW_q.out]; first | assumption | (go_keep; done) | (go_simp; done) | (simp; done)) d_ os_
  have kq5 : ∀ d_ os_, (Sort.grow (redrawn W_q d_) os_).cell? ⟨wc.heap.size, 0, none⟩ = some (.int .i64 Y) := fun d_ os_ => cell_regrown (by rw [hW_q.out]; first | assumption | (go_keep; done) | (go_simp; done) | (simp; done)) d_ os_
  have kq6 : ∀ d_ os_, (Sort.grow (redrawn W_q d_) os_).cell? ⟨wc.heap.size, 1, none⟩ = some (.int .i64 q) := fun d_ os_ => cell_regrown (by rw [hW_q.out]; first | assumption | (go_keep; done) | (go_simp; done) | (simp; done)) d_ os_
  repeat (go_big_quiet_step (fail))
  refine wpQuiet_nil ?_
  intro _ hw_q
  obtain ⟨⟨dq_, osq_⟩, hw_q⟩ := hw_q
  subst hw_q
  have hb1 := below_regrown W_q dq_ osq_
  clear kq0 kq1 kq2 kq3 kq4 kq5 kq6
  generalize Sort.grow (redrawn W_q dq_) osq_ = wi at *
  have hW_q := hW_q.out
  subst hW_q
  have cc_wi0 := cell_keep (p := ⟨w.heap.size, 0, none⟩) (v := .int .i64 0) hb1 (by first | assumption | (go_keep; done) | (go_simp; done) | (simp; done)) (by first | omega | (simp <;> omega))
  have cc_wi1 := cell_keep (p := ⟨w.heap.size, 1, none⟩) (v := .int .i64 0) hb1 (by first | assumption | (go_keep; done) | (go_simp; done) | (simp; done)) (by first | omega | (simp <;> omega))
  have cc_wi2 := cell_keep (p := ⟨w.heap.size, 2, none⟩) (v := .int .i64 0) hb1 (by first | assumption | (go_keep; done) | (go_simp; done) | (simp; done)) (by first | omega | (simp <;> omega))
  have cc_wi3 := cell_keep (p := ⟨wb.heap.size, 0, none⟩) (v := .int .i64 X) hb1 (by first | assumption | (go_keep; done) | (go_simp; done) | (simp; done)) (by first | omega | (simp <;> omega))
  have cc_wi4 := cell_keep (p := ⟨wb.heap.size, 1, none⟩) (v := .int .i64 p) hb1 (by first | assumption | (go_keep; done) | (go_simp; done) | (simp; done)) (by first | omega | (simp <;> omega))
  have cc_wi5 := cell_keep (p := ⟨wc.heap.size, 0, none⟩) (v := .int .i64 Y) hb1 (by first | assumption | (go_keep; done) | (go_simp; done) | (simp; done)) (by first | omega | (simp <;> omega))
  have cc_wi6 := cell_keep (p := ⟨wc.heap.size, 1, none⟩) (v := .int .i64 q) hb1 (by first | assumption | (go_keep; done) | (go_simp; done) | (simp; done)) (by first | omega | (simp <;> omega))
  have cf_wi0 := frozen_keep (p := ⟨w.heap.size, 0, none⟩) hb1 (by first | assumption | (go_keep; done) | (go_simp; done) | (simp; done)) (by first | omega | (simp <;> omega))
  have cf_wi1 := frozen_keep (p := ⟨w.heap.size, 1, none⟩) hb1 (by first | assumption | (go_keep; done) | (go_simp; done) | (simp; done)) (by first | omega | (simp <;> omega))
  have cf_wi2 := frozen_keep (p := ⟨w.heap.size, 2, none⟩) hb1 (by first | assumption | (go_keep; done) | (go_simp; done) | (simp; done)) (by first | omega | (simp <;> omega))
  have hS1_wi : Below w.heap.size w wi := S_below hb1 (by repeat (first | exact Below.refl _ _ | assumption | refine below_drewN ?_ _ | refine Below.drew ?_ | refine Below.alloc ?_ (by first | omega | (simp <;> omega)) _ | refine Below.setCell ?_ (by first | omega | (simp <;> omega)) _)) (by first | omega | (simp <;> omega))
  have hz1_wi : w.heap.size + 1 ≤ wi.heap.size := S_size hb1 (by first | omega | (simp <;> omega))
  have hqb_wi0 : w.heap.size < wi.heap.size := S_lt hb1 (by first | omega | (simp <;> omega))
  have hqb_wi1 : wb.heap.size < wi.heap.size := S_lt hb1 (by first | omega | (simp <;> omega))
  have hqb_wi2 : wc.heap.size < wi.heap.size := S_lt hb1 (by first | omega | (simp <;> omega))
  clear hb1
  go_wp2_with fail
  have hwL : IntKind.i64.wrap (p' * q) = p' * q := IntWalk.i64_in _ (by omega)
  refine wp_region_qb (by kernel_rfl) (by kernel_rfl) (fun W_q hW_q => ?_)
  have kq0 : ∀ d_ os_, (Sort.grow (redrawn W_q d_) os_).cell? ⟨w.heap.size, 0, none⟩ = some (.int .i64 0) := fun d_ os_ => cell_regrown (by rw [hW_q.out]; first | assumption | (go_keep; done) | (go_simp; done) | (simp; done)) d_ os_
  have kq1 : ∀ d_ os_, (Sort.grow (redrawn W_q d_) os_).cell? ⟨w.heap.size, 1, none⟩ = some (.int .i64 0) := fun d_ os_ => cell_regrown (by rw [hW_q.out]; first | assumption | (go_keep; done) | (go_simp; done) | (simp; done)) d_ os_
  have kq2 : ∀ d_ os_, (Sort.grow (redrawn W_q d_) os_).cell? ⟨w.heap.size, 2, none⟩ = some (.int .i64 0) := fun d_ os_ => cell_regrown (by rw [hW_q.out]; first | assumption | (go_keep; done) | (go_simp; done) | (simp; done)) d_ os_
  have kq3 : ∀ d_ os_, (Sort.grow (redrawn W_q d_) os_).cell? ⟨wb.heap.size, 0, none⟩ = some (.int .i64 X) := fun d_ os_ => cell_regrown (by rw [hW_q.out]; first | assumption | (go_keep; done) | (go_simp; done) | (simp; done)) d_ os_
  have kq4 : ∀ d_ os_, (Sort.grow (redrawn W_q d_) os_).cell? ⟨wb.heap.size, 1, none⟩ = some (.int .i64 p) := fun d_ os_ => cell_regrown (by rw [hW_q.out]; first | assumption | (go_keep; done) | (go_simp; done) | (simp; done)) d_ os_
  have kq5 : ∀ d_ os_, (Sort.grow (redrawn W_q d_) os_).cell? ⟨wc.heap.size, 0, none⟩ = some (.int .i64 Y) := fun d_ os_ => cell_regrown (by rw [hW_q.out]; first | assumption | (go_keep; done) | (go_simp; done) | (simp; done)) d_ os_
  have kq6 : ∀ d_ os_, (Sort.grow (redrawn W_q d_) os_).cell? ⟨wc.heap.size, 1, none⟩ = some (.int .i64 q) := fun d_ os_ => cell_regrown (by rw [hW_q.out]; first | assumption | (go_keep; done) | (go_simp; done) | (simp; done)) d_ os_
  repeat (go_big_quiet_step (fail))
  refine wpQuiet_nil ?_
  intro _ hw_q
  obtain ⟨⟨dq_, osq_⟩, hw_q⟩ := hw_q
  subst hw_q
  have hb1 := below_regrown W_q dq_ osq_
  clear kq0 kq1 kq2 kq3 kq4 kq5 kq6
  generalize Sort.grow (redrawn W_q dq_) osq_ = wj at *
  have hW_q := hW_q.out
  subst hW_q
  have cc_wj0 := cell_keep (p := ⟨w.heap.size, 0, none⟩) (v := .int .i64 0) hb1 (by first | assumption | (go_keep; done) | (go_simp; done) | (simp; done)) (by first | omega | (simp <;> omega))
  have cc_wj1 := cell_keep (p := ⟨w.heap.size, 1, none⟩) (v := .int .i64 0) hb1 (by first | assumption | (go_keep; done) | (go_simp; done) | (simp; done)) (by first | omega | (simp <;> omega))
  have cc_wj2 := cell_keep (p := ⟨w.heap.size, 2, none⟩) (v := .int .i64 0) hb1 (by first | assumption | (go_keep; done) | (go_simp; done) | (simp; done)) (by first | omega | (simp <;> omega))
  have cc_wj3 := cell_keep (p := ⟨wb.heap.size, 0, none⟩) (v := .int .i64 X) hb1 (by first | assumption | (go_keep; done) | (go_simp; done) | (simp; done)) (by first | omega | (simp <;> omega))
  have cc_wj4 := cell_keep (p := ⟨wb.heap.size, 1, none⟩) (v := .int .i64 p) hb1 (by first | assumption | (go_keep; done) | (go_simp; done) | (simp; done)) (by first | omega | (simp <;> omega))
  have cc_wj5 := cell_keep (p := ⟨wc.heap.size, 0, none⟩) (v := .int .i64 Y) hb1 (by first | assumption | (go_keep; done) | (go_simp; done) | (simp; done)) (by first | omega | (simp <;> omega))
  have cc_wj6 := cell_keep (p := ⟨wc.heap.size, 1, none⟩) (v := .int .i64 q) hb1 (by first | assumption | (go_keep; done) | (go_simp; done) | (simp; done)) (by first | omega | (simp <;> omega))
  have cf_wj0 := frozen_keep (p := ⟨w.heap.size, 0, none⟩) hb1 (by first | assumption | (go_keep; done) | (go_simp; done) | (simp; done)) (by first | omega | (simp <;> omega))
  have cf_wj1 := frozen_keep (p := ⟨w.heap.size, 1, none⟩) hb1 (by first | assumption | (go_keep; done) | (go_simp; done) | (simp; done)) (by first | omega | (simp <;> omega))
  have cf_wj2 := frozen_keep (p := ⟨w.heap.size, 2, none⟩) hb1 (by first | assumption | (go_keep; done) | (go_simp; done) | (simp; done)) (by first | omega | (simp <;> omega))
  have hS1_wj : Below w.heap.size w wj := S_below hb1 (by repeat (first | exact Below.refl _ _ | assumption | refine below_drewN ?_ _ | refine Below.drew ?_ | refine Below.alloc ?_ (by first | omega | (simp <;> omega)) _ | refine Below.setCell ?_ (by first | omega | (simp <;> omega)) _)) (by first | omega | (simp <;> omega))
  have hz1_wj : w.heap.size + 1 ≤ wj.heap.size := S_size hb1 (by first | omega | (simp <;> omega))
  have hqb_wj0 : w.heap.size < wj.heap.size := S_lt hb1 (by first | omega | (simp <;> omega))
  have hqb_wj1 : wb.heap.size < wj.heap.size := S_lt hb1 (by first | omega | (simp <;> omega))
  have hqb_wj2 : wc.heap.size < wj.heap.size := S_lt hb1 (by first | omega | (simp <;> omega))
  clear hb1
  go_wp2_with (first | (go_at_call 46; with_reducible refine (l01In_any _ _ _ _).mono ?_; rintro e w1 ⟨rfl, rfl⟩))
  exact bodyPost_ret (v := .tuple #[.agg #[.int .i64 0, .int .i64 0, .int .i64 0], .bool false]) (by simp [results, Tryd.results18, go_sem, set_0 cc_wj0, set2_1 cc_wj1, set3_2 cc_wj2]) rfl ⟨rfl, (by repeat (first | exact Below.refl _ _ | assumption | refine below_drewN ?_ _ | refine Below.drew ?_ | refine Below.alloc ?_ (by first | omega | (simp <;> omega)) _ | refine Below.setCell ?_ (by first | omega | (simp <;> omega)) _))⟩

set_option maxHeartbeats 1000000 in
set_option maxRecDepth 100000 in
theorem sPS_B {s a b : ByteArray} {X p Y q g p' q' : Int} {ls : List ByteArray} (hls : pcsB s ⟨#[44]⟩ = ls) (h0 : ls[0]? = some a) (h1 : ls[1]? = some b) (hl : ls.length = 2) (hpa : prV a = some (X, p)) (hpb : prV b = some (Y, q)) (hp : p ≤ 5000000000) (hq : q ≤ 5000000000) (hg : gcdV p q = g) (g1 : 1 ≤ g) (hqq : p.tdiv g = p') (q3 : 1 ≤ p') (q4 : p' ≤ p) {K : Int} (hK : (5000000000 : Int).tdiv q = K) (k0 : 0 ≤ K) (k1 : K ≤ 5000000000) (hKK : p' ≤ K) (hL : p' * q ≤ 5000000000) (hL1 : 1 ≤ p' * q) (hx : inB X (-1000 * p) (1000 * p) = true) (hy : inB Y (-1000 * q) (1000 * q) = true) (hp1 : (p' * q).tdiv p = q') (hp2 : (p' * q).tdiv q = p') (q5 : 1 ≤ q') (q6 : q' ≤ q) (u1 : -5000000000000 ≤ X * q') (u2 : X * q' ≤ 5000000000000) (v1 : -5000000000000 ≤ Y * p') (v2 : Y * p' ≤ 5000000000000) (ho : spotOkV (X * q') (Y * p') (p' * q) = true) (hf : fmtS (X * q') (Y * p') (p' * q) ≠ s) (w : World) (hs : s.size ≤ 1048576) (has : a.size ≤ 1048576) (hbs : b.size ≤ 1048576) :
    Calls Tryd.prog 18 #[.string s] w fun e w' => e = .returned (.tuple #[.agg #[.int .i64 0, .int .i64 0, .int .i64 0], .bool false]) ∧ Below w.heap.size w w' := by
  have HLS := Lib.hid hls; clear hls
  have H0 := Lib.hid h0; clear h0
  have H1 := Lib.hid h1; clear h1
  have HG := Lib.hid hg; clear hg
  have HO := Lib.hid ho; clear ho
  have hne := str_ne hf; clear hf
  obtain ⟨f, hf⟩ : ∃ f, fmtS (X * q') (Y * p') (p' * q) = f := ⟨_, rfl⟩
  rw [hf] at hne
  have HF := Lib.hid hf; clear hf
  obtain ⟨⟨p1, p2⟩, x1, x2⟩ := ratioOkV_bounds (prV_some hpa).1
  have HP := Lib.hid hpa; clear hpa
  obtain ⟨⟨q1, q2⟩, y1, y2⟩ := ratioOkV_bounds (prV_some hpb).1
  have HQ := Lib.hid hpb; clear hpb
  go_enter Tryd.func18, Tryd.ntmps18
  go_wp2_with fail
  go_at_call 41; with_reducible refine (sSplitAny_lit HLS.out _ (by omega) (by decide)).mono ?_
  rintro e wa ⟨g0, c0, rfl, hO0, hg0, hb1⟩
  obtain ⟨cA, hga⟩ := own_cell hO0 H0.out
  obtain ⟨cB, _⟩ := own_cell hO0 H1.out
  clear hO0
  have cc_wa0 := cell_keep (p := ⟨w.heap.size, 0, none⟩) (v := .int .i64 0) hb1 (by first | assumption | (go_keep; done) | (go_simp; done) | (simp; done)) (by first | omega | (simp <;> omega))
  have cc_wa1 := cell_keep (p := ⟨w.heap.size, 1, none⟩) (v := .int .i64 0) hb1 (by first | assumption | (go_keep; done) | (go_simp; done) | (simp; done)) (by first | omega | (simp <;> omega))
  have cc_wa2 := cell_keep (p := ⟨w.heap.size, 2, none⟩) (v := .int .i64 0) hb1 (by first | assumption | (go_keep; done) | (go_simp; done) | (simp; done)) (by first | omega | (simp <;> omega))
  have cf_wa0 := frozen_keep (p := ⟨w.heap.size, 0, none⟩) hb1 (by first | assumption | (go_keep; done) | (go_simp; done) | (simp; done)) (by first | omega | (simp <;> omega))
  have cf_wa1 := frozen_keep (p := ⟨w.heap.size, 1, none⟩) hb1 (by first | assumption | (go_keep; done) | (go_simp; done) | (simp; done)) (by first | omega | (simp <;> omega))
  have cf_wa2 := frozen_keep (p := ⟨w.heap.size, 2, none⟩) hb1 (by first | assumption | (go_keep; done) | (go_simp; done) | (simp; done)) (by first | omega | (simp <;> omega))
  have hS1_wa : Below w.heap.size w wa := S_below hb1 (by repeat (first | exact Below.refl _ _ | assumption | refine below_drewN ?_ _ | refine Below.drew ?_ | refine Below.alloc ?_ (by first | omega | (simp <;> omega)) _ | refine Below.setCell ?_ (by first | omega | (simp <;> omega)) _)) (by first | omega | (simp <;> omega))
  have hz1_wa : w.heap.size + 1 ≤ wa.heap.size := S_size hb1 (by first | omega | (simp <;> omega))
  have hqb_wa0 : w.heap.size < wa.heap.size := S_lt hb1 (by first | omega | (simp <;> omega))
  clear hb1
  generalize ls.length = m at *
  subst hl
  go_wp2_with fail
  go_at_call 15; with_reducible refine (sParseRatio_lit HP.out _ (by omega)).mono ?_
  rintro e wb ⟨rfl, hb1⟩
  simp only [PResR]
  have cc_wb0 := cell_keep (p := ⟨w.heap.size, 0, none⟩) (v := .int .i64 0) hb1 (by first | assumption | (go_keep; done) | (go_simp; done) | (simp; done)) (by first | omega | (simp <;> omega))
  have cc_wb1 := cell_keep (p := ⟨w.heap.size, 1, none⟩) (v := .int .i64 0) hb1 (by first | assumption | (go_keep; done) | (go_simp; done) | (simp; done)) (by first | omega | (simp <;> omega))
  have cc_wb2 := cell_keep (p := ⟨w.heap.size, 2, none⟩) (v := .int .i64 0) hb1 (by first | assumption | (go_keep; done) | (go_simp; done) | (simp; done)) (by first | omega | (simp <;> omega))
  have cc_wb3 := cell_keep (p := ⟨g0, 0, none⟩) (v := .string a) hb1 (by first | assumption | (go_keep; done) | (go_simp; done) | (simp; done)) (by first | omega | (simp <;> omega))
  have cc_wb4 := cell_keep (p := ⟨g0, 1, none⟩) (v := .string b) hb1 (by first | assumption | (go_keep; done) | (go_simp; done) | (simp; done)) (by first | omega | (simp <;> omega))
  have cf_wb0 := frozen_keep (p := ⟨w.heap.size, 0, none⟩) hb1 (by first | assumption | (go_keep; done) | (go_simp; done) | (simp; done)) (by first | omega | (simp <;> omega))
  have cf_wb1 := frozen_keep (p := ⟨w.heap.size, 1, none⟩) hb1 (by first | assumption | (go_keep; done) | (go_simp; done) | (simp; done)) (by first | omega | (simp <;> omega))
  have cf_wb2 := frozen_keep (p := ⟨w.heap.size, 2, none⟩) hb1 (by first | assumption | (go_keep; done) | (go_simp; done) | (simp; done)) (by first | omega | (simp <;> omega))
  have hS1_wb : Below w.heap.size w wb := S_below hb1 (by repeat (first | exact Below.refl _ _ | assumption | refine below_drewN ?_ _ | refine Below.drew ?_ | refine Below.alloc ?_ (by first | omega | (simp <;> omega)) _ | refine Below.setCell ?_ (by first | omega | (simp <;> omega)) _)) (by first | omega | (simp <;> omega))
  have hz1_wb : w.heap.size + 1 ≤ wb.heap.size := S_size hb1 (by first | omega | (simp <;> omega))
  have hqb_wb0 : w.heap.size < wb.heap.size := S_lt hb1 (by first | omega | (simp <;> omega))
  have hqb_wb1 : g0 < wb.heap.size := S_lt hb1 (by first | omega | (simp <;> omega))
  clear hb1
  go_wp2_with fail
  go_at_call 15; with_reducible refine (sParseRatio_lit HQ.out _ (by omega)).mono ?_
  rintro e wc ⟨rfl, hb1⟩
  simp only [PResR]
  have cc_wc0 := cell_keep (p := ⟨w.heap.size, 0, none⟩) (v := .int .i64 0) hb1 (by first | assumption | (go_keep; done) | (go_simp; done) | (simp; done)) (by first | omega | (simp <;> omega))
  have cc_wc1 := cell_keep (p := ⟨w.heap.size, 1, none⟩) (v := .int .i64 0) hb1 (by first | assumption | (go_keep; done) | (go_simp; done) | (simp; done)) (by first | omega | (simp <;> omega))
  have cc_wc2 := cell_keep (p := ⟨w.heap.size, 2, none⟩) (v := .int .i64 0) hb1 (by first | assumption | (go_keep; done) | (go_simp; done) | (simp; done)) (by first | omega | (simp <;> omega))
  have cc_wc3 := cell_keep (p := ⟨wb.heap.size, 0, none⟩) (v := .int .i64 X) hb1 (by first | assumption | (go_keep; done) | (go_simp; done) | (simp; done)) (by first | omega | (simp <;> omega))
  have cc_wc4 := cell_keep (p := ⟨wb.heap.size, 1, none⟩) (v := .int .i64 p) hb1 (by first | assumption | (go_keep; done) | (go_simp; done) | (simp; done)) (by first | omega | (simp <;> omega))
  have cf_wc0 := frozen_keep (p := ⟨w.heap.size, 0, none⟩) hb1 (by first | assumption | (go_keep; done) | (go_simp; done) | (simp; done)) (by first | omega | (simp <;> omega))
  have cf_wc1 := frozen_keep (p := ⟨w.heap.size, 1, none⟩) hb1 (by first | assumption | (go_keep; done) | (go_simp; done) | (simp; done)) (by first | omega | (simp <;> omega))
  have cf_wc2 := frozen_keep (p := ⟨w.heap.size, 2, none⟩) hb1 (by first | assumption | (go_keep; done) | (go_simp; done) | (simp; done)) (by first | omega | (simp <;> omega))
  have hS1_wc : Below w.heap.size w wc := S_below hb1 (by repeat (first | exact Below.refl _ _ | assumption | refine below_drewN ?_ _ | refine Below.drew ?_ | refine Below.alloc ?_ (by first | omega | (simp <;> omega)) _ | refine Below.setCell ?_ (by first | omega | (simp <;> omega)) _)) (by first | omega | (simp <;> omega))
  have hz1_wc : w.heap.size + 1 ≤ wc.heap.size := S_size hb1 (by first | omega | (simp <;> omega))
  have hqb_wc0 : w.heap.size < wc.heap.size := S_lt hb1 (by first | omega | (simp <;> omega))
  have hqb_wc1 : wb.heap.size < wc.heap.size := S_lt hb1 (by first | omega | (simp <;> omega))
  clear hb1
  go_wp2_with fail
  go_at_call 45; with_reducible refine (sGcdOf_par HG.out _ (by omega) (by omega) (by omega) (by omega)).mono ?_
  rintro e wd ⟨rfl, hb1⟩
  have cc_wd0 := cell_keep (p := ⟨w.heap.size, 0, none⟩) (v := .int .i64 0) hb1 (by first | assumption | (go_keep; done) | (go_simp; done) | (simp; done)) (by first | omega | (simp <;> omega))
  have cc_wd1 := cell_keep (p := ⟨w.heap.size, 1, none⟩) (v := .int .i64 0) hb1 (by first | assumption | (go_keep; done) | (go_simp; done) | (simp; done)) (by first | omega | (simp <;> omega))
  have cc_wd2 := cell_keep (p := ⟨w.heap.size, 2, none⟩) (v := .int .i64 0) hb1 (by first | assumption | (go_keep; done) | (go_simp; done) | (simp; done)) (by first | omega | (simp <;> omega))
  have cc_wd3 := cell_keep (p := ⟨wb.heap.size, 0, none⟩) (v := .int .i64 X) hb1 (by first | assumption | (go_keep; done) | (go_simp; done) | (simp; done)) (by first | omega | (simp <;> omega))
  have cc_wd4 := cell_keep (p := ⟨wb.heap.size, 1, none⟩) (v := .int .i64 p) hb1 (by first | assumption | (go_keep; done) | (go_simp; done) | (simp; done)) (by first | omega | (simp <;> omega))
  have cc_wd5 := cell_keep (p := ⟨wc.heap.size, 0, none⟩) (v := .int .i64 Y) hb1 (by first | assumption | (go_keep; done) | (go_simp; done) | (simp; done)) (by first | omega | (simp <;> omega))
  have cc_wd6 := cell_keep (p := ⟨wc.heap.size, 1, none⟩) (v := .int .i64 q) hb1 (by first | assumption | (go_keep; done) | (go_simp; done) | (simp; done)) (by first | omega | (simp <;> omega))
  have cf_wd0 := frozen_keep (p := ⟨w.heap.size, 0, none⟩) hb1 (by first | assumption | (go_keep; done) | (go_simp; done) | (simp; done)) (by first | omega | (simp <;> omega))
  have cf_wd1 := frozen_keep (p := ⟨w.heap.size, 1, none⟩) hb1 (by first | assumption | (go_keep; done) | (go_simp; done) | (simp; done)) (by first | omega | (simp <;> omega))
  have cf_wd2 := frozen_keep (p := ⟨w.heap.size, 2, none⟩) hb1 (by first | assumption | (go_keep; done) | (go_simp; done) | (simp; done)) (by first | omega | (simp <;> omega))
  have hS1_wd : Below w.heap.size w wd := S_below hb1 (by repeat (first | exact Below.refl _ _ | assumption | refine below_drewN ?_ _ | refine Below.drew ?_ | refine Below.alloc ?_ (by first | omega | (simp <;> omega)) _ | refine Below.setCell ?_ (by first | omega | (simp <;> omega)) _)) (by first | omega | (simp <;> omega))
  have hz1_wd : w.heap.size + 1 ≤ wd.heap.size := S_size hb1 (by first | omega | (simp <;> omega))
  have hqb_wd0 : w.heap.size < wd.heap.size := S_lt hb1 (by first | omega | (simp <;> omega))
  have hqb_wd1 : wb.heap.size < wd.heap.size := S_lt hb1 (by first | omega | (simp <;> omega))
  have hqb_wd2 : wc.heap.size < wd.heap.size := S_lt hb1 (by first | omega | (simp <;> omega))
  clear hb1
  go_wp2_with fail
  have hwp : IntKind.i64.wrap p' = p' := IntWalk.i64_in _ (by omega)
  have hwK : IntKind.i64.wrap K = K := IntWalk.i64_in _ (by omega)
  have hg0 : ¬ g = 0 := by omega
  have hq0 : ¬ q = 0 := by omega
  have hp0 : ¬ p = 0 := by omega
  refine wp_region_qb (by kernel_rfl) (by kernel_rfl) (fun W_q hW_q => ?_)
  have kq0 : ∀ d_ os_, (Sort.grow (redrawn W_q d_) os_).cell? ⟨w.heap.size, 0, none⟩ = some (.int .i64 0) := fun d_ os_ => cell_regrown (by rw [hW_q.out]; first | assumption | (go_keep; done) | (go_simp; done) | (simp; done)) d_ os_
  have kq1 : ∀ d_ os_, (Sort.grow (redrawn W_q d_) os_).cell? ⟨w.heap.size, 1, none⟩ = some (.int .i64 0) := fun d_ os_ => cell_regrown (by rw [hW_q.out]; first | assumption | (go_keep; done) | (go_simp; done) | (simp; done)) d_ os_
  have kq2 : ∀ d_ os_, (Sort.grow (redrawn W_q d_) os_).cell? ⟨w.heap.size, 2, none⟩ = some (.int .i64 0) := fun d_ os_ => cell_regrown (by rw [hW_q.out]; first | assumption | (go_keep; done) | (go_simp; done) | (simp; done)) d_ os_
  have kq3 : ∀ d_ os_, (Sort.grow (redrawn W_q d_) os_).cell? ⟨wb.heap.size, 0, none⟩ = some (.int .i64 X) := fun d_ os_ => cell_regrown (by rw [hW_q.out]; first | assumption | (go_keep; done) | (go_simp; done) | (simp; done)) d_ os_
  have kq4 : ∀ d_ os_, (Sort.grow (redrawn W_q d_) os_).cell? ⟨wb.heap.size, 1, none⟩ = some (.int .i64 p) := fun d_ os_ => cell_regrown (by rw [hW_q.out]; first | assumption | (go_keep; done) | (go_simp; done) | (simp; done)) d_ os_
  have kq5 : ∀ d_ os_, (Sort.grow (redrawn W_q d_) os_).cell? ⟨wc.heap.size, 0, none⟩ = some (.int .i64 Y) := fun d_ os_ => cell_regrown (by rw [hW_q.out]; first | assumption | (go_keep; done) | (go_simp; done) | (simp; done)) d_ os_
  have kq6 : ∀ d_ os_, (Sort.grow (redrawn W_q d_) os_).cell? ⟨wc.heap.size, 1, none⟩ = some (.int .i64 q) := fun d_ os_ => cell_regrown (by rw [hW_q.out]; first | assumption | (go_keep; done) | (go_simp; done) | (simp; done)) d_ os_
  repeat (go_big_quiet_step (fail))
  refine wpQuiet_nil ?_
  intro _ hw_q
  obtain ⟨⟨dq_, osq_⟩, hw_q⟩ := hw_q
  subst hw_q
  have hb1 := below_regrown W_q dq_ osq_
  clear kq0 kq1 kq2 kq3 kq4 kq5 kq6
  generalize Sort.grow (redrawn W_q dq_) osq_ = wi at *
  have hW_q := hW_q.out
  subst hW_q
  have cc_wi0 := cell_keep (p := ⟨w.heap.size, 0, none⟩) (v := .int .i64 0) hb1 (by first | assumption | (go_keep; done) | (go_simp; done) | (simp; done)) (by first | omega | (simp <;> omega))
  have cc_wi1 := cell_keep (p := ⟨w.heap.size, 1, none⟩) (v := .int .i64 0) hb1 (by first | assumption | (go_keep; done) | (go_simp; done) | (simp; done)) (by first | omega | (simp <;> omega))
  have cc_wi2 := cell_keep (p := ⟨w.heap.size, 2, none⟩) (v := .int .i64 0) hb1 (by first | assumption | (go_keep; done) | (go_simp; done) | (simp; done)) (by first | omega | (simp <;> omega))
  have cc_wi3 := cell_keep (p := ⟨wb.heap.size, 0, none⟩) (v := .int .i64 X) hb1 (by first | assumption | (go_keep; done) | (go_simp; done) | (simp; done)) (by first | omega | (simp <;> omega))
  have cc_wi4 := cell_keep (p := ⟨wb.heap.size, 1, none⟩) (v := .int .i64 p) hb1 (by first | assumption | (go_keep; done) | (go_simp; done) | (simp; done)) (by first | omega | (simp <;> omega))
  have cc_wi5 := cell_keep (p := ⟨wc.heap.size, 0, none⟩) (v := .int .i64 Y) hb1 (by first | assumption | (go_keep; done) | (go_simp; done) | (simp; done)) (by first | omega | (simp <;> omega))
  have cc_wi6 := cell_keep (p := ⟨wc.heap.size, 1, none⟩) (v := .int .i64 q) hb1 (by first | assumption | (go_keep; done) | (go_simp; done) | (simp; done)) (by first | omega | (simp <;> omega))
  have cf_wi0 := frozen_keep (p := ⟨w.heap.size, 0, none⟩) hb1 (by first | assumption | (go_keep; done) | (go_simp; done) | (simp; done)) (by first | omega | (simp <;> omega))
  have cf_wi1 := frozen_keep (p := ⟨w.heap.size, 1, none⟩) hb1 (by first | assumption | (go_keep; done) | (go_simp; done) | (simp; done)) (by first | omega | (simp <;> omega))
  have cf_wi2 := frozen_keep (p := ⟨w.heap.size, 2, none⟩) hb1 (by first | assumption | (go_keep; done) | (go_simp; done) | (simp; done)) (by first | omega | (simp <;> omega))
  have hS1_wi : Below w.heap.size w wi := S_below hb1 (by repeat (first | exact Below.refl _ _ | assumption | refine below_drewN ?_ _ | refine Below.drew ?_ | refine Below.alloc ?_ (by first | omega | (simp <;> omega)) _ | refine Below.setCell ?_ (by first | omega | (simp <;> omega)) _)) (by first | omega | (simp <;> omega))
  have hz1_wi : w.heap.size + 1 ≤ wi.heap.size := S_size hb1 (by first | omega | (simp <;> omega))
  have hqb_wi0 : w.heap.size < wi.heap.size := S_lt hb1 (by first | omega | (simp <;> omega))
  have hqb_wi1 : wb.heap.size < wi.heap.size := S_lt hb1 (by first | omega | (simp <;> omega))
  have hqb_wi2 : wc.heap.size < wi.heap.size := S_lt hb1 (by first | omega | (simp <;> omega))
  clear hb1
  go_wp2_with fail
  have hwL : IntKind.i64.wrap (p' * q) = p' * q := IntWalk.i64_in _ (by omega)
  refine wp_region_qb (by kernel_rfl) (by kernel_rfl) (fun W_q hW_q => ?_)
  have kq0 : ∀ d_ os_, (Sort.grow (redrawn W_q d_) os_).cell? ⟨w.heap.size, 0, none⟩ = some (.int .i64 0) := fun d_ os_ => cell_regrown (by rw [hW_q.out]; first | assumption | (go_keep; done) | (go_simp; done) | (simp; done)) d_ os_
  have kq1 : ∀ d_ os_, (Sort.grow (redrawn W_q d_) os_).cell? ⟨w.heap.size, 1, none⟩ = some (.int .i64 0) := fun d_ os_ => cell_regrown (by rw [hW_q.out]; first | assumption | (go_keep; done) | (go_simp; done) | (simp; done)) d_ os_
  have kq2 : ∀ d_ os_, (Sort.grow (redrawn W_q d_) os_).cell? ⟨w.heap.size, 2, none⟩ = some (.int .i64 0) := fun d_ os_ => cell_regrown (by rw [hW_q.out]; first | assumption | (go_keep; done) | (go_simp; done) | (simp; done)) d_ os_
  have kq3 : ∀ d_ os_, (Sort.grow (redrawn W_q d_) os_).cell? ⟨wb.heap.size, 0, none⟩ = some (.int .i64 X) := fun d_ os_ => cell_regrown (by rw [hW_q.out]; first | assumption | (go_keep; done) | (go_simp; done) | (simp; done)) d_ os_
  have kq4 : ∀ d_ os_, (Sort.grow (redrawn W_q d_) os_).cell? ⟨wb.heap.size, 1, none⟩ = some (.int .i64 p) := fun d_ os_ => cell_regrown (by rw [hW_q.out]; first | assumption | (go_keep; done) | (go_simp; done) | (simp; done)) d_ os_
  have kq5 : ∀ d_ os_, (Sort.grow (redrawn W_q d_) os_).cell? ⟨wc.heap.size, 0, none⟩ = some (.int .i64 Y) := fun d_ os_ => cell_regrown (by rw [hW_q.out]; first | assumption | (go_keep; done) | (go_simp; done) | (simp; done)) d_ os_
  have kq6 : ∀ d_ os_, (Sort.grow (redrawn W_q d_) os_).cell? ⟨wc.heap.size, 1, none⟩ = some (.int .i64 q) := fun d_ os_ => cell_regrown (by rw [hW_q.out]; first | assumption | (go_keep; done) | (go_simp; done) | (simp; done)) d_ os_
  repeat (go_big_quiet_step (fail))
  refine wpQuiet_nil ?_
  intro _ hw_q
  obtain ⟨⟨dq_, osq_⟩, hw_q⟩ := hw_q
  subst hw_q
  have hb1 := below_regrown W_q dq_ osq_
  clear kq0 kq1 kq2 kq3 kq4 kq5 kq6
  generalize Sort.grow (redrawn W_q dq_) osq_ = wj at *
  have hW_q := hW_q.out
  subst hW_q
  have cc_wj0 := cell_keep (p := ⟨w.heap.size, 0, none⟩) (v := .int .i64 0) hb1 (by first | assumption | (go_keep; done) | (go_simp; done) | (simp; done)) (by first | omega | (simp <;> omega))
  have cc_wj1 := cell_keep (p := ⟨w.heap.size, 1, none⟩) (v := .int .i64 0) hb1 (by first | assumption | (go_keep; done) | (go_simp; done) | (simp; done)) (by first | omega | (simp <;> omega))
  have cc_wj2 := cell_keep (p := ⟨w.heap.size, 2, none⟩) (v := .int .i64 0) hb1 (by first | assumption | (go_keep; done) | (go_simp; done) | (simp; done)) (by first | omega | (simp <;> omega))
  have cc_wj3 := cell_keep (p := ⟨wb.heap.size, 0, none⟩) (v := .int .i64 X) hb1 (by first | assumption | (go_keep; done) | (go_simp; done) | (simp; done)) (by first | omega | (simp <;> omega))
  have cc_wj4 := cell_keep (p := ⟨wb.heap.size, 1, none⟩) (v := .int .i64 p) hb1 (by first | assumption | (go_keep; done) | (go_simp; done) | (simp; done)) (by first | omega | (simp <;> omega))
  have cc_wj5 := cell_keep (p := ⟨wc.heap.size, 0, none⟩) (v := .int .i64 Y) hb1 (by first | assumption | (go_keep; done) | (go_simp; done) | (simp; done)) (by first | omega | (simp <;> omega))
  have cc_wj6 := cell_keep (p := ⟨wc.heap.size, 1, none⟩) (v := .int .i64 q) hb1 (by first | assumption | (go_keep; done) | (go_simp; done) | (simp; done)) (by first | omega | (simp <;> omega))
  have cf_wj0 := frozen_keep (p := ⟨w.heap.size, 0, none⟩) hb1 (by first | assumption | (go_keep; done) | (go_simp; done) | (simp; done)) (by first | omega | (simp <;> omega))
  have cf_wj1 := frozen_keep (p := ⟨w.heap.size, 1, none⟩) hb1 (by first | assumption | (go_keep; done) | (go_simp; done) | (simp; done)) (by first | omega | (simp <;> omega))
  have cf_wj2 := frozen_keep (p := ⟨w.heap.size, 2, none⟩) hb1 (by first | assumption | (go_keep; done) | (go_simp; done) | (simp; done)) (by first | omega | (simp <;> omega))
  have hS1_wj : Below w.heap.size w wj := S_below hb1 (by repeat (first | exact Below.refl _ _ | assumption | refine below_drewN ?_ _ | refine Below.drew ?_ | refine Below.alloc ?_ (by first | omega | (simp <;> omega)) _ | refine Below.setCell ?_ (by first | omega | (simp <;> omega)) _)) (by first | omega | (simp <;> omega))
  have hz1_wj : w.heap.size + 1 ≤ wj.heap.size := S_size hb1 (by first | omega | (simp <;> omega))
  have hqb_wj0 : w.heap.size < wj.heap.size := S_lt hb1 (by first | omega | (simp <;> omega))
  have hqb_wj1 : wb.heap.size < wj.heap.size := S_lt hb1 (by first | omega | (simp <;> omega))
  have hqb_wj2 : wc.heap.size < wj.heap.size := S_lt hb1 (by first | omega | (simp <;> omega))
  clear hb1
  go_wp2_with (first | (go_at_call 46; with_reducible refine (l01In_any _ _ _ _).mono ?_; rintro e w1 ⟨rfl, rfl⟩))
  have hw1 : IntKind.i64.wrap (X * q') = X * q' := IntWalk.i64_in _ (by omega)
  have hw2 : IntKind.i64.wrap (Y * p') = Y * p' := IntWalk.i64_in _ (by omega)
  have hw3 : IntKind.i64.wrap q' = q' := IntWalk.i64_in _ (by omega)
  go_upto_region 14 with fail
  go_cut [11, 12] (fun s11 s12 wx => ∃ ba : Nat, s11 = .pointer (some ⟨ba, 0, none⟩) ∧ s12 = .bool true ∧ Below w.heap.size w wx ∧ w.heap.size + 1 ≤ wx.heap.size ∧ w.heap.size + 1 ≤ ba ∧ ba < wx.heap.size ∧ wx.cell? ⟨ba, 0, none⟩ = some (.int .i64 (X * q')) ∧ wx.cell? ⟨ba, 1, none⟩ = some (.int .i64 (Y * p')) ∧ wx.cell? ⟨ba, 2, none⟩ = some (.int .i64 (p' * q)) ∧ wx.cell? ⟨w.heap.size, 0, none⟩ = some (.int .i64 0) ∧ wx.cell? ⟨w.heap.size, 1, none⟩ = some (.int .i64 0) ∧ wx.cell? ⟨w.heap.size, 2, none⟩ = some (.int .i64 0) ∧ wx.cell? ⟨wb.heap.size, 0, none⟩ = some (.int .i64 X) ∧ wx.cell? ⟨wb.heap.size, 1, none⟩ = some (.int .i64 p) ∧ wx.cell? ⟨wc.heap.size, 0, none⟩ = some (.int .i64 Y) ∧ wx.cell? ⟨wc.heap.size, 1, none⟩ = some (.int .i64 q) ∧ wx.frozen? ⟨w.heap.size, 0, none⟩ = false ∧ wx.frozen? ⟨w.heap.size, 1, none⟩ = false ∧ wx.frozen? ⟨w.heap.size, 2, none⟩ = false ∧ wb.heap.size < wx.heap.size ∧ wc.heap.size < wx.heap.size)
  case first =>
    go_region_held3 (fun w' => (Below w.heap.size w w' ∧ w.heap.size + 1 ≤ w'.heap.size) ∧ w'.cell? ⟨w.heap.size, 0, none⟩ = some (.int .i64 0) ∧ w'.cell? ⟨w.heap.size, 1, none⟩ = some (.int .i64 0) ∧ w'.cell? ⟨w.heap.size, 2, none⟩ = some (.int .i64 0) ∧ w'.cell? ⟨wb.heap.size, 0, none⟩ = some (.int .i64 X) ∧ w'.cell? ⟨wb.heap.size, 1, none⟩ = some (.int .i64 p) ∧ w'.cell? ⟨wc.heap.size, 0, none⟩ = some (.int .i64 Y) ∧ w'.cell? ⟨wc.heap.size, 1, none⟩ = some (.int .i64 q) ∧ w'.frozen? ⟨w.heap.size, 0, none⟩ = false ∧ w'.frozen? ⟨w.heap.size, 1, none⟩ = false ∧ w'.frozen? ⟨w.heap.size, 2, none⟩ = false ∧ wb.heap.size < w'.heap.size ∧ wc.heap.size < w'.heap.size) (first | (go_split_ands; refine ⟨⟨?_, ?_⟩, ?_, ?_, ?_, ?_, ?_, ?_, ?_, ?_, ?_, ?_, ?_, ?_⟩ <;> first | (with_reducible assumption) | (with_reducible show Below _ _ _; (repeat (first | (with_reducible exact Below.refl _ _) | (with_reducible assumption) | (with_reducible refine below_drewN ?_ _) | (with_reducible refine Below.drew ?_) | ((with_reducible refine Below.alloc ?_ ?_ _); rotate_left; (focus first | omega | (simp <;> omega))) | ((with_reducible refine Below.setCell ?_ ?_ _); rotate_left; (focus first | omega | (simp <;> omega))))); done) | omega | (go_keep; done) | (go_simp; done) | (simp <;> omega) | (fail_if_success skip)))
      (first | (go_at_call 47; with_reducible refine (sSpotOf_ok HO.out _).mono ?_; rintro e w1 ⟨rfl, hb1⟩; go_split_ands; have cc0 := cell_keep (p := ⟨w.heap.size, 0, none⟩) (v := .int .i64 0) hb1 (by first | (with_reducible assumption) | (go_keep; done) | (go_simp; done) | (simp; done)) (by first | omega | (simp <;> omega)); have cc1 := cell_keep (p := ⟨w.heap.size, 1, none⟩) (v := .int .i64 0) hb1 (by first | (with_reducible assumption) | (go_keep; done) | (go_simp; done) | (simp; done)) (by first | omega | (simp <;> omega)); have cc2 := cell_keep (p := ⟨w.heap.size, 2, none⟩) (v := .int .i64 0) hb1 (by first | (with_reducible assumption) | (go_keep; done) | (go_simp; done) | (simp; done)) (by first | omega | (simp <;> omega)); have cc3 := cell_keep (p := ⟨wb.heap.size, 0, none⟩) (v := .int .i64 X) hb1 (by first | (with_reducible assumption) | (go_keep; done) | (go_simp; done) | (simp; done)) (by first | omega | (simp <;> omega)); have cc4 := cell_keep (p := ⟨wb.heap.size, 1, none⟩) (v := .int .i64 p) hb1 (by first | (with_reducible assumption) | (go_keep; done) | (go_simp; done) | (simp; done)) (by first | omega | (simp <;> omega)); have cc5 := cell_keep (p := ⟨wc.heap.size, 0, none⟩) (v := .int .i64 Y) hb1 (by first | (with_reducible assumption) | (go_keep; done) | (go_simp; done) | (simp; done)) (by first | omega | (simp <;> omega)); have cc6 := cell_keep (p := ⟨wc.heap.size, 1, none⟩) (v := .int .i64 q) hb1 (by first | (with_reducible assumption) | (go_keep; done) | (go_simp; done) | (simp; done)) (by first | omega | (simp <;> omega)); have cf0 := frozen_keep (p := ⟨w.heap.size, 0, none⟩) hb1 (by first | (with_reducible assumption) | (go_keep; done) | (go_simp; done) | (simp; done)) (by first | omega | (simp <;> omega)); have cf1 := frozen_keep (p := ⟨w.heap.size, 1, none⟩) hb1 (by first | (with_reducible assumption) | (go_keep; done) | (go_simp; done) | (simp; done)) (by first | omega | (simp <;> omega)); have cf2 := frozen_keep (p := ⟨w.heap.size, 2, none⟩) hb1 (by first | (with_reducible assumption) | (go_keep; done) | (go_simp; done) | (simp; done)) (by first | omega | (simp <;> omega)); have hS1 : Below w.heap.size w w1 := S_below hb1 (by repeat (first | exact Below.refl _ _ | assumption | refine below_drewN ?_ _ | refine Below.drew ?_ | refine Below.alloc ?_ (by first | omega | (simp <;> omega)) _ | refine Below.setCell ?_ (by first | omega | (simp <;> omega)) _)) (by first | omega | (simp <;> omega)); have hz1 : w.heap.size + 1 ≤ w1.heap.size := S_size hb1 (by first | omega | (simp <;> omega)); have hqb0 : w.heap.size < w1.heap.size := S_lt hb1 (by first | omega | (simp <;> omega)); have hqb1 : wb.heap.size < w1.heap.size := S_lt hb1 (by first | omega | (simp <;> omega)); have hqb2 : wc.heap.size < w1.heap.size := S_lt hb1 (by first | omega | (simp <;> omega)); (first | (have hnz := S_lt hb1 hnz; have nb0 := cell_keep hb1 nb0 (by omega); have nb1 := cell_keep hb1 nb1 (by omega); have nb2 := cell_keep hb1 nb2 (by omega); have nf0 := frozen_keep hb1 nf0 (by omega); have nf1 := frozen_keep hb1 nf1 (by omega); have nf2 := frozen_keep hb1 nf2 (by omega)) | (have _tok : Below (World.drew (World.alloc _ (Obj.cells #[.int .i64 0,  .int .i64 0,  .int .i64 0] _ _))).heap.size _ w1 := hb1; go_must (have nb0 := cell_keep (p := ⟨wj.heap.size, 0, none⟩) (v := .int .i64 0) hb1 (cell_new_drew _ _ _ _ (by simp) rfl) (by first | omega | (simp <;> omega))); go_must (have nb1 := cell_keep (p := ⟨wj.heap.size, 1, none⟩) (v :=  .int .i64 0) hb1 (cell_new_drew _ _ _ _ (by simp) rfl) (by first | omega | (simp <;> omega))); go_must (have nb2 := cell_keep (p := ⟨wj.heap.size, 2, none⟩) (v :=  .int .i64 0) hb1 (cell_new_drew _ _ _ _ (by simp) rfl) (by first | omega | (simp <;> omega))); go_must (have nf0 := frozen_keep (p := ⟨wj.heap.size, 0, none⟩) hb1 (frozen_new_drew _ _ _ _ (by simp)) (by first | omega | (simp <;> omega))); go_must (have nf1 := frozen_keep (p := ⟨wj.heap.size, 1, none⟩) hb1 (frozen_new_drew _ _ _ _ (by simp)) (by first | omega | (simp <;> omega))); go_must (have nf2 := frozen_keep (p := ⟨wj.heap.size, 2, none⟩) hb1 (frozen_new_drew _ _ _ _ (by simp)) (by first | omega | (simp <;> omega))); go_must (have hnz : wj.heap.size < w1.heap.size := S_lt hb1 (by first | omega | (simp <;> omega))); go_must (have hnl : w.heap.size + 1 ≤ wj.heap.size := by omega); go_must (have hne0 : ¬ wj.heap.size = w.heap.size := by omega); go_must (have hnf0 : ¬ w.heap.size = wj.heap.size := by omega); go_must (have hne1 : ¬ wj.heap.size = wb.heap.size := by omega); go_must (have hnf1 : ¬ wb.heap.size = wj.heap.size := by omega); go_must (have hne2 : ¬ wj.heap.size = wc.heap.size := by omega); go_must (have hnf2 : ¬ wc.heap.size = wj.heap.size := by omega)) | (have nb0 := cell_keep hb1 (cell_new_at _ _ _ 0 (v := .int .i64 0) rfl) (new_lt _ _); have nb1 := cell_keep hb1 (cell_new_at _ _ _ 1 (v :=  .int .i64 0) rfl) (new_lt _ _); have nb2 := cell_keep hb1 (cell_new_at _ _ _ 2 (v :=  .int .i64 0) rfl) (new_lt _ _); have nf0 := frozen_keep hb1 (frozen_new_at _ _ _ 0) (new_lt _ _); have nf1 := frozen_keep hb1 (frozen_new_at _ _ _ 1) (new_lt _ _); have nf2 := frozen_keep hb1 (frozen_new_at _ _ _ 2) (new_lt _ _); have hnz := S_lt hb1 (new_lt _ _)) | skip)))
    all_goals
      go_split_ands
      go_wp2_with fail
      go_meet
      refine ⟨_, rfl, rfl, ?_, ?_, ?_, ?_, ?_, ?_, ?_, ?_, ?_, ?_, ?_, ?_, ?_, ?_, ?_, ?_, ?_, ?_, ?_⟩ <;> first | (with_reducible assumption) | omega | (simp only [World.size_setCell, World.size_alloc]; omega) | (go_keep; done) | (go_simp; done) | exact set_0 nb0 _ | exact set2_1 nb1 _ _ | exact set3_2 nb2 _ _ _ | (simp <;> omega)
  case rest =>
    obtain ⟨ba, rfl, rfl, hcut⟩ := hcut
    go_split_ands
    go_wp2_with (first | (go_at_call 12; with_reducible refine (sFormatSpot_lit HF.out _ (by omega) (by omega) (by omega) (by omega)).mono ?_; rintro e w1 ⟨rfl, hb1⟩; have cc0 := cell_keep (p := ⟨w.heap.size, 0, none⟩) (v := .int .i64 0) hb1 (by first | assumption | (go_keep; done) | (go_simp; done) | (simp; done)) (by first | omega | (simp <;> omega)); have cc1 := cell_keep (p := ⟨w.heap.size, 1, none⟩) (v := .int .i64 0) hb1 (by first | assumption | (go_keep; done) | (go_simp; done) | (simp; done)) (by first | omega | (simp <;> omega)); have cc2 := cell_keep (p := ⟨w.heap.size, 2, none⟩) (v := .int .i64 0) hb1 (by first | assumption | (go_keep; done) | (go_simp; done) | (simp; done)) (by first | omega | (simp <;> omega)); have cc3 := cell_keep (p := ⟨ba, 0, none⟩) (v := .int .i64 (X * q')) hb1 (by first | assumption | (go_keep; done) | (go_simp; done) | (simp; done)) (by first | omega | (simp <;> omega)); have cc4 := cell_keep (p := ⟨ba, 1, none⟩) (v := .int .i64 (Y * p')) hb1 (by first | assumption | (go_keep; done) | (go_simp; done) | (simp; done)) (by first | omega | (simp <;> omega)); have cc5 := cell_keep (p := ⟨ba, 2, none⟩) (v := .int .i64 (p' * q)) hb1 (by first | assumption | (go_keep; done) | (go_simp; done) | (simp; done)) (by first | omega | (simp <;> omega)); have cf0 := frozen_keep (p := ⟨w.heap.size, 0, none⟩) hb1 (by first | assumption | (go_keep; done) | (go_simp; done) | (simp; done)) (by first | omega | (simp <;> omega)); have cf1 := frozen_keep (p := ⟨w.heap.size, 1, none⟩) hb1 (by first | assumption | (go_keep; done) | (go_simp; done) | (simp; done)) (by first | omega | (simp <;> omega)); have cf2 := frozen_keep (p := ⟨w.heap.size, 2, none⟩) hb1 (by first | assumption | (go_keep; done) | (go_simp; done) | (simp; done)) (by first | omega | (simp <;> omega)); have hS1 : Below w.heap.size w w1 := S_below hb1 (by repeat (first | exact Below.refl _ _ | assumption | refine below_drewN ?_ _ | refine Below.drew ?_ | refine Below.alloc ?_ (by first | omega | (simp <;> omega)) _ | refine Below.setCell ?_ (by first | omega | (simp <;> omega)) _)) (by first | omega | (simp <;> omega)); have hz1 : w.heap.size + 1 ≤ w1.heap.size := S_size hb1 (by first | omega | (simp <;> omega)); have hqb0 : w.heap.size < w1.heap.size := S_lt hb1 (by first | omega | (simp <;> omega)); have hqb1 : ba < w1.heap.size := S_lt hb1 (by first | omega | (simp <;> omega)); clear hb1))
    exact bodyPost_ret (v := .tuple #[.agg #[.int .i64 0, .int .i64 0, .int .i64 0], .bool false]) (by simp [results, Tryd.results18, go_sem, set_0 cc0, set2_1 cc1, set3_2 cc2]) rfl ⟨rfl, (by repeat (first | exact Below.refl _ _ | assumption | refine below_drewN ?_ _ | refine Below.drew ?_ | refine Below.alloc ?_ (by first | omega | (simp <;> omega)) _ | refine Below.setCell ?_ (by first | omega | (simp <;> omega)) _))⟩

set_option maxHeartbeats 1000000 in
set_option maxRecDepth 100000 in
theorem sPS_C {s a b : ByteArray} {X p Y q g p' q' : Int} {ls : List ByteArray} (hls : pcsB s ⟨#[44]⟩ = ls) (h0 : ls[0]? = some a) (h1 : ls[1]? = some b) (hl : ls.length = 2) (hpa : prV a = some (X, p)) (hpb : prV b = some (Y, q)) (hp : p ≤ 5000000000) (hq : q ≤ 5000000000) (hg : gcdV p q = g) (g1 : 1 ≤ g) (hqq : p.tdiv g = p') (q3 : 1 ≤ p') (q4 : p' ≤ p) {K : Int} (hK : (5000000000 : Int).tdiv q = K) (k0 : 0 ≤ K) (k1 : K ≤ 5000000000) (hKK : p' ≤ K) (hL : p' * q ≤ 5000000000) (hL1 : 1 ≤ p' * q) (hx : inB X (-1000 * p) (1000 * p) = true) (hy : inB Y (-1000 * q) (1000 * q) = true) (hp1 : (p' * q).tdiv p = q') (hp2 : (p' * q).tdiv q = p') (q5 : 1 ≤ q') (q6 : q' ≤ q) (u1 : -5000000000000 ≤ X * q') (u2 : X * q' ≤ 5000000000000) (v1 : -5000000000000 ≤ Y * p') (v2 : Y * p' ≤ 5000000000000) (ho : spotOkV (X * q') (Y * p') (p' * q) = true) (hf : fmtS (X * q') (Y * p') (p' * q) = s) (w : World) (hs : s.size ≤ 1048576) (has : a.size ≤ 1048576) (hbs : b.size ≤ 1048576) :
    Calls Tryd.prog 18 #[.string s] w fun e w' => e = .returned ((.tuple #[.agg #[.int .i64 (X * q'), .int .i64 (Y * p'), .int .i64 (p' * q)], .bool true])) ∧ Below w.heap.size w w' := by
  have HLS := Lib.hid hls; clear hls
  have H0 := Lib.hid h0; clear h0
  have H1 := Lib.hid h1; clear h1
  have HG := Lib.hid hg; clear hg
  have HO := Lib.hid ho; clear ho
  have HF := Lib.hid hf; clear hf
  obtain ⟨⟨p1, p2⟩, x1, x2⟩ := ratioOkV_bounds (prV_some hpa).1
  have HP := Lib.hid hpa; clear hpa
  obtain ⟨⟨q1, q2⟩, y1, y2⟩ := ratioOkV_bounds (prV_some hpb).1
  have HQ := Lib.hid hpb; clear hpb
  go_enter Tryd.func18, Tryd.ntmps18
  go_wp2_with fail
  go_at_call 41; with_reducible refine (sSplitAny_lit HLS.out _ (by omega) (by decide)).mono ?_
  rintro e wa ⟨g0, c0, rfl, hO0, hg0, hb1⟩
  obtain ⟨cA, hga⟩ := own_cell hO0 H0.out
  obtain ⟨cB, _⟩ := own_cell hO0 H1.out
  clear hO0
  have cc_wa0 := cell_keep (p := ⟨w.heap.size, 0, none⟩) (v := .int .i64 0) hb1 (by first | assumption | (go_keep; done) | (go_simp; done) | (simp; done)) (by first | omega | (simp <;> omega))
  have cc_wa1 := cell_keep (p := ⟨w.heap.size, 1, none⟩) (v := .int .i64 0) hb1 (by first | assumption | (go_keep; done) | (go_simp; done) | (simp; done)) (by first | omega | (simp <;> omega))
  have cc_wa2 := cell_keep (p := ⟨w.heap.size, 2, none⟩) (v := .int .i64 0) hb1 (by first | assumption | (go_keep; done) | (go_simp; done) | (simp; done)) (by first | omega | (simp <;> omega))
  have cf_wa0 := frozen_keep (p := ⟨w.heap.size, 0, none⟩) hb1 (by first | assumption | (go_keep; done) | (go_simp; done) | (simp; done)) (by first | omega | (simp <;> omega))
  have cf_wa1 := frozen_keep (p := ⟨w.heap.size, 1, none⟩) hb1 (by first | assumption | (go_keep; done) | (go_simp; done) | (simp; done)) (by first | omega | (simp <;> omega))
  have cf_wa2 := frozen_keep (p := ⟨w.heap.size, 2, none⟩) hb1 (by first | assumption | (go_keep; done) | (go_simp; done) | (simp; done)) (by first | omega | (simp <;> omega))
  have hS1_wa : Below w.heap.size w wa := S_below hb1 (by repeat (first | exact Below.refl _ _ | assumption | refine below_drewN ?_ _ | refine Below.drew ?_ | refine Below.alloc ?_ (by first | omega | (simp <;> omega)) _ | refine Below.setCell ?_ (by first | omega | (simp <;> omega)) _)) (by first | omega | (simp <;> omega))
  have hz1_wa : w.heap.size + 1 ≤ wa.heap.size := S_size hb1 (by first | omega | (simp <;> omega))
  have hqb_wa0 : w.heap.size < wa.heap.size := S_lt hb1 (by first | omega | (simp <;> omega))
  clear hb1
  generalize ls.length = m at *
  subst hl
  go_wp2_with fail
  go_at_call 15; with_reducible refine (sParseRatio_lit HP.out _ (by omega)).mono ?_
  rintro e wb ⟨rfl, hb1⟩
  simp only [PResR]
  have cc_wb0 := cell_keep (p := ⟨w.heap.size, 0, none⟩) (v := .int .i64 0) hb1 (by first | assumption | (go_keep; done) | (go_simp; done) | (simp; done)) (by first | omega | (simp <;> omega))
  have cc_wb1 := cell_keep (p := ⟨w.heap.size, 1, none⟩) (v := .int .i64 0) hb1 (by first | assumption | (go_keep; done) | (go_simp; done) | (simp; done)) (by first | omega | (simp <;> omega))
  have cc_wb2 := cell_keep (p := ⟨w.heap.size, 2, none⟩) (v := .int .i64 0) hb1 (by first | assumption | (go_keep; done) | (go_simp; done) | (simp; done)) (by first | omega | (simp <;> omega))
  have cc_wb3 := cell_keep (p := ⟨g0, 0, none⟩) (v := .string a) hb1 (by first | assumption | (go_keep; done) | (go_simp; done) | (simp; done)) (by first | omega | (simp <;> omega))
  have cc_wb4 := cell_keep (p := ⟨g0, 1, none⟩) (v := .string b) hb1 (by first | assumption | (go_keep; done) | (go_simp; done) | (simp; done)) (by first | omega | (simp <;> omega))
  have cf_wb0 := frozen_keep (p := ⟨w.heap.size, 0, none⟩) hb1 (by first | assumption | (go_keep; done) | (go_simp; done) | (simp; done)) (by first | omega | (simp <;> omega))
  have cf_wb1 := frozen_keep (p := ⟨w.heap.size, 1, none⟩) hb1 (by first | assumption | (go_keep; done) | (go_simp; done) | (simp; done)) (by first | omega | (simp <;> omega))
  have cf_wb2 := frozen_keep (p := ⟨w.heap.size, 2, none⟩) hb1 (by first | assumption | (go_keep; done) | (go_simp; done) | (simp; done)) (by first | omega | (simp <;> omega))
  have hS1_wb : Below w.heap.size w wb := S_below hb1 (by repeat (first | exact Below.refl _ _ | assumption | refine below_drewN ?_ _ | refine Below.drew ?_ | refine Below.alloc ?_ (by first | omega | (simp <;> omega)) _ | refine Below.setCell ?_ (by first | omega | (simp <;> omega)) _)) (by first | omega | (simp <;> omega))
  have hz1_wb : w.heap.size + 1 ≤ wb.heap.size := S_size hb1 (by first | omega | (simp <;> omega))
  have hqb_wb0 : w.heap.size < wb.heap.size := S_lt hb1 (by first | omega | (simp <;> omega))
  have hqb_wb1 : g0 < wb.heap.size := S_lt hb1 (by first | omega | (simp <;> omega))
  clear hb1
  go_wp2_with fail
  go_at_call 15; with_reducible refine (sParseRatio_lit HQ.out _ (by omega)).mono ?_
  rintro e wc ⟨rfl, hb1⟩
  simp only [PResR]
  have cc_wc0 := cell_keep (p := ⟨w.heap.size, 0, none⟩) (v := .int .i64 0) hb1 (by first | assumption | (go_keep; done) | (go_simp; done) | (simp; done)) (by first | omega | (simp <;> omega))
  have cc_wc1 := cell_keep (p := ⟨w.heap.size, 1, none⟩) (v := .int .i64 0) hb1 (by first | assumption | (go_keep; done) | (go_simp; done) | (simp; done)) (by first | omega | (simp <;> omega))
  have cc_wc2 := cell_keep (p := ⟨w.heap.size, 2, none⟩) (v := .int .i64 0) hb1 (by first | assumption | (go_keep; done) | (go_simp; done) | (simp; done)) (by first | omega | (simp <;> omega))
  have cc_wc3 := cell_keep (p := ⟨wb.heap.size, 0, none⟩) (v := .int .i64 X) hb1 (by first | assumption | (go_keep; done) | (go_simp; done) | (simp; done)) (by first | omega | (simp <;> omega))
  have cc_wc4 := cell_keep (p := ⟨wb.heap.size, 1, none⟩) (v := .int .i64 p) hb1 (by first | assumption | (go_keep; done) | (go_simp; done) | (simp; done)) (by first | omega | (simp <;> omega))
  have cf_wc0 := frozen_keep (p := ⟨w.heap.size, 0, none⟩) hb1 (by first | assumption | (go_keep; done) | (go_simp; done) | (simp; done)) (by first | omega | (simp <;> omega))
  have cf_wc1 := frozen_keep (p := ⟨w.heap.size, 1, none⟩) hb1 (by first | assumption | (go_keep; done) | (go_simp; done) | (simp; done)) (by first | omega | (simp <;> omega))
  have cf_wc2 := frozen_keep (p := ⟨w.heap.size, 2, none⟩) hb1 (by first | assumption | (go_keep; done) | (go_simp; done) | (simp; done)) (by first | omega | (simp <;> omega))
  have hS1_wc : Below w.heap.size w wc := S_below hb1 (by repeat (first | exact Below.refl _ _ | assumption | refine below_drewN ?_ _ | refine Below.drew ?_ | refine Below.alloc ?_ (by first | omega | (simp <;> omega)) _ | refine Below.setCell ?_ (by first | omega | (simp <;> omega)) _)) (by first | omega | (simp <;> omega))
  have hz1_wc : w.heap.size + 1 ≤ wc.heap.size := S_size hb1 (by first | omega | (simp <;> omega))
  have hqb_wc0 : w.heap.size < wc.heap.size := S_lt hb1 (by first | omega | (simp <;> omega))
  have hqb_wc1 : wb.heap.size < wc.heap.size := S_lt hb1 (by first | omega | (simp <;> omega))
  clear hb1
  go_wp2_with fail
  go_at_call 45; with_reducible refine (sGcdOf_par HG.out _ (by omega) (by omega) (by omega) (by omega)).mono ?_
  rintro e wd ⟨rfl, hb1⟩
  have cc_wd0 := cell_keep (p := ⟨w.heap.size, 0, none⟩) (v := .int .i64 0) hb1 (by first | assumption | (go_keep; done) | (go_simp; done) | (simp; done)) (by first | omega | (simp <;> omega))
  have cc_wd1 := cell_keep (p := ⟨w.heap.size, 1, none⟩) (v := .int .i64 0) hb1 (by first | assumption | (go_keep; done) | (go_simp; done) | (simp; done)) (by first | omega | (simp <;> omega))
  have cc_wd2 := cell_keep (p := ⟨w.heap.size, 2, none⟩) (v := .int .i64 0) hb1 (by first | assumption | (go_keep; done) | (go_simp; done) | (simp; done)) (by first | omega | (simp <;> omega))
  have cc_wd3 := cell_keep (p := ⟨wb.heap.size, 0, none⟩) (v := .int .i64 X) hb1 (by first | assumption | (go_keep; done) | (go_simp; done) | (simp; done)) (by first | omega | (simp <;> omega))
  have cc_wd4 := cell_keep (p := ⟨wb.heap.size, 1, none⟩) (v := .int .i64 p) hb1 (by first | assumption | (go_keep; done) | (go_simp; done) | (simp; done)) (by first | omega | (simp <;> omega))
  have cc_wd5 := cell_keep (p := ⟨wc.heap.size, 0, none⟩) (v := .int .i64 Y) hb1 (by first | assumption | (go_keep; done) | (go_simp; done) | (simp; done)) (by first | omega | (simp <;> omega))
  have cc_wd6 := cell_keep (p := ⟨wc.heap.size, 1, none⟩) (v := .int .i64 q) hb1 (by first | assumption | (go_keep; done) | (go_simp; done) | (simp; done)) (by first | omega | (simp <;> omega))
  have cf_wd0 := frozen_keep (p := ⟨w.heap.size, 0, none⟩) hb1 (by first | assumption | (go_keep; done) | (go_simp; done) | (simp; done)) (by first | omega | (simp <;> omega))
  have cf_wd1 := frozen_keep (p := ⟨w.heap.size, 1, none⟩) hb1 (by first | assumption | (go_keep; done) | (go_simp; done) | (simp; done)) (by first | omega | (simp <;> omega))
  have cf_wd2 := frozen_keep (p := ⟨w.heap.size, 2, none⟩) hb1 (by first | assumption | (go_keep; done) | (go_simp; done) | (simp; done)) (by first | omega | (simp <;> omega))
  have hS1_wd : Below w.heap.size w wd := S_below hb1 (by repeat (first | exact Below.refl _ _ | assumption | refine below_drewN ?_ _ | refine Below.drew ?_ | refine Below.alloc ?_ (by first | omega | (simp <;> omega)) _ | refine Below.setCell ?_ (by first | omega | (simp <;> omega)) _)) (by first | omega | (simp <;> omega))
  have hz1_wd : w.heap.size + 1 ≤ wd.heap.size := S_size hb1 (by first | omega | (simp <;> omega))
  have hqb_wd0 : w.heap.size < wd.heap.size := S_lt hb1 (by first | omega | (simp <;> omega))
  have hqb_wd1 : wb.heap.size < wd.heap.size := S_lt hb1 (by first | omega | (simp <;> omega))
  have hqb_wd2 : wc.heap.size < wd.heap.size := S_lt hb1 (by first | omega | (simp <;> omega))
  clear hb1
  go_wp2_with fail
  have hwp : IntKind.i64.wrap p' = p' := IntWalk.i64_in _ (by omega)
  have hwK : IntKind.i64.wrap K = K := IntWalk.i64_in _ (by omega)
  have hg0 : ¬ g = 0 := by omega
  have hq0 : ¬ q = 0 := by omega
  have hp0 : ¬ p = 0 := by omega
  refine wp_region_qb (by kernel_rfl) (by kernel_rfl) (fun W_q hW_q => ?_)
  have kq0 : ∀ d_ os_, (Sort.grow (redrawn W_q d_) os_).cell? ⟨w.heap.size, 0, none⟩ = some (.int .i64 0) := fun d_ os_ => cell_regrown (by rw [hW_q.out]; first | assumption | (go_keep; done) | (go_simp; done) | (simp; done)) d_ os_
  have kq1 : ∀ d_ os_, (Sort.grow (redrawn W_q d_) os_).cell? ⟨w.heap.size, 1, none⟩ = some (.int .i64 0) := fun d_ os_ => cell_regrown (by rw [hW_q.out]; first | assumption | (go_keep; done) | (go_simp; done) | (simp; done)) d_ os_
  have kq2 : ∀ d_ os_, (Sort.grow (redrawn W_q d_) os_).cell? ⟨w.heap.size, 2, none⟩ = some (.int .i64 0) := fun d_ os_ => cell_regrown (by rw [hW_q.out]; first | assumption | (go_keep; done) | (go_simp; done) | (simp; done)) d_ os_
  have kq3 : ∀ d_ os_, (Sort.grow (redrawn W_q d_) os_).cell? ⟨wb.heap.size, 0, none⟩ = some (.int .i64 X) := fun d_ os_ => cell_regrown (by rw [hW_q.out]; first | assumption | (go_keep; done) | (go_simp; done) | (simp; done)) d_ os_
  have kq4 : ∀ d_ os_, (Sort.grow (redrawn W_q d_) os_).cell? ⟨wb.heap.size, 1, none⟩ = some (.int .i64 p) := fun d_ os_ => cell_regrown (by rw [hW_q.out]; first | assumption | (go_keep; done) | (go_simp; done) | (simp; done)) d_ os_
  have kq5 : ∀ d_ os_, (Sort.grow (redrawn W_q d_) os_).cell? ⟨wc.heap.size, 0, none⟩ = some (.int .i64 Y) := fun d_ os_ => cell_regrown (by rw [hW_q.out]; first | assumption | (go_keep; done) | (go_simp; done) | (simp; done)) d_ os_
  have kq6 : ∀ d_ os_, (Sort.grow (redrawn W_q d_) os_).cell? ⟨wc.heap.size, 1, none⟩ = some (.int .i64 q) := fun d_ os_ => cell_regrown (by rw [hW_q.out]; first | assumption | (go_keep; done) | (go_simp; done) | (simp; done)) d_ os_
  repeat (go_big_quiet_step (fail))
  refine wpQuiet_nil ?_
  intro _ hw_q
  obtain ⟨⟨dq_, osq_⟩, hw_q⟩ := hw_q
  subst hw_q
  have hb1 := below_regrown W_q dq_ osq_
  clear kq0 kq1 kq2 kq3 kq4 kq5 kq6
  generalize Sort.grow (redrawn W_q dq_) osq_ = wi at *
  have hW_q := hW_q.out
  subst hW_q
  have cc_wi0 := cell_keep (p := ⟨w.heap.size, 0, none⟩) (v := .int .i64 0) hb1 (by first | assumption | (go_keep; done) | (go_simp; done) | (simp; done)) (by first | omega | (simp <;> omega))
  have cc_wi1 := cell_keep (p := ⟨w.heap.size, 1, none⟩) (v := .int .i64 0) hb1 (by first | assumption | (go_keep; done) | (go_simp; done) | (simp; done)) (by first | omega | (simp <;> omega))
  have cc_wi2 := cell_keep (p := ⟨w.heap.size, 2, none⟩) (v := .int .i64 0) hb1 (by first | assumption | (go_keep; done) | (go_simp; done) | (simp; done)) (by first | omega | (simp <;> omega))
  have cc_wi3 := cell_keep (p := ⟨wb.heap.size, 0, none⟩) (v := .int .i64 X) hb1 (by first | assumption | (go_keep; done) | (go_simp; done) | (simp; done)) (by first | omega | (simp <;> omega))
  have cc_wi4 := cell_keep (p := ⟨wb.heap.size, 1, none⟩) (v := .int .i64 p) hb1 (by first | assumption | (go_keep; done) | (go_simp; done) | (simp; done)) (by first | omega | (simp <;> omega))
  have cc_wi5 := cell_keep (p := ⟨wc.heap.size, 0, none⟩) (v := .int .i64 Y) hb1 (by first | assumption | (go_keep; done) | (go_simp; done) | (simp; done)) (by first | omega | (simp <;> omega))
  have cc_wi6 := cell_keep (p := ⟨wc.heap.size, 1, none⟩) (v := .int .i64 q) hb1 (by first | assumption | (go_keep; done) | (go_simp; done) | (simp; done)) (by first | omega | (simp <;> omega))
  have cf_wi0 := frozen_keep (p := ⟨w.heap.size, 0, none⟩) hb1 (by first | assumption | (go_keep; done) | (go_simp; done) | (simp; done)) (by first | omega | (simp <;> omega))
  have cf_wi1 := frozen_keep (p := ⟨w.heap.size, 1, none⟩) hb1 (by first | assumption | (go_keep; done) | (go_simp; done) | (simp; done)) (by first | omega | (simp <;> omega))
  have cf_wi2 := frozen_keep (p := ⟨w.heap.size, 2, none⟩) hb1 (by first | assumption | (go_keep; done) | (go_simp; done) | (simp; done)) (by first | omega | (simp <;> omega))
  have hS1_wi : Below w.heap.size w wi := S_below hb1 (by repeat (first | exact Below.refl _ _ | assumption | refine below_drewN ?_ _ | refine Below.drew ?_ | refine Below.alloc ?_ (by first | omega | (simp <;> omega)) _ | refine Below.setCell ?_ (by first | omega | (simp <;> omega)) _)) (by first | omega | (simp <;> omega))
  have hz1_wi : w.heap.size + 1 ≤ wi.heap.size := S_size hb1 (by first | omega | (simp <;> omega))
  have hqb_wi0 : w.heap.size < wi.heap.size := S_lt hb1 (by first | omega | (simp <;> omega))
  have hqb_wi1 : wb.heap.size < wi.heap.size := S_lt hb1 (by first | omega | (simp <;> omega))
  have hqb_wi2 : wc.heap.size < wi.heap.size := S_lt hb1 (by first | omega | (simp <;> omega))
  clear hb1
  go_wp2_with fail
  have hwL : IntKind.i64.wrap (p' * q) = p' * q := IntWalk.i64_in _ (by omega)
  refine wp_region_qb (by kernel_rfl) (by kernel_rfl) (fun W_q hW_q => ?_)
  have kq0 : ∀ d_ os_, (Sort.grow (redrawn W_q d_) os_).cell? ⟨w.heap.size, 0, none⟩ = some (.int .i64 0) := fun d_ os_ => cell_regrown (by rw [hW_q.out]; first | assumption | (go_keep; done) | (go_simp; done) | (simp; done)) d_ os_
  have kq1 : ∀ d_ os_, (Sort.grow (redrawn W_q d_) os_).cell? ⟨w.heap.size, 1, none⟩ = some (.int .i64 0) := fun d_ os_ => cell_regrown (by rw [hW_q.out]; first | assumption | (go_keep; done) | (go_simp; done) | (simp; done)) d_ os_
  have kq2 : ∀ d_ os_, (Sort.grow (redrawn W_q d_) os_).cell? ⟨w.heap.size, 2, none⟩ = some (.int .i64 0) := fun d_ os_ => cell_regrown (by rw [hW_q.out]; first | assumption | (go_keep; done) | (go_simp; done) | (simp; done)) d_ os_
  have kq3 : ∀ d_ os_, (Sort.grow (redrawn W_q d_) os_).cell? ⟨wb.heap.size, 0, none⟩ = some (.int .i64 X) := fun d_ os_ => cell_regrown (by rw [hW_q.out]; first | assumption | (go_keep; done) | (go_simp; done) | (simp; done)) d_ os_
  have kq4 : ∀ d_ os_, (Sort.grow (redrawn W_q d_) os_).cell? ⟨wb.heap.size, 1, none⟩ = some (.int .i64 p) := fun d_ os_ => cell_regrown (by rw [hW_q.out]; first | assumption | (go_keep; done) | (go_simp; done) | (simp; done)) d_ os_
  have kq5 : ∀ d_ os_, (Sort.grow (redrawn W_q d_) os_).cell? ⟨wc.heap.size, 0, none⟩ = some (.int .i64 Y) := fun d_ os_ => cell_regrown (by rw [hW_q.out]; first | assumption | (go_keep; done) | (go_simp; done) | (simp; done)) d_ os_
  have kq6 : ∀ d_ os_, (Sort.grow (redrawn W_q d_) os_).cell? ⟨wc.heap.size, 1, none⟩ = some (.int .i64 q) := fun d_ os_ => cell_regrown (by rw [hW_q.out]; first | assumption | (go_keep; done) | (go_simp; done) | (simp; done)) d_ os_
  repeat (go_big_quiet_step (fail))
  refine wpQuiet_nil ?_
  intro _ hw_q
  obtain ⟨⟨dq_, osq_⟩, hw_q⟩ := hw_q
  subst hw_q
  have hb1 := below_regrown W_q dq_ osq_
  clear kq0 kq1 kq2 kq3 kq4 kq5 kq6
  generalize Sort.grow (redrawn W_q dq_) osq_ = wj at *
  have hW_q := hW_q.out
  subst hW_q
  have cc_wj0 := cell_keep (p := ⟨w.heap.size, 0, none⟩) (v := .int .i64 0) hb1 (by first | assumption | (go_keep; done) | (go_simp; done) | (simp; done)) (by first | omega | (simp <;> omega))
  have cc_wj1 := cell_keep (p := ⟨w.heap.size, 1, none⟩) (v := .int .i64 0) hb1 (by first | assumption | (go_keep; done) | (go_simp; done) | (simp; done)) (by first | omega | (simp <;> omega))
  have cc_wj2 := cell_keep (p := ⟨w.heap.size, 2, none⟩) (v := .int .i64 0) hb1 (by first | assumption | (go_keep; done) | (go_simp; done) | (simp; done)) (by first | omega | (simp <;> omega))
  have cc_wj3 := cell_keep (p := ⟨wb.heap.size, 0, none⟩) (v := .int .i64 X) hb1 (by first | assumption | (go_keep; done) | (go_simp; done) | (simp; done)) (by first | omega | (simp <;> omega))
  have cc_wj4 := cell_keep (p := ⟨wb.heap.size, 1, none⟩) (v := .int .i64 p) hb1 (by first | assumption | (go_keep; done) | (go_simp; done) | (simp; done)) (by first | omega | (simp <;> omega))
  have cc_wj5 := cell_keep (p := ⟨wc.heap.size, 0, none⟩) (v := .int .i64 Y) hb1 (by first | assumption | (go_keep; done) | (go_simp; done) | (simp; done)) (by first | omega | (simp <;> omega))
  have cc_wj6 := cell_keep (p := ⟨wc.heap.size, 1, none⟩) (v := .int .i64 q) hb1 (by first | assumption | (go_keep; done) | (go_simp; done) | (simp; done)) (by first | omega | (simp <;> omega))
  have cf_wj0 := frozen_keep (p := ⟨w.heap.size, 0, none⟩) hb1 (by first | assumption | (go_keep; done) | (go_simp; done) | (simp; done)) (by first | omega | (simp <;> omega))
  have cf_wj1 := frozen_keep (p := ⟨w.heap.size, 1, none⟩) hb1 (by first | assumption | (go_keep; done) | (go_simp; done) | (simp; done)) (by first | omega | (simp <;> omega))
  have cf_wj2 := frozen_keep (p := ⟨w.heap.size, 2, none⟩) hb1 (by first | assumption | (go_keep; done) | (go_simp; done) | (simp; done)) (by first | omega | (simp <;> omega))
  have hS1_wj : Below w.heap.size w wj := S_below hb1 (by repeat (first | exact Below.refl _ _ | assumption | refine below_drewN ?_ _ | refine Below.drew ?_ | refine Below.alloc ?_ (by first | omega | (simp <;> omega)) _ | refine Below.setCell ?_ (by first | omega | (simp <;> omega)) _)) (by first | omega | (simp <;> omega))
  have hz1_wj : w.heap.size + 1 ≤ wj.heap.size := S_size hb1 (by first | omega | (simp <;> omega))
  have hqb_wj0 : w.heap.size < wj.heap.size := S_lt hb1 (by first | omega | (simp <;> omega))
  have hqb_wj1 : wb.heap.size < wj.heap.size := S_lt hb1 (by first | omega | (simp <;> omega))
  have hqb_wj2 : wc.heap.size < wj.heap.size := S_lt hb1 (by first | omega | (simp <;> omega))
  clear hb1
  go_wp2_with (first | (go_at_call 46; with_reducible refine (l01In_any _ _ _ _).mono ?_; rintro e w1 ⟨rfl, rfl⟩))
  have hw1 : IntKind.i64.wrap (X * q') = X * q' := IntWalk.i64_in _ (by omega)
  have hw2 : IntKind.i64.wrap (Y * p') = Y * p' := IntWalk.i64_in _ (by omega)
  have hw3 : IntKind.i64.wrap q' = q' := IntWalk.i64_in _ (by omega)
  go_upto_region 14 with fail
  go_cut [11, 12] (fun s11 s12 wx => ∃ ba : Nat, s11 = .pointer (some ⟨ba, 0, none⟩) ∧ s12 = .bool true ∧ Below w.heap.size w wx ∧ w.heap.size + 1 ≤ wx.heap.size ∧ w.heap.size + 1 ≤ ba ∧ ba < wx.heap.size ∧ wx.cell? ⟨ba, 0, none⟩ = some (.int .i64 (X * q')) ∧ wx.cell? ⟨ba, 1, none⟩ = some (.int .i64 (Y * p')) ∧ wx.cell? ⟨ba, 2, none⟩ = some (.int .i64 (p' * q)) ∧ wx.cell? ⟨w.heap.size, 0, none⟩ = some (.int .i64 0) ∧ wx.cell? ⟨w.heap.size, 1, none⟩ = some (.int .i64 0) ∧ wx.cell? ⟨w.heap.size, 2, none⟩ = some (.int .i64 0) ∧ wx.cell? ⟨wb.heap.size, 0, none⟩ = some (.int .i64 X) ∧ wx.cell? ⟨wb.heap.size, 1, none⟩ = some (.int .i64 p) ∧ wx.cell? ⟨wc.heap.size, 0, none⟩ = some (.int .i64 Y) ∧ wx.cell? ⟨wc.heap.size, 1, none⟩ = some (.int .i64 q) ∧ wx.frozen? ⟨w.heap.size, 0, none⟩ = false ∧ wx.frozen? ⟨w.heap.size, 1, none⟩ = false ∧ wx.frozen? ⟨w.heap.size, 2, none⟩ = false ∧ wb.heap.size < wx.heap.size ∧ wc.heap.size < wx.heap.size)
  case first =>
    go_region_held3 (fun w' => (Below w.heap.size w w' ∧ w.heap.size + 1 ≤ w'.heap.size) ∧ w'.cell? ⟨w.heap.size, 0, none⟩ = some (.int .i64 0) ∧ w'.cell? ⟨w.heap.size, 1, none⟩ = some (.int .i64 0) ∧ w'.cell? ⟨w.heap.size, 2, none⟩ = some (.int .i64 0) ∧ w'.cell? ⟨wb.heap.size, 0, none⟩ = some (.int .i64 X) ∧ w'.cell? ⟨wb.heap.size, 1, none⟩ = some (.int .i64 p) ∧ w'.cell? ⟨wc.heap.size, 0, none⟩ = some (.int .i64 Y) ∧ w'.cell? ⟨wc.heap.size, 1, none⟩ = some (.int .i64 q) ∧ w'.frozen? ⟨w.heap.size, 0, none⟩ = false ∧ w'.frozen? ⟨w.heap.size, 1, none⟩ = false ∧ w'.frozen? ⟨w.heap.size, 2, none⟩ = false ∧ wb.heap.size < w'.heap.size ∧ wc.heap.size < w'.heap.size) (first | (go_split_ands; refine ⟨⟨?_, ?_⟩, ?_, ?_, ?_, ?_, ?_, ?_, ?_, ?_, ?_, ?_, ?_, ?_⟩ <;> first | (with_reducible assumption) | (with_reducible show Below _ _ _; (repeat (first | (with_reducible exact Below.refl _ _) | (with_reducible assumption) | (with_reducible refine below_drewN ?_ _) | (with_reducible refine Below.drew ?_) | ((with_reducible refine Below.alloc ?_ ?_ _); rotate_left; (focus first | omega | (simp <;> omega))) | ((with_reducible refine Below.setCell ?_ ?_ _); rotate_left; (focus first | omega | (simp <;> omega))))); done) | omega | (go_keep; done) | (go_simp; done) | (simp <;> omega) | (fail_if_success skip)))
      (first | (go_at_call 47; with_reducible refine (sSpotOf_ok HO.out _).mono ?_; rintro e w1 ⟨rfl, hb1⟩; go_split_ands; have cc0 := cell_keep (p := ⟨w.heap.size, 0, none⟩) (v := .int .i64 0) hb1 (by first | (with_reducible assumption) | (go_keep; done) | (go_simp; done) | (simp; done)) (by first | omega | (simp <;> omega)); have cc1 := cell_keep (p := ⟨w.heap.size, 1, none⟩) (v := .int .i64 0) hb1 (by first | (with_reducible assumption) | (go_keep; done) | (go_simp; done) | (simp; done)) (by first | omega | (simp <;> omega)); have cc2 := cell_keep (p := ⟨w.heap.size, 2, none⟩) (v := .int .i64 0) hb1 (by first | (with_reducible assumption) | (go_keep; done) | (go_simp; done) | (simp; done)) (by first | omega | (simp <;> omega)); have cc3 := cell_keep (p := ⟨wb.heap.size, 0, none⟩) (v := .int .i64 X) hb1 (by first | (with_reducible assumption) | (go_keep; done) | (go_simp; done) | (simp; done)) (by first | omega | (simp <;> omega)); have cc4 := cell_keep (p := ⟨wb.heap.size, 1, none⟩) (v := .int .i64 p) hb1 (by first | (with_reducible assumption) | (go_keep; done) | (go_simp; done) | (simp; done)) (by first | omega | (simp <;> omega)); have cc5 := cell_keep (p := ⟨wc.heap.size, 0, none⟩) (v := .int .i64 Y) hb1 (by first | (with_reducible assumption) | (go_keep; done) | (go_simp; done) | (simp; done)) (by first | omega | (simp <;> omega)); have cc6 := cell_keep (p := ⟨wc.heap.size, 1, none⟩) (v := .int .i64 q) hb1 (by first | (with_reducible assumption) | (go_keep; done) | (go_simp; done) | (simp; done)) (by first | omega | (simp <;> omega)); have cf0 := frozen_keep (p := ⟨w.heap.size, 0, none⟩) hb1 (by first | (with_reducible assumption) | (go_keep; done) | (go_simp; done) | (simp; done)) (by first | omega | (simp <;> omega)); have cf1 := frozen_keep (p := ⟨w.heap.size, 1, none⟩) hb1 (by first | (with_reducible assumption) | (go_keep; done) | (go_simp; done) | (simp; done)) (by first | omega | (simp <;> omega)); have cf2 := frozen_keep (p := ⟨w.heap.size, 2, none⟩) hb1 (by first | (with_reducible assumption) | (go_keep; done) | (go_simp; done) | (simp; done)) (by first | omega | (simp <;> omega)); have hS1 : Below w.heap.size w w1 := S_below hb1 (by repeat (first | exact Below.refl _ _ | assumption | refine below_drewN ?_ _ | refine Below.drew ?_ | refine Below.alloc ?_ (by first | omega | (simp <;> omega)) _ | refine Below.setCell ?_ (by first | omega | (simp <;> omega)) _)) (by first | omega | (simp <;> omega)); have hz1 : w.heap.size + 1 ≤ w1.heap.size := S_size hb1 (by first | omega | (simp <;> omega)); have hqb0 : w.heap.size < w1.heap.size := S_lt hb1 (by first | omega | (simp <;> omega)); have hqb1 : wb.heap.size < w1.heap.size := S_lt hb1 (by first | omega | (simp <;> omega)); have hqb2 : wc.heap.size < w1.heap.size := S_lt hb1 (by first | omega | (simp <;> omega)); (first | (have hnz := S_lt hb1 hnz; have nb0 := cell_keep hb1 nb0 (by omega); have nb1 := cell_keep hb1 nb1 (by omega); have nb2 := cell_keep hb1 nb2 (by omega); have nf0 := frozen_keep hb1 nf0 (by omega); have nf1 := frozen_keep hb1 nf1 (by omega); have nf2 := frozen_keep hb1 nf2 (by omega)) | (have _tok : Below (World.drew (World.alloc _ (Obj.cells #[.int .i64 0,  .int .i64 0,  .int .i64 0] _ _))).heap.size _ w1 := hb1; go_must (have nb0 := cell_keep (p := ⟨wj.heap.size, 0, none⟩) (v := .int .i64 0) hb1 (cell_new_drew _ _ _ _ (by simp) rfl) (by first | omega | (simp <;> omega))); go_must (have nb1 := cell_keep (p := ⟨wj.heap.size, 1, none⟩) (v :=  .int .i64 0) hb1 (cell_new_drew _ _ _ _ (by simp) rfl) (by first | omega | (simp <;> omega))); go_must (have nb2 := cell_keep (p := ⟨wj.heap.size, 2, none⟩) (v :=  .int .i64 0) hb1 (cell_new_drew _ _ _ _ (by simp) rfl) (by first | omega | (simp <;> omega))); go_must (have nf0 := frozen_keep (p := ⟨wj.heap.size, 0, none⟩) hb1 (frozen_new_drew _ _ _ _ (by simp)) (by first | omega | (simp <;> omega))); go_must (have nf1 := frozen_keep (p := ⟨wj.heap.size, 1, none⟩) hb1 (frozen_new_drew _ _ _ _ (by simp)) (by first | omega | (simp <;> omega))); go_must (have nf2 := frozen_keep (p := ⟨wj.heap.size, 2, none⟩) hb1 (frozen_new_drew _ _ _ _ (by simp)) (by first | omega | (simp <;> omega))); go_must (have hnz : wj.heap.size < w1.heap.size := S_lt hb1 (by first | omega | (simp <;> omega))); go_must (have hnl : w.heap.size + 1 ≤ wj.heap.size := by omega); go_must (have hne0 : ¬ wj.heap.size = w.heap.size := by omega); go_must (have hnf0 : ¬ w.heap.size = wj.heap.size := by omega); go_must (have hne1 : ¬ wj.heap.size = wb.heap.size := by omega); go_must (have hnf1 : ¬ wb.heap.size = wj.heap.size := by omega); go_must (have hne2 : ¬ wj.heap.size = wc.heap.size := by omega); go_must (have hnf2 : ¬ wc.heap.size = wj.heap.size := by omega)) | (have nb0 := cell_keep hb1 (cell_new_at _ _ _ 0 (v := .int .i64 0) rfl) (new_lt _ _); have nb1 := cell_keep hb1 (cell_new_at _ _ _ 1 (v :=  .int .i64 0) rfl) (new_lt _ _); have nb2 := cell_keep hb1 (cell_new_at _ _ _ 2 (v :=  .int .i64 0) rfl) (new_lt _ _); have nf0 := frozen_keep hb1 (frozen_new_at _ _ _ 0) (new_lt _ _); have nf1 := frozen_keep hb1 (frozen_new_at _ _ _ 1) (new_lt _ _); have nf2 := frozen_keep hb1 (frozen_new_at _ _ _ 2) (new_lt _ _); have hnz := S_lt hb1 (new_lt _ _)) | skip)))
    all_goals
      go_split_ands
      go_wp2_with fail
      go_meet
      refine ⟨_, rfl, rfl, ?_, ?_, ?_, ?_, ?_, ?_, ?_, ?_, ?_, ?_, ?_, ?_, ?_, ?_, ?_, ?_, ?_, ?_, ?_⟩ <;> first | (with_reducible assumption) | omega | (simp only [World.size_setCell, World.size_alloc]; omega) | (go_keep; done) | (go_simp; done) | exact set_0 nb0 _ | exact set2_1 nb1 _ _ | exact set3_2 nb2 _ _ _ | (simp <;> omega)
  case rest =>
    obtain ⟨ba, rfl, rfl, hcut⟩ := hcut
    go_split_ands
    go_wp2_with (first | (go_at_call 12; with_reducible refine (sFormatSpot_lit HF.out _ (by omega) (by omega) (by omega) (by omega)).mono ?_; rintro e w1 ⟨rfl, hb1⟩; have cc0 := cell_keep (p := ⟨w.heap.size, 0, none⟩) (v := .int .i64 0) hb1 (by first | assumption | (go_keep; done) | (go_simp; done) | (simp; done)) (by first | omega | (simp <;> omega)); have cc1 := cell_keep (p := ⟨w.heap.size, 1, none⟩) (v := .int .i64 0) hb1 (by first | assumption | (go_keep; done) | (go_simp; done) | (simp; done)) (by first | omega | (simp <;> omega)); have cc2 := cell_keep (p := ⟨w.heap.size, 2, none⟩) (v := .int .i64 0) hb1 (by first | assumption | (go_keep; done) | (go_simp; done) | (simp; done)) (by first | omega | (simp <;> omega)); have cc3 := cell_keep (p := ⟨ba, 0, none⟩) (v := .int .i64 (X * q')) hb1 (by first | assumption | (go_keep; done) | (go_simp; done) | (simp; done)) (by first | omega | (simp <;> omega)); have cc4 := cell_keep (p := ⟨ba, 1, none⟩) (v := .int .i64 (Y * p')) hb1 (by first | assumption | (go_keep; done) | (go_simp; done) | (simp; done)) (by first | omega | (simp <;> omega)); have cc5 := cell_keep (p := ⟨ba, 2, none⟩) (v := .int .i64 (p' * q)) hb1 (by first | assumption | (go_keep; done) | (go_simp; done) | (simp; done)) (by first | omega | (simp <;> omega)); have cf0 := frozen_keep (p := ⟨w.heap.size, 0, none⟩) hb1 (by first | assumption | (go_keep; done) | (go_simp; done) | (simp; done)) (by first | omega | (simp <;> omega)); have cf1 := frozen_keep (p := ⟨w.heap.size, 1, none⟩) hb1 (by first | assumption | (go_keep; done) | (go_simp; done) | (simp; done)) (by first | omega | (simp <;> omega)); have cf2 := frozen_keep (p := ⟨w.heap.size, 2, none⟩) hb1 (by first | assumption | (go_keep; done) | (go_simp; done) | (simp; done)) (by first | omega | (simp <;> omega)); have hS1 : Below w.heap.size w w1 := S_below hb1 (by repeat (first | exact Below.refl _ _ | assumption | refine below_drewN ?_ _ | refine Below.drew ?_ | refine Below.alloc ?_ (by first | omega | (simp <;> omega)) _ | refine Below.setCell ?_ (by first | omega | (simp <;> omega)) _)) (by first | omega | (simp <;> omega)); have hz1 : w.heap.size + 1 ≤ w1.heap.size := S_size hb1 (by first | omega | (simp <;> omega)); have hqb0 : w.heap.size < w1.heap.size := S_lt hb1 (by first | omega | (simp <;> omega)); have hqb1 : ba < w1.heap.size := S_lt hb1 (by first | omega | (simp <;> omega)); clear hb1))
    exact bodyPost_ret (v := (.tuple #[.agg #[.int .i64 (X * q'), .int .i64 (Y * p'), .int .i64 (p' * q)], .bool true])) (by simp [results, Tryd.results18, go_sem, set_0 cc0, set2_1 cc1, set3_2 cc2]) rfl ⟨rfl, (by repeat (first | exact Below.refl _ _ | assumption | refine below_drewN ?_ _ | refine Below.drew ?_ | refine Below.alloc ?_ (by first | omega | (simp <;> omega)) _ | refine Below.setCell ?_ (by first | omega | (simp <;> omega)) _))⟩

end Go.Proofs.YtkmfejdmdiemaaaDoor
