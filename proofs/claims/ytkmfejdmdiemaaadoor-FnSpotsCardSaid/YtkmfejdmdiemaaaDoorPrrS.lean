/- ParseRatio of the reference; both together. -/
import Derived.Test.YtkmfejdmdiemaaaDoorPrrI
namespace Go.Proofs.YtkmfejdmdiemaaaDoor
open Go.ChangeShapes Go.WideShapes Go.ChangeAt Go.RowKit
attribute [local go_sem ↓] Go.wp_at_zero Go.wp_at_succ
set_option linter.unusedVariables false

set_option maxHeartbeats 1000000 in
set_option maxRecDepth 100000 in
theorem sPR_bad1 {s a b : ByteArray} {n d : Int} {ls : List ByteArray} (hls : pcsB s ⟨#[47]⟩ = ls) (h0 : ls[0]? = some a) (hl : 1 ≤ ls.length) (h2 : ls.length ≠ 2) (hl2 : ls.length ≤ 1048577) (hpa : pI a.data.toList = none) (w : World) (hs : s.size ≤ 1048576) (has : a.size ≤ 1048576) (hbs : b.size ≤ 1048576) :
    Calls Tryd.prog 15 #[.string s] w fun e w' => e = .returned (.tuple #[.agg #[.int .i64 0, .int .i64 0], .bool false]) ∧ Below w.heap.size w w' := by
  have HLS := Lib.hid hls; clear hls
  have H0 := Lib.hid h0; clear h0
  have HP := Lib.hid hpa; clear hpa
  go_enter Tryd.func15, Tryd.ntmps15
  go_wp2_with fail
  go_at_call 41; with_reducible refine (sSplitAny_lit HLS.out _ (by omega) (by decide)).mono ?_
  rintro e wa ⟨g0, c0, rfl, hO0, hg0, hb1⟩
  obtain ⟨cA, hga⟩ := own_cell hO0 H0.out
  clear hO0
  have cc_wa0 := cell_keep (p := ⟨w.heap.size, 0, none⟩) (v := .int .i64 0) hb1 (by first | assumption | (go_keep; done) | (go_simp; done) | (simp; done)) (by first | omega | (simp <;> omega))
  have cc_wa1 := cell_keep (p := ⟨w.heap.size, 1, none⟩) (v := .int .i64 0) hb1 (by first | assumption | (go_keep; done) | (go_simp; done) | (simp; done)) (by first | omega | (simp <;> omega))
  have cf_wa0 := frozen_keep (p := ⟨w.heap.size, 0, none⟩) hb1 (by first | assumption | (go_keep; done) | (go_simp; done) | (simp; done)) (by first | omega | (simp <;> omega))
  have cf_wa1 := frozen_keep (p := ⟨w.heap.size, 1, none⟩) hb1 (by first | assumption | (go_keep; done) | (go_simp; done) | (simp; done)) (by first | omega | (simp <;> omega))
  have hS1_wa : Below w.heap.size w wa := S_below hb1 (by repeat (first | exact Below.refl _ _ | assumption | refine below_drewN ?_ _ | refine Below.drew ?_ | refine Below.alloc ?_ (by first | omega | (simp <;> omega)) _ | refine Below.setCell ?_ (by first | omega | (simp <;> omega)) _)) (by first | omega | (simp <;> omega))
  have hz1_wa : w.heap.size + 1 ≤ wa.heap.size := S_size hb1 (by first | omega | (simp <;> omega))
  have hqb_wa0 : w.heap.size < wa.heap.size := S_lt hb1 (by first | omega | (simp <;> omega))
  clear hb1
  generalize ls.length = m at *
  go_wp2_with fail
  go_at_call 42; with_reducible refine (sParseInt_lit HP.out _ (by omega)).mono ?_
  rintro e wb ⟨rfl, hb1⟩
  simp only [PRes]
  have cc_wb0 := cell_keep (p := ⟨w.heap.size, 0, none⟩) (v := .int .i64 0) hb1 (by first | assumption | (go_keep; done) | (go_simp; done) | (simp; done)) (by first | omega | (simp <;> omega))
  have cc_wb1 := cell_keep (p := ⟨w.heap.size, 1, none⟩) (v := .int .i64 0) hb1 (by first | assumption | (go_keep; done) | (go_simp; done) | (simp; done)) (by first | omega | (simp <;> omega))
  have cc_wb2 := cell_keep (p := ⟨g0, 0, none⟩) (v := .string a) hb1 (by first | assumption | (go_keep; done) | (go_simp; done) | (simp; done)) (by first | omega | (simp <;> omega))
  have cf_wb0 := frozen_keep (p := ⟨w.heap.size, 0, none⟩) hb1 (by first | assumption | (go_keep; done) | (go_simp; done) | (simp; done)) (by first | omega | (simp <;> omega))
  have cf_wb1 := frozen_keep (p := ⟨w.heap.size, 1, none⟩) hb1 (by first | assumption | (go_keep; done) | (go_simp; done) | (simp; done)) (by first | omega | (simp <;> omega))
  have hS1_wb : Below w.heap.size w wb := S_below hb1 (by repeat (first | exact Below.refl _ _ | assumption | refine below_drewN ?_ _ | refine Below.drew ?_ | refine Below.alloc ?_ (by first | omega | (simp <;> omega)) _ | refine Below.setCell ?_ (by first | omega | (simp <;> omega)) _)) (by first | omega | (simp <;> omega))
  have hz1_wb : w.heap.size + 1 ≤ wb.heap.size := S_size hb1 (by first | omega | (simp <;> omega))
  have hqb_wb0 : w.heap.size < wb.heap.size := S_lt hb1 (by first | omega | (simp <;> omega))
  have hqb_wb1 : g0 < wb.heap.size := S_lt hb1 (by first | omega | (simp <;> omega))
  clear hb1
  go_wp2_with fail
  exact bodyPost_ret (v := .tuple #[.agg #[.int .i64 0, .int .i64 0], .bool false]) (by simp [results, Tryd.results15, go_sem, set_0a cc_wb0, set2_1a cc_wb1]) rfl ⟨rfl, (by repeat (first | exact Below.refl _ _ | assumption | refine below_drewN ?_ _ | refine Below.drew ?_ | refine Below.alloc ?_ (by first | omega | (simp <;> omega)) _ | refine Below.setCell ?_ (by first | omega | (simp <;> omega)) _))⟩

set_option maxHeartbeats 1000000 in
set_option maxRecDepth 100000 in
theorem sPR_long {s a b : ByteArray} {n d : Int} {ls : List ByteArray} (hls : pcsB s ⟨#[47]⟩ = ls) (h0 : ls[0]? = some a) (hl : 2 < ls.length) (hl2 : ls.length ≤ 1048577) (hpa : pI a.data.toList = some n) (w : World) (hs : s.size ≤ 1048576) (has : a.size ≤ 1048576) (hbs : b.size ≤ 1048576) :
    Calls Tryd.prog 15 #[.string s] w fun e w' => e = .returned (.tuple #[.agg #[.int .i64 0, .int .i64 0], .bool false]) ∧ Below w.heap.size w w' := by
  have HLS := Lib.hid hls; clear hls
  have H0 := Lib.hid h0; clear h0
  obtain ⟨_, n1, n2⟩ := pI_some hpa
  have HP := Lib.hid hpa; clear hpa
  go_enter Tryd.func15, Tryd.ntmps15
  go_wp2_with fail
  go_at_call 41; with_reducible refine (sSplitAny_lit HLS.out _ (by omega) (by decide)).mono ?_
  rintro e wa ⟨g0, c0, rfl, hO0, hg0, hb1⟩
  obtain ⟨cA, hga⟩ := own_cell hO0 H0.out
  clear hO0
  have cc_wa0 := cell_keep (p := ⟨w.heap.size, 0, none⟩) (v := .int .i64 0) hb1 (by first | assumption | (go_keep; done) | (go_simp; done) | (simp; done)) (by first | omega | (simp <;> omega))
  have cc_wa1 := cell_keep (p := ⟨w.heap.size, 1, none⟩) (v := .int .i64 0) hb1 (by first | assumption | (go_keep; done) | (go_simp; done) | (simp; done)) (by first | omega | (simp <;> omega))
  have cf_wa0 := frozen_keep (p := ⟨w.heap.size, 0, none⟩) hb1 (by first | assumption | (go_keep; done) | (go_simp; done) | (simp; done)) (by first | omega | (simp <;> omega))
  have cf_wa1 := frozen_keep (p := ⟨w.heap.size, 1, none⟩) hb1 (by first | assumption | (go_keep; done) | (go_simp; done) | (simp; done)) (by first | omega | (simp <;> omega))
  have hS1_wa : Below w.heap.size w wa := S_below hb1 (by repeat (first | exact Below.refl _ _ | assumption | refine below_drewN ?_ _ | refine Below.drew ?_ | refine Below.alloc ?_ (by first | omega | (simp <;> omega)) _ | refine Below.setCell ?_ (by first | omega | (simp <;> omega)) _)) (by first | omega | (simp <;> omega))
  have hz1_wa : w.heap.size + 1 ≤ wa.heap.size := S_size hb1 (by first | omega | (simp <;> omega))
  have hqb_wa0 : w.heap.size < wa.heap.size := S_lt hb1 (by first | omega | (simp <;> omega))
  clear hb1
  generalize ls.length = m at *
  go_wp2_with fail
  go_at_call 42; with_reducible refine (sParseInt_lit HP.out _ (by omega)).mono ?_
  rintro e wb ⟨rfl, hb1⟩
  simp only [PRes]
  have cc_wb0 := cell_keep (p := ⟨w.heap.size, 0, none⟩) (v := .int .i64 0) hb1 (by first | assumption | (go_keep; done) | (go_simp; done) | (simp; done)) (by first | omega | (simp <;> omega))
  have cc_wb1 := cell_keep (p := ⟨w.heap.size, 1, none⟩) (v := .int .i64 0) hb1 (by first | assumption | (go_keep; done) | (go_simp; done) | (simp; done)) (by first | omega | (simp <;> omega))
  have cc_wb2 := cell_keep (p := ⟨g0, 0, none⟩) (v := .string a) hb1 (by first | assumption | (go_keep; done) | (go_simp; done) | (simp; done)) (by first | omega | (simp <;> omega))
  have cf_wb0 := frozen_keep (p := ⟨w.heap.size, 0, none⟩) hb1 (by first | assumption | (go_keep; done) | (go_simp; done) | (simp; done)) (by first | omega | (simp <;> omega))
  have cf_wb1 := frozen_keep (p := ⟨w.heap.size, 1, none⟩) hb1 (by first | assumption | (go_keep; done) | (go_simp; done) | (simp; done)) (by first | omega | (simp <;> omega))
  have hS1_wb : Below w.heap.size w wb := S_below hb1 (by repeat (first | exact Below.refl _ _ | assumption | refine below_drewN ?_ _ | refine Below.drew ?_ | refine Below.alloc ?_ (by first | omega | (simp <;> omega)) _ | refine Below.setCell ?_ (by first | omega | (simp <;> omega)) _)) (by first | omega | (simp <;> omega))
  have hz1_wb : w.heap.size + 1 ≤ wb.heap.size := S_size hb1 (by first | omega | (simp <;> omega))
  have hqb_wb0 : w.heap.size < wb.heap.size := S_lt hb1 (by first | omega | (simp <;> omega))
  have hqb_wb1 : g0 < wb.heap.size := S_lt hb1 (by first | omega | (simp <;> omega))
  clear hb1
  go_wp2_with fail
  exact bodyPost_ret (v := .tuple #[.agg #[.int .i64 0, .int .i64 0], .bool false]) (by simp [results, Tryd.results15, go_sem, set_0a cc_wb0, set2_1a cc_wb1]) rfl ⟨rfl, (by repeat (first | exact Below.refl _ _ | assumption | refine below_drewN ?_ _ | refine Below.drew ?_ | refine Below.alloc ?_ (by first | omega | (simp <;> omega)) _ | refine Below.setCell ?_ (by first | omega | (simp <;> omega)) _))⟩

set_option maxHeartbeats 1000000 in
set_option maxRecDepth 100000 in
theorem sPR_badNN {s a b : ByteArray} {n d : Int} {ls : List ByteArray} (hls : pcsB s ⟨#[47]⟩ = ls) (h0 : ls[0]? = some a) (h1 : ls[1]? = some b) (hl : ls.length = 2) (hpa : pI a.data.toList = none) (hpb : pI b.data.toList = none) (w : World) (hs : s.size ≤ 1048576) (has : a.size ≤ 1048576) (hbs : b.size ≤ 1048576) :
    Calls Tryd.prog 15 #[.string s] w fun e w' => e = .returned (.tuple #[.agg #[.int .i64 0, .int .i64 0], .bool false]) ∧ Below w.heap.size w w' := by
  have HLS := Lib.hid hls; clear hls
  have H0 := Lib.hid h0; clear h0
  have H1 := Lib.hid h1; clear h1
  have HP := Lib.hid hpa; clear hpa
  have HQ := Lib.hid hpb; clear hpb
  go_enter Tryd.func15, Tryd.ntmps15
  go_wp2_with fail
  go_at_call 41; with_reducible refine (sSplitAny_lit HLS.out _ (by omega) (by decide)).mono ?_
  rintro e wa ⟨g0, c0, rfl, hO0, hg0, hb1⟩
  obtain ⟨cA, hga⟩ := own_cell hO0 H0.out
  obtain ⟨cB, _⟩ := own_cell hO0 H1.out
  clear hO0
  have cc_wa0 := cell_keep (p := ⟨w.heap.size, 0, none⟩) (v := .int .i64 0) hb1 (by first | assumption | (go_keep; done) | (go_simp; done) | (simp; done)) (by first | omega | (simp <;> omega))
  have cc_wa1 := cell_keep (p := ⟨w.heap.size, 1, none⟩) (v := .int .i64 0) hb1 (by first | assumption | (go_keep; done) | (go_simp; done) | (simp; done)) (by first | omega | (simp <;> omega))
  have cf_wa0 := frozen_keep (p := ⟨w.heap.size, 0, none⟩) hb1 (by first | assumption | (go_keep; done) | (go_simp; done) | (simp; done)) (by first | omega | (simp <;> omega))
  have cf_wa1 := frozen_keep (p := ⟨w.heap.size, 1, none⟩) hb1 (by first | assumption | (go_keep; done) | (go_simp; done) | (simp; done)) (by first | omega | (simp <;> omega))
  have hS1_wa : Below w.heap.size w wa := S_below hb1 (by repeat (first | exact Below.refl _ _ | assumption | refine below_drewN ?_ _ | refine Below.drew ?_ | refine Below.alloc ?_ (by first | omega | (simp <;> omega)) _ | refine Below.setCell ?_ (by first | omega | (simp <;> omega)) _)) (by first | omega | (simp <;> omega))
  have hz1_wa : w.heap.size + 1 ≤ wa.heap.size := S_size hb1 (by first | omega | (simp <;> omega))
  have hqb_wa0 : w.heap.size < wa.heap.size := S_lt hb1 (by first | omega | (simp <;> omega))
  clear hb1
  generalize ls.length = m at *
  subst hl
  go_wp2_with fail
  go_at_call 42; with_reducible refine (sParseInt_lit HP.out _ (by omega)).mono ?_
  rintro e wb ⟨rfl, hb1⟩
  simp only [PRes]
  have cc_wb0 := cell_keep (p := ⟨w.heap.size, 0, none⟩) (v := .int .i64 0) hb1 (by first | assumption | (go_keep; done) | (go_simp; done) | (simp; done)) (by first | omega | (simp <;> omega))
  have cc_wb1 := cell_keep (p := ⟨w.heap.size, 1, none⟩) (v := .int .i64 0) hb1 (by first | assumption | (go_keep; done) | (go_simp; done) | (simp; done)) (by first | omega | (simp <;> omega))
  have cc_wb2 := cell_keep (p := ⟨g0, 0, none⟩) (v := .string a) hb1 (by first | assumption | (go_keep; done) | (go_simp; done) | (simp; done)) (by first | omega | (simp <;> omega))
  have cc_wb3 := cell_keep (p := ⟨g0, 1, none⟩) (v := .string b) hb1 (by first | assumption | (go_keep; done) | (go_simp; done) | (simp; done)) (by first | omega | (simp <;> omega))
  have cf_wb0 := frozen_keep (p := ⟨w.heap.size, 0, none⟩) hb1 (by first | assumption | (go_keep; done) | (go_simp; done) | (simp; done)) (by first | omega | (simp <;> omega))
  have cf_wb1 := frozen_keep (p := ⟨w.heap.size, 1, none⟩) hb1 (by first | assumption | (go_keep; done) | (go_simp; done) | (simp; done)) (by first | omega | (simp <;> omega))
  have hS1_wb : Below w.heap.size w wb := S_below hb1 (by repeat (first | exact Below.refl _ _ | assumption | refine below_drewN ?_ _ | refine Below.drew ?_ | refine Below.alloc ?_ (by first | omega | (simp <;> omega)) _ | refine Below.setCell ?_ (by first | omega | (simp <;> omega)) _)) (by first | omega | (simp <;> omega))
  have hz1_wb : w.heap.size + 1 ≤ wb.heap.size := S_size hb1 (by first | omega | (simp <;> omega))
  have hqb_wb0 : w.heap.size < wb.heap.size := S_lt hb1 (by first | omega | (simp <;> omega))
  have hqb_wb1 : g0 < wb.heap.size := S_lt hb1 (by first | omega | (simp <;> omega))
  clear hb1
  go_wp2_with fail
  go_at_call 42; with_reducible refine (sParseInt_lit HQ.out _ (by omega)).mono ?_
  rintro e wc ⟨rfl, hb1⟩
  simp only [PRes]
  have cc_wc0 := cell_keep (p := ⟨w.heap.size, 0, none⟩) (v := .int .i64 0) hb1 (by first | assumption | (go_keep; done) | (go_simp; done) | (simp; done)) (by first | omega | (simp <;> omega))
  have cc_wc1 := cell_keep (p := ⟨w.heap.size, 1, none⟩) (v := .int .i64 0) hb1 (by first | assumption | (go_keep; done) | (go_simp; done) | (simp; done)) (by first | omega | (simp <;> omega))
  have cf_wc0 := frozen_keep (p := ⟨w.heap.size, 0, none⟩) hb1 (by first | assumption | (go_keep; done) | (go_simp; done) | (simp; done)) (by first | omega | (simp <;> omega))
  have cf_wc1 := frozen_keep (p := ⟨w.heap.size, 1, none⟩) hb1 (by first | assumption | (go_keep; done) | (go_simp; done) | (simp; done)) (by first | omega | (simp <;> omega))
  have hS1_wc : Below w.heap.size w wc := S_below hb1 (by repeat (first | exact Below.refl _ _ | assumption | refine below_drewN ?_ _ | refine Below.drew ?_ | refine Below.alloc ?_ (by first | omega | (simp <;> omega)) _ | refine Below.setCell ?_ (by first | omega | (simp <;> omega)) _)) (by first | omega | (simp <;> omega))
  have hz1_wc : w.heap.size + 1 ≤ wc.heap.size := S_size hb1 (by first | omega | (simp <;> omega))
  have hqb_wc0 : w.heap.size < wc.heap.size := S_lt hb1 (by first | omega | (simp <;> omega))
  clear hb1
  go_wp2_with fail
  exact bodyPost_ret (v := .tuple #[.agg #[.int .i64 0, .int .i64 0], .bool false]) (by simp [results, Tryd.results15, go_sem, set_0a cc_wc0, set2_1a cc_wc1]) rfl ⟨rfl, (by repeat (first | exact Below.refl _ _ | assumption | refine below_drewN ?_ _ | refine Below.drew ?_ | refine Below.alloc ?_ (by first | omega | (simp <;> omega)) _ | refine Below.setCell ?_ (by first | omega | (simp <;> omega)) _))⟩

set_option maxHeartbeats 1000000 in
set_option maxRecDepth 100000 in
theorem sPR_badNS {s a b : ByteArray} {n d : Int} {ls : List ByteArray} (hls : pcsB s ⟨#[47]⟩ = ls) (h0 : ls[0]? = some a) (h1 : ls[1]? = some b) (hl : ls.length = 2) (hpa : pI a.data.toList = none) (hpb : pI b.data.toList = some d) (w : World) (hs : s.size ≤ 1048576) (has : a.size ≤ 1048576) (hbs : b.size ≤ 1048576) :
    Calls Tryd.prog 15 #[.string s] w fun e w' => e = .returned (.tuple #[.agg #[.int .i64 0, .int .i64 0], .bool false]) ∧ Below w.heap.size w w' := by
  have HLS := Lib.hid hls; clear hls
  have H0 := Lib.hid h0; clear h0
  have H1 := Lib.hid h1; clear h1
  have HP := Lib.hid hpa; clear hpa
  obtain ⟨_, d1, d2⟩ := pI_some hpb
  have HQ := Lib.hid hpb; clear hpb
  go_enter Tryd.func15, Tryd.ntmps15
  go_wp2_with fail
  go_at_call 41; with_reducible refine (sSplitAny_lit HLS.out _ (by omega) (by decide)).mono ?_
  rintro e wa ⟨g0, c0, rfl, hO0, hg0, hb1⟩
  obtain ⟨cA, hga⟩ := own_cell hO0 H0.out
  obtain ⟨cB, _⟩ := own_cell hO0 H1.out
  clear hO0
  have cc_wa0 := cell_keep (p := ⟨w.heap.size, 0, none⟩) (v := .int .i64 0) hb1 (by first | assumption | (go_keep; done) | (go_simp; done) | (simp; done)) (by first | omega | (simp <;> omega))
  have cc_wa1 := cell_keep (p := ⟨w.heap.size, 1, none⟩) (v := .int .i64 0) hb1 (by first | assumption | (go_keep; done) | (go_simp; done) | (simp; done)) (by first | omega | (simp <;> omega))
  have cf_wa0 := frozen_keep (p := ⟨w.heap.size, 0, none⟩) hb1 (by first | assumption | (go_keep; done) | (go_simp; done) | (simp; done)) (by first | omega | (simp <;> omega))
  have cf_wa1 := frozen_keep (p := ⟨w.heap.size, 1, none⟩) hb1 (by first | assumption | (go_keep; done) | (go_simp; done) | (simp; done)) (by first | omega | (simp <;> omega))
  have hS1_wa : Below w.heap.size w wa := S_below hb1 (by repeat (first | exact Below.refl _ _ | assumption | refine below_drewN ?_ _ | refine Below.drew ?_ | refine Below.alloc ?_ (by first | omega | (simp <;> omega)) _ | refine Below.setCell ?_ (by first | omega | (simp <;> omega)) _)) (by first | omega | (simp <;> omega))
  have hz1_wa : w.heap.size + 1 ≤ wa.heap.size := S_size hb1 (by first | omega | (simp <;> omega))
  have hqb_wa0 : w.heap.size < wa.heap.size := S_lt hb1 (by first | omega | (simp <;> omega))
  clear hb1
  generalize ls.length = m at *
  subst hl
  go_wp2_with fail
  go_at_call 42; with_reducible refine (sParseInt_lit HP.out _ (by omega)).mono ?_
  rintro e wb ⟨rfl, hb1⟩
  simp only [PRes]
  have cc_wb0 := cell_keep (p := ⟨w.heap.size, 0, none⟩) (v := .int .i64 0) hb1 (by first | assumption | (go_keep; done) | (go_simp; done) | (simp; done)) (by first | omega | (simp <;> omega))
  have cc_wb1 := cell_keep (p := ⟨w.heap.size, 1, none⟩) (v := .int .i64 0) hb1 (by first | assumption | (go_keep; done) | (go_simp; done) | (simp; done)) (by first | omega | (simp <;> omega))
  have cc_wb2 := cell_keep (p := ⟨g0, 0, none⟩) (v := .string a) hb1 (by first | assumption | (go_keep; done) | (go_simp; done) | (simp; done)) (by first | omega | (simp <;> omega))
  have cc_wb3 := cell_keep (p := ⟨g0, 1, none⟩) (v := .string b) hb1 (by first | assumption | (go_keep; done) | (go_simp; done) | (simp; done)) (by first | omega | (simp <;> omega))
  have cf_wb0 := frozen_keep (p := ⟨w.heap.size, 0, none⟩) hb1 (by first | assumption | (go_keep; done) | (go_simp; done) | (simp; done)) (by first | omega | (simp <;> omega))
  have cf_wb1 := frozen_keep (p := ⟨w.heap.size, 1, none⟩) hb1 (by first | assumption | (go_keep; done) | (go_simp; done) | (simp; done)) (by first | omega | (simp <;> omega))
  have hS1_wb : Below w.heap.size w wb := S_below hb1 (by repeat (first | exact Below.refl _ _ | assumption | refine below_drewN ?_ _ | refine Below.drew ?_ | refine Below.alloc ?_ (by first | omega | (simp <;> omega)) _ | refine Below.setCell ?_ (by first | omega | (simp <;> omega)) _)) (by first | omega | (simp <;> omega))
  have hz1_wb : w.heap.size + 1 ≤ wb.heap.size := S_size hb1 (by first | omega | (simp <;> omega))
  have hqb_wb0 : w.heap.size < wb.heap.size := S_lt hb1 (by first | omega | (simp <;> omega))
  have hqb_wb1 : g0 < wb.heap.size := S_lt hb1 (by first | omega | (simp <;> omega))
  clear hb1
  go_wp2_with fail
  go_at_call 42; with_reducible refine (sParseInt_lit HQ.out _ (by omega)).mono ?_
  rintro e wc ⟨rfl, hb1⟩
  simp only [PRes]
  have cc_wc0 := cell_keep (p := ⟨w.heap.size, 0, none⟩) (v := .int .i64 0) hb1 (by first | assumption | (go_keep; done) | (go_simp; done) | (simp; done)) (by first | omega | (simp <;> omega))
  have cc_wc1 := cell_keep (p := ⟨w.heap.size, 1, none⟩) (v := .int .i64 0) hb1 (by first | assumption | (go_keep; done) | (go_simp; done) | (simp; done)) (by first | omega | (simp <;> omega))
  have cf_wc0 := frozen_keep (p := ⟨w.heap.size, 0, none⟩) hb1 (by first | assumption | (go_keep; done) | (go_simp; done) | (simp; done)) (by first | omega | (simp <;> omega))
  have cf_wc1 := frozen_keep (p := ⟨w.heap.size, 1, none⟩) hb1 (by first | assumption | (go_keep; done) | (go_simp; done) | (simp; done)) (by first | omega | (simp <;> omega))
  have hS1_wc : Below w.heap.size w wc := S_below hb1 (by repeat (first | exact Below.refl _ _ | assumption | refine below_drewN ?_ _ | refine Below.drew ?_ | refine Below.alloc ?_ (by first | omega | (simp <;> omega)) _ | refine Below.setCell ?_ (by first | omega | (simp <;> omega)) _)) (by first | omega | (simp <;> omega))
  have hz1_wc : w.heap.size + 1 ≤ wc.heap.size := S_size hb1 (by first | omega | (simp <;> omega))
  have hqb_wc0 : w.heap.size < wc.heap.size := S_lt hb1 (by first | omega | (simp <;> omega))
  clear hb1
  go_wp2_with fail
  exact bodyPost_ret (v := .tuple #[.agg #[.int .i64 0, .int .i64 0], .bool false]) (by simp [results, Tryd.results15, go_sem, set_0a cc_wc0, set2_1a cc_wc1]) rfl ⟨rfl, (by repeat (first | exact Below.refl _ _ | assumption | refine below_drewN ?_ _ | refine Below.drew ?_ | refine Below.alloc ?_ (by first | omega | (simp <;> omega)) _ | refine Below.setCell ?_ (by first | omega | (simp <;> omega)) _))⟩

set_option maxHeartbeats 1000000 in
set_option maxRecDepth 100000 in
theorem sPR_badSN {s a b : ByteArray} {n d : Int} {ls : List ByteArray} (hls : pcsB s ⟨#[47]⟩ = ls) (h0 : ls[0]? = some a) (h1 : ls[1]? = some b) (hl : ls.length = 2) (hpa : pI a.data.toList = some n) (hpb : pI b.data.toList = none) (w : World) (hs : s.size ≤ 1048576) (has : a.size ≤ 1048576) (hbs : b.size ≤ 1048576) :
    Calls Tryd.prog 15 #[.string s] w fun e w' => e = .returned (.tuple #[.agg #[.int .i64 0, .int .i64 0], .bool false]) ∧ Below w.heap.size w w' := by
  have HLS := Lib.hid hls; clear hls
  have H0 := Lib.hid h0; clear h0
  have H1 := Lib.hid h1; clear h1
  obtain ⟨_, n1, n2⟩ := pI_some hpa
  have HP := Lib.hid hpa; clear hpa
  have HQ := Lib.hid hpb; clear hpb
  go_enter Tryd.func15, Tryd.ntmps15
  go_wp2_with fail
  go_at_call 41; with_reducible refine (sSplitAny_lit HLS.out _ (by omega) (by decide)).mono ?_
  rintro e wa ⟨g0, c0, rfl, hO0, hg0, hb1⟩
  obtain ⟨cA, hga⟩ := own_cell hO0 H0.out
  obtain ⟨cB, _⟩ := own_cell hO0 H1.out
  clear hO0
  have cc_wa0 := cell_keep (p := ⟨w.heap.size, 0, none⟩) (v := .int .i64 0) hb1 (by first | assumption | (go_keep; done) | (go_simp; done) | (simp; done)) (by first | omega | (simp <;> omega))
  have cc_wa1 := cell_keep (p := ⟨w.heap.size, 1, none⟩) (v := .int .i64 0) hb1 (by first | assumption | (go_keep; done) | (go_simp; done) | (simp; done)) (by first | omega | (simp <;> omega))
  have cf_wa0 := frozen_keep (p := ⟨w.heap.size, 0, none⟩) hb1 (by first | assumption | (go_keep; done) | (go_simp; done) | (simp; done)) (by first | omega | (simp <;> omega))
  have cf_wa1 := frozen_keep (p := ⟨w.heap.size, 1, none⟩) hb1 (by first | assumption | (go_keep; done) | (go_simp; done) | (simp; done)) (by first | omega | (simp <;> omega))
  have hS1_wa : Below w.heap.size w wa := S_below hb1 (by repeat (first | exact Below.refl _ _ | assumption | refine below_drewN ?_ _ | refine Below.drew ?_ | refine Below.alloc ?_ (by first | omega | (simp <;> omega)) _ | refine Below.setCell ?_ (by first | omega | (simp <;> omega)) _)) (by first | omega | (simp <;> omega))
  have hz1_wa : w.heap.size + 1 ≤ wa.heap.size := S_size hb1 (by first | omega | (simp <;> omega))
  have hqb_wa0 : w.heap.size < wa.heap.size := S_lt hb1 (by first | omega | (simp <;> omega))
  clear hb1
  generalize ls.length = m at *
  subst hl
  go_wp2_with fail
  go_at_call 42; with_reducible refine (sParseInt_lit HP.out _ (by omega)).mono ?_
  rintro e wb ⟨rfl, hb1⟩
  simp only [PRes]
  have cc_wb0 := cell_keep (p := ⟨w.heap.size, 0, none⟩) (v := .int .i64 0) hb1 (by first | assumption | (go_keep; done) | (go_simp; done) | (simp; done)) (by first | omega | (simp <;> omega))
  have cc_wb1 := cell_keep (p := ⟨w.heap.size, 1, none⟩) (v := .int .i64 0) hb1 (by first | assumption | (go_keep; done) | (go_simp; done) | (simp; done)) (by first | omega | (simp <;> omega))
  have cc_wb2 := cell_keep (p := ⟨g0, 0, none⟩) (v := .string a) hb1 (by first | assumption | (go_keep; done) | (go_simp; done) | (simp; done)) (by first | omega | (simp <;> omega))
  have cc_wb3 := cell_keep (p := ⟨g0, 1, none⟩) (v := .string b) hb1 (by first | assumption | (go_keep; done) | (go_simp; done) | (simp; done)) (by first | omega | (simp <;> omega))
  have cf_wb0 := frozen_keep (p := ⟨w.heap.size, 0, none⟩) hb1 (by first | assumption | (go_keep; done) | (go_simp; done) | (simp; done)) (by first | omega | (simp <;> omega))
  have cf_wb1 := frozen_keep (p := ⟨w.heap.size, 1, none⟩) hb1 (by first | assumption | (go_keep; done) | (go_simp; done) | (simp; done)) (by first | omega | (simp <;> omega))
  have hS1_wb : Below w.heap.size w wb := S_below hb1 (by repeat (first | exact Below.refl _ _ | assumption | refine below_drewN ?_ _ | refine Below.drew ?_ | refine Below.alloc ?_ (by first | omega | (simp <;> omega)) _ | refine Below.setCell ?_ (by first | omega | (simp <;> omega)) _)) (by first | omega | (simp <;> omega))
  have hz1_wb : w.heap.size + 1 ≤ wb.heap.size := S_size hb1 (by first | omega | (simp <;> omega))
  have hqb_wb0 : w.heap.size < wb.heap.size := S_lt hb1 (by first | omega | (simp <;> omega))
  have hqb_wb1 : g0 < wb.heap.size := S_lt hb1 (by first | omega | (simp <;> omega))
  clear hb1
  go_wp2_with fail
  go_at_call 42; with_reducible refine (sParseInt_lit HQ.out _ (by omega)).mono ?_
  rintro e wc ⟨rfl, hb1⟩
  simp only [PRes]
  have cc_wc0 := cell_keep (p := ⟨w.heap.size, 0, none⟩) (v := .int .i64 0) hb1 (by first | assumption | (go_keep; done) | (go_simp; done) | (simp; done)) (by first | omega | (simp <;> omega))
  have cc_wc1 := cell_keep (p := ⟨w.heap.size, 1, none⟩) (v := .int .i64 0) hb1 (by first | assumption | (go_keep; done) | (go_simp; done) | (simp; done)) (by first | omega | (simp <;> omega))
  have cf_wc0 := frozen_keep (p := ⟨w.heap.size, 0, none⟩) hb1 (by first | assumption | (go_keep; done) | (go_simp; done) | (simp; done)) (by first | omega | (simp <;> omega))
  have cf_wc1 := frozen_keep (p := ⟨w.heap.size, 1, none⟩) hb1 (by first | assumption | (go_keep; done) | (go_simp; done) | (simp; done)) (by first | omega | (simp <;> omega))
  have hS1_wc : Below w.heap.size w wc := S_below hb1 (by repeat (first | exact Below.refl _ _ | assumption | refine below_drewN ?_ _ | refine Below.drew ?_ | refine Below.alloc ?_ (by first | omega | (simp <;> omega)) _ | refine Below.setCell ?_ (by first | omega | (simp <;> omega)) _)) (by first | omega | (simp <;> omega))
  have hz1_wc : w.heap.size + 1 ≤ wc.heap.size := S_size hb1 (by first | omega | (simp <;> omega))
  have hqb_wc0 : w.heap.size < wc.heap.size := S_lt hb1 (by first | omega | (simp <;> omega))
  clear hb1
  go_wp2_with fail
  exact bodyPost_ret (v := .tuple #[.agg #[.int .i64 0, .int .i64 0], .bool false]) (by simp [results, Tryd.results15, go_sem, set_0a cc_wc0, set2_1a cc_wc1]) rfl ⟨rfl, (by repeat (first | exact Below.refl _ _ | assumption | refine below_drewN ?_ _ | refine Below.drew ?_ | refine Below.alloc ?_ (by first | omega | (simp <;> omega)) _ | refine Below.setCell ?_ (by first | omega | (simp <;> omega)) _))⟩

set_option maxHeartbeats 1000000 in
set_option maxRecDepth 100000 in
theorem sPR_oneB {s a b : ByteArray} {n d : Int} {ls : List ByteArray} (hls : pcsB s ⟨#[47]⟩ = ls) (h0 : ls[0]? = some a) (hl : ls.length = 1) (hpa : pI a.data.toList = some n) (hf : fmtR n 1 ≠ s) (w : World) (hs : s.size ≤ 1048576) (has : a.size ≤ 1048576) (hbs : b.size ≤ 1048576) :
    Calls Tryd.prog 15 #[.string s] w fun e w' => e = .returned (.tuple #[.agg #[.int .i64 0, .int .i64 0], .bool false]) ∧ Below w.heap.size w w' := by
  have HLS := Lib.hid hls; clear hls
  have H0 := Lib.hid h0; clear h0
  have hne := str_ne hf; clear hf
  obtain ⟨f, hf⟩ : ∃ f, fmtR n 1 = f := ⟨_, rfl⟩
  rw [hf] at hne
  have HF := Lib.hid hf; clear hf
  obtain ⟨_, n1, n2⟩ := pI_some hpa
  have HP := Lib.hid hpa; clear hpa
  go_enter Tryd.func15, Tryd.ntmps15
  go_wp2_with fail
  go_at_call 41; with_reducible refine (sSplitAny_lit HLS.out _ (by omega) (by decide)).mono ?_
  rintro e wa ⟨g0, c0, rfl, hO0, hg0, hb1⟩
  obtain ⟨cA, hga⟩ := own_cell hO0 H0.out
  clear hO0
  have cc_wa0 := cell_keep (p := ⟨w.heap.size, 0, none⟩) (v := .int .i64 0) hb1 (by first | assumption | (go_keep; done) | (go_simp; done) | (simp; done)) (by first | omega | (simp <;> omega))
  have cc_wa1 := cell_keep (p := ⟨w.heap.size, 1, none⟩) (v := .int .i64 0) hb1 (by first | assumption | (go_keep; done) | (go_simp; done) | (simp; done)) (by first | omega | (simp <;> omega))
  have cf_wa0 := frozen_keep (p := ⟨w.heap.size, 0, none⟩) hb1 (by first | assumption | (go_keep; done) | (go_simp; done) | (simp; done)) (by first | omega | (simp <;> omega))
  have cf_wa1 := frozen_keep (p := ⟨w.heap.size, 1, none⟩) hb1 (by first | assumption | (go_keep; done) | (go_simp; done) | (simp; done)) (by first | omega | (simp <;> omega))
  have hS1_wa : Below w.heap.size w wa := S_below hb1 (by repeat (first | exact Below.refl _ _ | assumption | refine below_drewN ?_ _ | refine Below.drew ?_ | refine Below.alloc ?_ (by first | omega | (simp <;> omega)) _ | refine Below.setCell ?_ (by first | omega | (simp <;> omega)) _)) (by first | omega | (simp <;> omega))
  have hz1_wa : w.heap.size + 1 ≤ wa.heap.size := S_size hb1 (by first | omega | (simp <;> omega))
  have hqb_wa0 : w.heap.size < wa.heap.size := S_lt hb1 (by first | omega | (simp <;> omega))
  clear hb1
  generalize ls.length = m at *
  subst hl
  go_wp2_with fail
  go_at_call 42; with_reducible refine (sParseInt_lit HP.out _ (by omega)).mono ?_
  rintro e wb ⟨rfl, hb1⟩
  simp only [PRes]
  have cc_wb0 := cell_keep (p := ⟨w.heap.size, 0, none⟩) (v := .int .i64 0) hb1 (by first | assumption | (go_keep; done) | (go_simp; done) | (simp; done)) (by first | omega | (simp <;> omega))
  have cc_wb1 := cell_keep (p := ⟨w.heap.size, 1, none⟩) (v := .int .i64 0) hb1 (by first | assumption | (go_keep; done) | (go_simp; done) | (simp; done)) (by first | omega | (simp <;> omega))
  have cc_wb2 := cell_keep (p := ⟨g0, 0, none⟩) (v := .string a) hb1 (by first | assumption | (go_keep; done) | (go_simp; done) | (simp; done)) (by first | omega | (simp <;> omega))
  have cf_wb0 := frozen_keep (p := ⟨w.heap.size, 0, none⟩) hb1 (by first | assumption | (go_keep; done) | (go_simp; done) | (simp; done)) (by first | omega | (simp <;> omega))
  have cf_wb1 := frozen_keep (p := ⟨w.heap.size, 1, none⟩) hb1 (by first | assumption | (go_keep; done) | (go_simp; done) | (simp; done)) (by first | omega | (simp <;> omega))
  have hS1_wb : Below w.heap.size w wb := S_below hb1 (by repeat (first | exact Below.refl _ _ | assumption | refine below_drewN ?_ _ | refine Below.drew ?_ | refine Below.alloc ?_ (by first | omega | (simp <;> omega)) _ | refine Below.setCell ?_ (by first | omega | (simp <;> omega)) _)) (by first | omega | (simp <;> omega))
  have hz1_wb : w.heap.size + 1 ≤ wb.heap.size := S_size hb1 (by first | omega | (simp <;> omega))
  have hqb_wb0 : w.heap.size < wb.heap.size := S_lt hb1 (by first | omega | (simp <;> omega))
  have hqb_wb1 : g0 < wb.heap.size := S_lt hb1 (by first | omega | (simp <;> omega))
  clear hb1
  go_wp2_with (first | (go_at_call 9; with_reducible refine (sFormatRatio_lit HF.out _ n1 n2).mono ?_; rintro e w1 ⟨rfl, hb1⟩; have cc0 := cell_keep (p := ⟨w.heap.size, 0, none⟩) (v := .int .i64 0) hb1 (by first | assumption | (go_keep; done) | (go_simp; done) | (simp; done)) (by first | omega | (simp <;> omega)); have cc1 := cell_keep (p := ⟨w.heap.size, 1, none⟩) (v := .int .i64 0) hb1 (by first | assumption | (go_keep; done) | (go_simp; done) | (simp; done)) (by first | omega | (simp <;> omega)); have cc2 := cell_keep (p := ⟨wb.heap.size, 0, none⟩) (v := .int .i64 n) hb1 (by first | assumption | (go_keep; done) | (go_simp; done) | (simp; done)) (by first | omega | (simp <;> omega)); have cc3 := cell_keep (p := ⟨wb.heap.size, 1, none⟩) (v := .int .i64 1) hb1 (by first | assumption | (go_keep; done) | (go_simp; done) | (simp; done)) (by first | omega | (simp <;> omega)); have cf0 := frozen_keep (p := ⟨w.heap.size, 0, none⟩) hb1 (by first | assumption | (go_keep; done) | (go_simp; done) | (simp; done)) (by first | omega | (simp <;> omega)); have cf1 := frozen_keep (p := ⟨w.heap.size, 1, none⟩) hb1 (by first | assumption | (go_keep; done) | (go_simp; done) | (simp; done)) (by first | omega | (simp <;> omega)); have hS1 : Below w.heap.size w w1 := S_below hb1 (by repeat (first | exact Below.refl _ _ | assumption | refine below_drewN ?_ _ | refine Below.drew ?_ | refine Below.alloc ?_ (by first | omega | (simp <;> omega)) _ | refine Below.setCell ?_ (by first | omega | (simp <;> omega)) _)) (by first | omega | (simp <;> omega)); have hz1 : w.heap.size + 1 ≤ w1.heap.size := S_size hb1 (by first | omega | (simp <;> omega)); have hqb0 : w.heap.size < w1.heap.size := S_lt hb1 (by first | omega | (simp <;> omega)); have hqb1 : wb.heap.size < w1.heap.size := S_lt hb1 (by first | omega | (simp <;> omega)); clear hb1))
  exact bodyPost_ret (v := .tuple #[.agg #[.int .i64 0, .int .i64 0], .bool false]) (by simp [results, Tryd.results15, go_sem, set_0 cc0, set2_1 cc1]) rfl ⟨rfl, (by repeat (first | exact Below.refl _ _ | assumption | refine below_drewN ?_ _ | refine Below.drew ?_ | refine Below.alloc ?_ (by first | omega | (simp <;> omega)) _ | refine Below.setCell ?_ (by first | omega | (simp <;> omega)) _))⟩

set_option maxHeartbeats 1000000 in
set_option maxRecDepth 100000 in
theorem sPR_oneA {s a b : ByteArray} {n d : Int} {ls : List ByteArray} (hls : pcsB s ⟨#[47]⟩ = ls) (h0 : ls[0]? = some a) (hl : ls.length = 1) (hpa : pI a.data.toList = some n) (ho : ratioOkV n 1 = false) (hf : fmtR n 1 = s) (w : World) (hs : s.size ≤ 1048576) (has : a.size ≤ 1048576) (hbs : b.size ≤ 1048576) :
    Calls Tryd.prog 15 #[.string s] w fun e w' => e = .returned (.tuple #[.agg #[.int .i64 0, .int .i64 0], .bool false]) ∧ Below w.heap.size w w' := by
  have HLS := Lib.hid hls; clear hls
  have H0 := Lib.hid h0; clear h0
  have HO := Lib.hid ho; clear ho
  have HF := Lib.hid hf; clear hf
  obtain ⟨_, n1, n2⟩ := pI_some hpa
  have HP := Lib.hid hpa; clear hpa
  go_enter Tryd.func15, Tryd.ntmps15
  go_wp2_with fail
  go_at_call 41; with_reducible refine (sSplitAny_lit HLS.out _ (by omega) (by decide)).mono ?_
  rintro e wa ⟨g0, c0, rfl, hO0, hg0, hb1⟩
  obtain ⟨cA, hga⟩ := own_cell hO0 H0.out
  clear hO0
  have cc_wa0 := cell_keep (p := ⟨w.heap.size, 0, none⟩) (v := .int .i64 0) hb1 (by first | assumption | (go_keep; done) | (go_simp; done) | (simp; done)) (by first | omega | (simp <;> omega))
  have cc_wa1 := cell_keep (p := ⟨w.heap.size, 1, none⟩) (v := .int .i64 0) hb1 (by first | assumption | (go_keep; done) | (go_simp; done) | (simp; done)) (by first | omega | (simp <;> omega))
  have cf_wa0 := frozen_keep (p := ⟨w.heap.size, 0, none⟩) hb1 (by first | assumption | (go_keep; done) | (go_simp; done) | (simp; done)) (by first | omega | (simp <;> omega))
  have cf_wa1 := frozen_keep (p := ⟨w.heap.size, 1, none⟩) hb1 (by first | assumption | (go_keep; done) | (go_simp; done) | (simp; done)) (by first | omega | (simp <;> omega))
  have hS1_wa : Below w.heap.size w wa := S_below hb1 (by repeat (first | exact Below.refl _ _ | assumption | refine below_drewN ?_ _ | refine Below.drew ?_ | refine Below.alloc ?_ (by first | omega | (simp <;> omega)) _ | refine Below.setCell ?_ (by first | omega | (simp <;> omega)) _)) (by first | omega | (simp <;> omega))
  have hz1_wa : w.heap.size + 1 ≤ wa.heap.size := S_size hb1 (by first | omega | (simp <;> omega))
  have hqb_wa0 : w.heap.size < wa.heap.size := S_lt hb1 (by first | omega | (simp <;> omega))
  clear hb1
  generalize ls.length = m at *
  subst hl
  go_wp2_with fail
  go_at_call 42; with_reducible refine (sParseInt_lit HP.out _ (by omega)).mono ?_
  rintro e wb ⟨rfl, hb1⟩
  simp only [PRes]
  have cc_wb0 := cell_keep (p := ⟨w.heap.size, 0, none⟩) (v := .int .i64 0) hb1 (by first | assumption | (go_keep; done) | (go_simp; done) | (simp; done)) (by first | omega | (simp <;> omega))
  have cc_wb1 := cell_keep (p := ⟨w.heap.size, 1, none⟩) (v := .int .i64 0) hb1 (by first | assumption | (go_keep; done) | (go_simp; done) | (simp; done)) (by first | omega | (simp <;> omega))
  have cc_wb2 := cell_keep (p := ⟨g0, 0, none⟩) (v := .string a) hb1 (by first | assumption | (go_keep; done) | (go_simp; done) | (simp; done)) (by first | omega | (simp <;> omega))
  have cf_wb0 := frozen_keep (p := ⟨w.heap.size, 0, none⟩) hb1 (by first | assumption | (go_keep; done) | (go_simp; done) | (simp; done)) (by first | omega | (simp <;> omega))
  have cf_wb1 := frozen_keep (p := ⟨w.heap.size, 1, none⟩) hb1 (by first | assumption | (go_keep; done) | (go_simp; done) | (simp; done)) (by first | omega | (simp <;> omega))
  have hS1_wb : Below w.heap.size w wb := S_below hb1 (by repeat (first | exact Below.refl _ _ | assumption | refine below_drewN ?_ _ | refine Below.drew ?_ | refine Below.alloc ?_ (by first | omega | (simp <;> omega)) _ | refine Below.setCell ?_ (by first | omega | (simp <;> omega)) _)) (by first | omega | (simp <;> omega))
  have hz1_wb : w.heap.size + 1 ≤ wb.heap.size := S_size hb1 (by first | omega | (simp <;> omega))
  have hqb_wb0 : w.heap.size < wb.heap.size := S_lt hb1 (by first | omega | (simp <;> omega))
  have hqb_wb1 : g0 < wb.heap.size := S_lt hb1 (by first | omega | (simp <;> omega))
  clear hb1
  go_wp2_with (first | (go_at_call 36; with_reducible refine (sRatioOk_lit HO.out _ n1 n2).mono ?_; rintro e w1 ⟨rfl, hb1⟩; have cc0 := cell_keep (p := ⟨w.heap.size, 0, none⟩) (v := .int .i64 0) hb1 (by first | assumption | (go_keep; done) | (go_simp; done) | (simp; done)) (by first | omega | (simp <;> omega)); have cc1 := cell_keep (p := ⟨w.heap.size, 1, none⟩) (v := .int .i64 0) hb1 (by first | assumption | (go_keep; done) | (go_simp; done) | (simp; done)) (by first | omega | (simp <;> omega)); have cc2 := cell_keep (p := ⟨wb.heap.size, 0, none⟩) (v := .int .i64 n) hb1 (by first | assumption | (go_keep; done) | (go_simp; done) | (simp; done)) (by first | omega | (simp <;> omega)); have cc3 := cell_keep (p := ⟨wb.heap.size, 1, none⟩) (v := .int .i64 1) hb1 (by first | assumption | (go_keep; done) | (go_simp; done) | (simp; done)) (by first | omega | (simp <;> omega)); have cf0 := frozen_keep (p := ⟨w.heap.size, 0, none⟩) hb1 (by first | assumption | (go_keep; done) | (go_simp; done) | (simp; done)) (by first | omega | (simp <;> omega)); have cf1 := frozen_keep (p := ⟨w.heap.size, 1, none⟩) hb1 (by first | assumption | (go_keep; done) | (go_simp; done) | (simp; done)) (by first | omega | (simp <;> omega)); have hS1 : Below w.heap.size w w1 := S_below hb1 (by repeat (first | exact Below.refl _ _ | assumption | refine below_drewN ?_ _ | refine Below.drew ?_ | refine Below.alloc ?_ (by first | omega | (simp <;> omega)) _ | refine Below.setCell ?_ (by first | omega | (simp <;> omega)) _)) (by first | omega | (simp <;> omega)); have hz1 : w.heap.size + 1 ≤ w1.heap.size := S_size hb1 (by first | omega | (simp <;> omega)); have hqb0 : w.heap.size < w1.heap.size := S_lt hb1 (by first | omega | (simp <;> omega)); have hqb1 : wb.heap.size < w1.heap.size := S_lt hb1 (by first | omega | (simp <;> omega)); clear hb1) | (go_at_call 9; with_reducible refine (sFormatRatio_lit HF.out _ n1 n2).mono ?_; rintro e w1 ⟨rfl, hb1⟩; have cc0 := cell_keep (p := ⟨w.heap.size, 0, none⟩) (v := .int .i64 0) hb1 (by first | assumption | (go_keep; done) | (go_simp; done) | (simp; done)) (by first | omega | (simp <;> omega)); have cc1 := cell_keep (p := ⟨w.heap.size, 1, none⟩) (v := .int .i64 0) hb1 (by first | assumption | (go_keep; done) | (go_simp; done) | (simp; done)) (by first | omega | (simp <;> omega)); have cc2 := cell_keep (p := ⟨wb.heap.size, 0, none⟩) (v := .int .i64 n) hb1 (by first | assumption | (go_keep; done) | (go_simp; done) | (simp; done)) (by first | omega | (simp <;> omega)); have cc3 := cell_keep (p := ⟨wb.heap.size, 1, none⟩) (v := .int .i64 1) hb1 (by first | assumption | (go_keep; done) | (go_simp; done) | (simp; done)) (by first | omega | (simp <;> omega)); have cf0 := frozen_keep (p := ⟨w.heap.size, 0, none⟩) hb1 (by first | assumption | (go_keep; done) | (go_simp; done) | (simp; done)) (by first | omega | (simp <;> omega)); have cf1 := frozen_keep (p := ⟨w.heap.size, 1, none⟩) hb1 (by first | assumption | (go_keep; done) | (go_simp; done) | (simp; done)) (by first | omega | (simp <;> omega)); have hS1 : Below w.heap.size w w1 := S_below hb1 (by repeat (first | exact Below.refl _ _ | assumption | refine below_drewN ?_ _ | refine Below.drew ?_ | refine Below.alloc ?_ (by first | omega | (simp <;> omega)) _ | refine Below.setCell ?_ (by first | omega | (simp <;> omega)) _)) (by first | omega | (simp <;> omega)); have hz1 : w.heap.size + 1 ≤ w1.heap.size := S_size hb1 (by first | omega | (simp <;> omega)); have hqb0 : w.heap.size < w1.heap.size := S_lt hb1 (by first | omega | (simp <;> omega)); have hqb1 : wb.heap.size < w1.heap.size := S_lt hb1 (by first | omega | (simp <;> omega)); clear hb1))
  exact bodyPost_ret (v := .tuple #[.agg #[.int .i64 0, .int .i64 0], .bool false]) (by simp [results, Tryd.results15, go_sem, set_0 cc0, set2_1 cc1]) rfl ⟨rfl, (by repeat (first | exact Below.refl _ _ | assumption | refine below_drewN ?_ _ | refine Below.drew ?_ | refine Below.alloc ?_ (by first | omega | (simp <;> omega)) _ | refine Below.setCell ?_ (by first | omega | (simp <;> omega)) _))⟩

set_option maxHeartbeats 1000000 in
set_option maxRecDepth 100000 in
theorem sPR_oneC {s a b : ByteArray} {n d : Int} {ls : List ByteArray} (hls : pcsB s ⟨#[47]⟩ = ls) (h0 : ls[0]? = some a) (hl : ls.length = 1) (hpa : pI a.data.toList = some n) (ho : ratioOkV n 1 = true) (hf : fmtR n 1 = s) (w : World) (hs : s.size ≤ 1048576) (has : a.size ≤ 1048576) (hbs : b.size ≤ 1048576) :
    Calls Tryd.prog 15 #[.string s] w fun e w' => e = .returned (.tuple #[.agg #[.int .i64 n, .int .i64 1], .bool true]) ∧ Below w.heap.size w w' := by
  have HLS := Lib.hid hls; clear hls
  have H0 := Lib.hid h0; clear h0
  have HO := Lib.hid ho; clear ho
  have HF := Lib.hid hf; clear hf
  obtain ⟨_, n1, n2⟩ := pI_some hpa
  have HP := Lib.hid hpa; clear hpa
  go_enter Tryd.func15, Tryd.ntmps15
  go_wp2_with fail
  go_at_call 41; with_reducible refine (sSplitAny_lit HLS.out _ (by omega) (by decide)).mono ?_
  rintro e wa ⟨g0, c0, rfl, hO0, hg0, hb1⟩
  obtain ⟨cA, hga⟩ := own_cell hO0 H0.out
  clear hO0
  have cc_wa0 := cell_keep (p := ⟨w.heap.size, 0, none⟩) (v := .int .i64 0) hb1 (by first | assumption | (go_keep; done) | (go_simp; done) | (simp; done)) (by first | omega | (simp <;> omega))
  have cc_wa1 := cell_keep (p := ⟨w.heap.size, 1, none⟩) (v := .int .i64 0) hb1 (by first | assumption | (go_keep; done) | (go_simp; done) | (simp; done)) (by first | omega | (simp <;> omega))
  have cf_wa0 := frozen_keep (p := ⟨w.heap.size, 0, none⟩) hb1 (by first | assumption | (go_keep; done) | (go_simp; done) | (simp; done)) (by first | omega | (simp <;> omega))
  have cf_wa1 := frozen_keep (p := ⟨w.heap.size, 1, none⟩) hb1 (by first | assumption | (go_keep; done) | (go_simp; done) | (simp; done)) (by first | omega | (simp <;> omega))
  have hS1_wa : Below w.heap.size w wa := S_below hb1 (by repeat (first | exact Below.refl _ _ | assumption | refine below_drewN ?_ _ | refine Below.drew ?_ | refine Below.alloc ?_ (by first | omega | (simp <;> omega)) _ | refine Below.setCell ?_ (by first | omega | (simp <;> omega)) _)) (by first | omega | (simp <;> omega))
  have hz1_wa : w.heap.size + 1 ≤ wa.heap.size := S_size hb1 (by first | omega | (simp <;> omega))
  have hqb_wa0 : w.heap.size < wa.heap.size := S_lt hb1 (by first | omega | (simp <;> omega))
  clear hb1
  generalize ls.length = m at *
  subst hl
  go_wp2_with fail
  go_at_call 42; with_reducible refine (sParseInt_lit HP.out _ (by omega)).mono ?_
  rintro e wb ⟨rfl, hb1⟩
  simp only [PRes]
  have cc_wb0 := cell_keep (p := ⟨w.heap.size, 0, none⟩) (v := .int .i64 0) hb1 (by first | assumption | (go_keep; done) | (go_simp; done) | (simp; done)) (by first | omega | (simp <;> omega))
  have cc_wb1 := cell_keep (p := ⟨w.heap.size, 1, none⟩) (v := .int .i64 0) hb1 (by first | assumption | (go_keep; done) | (go_simp; done) | (simp; done)) (by first | omega | (simp <;> omega))
  have cc_wb2 := cell_keep (p := ⟨g0, 0, none⟩) (v := .string a) hb1 (by first | assumption | (go_keep; done) | (go_simp; done) | (simp; done)) (by first | omega | (simp <;> omega))
  have cf_wb0 := frozen_keep (p := ⟨w.heap.size, 0, none⟩) hb1 (by first | assumption | (go_keep; done) | (go_simp; done) | (simp; done)) (by first | omega | (simp <;> omega))
  have cf_wb1 := frozen_keep (p := ⟨w.heap.size, 1, none⟩) hb1 (by first | assumption | (go_keep; done) | (go_simp; done) | (simp; done)) (by first | omega | (simp <;> omega))
  have hS1_wb : Below w.heap.size w wb := S_below hb1 (by repeat (first | exact Below.refl _ _ | assumption | refine below_drewN ?_ _ | refine Below.drew ?_ | refine Below.alloc ?_ (by first | omega | (simp <;> omega)) _ | refine Below.setCell ?_ (by first | omega | (simp <;> omega)) _)) (by first | omega | (simp <;> omega))
  have hz1_wb : w.heap.size + 1 ≤ wb.heap.size := S_size hb1 (by first | omega | (simp <;> omega))
  have hqb_wb0 : w.heap.size < wb.heap.size := S_lt hb1 (by first | omega | (simp <;> omega))
  have hqb_wb1 : g0 < wb.heap.size := S_lt hb1 (by first | omega | (simp <;> omega))
  clear hb1
  go_wp2_with (first | (go_at_call 36; with_reducible refine (sRatioOk_lit HO.out _ n1 n2).mono ?_; rintro e w1 ⟨rfl, hb1⟩; have cc0 := cell_keep (p := ⟨w.heap.size, 0, none⟩) (v := .int .i64 0) hb1 (by first | assumption | (go_keep; done) | (go_simp; done) | (simp; done)) (by first | omega | (simp <;> omega)); have cc1 := cell_keep (p := ⟨w.heap.size, 1, none⟩) (v := .int .i64 0) hb1 (by first | assumption | (go_keep; done) | (go_simp; done) | (simp; done)) (by first | omega | (simp <;> omega)); have cc2 := cell_keep (p := ⟨wb.heap.size, 0, none⟩) (v := .int .i64 n) hb1 (by first | assumption | (go_keep; done) | (go_simp; done) | (simp; done)) (by first | omega | (simp <;> omega)); have cc3 := cell_keep (p := ⟨wb.heap.size, 1, none⟩) (v := .int .i64 1) hb1 (by first | assumption | (go_keep; done) | (go_simp; done) | (simp; done)) (by first | omega | (simp <;> omega)); have cf0 := frozen_keep (p := ⟨w.heap.size, 0, none⟩) hb1 (by first | assumption | (go_keep; done) | (go_simp; done) | (simp; done)) (by first | omega | (simp <;> omega)); have cf1 := frozen_keep (p := ⟨w.heap.size, 1, none⟩) hb1 (by first | assumption | (go_keep; done) | (go_simp; done) | (simp; done)) (by first | omega | (simp <;> omega)); have hS1 : Below w.heap.size w w1 := S_below hb1 (by repeat (first | exact Below.refl _ _ | assumption | refine below_drewN ?_ _ | refine Below.drew ?_ | refine Below.alloc ?_ (by first | omega | (simp <;> omega)) _ | refine Below.setCell ?_ (by first | omega | (simp <;> omega)) _)) (by first | omega | (simp <;> omega)); have hz1 : w.heap.size + 1 ≤ w1.heap.size := S_size hb1 (by first | omega | (simp <;> omega)); have hqb0 : w.heap.size < w1.heap.size := S_lt hb1 (by first | omega | (simp <;> omega)); have hqb1 : wb.heap.size < w1.heap.size := S_lt hb1 (by first | omega | (simp <;> omega)); clear hb1) | (go_at_call 9; with_reducible refine (sFormatRatio_lit HF.out _ n1 n2).mono ?_; rintro e w1 ⟨rfl, hb1⟩; have cc0 := cell_keep (p := ⟨w.heap.size, 0, none⟩) (v := .int .i64 0) hb1 (by first | assumption | (go_keep; done) | (go_simp; done) | (simp; done)) (by first | omega | (simp <;> omega)); have cc1 := cell_keep (p := ⟨w.heap.size, 1, none⟩) (v := .int .i64 0) hb1 (by first | assumption | (go_keep; done) | (go_simp; done) | (simp; done)) (by first | omega | (simp <;> omega)); have cc2 := cell_keep (p := ⟨wb.heap.size, 0, none⟩) (v := .int .i64 n) hb1 (by first | assumption | (go_keep; done) | (go_simp; done) | (simp; done)) (by first | omega | (simp <;> omega)); have cc3 := cell_keep (p := ⟨wb.heap.size, 1, none⟩) (v := .int .i64 1) hb1 (by first | assumption | (go_keep; done) | (go_simp; done) | (simp; done)) (by first | omega | (simp <;> omega)); have cf0 := frozen_keep (p := ⟨w.heap.size, 0, none⟩) hb1 (by first | assumption | (go_keep; done) | (go_simp; done) | (simp; done)) (by first | omega | (simp <;> omega)); have cf1 := frozen_keep (p := ⟨w.heap.size, 1, none⟩) hb1 (by first | assumption | (go_keep; done) | (go_simp; done) | (simp; done)) (by first | omega | (simp <;> omega)); have hS1 : Below w.heap.size w w1 := S_below hb1 (by repeat (first | exact Below.refl _ _ | assumption | refine below_drewN ?_ _ | refine Below.drew ?_ | refine Below.alloc ?_ (by first | omega | (simp <;> omega)) _ | refine Below.setCell ?_ (by first | omega | (simp <;> omega)) _)) (by first | omega | (simp <;> omega)); have hz1 : w.heap.size + 1 ≤ w1.heap.size := S_size hb1 (by first | omega | (simp <;> omega)); have hqb0 : w.heap.size < w1.heap.size := S_lt hb1 (by first | omega | (simp <;> omega)); have hqb1 : wb.heap.size < w1.heap.size := S_lt hb1 (by first | omega | (simp <;> omega)); clear hb1))
  exact bodyPost_ret (v := .tuple #[.agg #[.int .i64 n, .int .i64 1], .bool true]) (by simp [results, Tryd.results15, go_sem, set_0 cc0, set2_1 cc1]) rfl ⟨rfl, (by repeat (first | exact Below.refl _ _ | assumption | refine below_drewN ?_ _ | refine Below.drew ?_ | refine Below.alloc ?_ (by first | omega | (simp <;> omega)) _ | refine Below.setCell ?_ (by first | omega | (simp <;> omega)) _))⟩

set_option maxHeartbeats 1000000 in
set_option maxRecDepth 100000 in
theorem sPR_twoB {s a b : ByteArray} {n d : Int} {ls : List ByteArray} (hls : pcsB s ⟨#[47]⟩ = ls) (h0 : ls[0]? = some a) (h1 : ls[1]? = some b) (hl : ls.length = 2) (hpa : pI a.data.toList = some n) (hpb : pI b.data.toList = some d) (hf : fmtR n d ≠ s) (w : World) (hs : s.size ≤ 1048576) (has : a.size ≤ 1048576) (hbs : b.size ≤ 1048576) :
    Calls Tryd.prog 15 #[.string s] w fun e w' => e = .returned (.tuple #[.agg #[.int .i64 0, .int .i64 0], .bool false]) ∧ Below w.heap.size w w' := by
  have HLS := Lib.hid hls; clear hls
  have H0 := Lib.hid h0; clear h0
  have hne := str_ne hf; clear hf
  obtain ⟨f, hf⟩ : ∃ f, fmtR n d = f := ⟨_, rfl⟩
  rw [hf] at hne
  have HF := Lib.hid hf; clear hf
  have H1 := Lib.hid h1; clear h1
  obtain ⟨_, n1, n2⟩ := pI_some hpa
  have HP := Lib.hid hpa; clear hpa
  obtain ⟨_, d1, d2⟩ := pI_some hpb
  have HQ := Lib.hid hpb; clear hpb
  go_enter Tryd.func15, Tryd.ntmps15
  go_wp2_with fail
  go_at_call 41; with_reducible refine (sSplitAny_lit HLS.out _ (by omega) (by decide)).mono ?_
  rintro e wa ⟨g0, c0, rfl, hO0, hg0, hb1⟩
  obtain ⟨cA, hga⟩ := own_cell hO0 H0.out
  obtain ⟨cB, _⟩ := own_cell hO0 H1.out
  clear hO0
  have cc_wa0 := cell_keep (p := ⟨w.heap.size, 0, none⟩) (v := .int .i64 0) hb1 (by first | assumption | (go_keep; done) | (go_simp; done) | (simp; done)) (by first | omega | (simp <;> omega))
  have cc_wa1 := cell_keep (p := ⟨w.heap.size, 1, none⟩) (v := .int .i64 0) hb1 (by first | assumption | (go_keep; done) | (go_simp; done) | (simp; done)) (by first | omega | (simp <;> omega))
  have cf_wa0 := frozen_keep (p := ⟨w.heap.size, 0, none⟩) hb1 (by first | assumption | (go_keep; done) | (go_simp; done) | (simp; done)) (by first | omega | (simp <;> omega))
  have cf_wa1 := frozen_keep (p := ⟨w.heap.size, 1, none⟩) hb1 (by first | assumption | (go_keep; done) | (go_simp; done) | (simp; done)) (by first | omega | (simp <;> omega))
  have hS1_wa : Below w.heap.size w wa := S_below hb1 (by repeat (first | exact Below.refl _ _ | assumption | refine below_drewN ?_ _ | refine Below.drew ?_ | refine Below.alloc ?_ (by first | omega | (simp <;> omega)) _ | refine Below.setCell ?_ (by first | omega | (simp <;> omega)) _)) (by first | omega | (simp <;> omega))
  have hz1_wa : w.heap.size + 1 ≤ wa.heap.size := S_size hb1 (by first | omega | (simp <;> omega))
  have hqb_wa0 : w.heap.size < wa.heap.size := S_lt hb1 (by first | omega | (simp <;> omega))
  clear hb1
  generalize ls.length = m at *
  subst hl
  go_wp2_with fail
  go_at_call 42; with_reducible refine (sParseInt_lit HP.out _ (by omega)).mono ?_
  rintro e wb ⟨rfl, hb1⟩
  simp only [PRes]
  have cc_wb0 := cell_keep (p := ⟨w.heap.size, 0, none⟩) (v := .int .i64 0) hb1 (by first | assumption | (go_keep; done) | (go_simp; done) | (simp; done)) (by first | omega | (simp <;> omega))
  have cc_wb1 := cell_keep (p := ⟨w.heap.size, 1, none⟩) (v := .int .i64 0) hb1 (by first | assumption | (go_keep; done) | (go_simp; done) | (simp; done)) (by first | omega | (simp <;> omega))
  have cc_wb2 := cell_keep (p := ⟨g0, 0, none⟩) (v := .string a) hb1 (by first | assumption | (go_keep; done) | (go_simp; done) | (simp; done)) (by first | omega | (simp <;> omega))
  have cc_wb3 := cell_keep (p := ⟨g0, 1, none⟩) (v := .string b) hb1 (by first | assumption | (go_keep; done) | (go_simp; done) | (simp; done)) (by first | omega | (simp <;> omega))
  have cf_wb0 := frozen_keep (p := ⟨w.heap.size, 0, none⟩) hb1 (by first | assumption | (go_keep; done) | (go_simp; done) | (simp; done)) (by first | omega | (simp <;> omega))
  have cf_wb1 := frozen_keep (p := ⟨w.heap.size, 1, none⟩) hb1 (by first | assumption | (go_keep; done) | (go_simp; done) | (simp; done)) (by first | omega | (simp <;> omega))
  have hS1_wb : Below w.heap.size w wb := S_below hb1 (by repeat (first | exact Below.refl _ _ | assumption | refine below_drewN ?_ _ | refine Below.drew ?_ | refine Below.alloc ?_ (by first | omega | (simp <;> omega)) _ | refine Below.setCell ?_ (by first | omega | (simp <;> omega)) _)) (by first | omega | (simp <;> omega))
  have hz1_wb : w.heap.size + 1 ≤ wb.heap.size := S_size hb1 (by first | omega | (simp <;> omega))
  have hqb_wb0 : w.heap.size < wb.heap.size := S_lt hb1 (by first | omega | (simp <;> omega))
  have hqb_wb1 : g0 < wb.heap.size := S_lt hb1 (by first | omega | (simp <;> omega))
  clear hb1
  go_wp2_with fail
  go_at_call 42; with_reducible refine (sParseInt_lit HQ.out _ (by omega)).mono ?_
  rintro e wc ⟨rfl, hb1⟩
  simp only [PRes]
  have cc_wc0 := cell_keep (p := ⟨w.heap.size, 0, none⟩) (v := .int .i64 0) hb1 (by first | assumption | (go_keep; done) | (go_simp; done) | (simp; done)) (by first | omega | (simp <;> omega))
  have cc_wc1 := cell_keep (p := ⟨w.heap.size, 1, none⟩) (v := .int .i64 0) hb1 (by first | assumption | (go_keep; done) | (go_simp; done) | (simp; done)) (by first | omega | (simp <;> omega))
  have cf_wc0 := frozen_keep (p := ⟨w.heap.size, 0, none⟩) hb1 (by first | assumption | (go_keep; done) | (go_simp; done) | (simp; done)) (by first | omega | (simp <;> omega))
  have cf_wc1 := frozen_keep (p := ⟨w.heap.size, 1, none⟩) hb1 (by first | assumption | (go_keep; done) | (go_simp; done) | (simp; done)) (by first | omega | (simp <;> omega))
  have hS1_wc : Below w.heap.size w wc := S_below hb1 (by repeat (first | exact Below.refl _ _ | assumption | refine below_drewN ?_ _ | refine Below.drew ?_ | refine Below.alloc ?_ (by first | omega | (simp <;> omega)) _ | refine Below.setCell ?_ (by first | omega | (simp <;> omega)) _)) (by first | omega | (simp <;> omega))
  have hz1_wc : w.heap.size + 1 ≤ wc.heap.size := S_size hb1 (by first | omega | (simp <;> omega))
  have hqb_wc0 : w.heap.size < wc.heap.size := S_lt hb1 (by first | omega | (simp <;> omega))
  clear hb1
  go_wp2_with (first | (go_at_call 9; with_reducible refine (sFormatRatio_lit HF.out _ n1 n2).mono ?_; rintro e w1 ⟨rfl, hb1⟩; have cc0 := cell_keep (p := ⟨w.heap.size, 0, none⟩) (v := .int .i64 0) hb1 (by first | assumption | (go_keep; done) | (go_simp; done) | (simp; done)) (by first | omega | (simp <;> omega)); have cc1 := cell_keep (p := ⟨w.heap.size, 1, none⟩) (v := .int .i64 0) hb1 (by first | assumption | (go_keep; done) | (go_simp; done) | (simp; done)) (by first | omega | (simp <;> omega)); have cc2 := cell_keep (p := ⟨wc.heap.size, 0, none⟩) (v := .int .i64 n) hb1 (by first | assumption | (go_keep; done) | (go_simp; done) | (simp; done)) (by first | omega | (simp <;> omega)); have cc3 := cell_keep (p := ⟨wc.heap.size, 1, none⟩) (v := .int .i64 d) hb1 (by first | assumption | (go_keep; done) | (go_simp; done) | (simp; done)) (by first | omega | (simp <;> omega)); have cf0 := frozen_keep (p := ⟨w.heap.size, 0, none⟩) hb1 (by first | assumption | (go_keep; done) | (go_simp; done) | (simp; done)) (by first | omega | (simp <;> omega)); have cf1 := frozen_keep (p := ⟨w.heap.size, 1, none⟩) hb1 (by first | assumption | (go_keep; done) | (go_simp; done) | (simp; done)) (by first | omega | (simp <;> omega)); have hS1 : Below w.heap.size w w1 := S_below hb1 (by repeat (first | exact Below.refl _ _ | assumption | refine below_drewN ?_ _ | refine Below.drew ?_ | refine Below.alloc ?_ (by first | omega | (simp <;> omega)) _ | refine Below.setCell ?_ (by first | omega | (simp <;> omega)) _)) (by first | omega | (simp <;> omega)); have hz1 : w.heap.size + 1 ≤ w1.heap.size := S_size hb1 (by first | omega | (simp <;> omega)); have hqb0 : w.heap.size < w1.heap.size := S_lt hb1 (by first | omega | (simp <;> omega)); have hqb1 : wc.heap.size < w1.heap.size := S_lt hb1 (by first | omega | (simp <;> omega)); clear hb1))
  exact bodyPost_ret (v := .tuple #[.agg #[.int .i64 0, .int .i64 0], .bool false]) (by simp [results, Tryd.results15, go_sem, set_0 cc0, set2_1 cc1]) rfl ⟨rfl, (by repeat (first | exact Below.refl _ _ | assumption | refine below_drewN ?_ _ | refine Below.drew ?_ | refine Below.alloc ?_ (by first | omega | (simp <;> omega)) _ | refine Below.setCell ?_ (by first | omega | (simp <;> omega)) _))⟩

set_option maxHeartbeats 1000000 in
set_option maxRecDepth 100000 in
theorem sPR_twoA {s a b : ByteArray} {n d : Int} {ls : List ByteArray} (hls : pcsB s ⟨#[47]⟩ = ls) (h0 : ls[0]? = some a) (h1 : ls[1]? = some b) (hl : ls.length = 2) (hpa : pI a.data.toList = some n) (hpb : pI b.data.toList = some d) (ho : ratioOkV n d = false) (hf : fmtR n d = s) (w : World) (hs : s.size ≤ 1048576) (has : a.size ≤ 1048576) (hbs : b.size ≤ 1048576) :
    Calls Tryd.prog 15 #[.string s] w fun e w' => e = .returned (.tuple #[.agg #[.int .i64 0, .int .i64 0], .bool false]) ∧ Below w.heap.size w w' := by
  have HLS := Lib.hid hls; clear hls
  have H0 := Lib.hid h0; clear h0
  have HO := Lib.hid ho; clear ho
  have HF := Lib.hid hf; clear hf
  have H1 := Lib.hid h1; clear h1
  obtain ⟨_, n1, n2⟩ := pI_some hpa
  have HP := Lib.hid hpa; clear hpa
  obtain ⟨_, d1, d2⟩ := pI_some hpb
  have HQ := Lib.hid hpb; clear hpb
  go_enter Tryd.func15, Tryd.ntmps15
  go_wp2_with fail
  go_at_call 41; with_reducible refine (sSplitAny_lit HLS.out _ (by omega) (by decide)).mono ?_
  rintro e wa ⟨g0, c0, rfl, hO0, hg0, hb1⟩
  obtain ⟨cA, hga⟩ := own_cell hO0 H0.out
  obtain ⟨cB, _⟩ := own_cell hO0 H1.out
  clear hO0
  have cc_wa0 := cell_keep (p := ⟨w.heap.size, 0, none⟩) (v := .int .i64 0) hb1 (by first | assumption | (go_keep; done) | (go_simp; done) | (simp; done)) (by first | omega | (simp <;> omega))
  have cc_wa1 := cell_keep (p := ⟨w.heap.size, 1, none⟩) (v := .int .i64 0) hb1 (by first | assumption | (go_keep; done) | (go_simp; done) | (simp; done)) (by first | omega | (simp <;> omega))
  have cf_wa0 := frozen_keep (p := ⟨w.heap.size, 0, none⟩) hb1 (by first | assumption | (go_keep; done) | (go_simp; done) | (simp; done)) (by first | omega | (simp <;> omega))
  have cf_wa1 := frozen_keep (p := ⟨w.heap.size, 1, none⟩) hb1 (by first | assumption | (go_keep; done) | (go_simp; done) | (simp; done)) (by first | omega | (simp <;> omega))
  have hS1_wa : Below w.heap.size w wa := S_below hb1 (by repeat (first | exact Below.refl _ _ | assumption | refine below_drewN ?_ _ | refine Below.drew ?_ | refine Below.alloc ?_ (by first | omega | (simp <;> omega)) _ | refine Below.setCell ?_ (by first | omega | (simp <;> omega)) _)) (by first | omega | (simp <;> omega))
  have hz1_wa : w.heap.size + 1 ≤ wa.heap.size := S_size hb1 (by first | omega | (simp <;> omega))
  have hqb_wa0 : w.heap.size < wa.heap.size := S_lt hb1 (by first | omega | (simp <;> omega))
  clear hb1
  generalize ls.length = m at *
  subst hl
  go_wp2_with fail
  go_at_call 42; with_reducible refine (sParseInt_lit HP.out _ (by omega)).mono ?_
  rintro e wb ⟨rfl, hb1⟩
  simp only [PRes]
  have cc_wb0 := cell_keep (p := ⟨w.heap.size, 0, none⟩) (v := .int .i64 0) hb1 (by first | assumption | (go_keep; done) | (go_simp; done) | (simp; done)) (by first | omega | (simp <;> omega))
  have cc_wb1 := cell_keep (p := ⟨w.heap.size, 1, none⟩) (v := .int .i64 0) hb1 (by first | assumption | (go_keep; done) | (go_simp; done) | (simp; done)) (by first | omega | (simp <;> omega))
  have cc_wb2 := cell_keep (p := ⟨g0, 0, none⟩) (v := .string a) hb1 (by first | assumption | (go_keep; done) | (go_simp; done) | (simp; done)) (by first | omega | (simp <;> omega))
  have cc_wb3 := cell_keep (p := ⟨g0, 1, none⟩) (v := .string b) hb1 (by first | assumption | (go_keep; done) | (go_simp; done) | (simp; done)) (by first | omega | (simp <;> omega))
  have cf_wb0 := frozen_keep (p := ⟨w.heap.size, 0, none⟩) hb1 (by first | assumption | (go_keep; done) | (go_simp; done) | (simp; done)) (by first | omega | (simp <;> omega))
  have cf_wb1 := frozen_keep (p := ⟨w.heap.size, 1, none⟩) hb1 (by first | assumption | (go_keep; done) | (go_simp; done) | (simp; done)) (by first | omega | (simp <;> omega))
  have hS1_wb : Below w.heap.size w wb := S_below hb1 (by repeat (first | exact Below.refl _ _ | assumption | refine below_drewN ?_ _ | refine Below.drew ?_ | refine Below.alloc ?_ (by first | omega | (simp <;> omega)) _ | refine Below.setCell ?_ (by first | omega | (simp <;> omega)) _)) (by first | omega | (simp <;> omega))
  have hz1_wb : w.heap.size + 1 ≤ wb.heap.size := S_size hb1 (by first | omega | (simp <;> omega))
  have hqb_wb0 : w.heap.size < wb.heap.size := S_lt hb1 (by first | omega | (simp <;> omega))
  have hqb_wb1 : g0 < wb.heap.size := S_lt hb1 (by first | omega | (simp <;> omega))
  clear hb1
  go_wp2_with fail
  go_at_call 42; with_reducible refine (sParseInt_lit HQ.out _ (by omega)).mono ?_
  rintro e wc ⟨rfl, hb1⟩
  simp only [PRes]
  have cc_wc0 := cell_keep (p := ⟨w.heap.size, 0, none⟩) (v := .int .i64 0) hb1 (by first | assumption | (go_keep; done) | (go_simp; done) | (simp; done)) (by first | omega | (simp <;> omega))
  have cc_wc1 := cell_keep (p := ⟨w.heap.size, 1, none⟩) (v := .int .i64 0) hb1 (by first | assumption | (go_keep; done) | (go_simp; done) | (simp; done)) (by first | omega | (simp <;> omega))
  have cf_wc0 := frozen_keep (p := ⟨w.heap.size, 0, none⟩) hb1 (by first | assumption | (go_keep; done) | (go_simp; done) | (simp; done)) (by first | omega | (simp <;> omega))
  have cf_wc1 := frozen_keep (p := ⟨w.heap.size, 1, none⟩) hb1 (by first | assumption | (go_keep; done) | (go_simp; done) | (simp; done)) (by first | omega | (simp <;> omega))
  have hS1_wc : Below w.heap.size w wc := S_below hb1 (by repeat (first | exact Below.refl _ _ | assumption | refine below_drewN ?_ _ | refine Below.drew ?_ | refine Below.alloc ?_ (by first | omega | (simp <;> omega)) _ | refine Below.setCell ?_ (by first | omega | (simp <;> omega)) _)) (by first | omega | (simp <;> omega))
  have hz1_wc : w.heap.size + 1 ≤ wc.heap.size := S_size hb1 (by first | omega | (simp <;> omega))
  have hqb_wc0 : w.heap.size < wc.heap.size := S_lt hb1 (by first | omega | (simp <;> omega))
  clear hb1
  go_wp2_with (first | (go_at_call 36; with_reducible refine (sRatioOk_lit HO.out _ n1 n2).mono ?_; rintro e w1 ⟨rfl, hb1⟩; have cc0 := cell_keep (p := ⟨w.heap.size, 0, none⟩) (v := .int .i64 0) hb1 (by first | assumption | (go_keep; done) | (go_simp; done) | (simp; done)) (by first | omega | (simp <;> omega)); have cc1 := cell_keep (p := ⟨w.heap.size, 1, none⟩) (v := .int .i64 0) hb1 (by first | assumption | (go_keep; done) | (go_simp; done) | (simp; done)) (by first | omega | (simp <;> omega)); have cc2 := cell_keep (p := ⟨wc.heap.size, 0, none⟩) (v := .int .i64 n) hb1 (by first | assumption | (go_keep; done) | (go_simp; done) | (simp; done)) (by first | omega | (simp <;> omega)); have cc3 := cell_keep (p := ⟨wc.heap.size, 1, none⟩) (v := .int .i64 d) hb1 (by first | assumption | (go_keep; done) | (go_simp; done) | (simp; done)) (by first | omega | (simp <;> omega)); have cf0 := frozen_keep (p := ⟨w.heap.size, 0, none⟩) hb1 (by first | assumption | (go_keep; done) | (go_simp; done) | (simp; done)) (by first | omega | (simp <;> omega)); have cf1 := frozen_keep (p := ⟨w.heap.size, 1, none⟩) hb1 (by first | assumption | (go_keep; done) | (go_simp; done) | (simp; done)) (by first | omega | (simp <;> omega)); have hS1 : Below w.heap.size w w1 := S_below hb1 (by repeat (first | exact Below.refl _ _ | assumption | refine below_drewN ?_ _ | refine Below.drew ?_ | refine Below.alloc ?_ (by first | omega | (simp <;> omega)) _ | refine Below.setCell ?_ (by first | omega | (simp <;> omega)) _)) (by first | omega | (simp <;> omega)); have hz1 : w.heap.size + 1 ≤ w1.heap.size := S_size hb1 (by first | omega | (simp <;> omega)); have hqb0 : w.heap.size < w1.heap.size := S_lt hb1 (by first | omega | (simp <;> omega)); have hqb1 : wc.heap.size < w1.heap.size := S_lt hb1 (by first | omega | (simp <;> omega)); clear hb1) | (go_at_call 9; with_reducible refine (sFormatRatio_lit HF.out _ n1 n2).mono ?_; rintro e w1 ⟨rfl, hb1⟩; have cc0 := cell_keep (p := ⟨w.heap.size, 0, none⟩) (v := .int .i64 0) hb1 (by first | assumption | (go_keep; done) | (go_simp; done) | (simp; done)) (by first | omega | (simp <;> omega)); have cc1 := cell_keep (p := ⟨w.heap.size, 1, none⟩) (v := .int .i64 0) hb1 (by first | assumption | (go_keep; done) | (go_simp; done) | (simp; done)) (by first | omega | (simp <;> omega)); have cc2 := cell_keep (p := ⟨wc.heap.size, 0, none⟩) (v := .int .i64 n) hb1 (by first | assumption | (go_keep; done) | (go_simp; done) | (simp; done)) (by first | omega | (simp <;> omega)); have cc3 := cell_keep (p := ⟨wc.heap.size, 1, none⟩) (v := .int .i64 d) hb1 (by first | assumption | (go_keep; done) | (go_simp; done) | (simp; done)) (by first | omega | (simp <;> omega)); have cf0 := frozen_keep (p := ⟨w.heap.size, 0, none⟩) hb1 (by first | assumption | (go_keep; done) | (go_simp; done) | (simp; done)) (by first | omega | (simp <;> omega)); have cf1 := frozen_keep (p := ⟨w.heap.size, 1, none⟩) hb1 (by first | assumption | (go_keep; done) | (go_simp; done) | (simp; done)) (by first | omega | (simp <;> omega)); have hS1 : Below w.heap.size w w1 := S_below hb1 (by repeat (first | exact Below.refl _ _ | assumption | refine below_drewN ?_ _ | refine Below.drew ?_ | refine Below.alloc ?_ (by first | omega | (simp <;> omega)) _ | refine Below.setCell ?_ (by first | omega | (simp <;> omega)) _)) (by first | omega | (simp <;> omega)); have hz1 : w.heap.size + 1 ≤ w1.heap.size := S_size hb1 (by first | omega | (simp <;> omega)); have hqb0 : w.heap.size < w1.heap.size := S_lt hb1 (by first | omega | (simp <;> omega)); have hqb1 : wc.heap.size < w1.heap.size := S_lt hb1 (by first | omega | (simp <;> omega)); clear hb1))
  exact bodyPost_ret (v := .tuple #[.agg #[.int .i64 0, .int .i64 0], .bool false]) (by simp [results, Tryd.results15, go_sem, set_0 cc0, set2_1 cc1]) rfl ⟨rfl, (by repeat (first | exact Below.refl _ _ | assumption | refine below_drewN ?_ _ | refine Below.drew ?_ | refine Below.alloc ?_ (by first | omega | (simp <;> omega)) _ | refine Below.setCell ?_ (by first | omega | (simp <;> omega)) _))⟩

set_option maxHeartbeats 1000000 in
set_option maxRecDepth 100000 in
theorem sPR_twoC {s a b : ByteArray} {n d : Int} {ls : List ByteArray} (hls : pcsB s ⟨#[47]⟩ = ls) (h0 : ls[0]? = some a) (h1 : ls[1]? = some b) (hl : ls.length = 2) (hpa : pI a.data.toList = some n) (hpb : pI b.data.toList = some d) (ho : ratioOkV n d = true) (hf : fmtR n d = s) (w : World) (hs : s.size ≤ 1048576) (has : a.size ≤ 1048576) (hbs : b.size ≤ 1048576) :
    Calls Tryd.prog 15 #[.string s] w fun e w' => e = .returned (.tuple #[.agg #[.int .i64 n, .int .i64 d], .bool true]) ∧ Below w.heap.size w w' := by
  have HLS := Lib.hid hls; clear hls
  have H0 := Lib.hid h0; clear h0
  have HO := Lib.hid ho; clear ho
  have HF := Lib.hid hf; clear hf
  have H1 := Lib.hid h1; clear h1
  obtain ⟨_, n1, n2⟩ := pI_some hpa
  have HP := Lib.hid hpa; clear hpa
  obtain ⟨_, d1, d2⟩ := pI_some hpb
  have HQ := Lib.hid hpb; clear hpb
  go_enter Tryd.func15, Tryd.ntmps15
  go_wp2_with fail
  go_at_call 41; with_reducible refine (sSplitAny_lit HLS.out _ (by omega) (by decide)).mono ?_
  rintro e wa ⟨g0, c0, rfl, hO0, hg0, hb1⟩
  obtain ⟨cA, hga⟩ := own_cell hO0 H0.out
  obtain ⟨cB, _⟩ := own_cell hO0 H1.out
  clear hO0
  have cc_wa0 := cell_keep (p := ⟨w.heap.size, 0, none⟩) (v := .int .i64 0) hb1 (by first | assumption | (go_keep; done) | (go_simp; done) | (simp; done)) (by first | omega | (simp <;> omega))
  have cc_wa1 := cell_keep (p := ⟨w.heap.size, 1, none⟩) (v := .int .i64 0) hb1 (by first | assumption | (go_keep; done) | (go_simp; done) | (simp; done)) (by first | omega | (simp <;> omega))
  have cf_wa0 := frozen_keep (p := ⟨w.heap.size, 0, none⟩) hb1 (by first | assumption | (go_keep; done) | (go_simp; done) | (simp; done)) (by first | omega | (simp <;> omega))
  have cf_wa1 := frozen_keep (p := ⟨w.heap.size, 1, none⟩) hb1 (by first | assumption | (go_keep; done) | (go_simp; done) | (simp; done)) (by first | omega | (simp <;> omega))
  have hS1_wa : Below w.heap.size w wa := S_below hb1 (by repeat (first | exact Below.refl _ _ | assumption | refine below_drewN ?_ _ | refine Below.drew ?_ | refine Below.alloc ?_ (by first | omega | (simp <;> omega)) _ | refine Below.setCell ?_ (by first | omega | (simp <;> omega)) _)) (by first | omega | (simp <;> omega))
  have hz1_wa : w.heap.size + 1 ≤ wa.heap.size := S_size hb1 (by first | omega | (simp <;> omega))
  have hqb_wa0 : w.heap.size < wa.heap.size := S_lt hb1 (by first | omega | (simp <;> omega))
  clear hb1
  generalize ls.length = m at *
  subst hl
  go_wp2_with fail
  go_at_call 42; with_reducible refine (sParseInt_lit HP.out _ (by omega)).mono ?_
  rintro e wb ⟨rfl, hb1⟩
  simp only [PRes]
  have cc_wb0 := cell_keep (p := ⟨w.heap.size, 0, none⟩) (v := .int .i64 0) hb1 (by first | assumption | (go_keep; done) | (go_simp; done) | (simp; done)) (by first | omega | (simp <;> omega))
  have cc_wb1 := cell_keep (p := ⟨w.heap.size, 1, none⟩) (v := .int .i64 0) hb1 (by first | assumption | (go_keep; done) | (go_simp; done) | (simp; done)) (by first | omega | (simp <;> omega))
  have cc_wb2 := cell_keep (p := ⟨g0, 0, none⟩) (v := .string a) hb1 (by first | assumption | (go_keep; done) | (go_simp; done) | (simp; done)) (by first | omega | (simp <;> omega))
  have cc_wb3 := cell_keep (p := ⟨g0, 1, none⟩) (v := .string b) hb1 (by first | assumption | (go_keep; done) | (go_simp; done) | (simp; done)) (by first | omega | (simp <;> omega))
  have cf_wb0 := frozen_keep (p := ⟨w.heap.size, 0, none⟩) hb1 (by first | assumption | (go_keep; done) | (go_simp; done) | (simp; done)) (by first | omega | (simp <;> omega))
  have cf_wb1 := frozen_keep (p := ⟨w.heap.size, 1, none⟩) hb1 (by first | assumption | (go_keep; done) | (go_simp; done) | (simp; done)) (by first | omega | (simp <;> omega))
  have hS1_wb : Below w.heap.size w wb := S_below hb1 (by repeat (first | exact Below.refl _ _ | assumption | refine below_drewN ?_ _ | refine Below.drew ?_ | refine Below.alloc ?_ (by first | omega | (simp <;> omega)) _ | refine Below.setCell ?_ (by first | omega | (simp <;> omega)) _)) (by first | omega | (simp <;> omega))
  have hz1_wb : w.heap.size + 1 ≤ wb.heap.size := S_size hb1 (by first | omega | (simp <;> omega))
  have hqb_wb0 : w.heap.size < wb.heap.size := S_lt hb1 (by first | omega | (simp <;> omega))
  have hqb_wb1 : g0 < wb.heap.size := S_lt hb1 (by first | omega | (simp <;> omega))
  clear hb1
  go_wp2_with fail
  go_at_call 42; with_reducible refine (sParseInt_lit HQ.out _ (by omega)).mono ?_
  rintro e wc ⟨rfl, hb1⟩
  simp only [PRes]
  have cc_wc0 := cell_keep (p := ⟨w.heap.size, 0, none⟩) (v := .int .i64 0) hb1 (by first | assumption | (go_keep; done) | (go_simp; done) | (simp; done)) (by first | omega | (simp <;> omega))
  have cc_wc1 := cell_keep (p := ⟨w.heap.size, 1, none⟩) (v := .int .i64 0) hb1 (by first | assumption | (go_keep; done) | (go_simp; done) | (simp; done)) (by first | omega | (simp <;> omega))
  have cf_wc0 := frozen_keep (p := ⟨w.heap.size, 0, none⟩) hb1 (by first | assumption | (go_keep; done) | (go_simp; done) | (simp; done)) (by first | omega | (simp <;> omega))
  have cf_wc1 := frozen_keep (p := ⟨w.heap.size, 1, none⟩) hb1 (by first | assumption | (go_keep; done) | (go_simp; done) | (simp; done)) (by first | omega | (simp <;> omega))
  have hS1_wc : Below w.heap.size w wc := S_below hb1 (by repeat (first | exact Below.refl _ _ | assumption | refine below_drewN ?_ _ | refine Below.drew ?_ | refine Below.alloc ?_ (by first | omega | (simp <;> omega)) _ | refine Below.setCell ?_ (by first | omega | (simp <;> omega)) _)) (by first | omega | (simp <;> omega))
  have hz1_wc : w.heap.size + 1 ≤ wc.heap.size := S_size hb1 (by first | omega | (simp <;> omega))
  have hqb_wc0 : w.heap.size < wc.heap.size := S_lt hb1 (by first | omega | (simp <;> omega))
  clear hb1
  go_wp2_with (first | (go_at_call 36; with_reducible refine (sRatioOk_lit HO.out _ n1 n2).mono ?_; rintro e w1 ⟨rfl, hb1⟩; have cc0 := cell_keep (p := ⟨w.heap.size, 0, none⟩) (v := .int .i64 0) hb1 (by first | assumption | (go_keep; done) | (go_simp; done) | (simp; done)) (by first | omega | (simp <;> omega)); have cc1 := cell_keep (p := ⟨w.heap.size, 1, none⟩) (v := .int .i64 0) hb1 (by first | assumption | (go_keep; done) | (go_simp; done) | (simp; done)) (by first | omega | (simp <;> omega)); have cc2 := cell_keep (p := ⟨wc.heap.size, 0, none⟩) (v := .int .i64 n) hb1 (by first | assumption | (go_keep; done) | (go_simp; done) | (simp; done)) (by first | omega | (simp <;> omega)); have cc3 := cell_keep (p := ⟨wc.heap.size, 1, none⟩) (v := .int .i64 d) hb1 (by first | assumption | (go_keep; done) | (go_simp; done) | (simp; done)) (by first | omega | (simp <;> omega)); have cf0 := frozen_keep (p := ⟨w.heap.size, 0, none⟩) hb1 (by first | assumption | (go_keep; done) | (go_simp; done) | (simp; done)) (by first | omega | (simp <;> omega)); have cf1 := frozen_keep (p := ⟨w.heap.size, 1, none⟩) hb1 (by first | assumption | (go_keep; done) | (go_simp; done) | (simp; done)) (by first | omega | (simp <;> omega)); have hS1 : Below w.heap.size w w1 := S_below hb1 (by repeat (first | exact Below.refl _ _ | assumption | refine below_drewN ?_ _ | refine Below.drew ?_ | refine Below.alloc ?_ (by first | omega | (simp <;> omega)) _ | refine Below.setCell ?_ (by first | omega | (simp <;> omega)) _)) (by first | omega | (simp <;> omega)); have hz1 : w.heap.size + 1 ≤ w1.heap.size := S_size hb1 (by first | omega | (simp <;> omega)); have hqb0 : w.heap.size < w1.heap.size := S_lt hb1 (by first | omega | (simp <;> omega)); have hqb1 : wc.heap.size < w1.heap.size := S_lt hb1 (by first | omega | (simp <;> omega)); clear hb1) | (go_at_call 9; with_reducible refine (sFormatRatio_lit HF.out _ n1 n2).mono ?_; rintro e w1 ⟨rfl, hb1⟩; have cc0 := cell_keep (p := ⟨w.heap.size, 0, none⟩) (v := .int .i64 0) hb1 (by first | assumption | (go_keep; done) | (go_simp; done) | (simp; done)) (by first | omega | (simp <;> omega)); have cc1 := cell_keep (p := ⟨w.heap.size, 1, none⟩) (v := .int .i64 0) hb1 (by first | assumption | (go_keep; done) | (go_simp; done) | (simp; done)) (by first | omega | (simp <;> omega)); have cc2 := cell_keep (p := ⟨wc.heap.size, 0, none⟩) (v := .int .i64 n) hb1 (by first | assumption | (go_keep; done) | (go_simp; done) | (simp; done)) (by first | omega | (simp <;> omega)); have cc3 := cell_keep (p := ⟨wc.heap.size, 1, none⟩) (v := .int .i64 d) hb1 (by first | assumption | (go_keep; done) | (go_simp; done) | (simp; done)) (by first | omega | (simp <;> omega)); have cf0 := frozen_keep (p := ⟨w.heap.size, 0, none⟩) hb1 (by first | assumption | (go_keep; done) | (go_simp; done) | (simp; done)) (by first | omega | (simp <;> omega)); have cf1 := frozen_keep (p := ⟨w.heap.size, 1, none⟩) hb1 (by first | assumption | (go_keep; done) | (go_simp; done) | (simp; done)) (by first | omega | (simp <;> omega)); have hS1 : Below w.heap.size w w1 := S_below hb1 (by repeat (first | exact Below.refl _ _ | assumption | refine below_drewN ?_ _ | refine Below.drew ?_ | refine Below.alloc ?_ (by first | omega | (simp <;> omega)) _ | refine Below.setCell ?_ (by first | omega | (simp <;> omega)) _)) (by first | omega | (simp <;> omega)); have hz1 : w.heap.size + 1 ≤ w1.heap.size := S_size hb1 (by first | omega | (simp <;> omega)); have hqb0 : w.heap.size < w1.heap.size := S_lt hb1 (by first | omega | (simp <;> omega)); have hqb1 : wc.heap.size < w1.heap.size := S_lt hb1 (by first | omega | (simp <;> omega)); clear hb1))
  exact bodyPost_ret (v := .tuple #[.agg #[.int .i64 n, .int .i64 d], .bool true]) (by simp [results, Tryd.results15, go_sem, set_0 cc0, set2_1 cc1]) rfl ⟨rfl, (by repeat (first | exact Below.refl _ _ | assumption | refine below_drewN ?_ _ | refine Below.drew ?_ | refine Below.alloc ?_ (by first | omega | (simp <;> omega)) _ | refine Below.setCell ?_ (by first | omega | (simp <;> omega)) _))⟩

theorem pcsB_first (s by_ : ByteArray) : ∃ a, (pcsB s by_)[0]? = some a ∧ a.size ≤ s.size := by
  match h : pcsB s by_ with
  | [] => exact absurd h (pcsB_ne s by_)
  | a :: r => exact ⟨a, rfl, pcsB_small (by_ := by_) (by rw [h]; exact List.mem_cons_self)⟩

theorem list_two {α : Type} {l : List α} (h : l.length = 2) : ∃ a b, l = [a, b] := by
  match l, h with
  | [a, b], _ => exact ⟨a, b, rfl⟩

theorem list_one {α : Type} {l : List α} (h : l.length = 1) : ∃ a, l = [a] := by
  match l, h with
  | [a], _ => exact ⟨a, rfl⟩

theorem iParseRatio_lit {s : ByteArray} {o : Option (Int × Int)} (h : prV s = o) (w : World) (ht : Tab10 w) (he : Errs w) (hs : s.size ≤ 1048576) :
    Calls Tryd.prog 16 #[.string s] w fun e w' => e = .returned (PResR o) ∧ Below w.heap.size w w' := by
  subst h
  have hlen := pcsB_len s ⟨#[47]⟩
  obtain ⟨a, h0, ha⟩ := pcsB_first s ⟨#[47]⟩
  have hpos : 1 ≤ (pcsB s ⟨#[47]⟩).length := Nat.pos_of_ne_zero (fun e => pcsB_ne s ⟨#[47]⟩ (List.eq_nil_of_length_eq_zero e))
  by_cases h2 : (pcsB s ⟨#[47]⟩).length = 2
  · obtain ⟨a', b, hl⟩ := list_two h2
    rw [hl] at h0
    obtain rfl := Option.some.inj h0
    have hb : b.size ≤ s.size := pcsB_small (by_ := ⟨#[47]⟩) (by rw [hl]; simp)
    unfold prV
    rw [hl]
    cases hp : pI a'.data.toList with
    | none => rw [prL_bad s rfl hp]; exact iPR_bad2 (n := 0) (d := 0) hl rfl rfl rfl hp w ht he hs (by omega) (by omega : b.size ≤ 1048576)
    | some n =>
      cases hq : pI b.data.toList with
      | none => rw [prL_bad2 s hq]; exact iPR_bad3 (d := 0) hl rfl rfl rfl hp hq w ht he hs (by omega) (by omega)
      | some d =>
        rw [prL_two s hp hq]
        cases ho : ratioOkV n d with
        | false => rw [chkR_no ho]; exact iPR_twoA hl rfl rfl rfl hp hq ho w ht he hs (by omega) (by omega)
        | true =>
          by_cases hf : fmtR n d = s
          · rw [chkR_yes ho hf]; exact iPR_twoC hl rfl rfl rfl hp hq ho hf w ht he hs (by omega) (by omega)
          · rw [chkR_ne hf]; exact iPR_twoB hl rfl rfl rfl hp hq ho hf w ht he hs (by omega) (by omega)
  · have e0 : (⟨#[]⟩ : ByteArray).size ≤ 1048576 := by decide
    cases hp : pI a.data.toList with
    | none => unfold prV; rw [prL_bad s h0 hp]; exact iPR_bad1 (b := ⟨#[]⟩) (n := 0) (d := 0) rfl h0 hpos h2 (by omega) hp w ht he hs (by omega) e0
    | some n =>
      have key : prV s = chkR s n 1 := by
        by_cases h1 : (pcsB s ⟨#[47]⟩).length = 1
        · obtain ⟨a', hl⟩ := list_one h1
          rw [hl] at h0
          obtain rfl := Option.some.inj h0
          unfold prV
          rw [hl, prL_one s hp]
        · unfold prV
          rw [prL_long s (by omega)]
          cases ho : ratioOkV n 1 with
          | false => rw [chkR_no ho]
          | true => rw [chkR_ne (long_no (by omega) ho)]
      rw [key]
      cases ho : ratioOkV n 1 with
      | false => rw [chkR_no ho]; exact iPR_oneA (b := ⟨#[]⟩) (d := 0) rfl h0 hpos h2 (by omega) hp ho w ht he hs (by omega) e0
      | true =>
        by_cases hf : fmtR n 1 = s
        · rw [chkR_yes ho hf]; exact iPR_oneC (b := ⟨#[]⟩) (d := 0) rfl h0 hpos h2 (by omega) hp ho hf w ht he hs (by omega) e0
        · rw [chkR_ne hf]; exact iPR_oneB (b := ⟨#[]⟩) (d := 0) rfl h0 hpos h2 (by omega) hp ho hf w ht he hs (by omega) e0

theorem sParseRatio_lit {s : ByteArray} {o : Option (Int × Int)} (h : prV s = o) (w : World) (hs : s.size ≤ 1048576) :
    Calls Tryd.prog 15 #[.string s] w fun e w' => e = .returned (PResR o) ∧ Below w.heap.size w w' := by
  subst h
  have hlen := pcsB_len s ⟨#[47]⟩
  obtain ⟨a, h0, ha⟩ := pcsB_first s ⟨#[47]⟩
  have hpos : 1 ≤ (pcsB s ⟨#[47]⟩).length := Nat.pos_of_ne_zero (fun e => pcsB_ne s ⟨#[47]⟩ (List.eq_nil_of_length_eq_zero e))
  by_cases h2 : (pcsB s ⟨#[47]⟩).length = 2
  · obtain ⟨a', b, hl⟩ := list_two h2
    rw [hl] at h0
    obtain rfl := Option.some.inj h0
    have hb : b.size ≤ s.size := pcsB_small (by_ := ⟨#[47]⟩) (by rw [hl]; simp)
    unfold prV
    rw [hl]
    cases hp : pI a'.data.toList with
    | none =>
      rw [prL_bad s rfl hp]
      cases hq : pI b.data.toList with
      | none => exact sPR_badNN (n := 0) (d := 0) hl rfl rfl rfl hp hq w hs (by omega) (by omega)
      | some d => exact sPR_badNS (n := 0) hl rfl rfl rfl hp hq w hs (by omega) (by omega)
    | some n =>
      cases hq : pI b.data.toList with
      | none => rw [prL_bad2 s hq]; exact sPR_badSN (d := 0) hl rfl rfl rfl hp hq w hs (by omega) (by omega)
      | some d =>
        rw [prL_two s hp hq]
        by_cases hf : fmtR n d = s
        · cases ho : ratioOkV n d with
          | false => rw [chkR_no ho]; exact sPR_twoA hl rfl rfl rfl hp hq ho hf w hs (by omega) (by omega)
          | true => rw [chkR_yes ho hf]; exact sPR_twoC hl rfl rfl rfl hp hq ho hf w hs (by omega) (by omega)
        · rw [chkR_ne hf]; exact sPR_twoB hl rfl rfl rfl hp hq hf w hs (by omega) (by omega)
  · have e0 : (⟨#[]⟩ : ByteArray).size ≤ 1048576 := by decide
    cases hp : pI a.data.toList with
    | none => unfold prV; rw [prL_bad s h0 hp]; exact sPR_bad1 (b := ⟨#[]⟩) (n := 0) (d := 0) rfl h0 hpos h2 (by omega) hp w hs (by omega) e0
    | some n =>
      by_cases h1 : (pcsB s ⟨#[47]⟩).length = 1
      · have key : prV s = chkR s n 1 := by
          obtain ⟨a', hl⟩ := list_one h1
          rw [hl] at h0
          obtain rfl := Option.some.inj h0
          unfold prV
          rw [hl, prL_one s hp]
        rw [key]
        by_cases hf : fmtR n 1 = s
        · cases ho : ratioOkV n 1 with
          | false => rw [chkR_no ho]; exact sPR_oneA (b := ⟨#[]⟩) (d := 0) rfl h0 h1 hp ho hf w hs (by omega) e0
          | true => rw [chkR_yes ho hf]; exact sPR_oneC (b := ⟨#[]⟩) (d := 0) rfl h0 h1 hp ho hf w hs (by omega) e0
        · rw [chkR_ne hf]; exact sPR_oneB (b := ⟨#[]⟩) (d := 0) rfl h0 h1 hp hf w hs (by omega) e0
      · unfold prV
        rw [prL_long s (by omega)]
        exact sPR_long (b := ⟨#[]⟩) (d := 0) rfl h0 (by omega) (by omega) hp w hs (by omega) e0

end Go.Proofs.YtkmfejdmdiemaaaDoor
