/- ParseRatio of the program. -/
import Derived.Test.YtkmfejdmdiemaaaDoorPrr
namespace Go.Proofs.YtkmfejdmdiemaaaDoor
open Go.ChangeShapes Go.WideShapes Go.ChangeAt Go.RowKit
attribute [local go_sem ↓] Go.wp_at_zero Go.wp_at_succ
set_option linter.unusedVariables false

theorem set_0a {w : World} {b : Nat} {u : Value} (h : w.cell? ⟨b, 0, none⟩ = some u) (o : Obj) (v v1 : Value) : (((w.setCell ⟨b, 0, none⟩ v).setCell ⟨b, 1, none⟩ v1).alloc o).cell? ⟨b, 0, none⟩ = some v := by
  have h1 : ((w.setCell ⟨b, 0, none⟩ v).setCell ⟨b, 1, none⟩ v1).cell? ⟨b, 0, none⟩ = some v := by rw [World.cell?_setCell_other _ _ _ _ (by simp)]; exact set_0 h v
  exact cell_keep (Below.alloc (Below.refl _ _) (Nat.le_refl _) _) h1 (cell_lt h1)

theorem set2_1a {w : World} {b : Nat} {u : Value} (h : w.cell? ⟨b, 1, none⟩ = some u) (o : Obj) (v0 v : Value) : (((w.setCell ⟨b, 0, none⟩ v0).setCell ⟨b, 1, none⟩ v).alloc o).cell? ⟨b, 1, none⟩ = some v := by
  have h1 := set2_1 h v0 v
  exact cell_keep (Below.alloc (Below.refl _ _) (Nat.le_refl _) _) h1 (cell_lt h1)

theorem set_0s {w : World} {b c o : Nat} {u : Value} (h : w.cell? ⟨b, 0, none⟩ = some u) (hn : b ≠ c) (x v : Value) : ((w.setCell ⟨c, o, none⟩ x).setCell ⟨b, 0, none⟩ v).cell? ⟨b, 0, none⟩ = some v :=
  set_0 (by rw [World.cell?_setCell_other _ _ _ _ (by intro e; injection e; omega)]; exact h) v

theorem set2_1s {w : World} {b c o : Nat} {u : Value} (h : w.cell? ⟨b, 1, none⟩ = some u) (hn : b ≠ c) (x v0 v : Value) : (((w.setCell ⟨c, o, none⟩ x).setCell ⟨b, 0, none⟩ v0).setCell ⟨b, 1, none⟩ v).cell? ⟨b, 1, none⟩ = some v :=
  set2_1 (by rw [World.cell?_setCell_other _ _ _ _ (by intro e; injection e; omega)]; exact h) v0 v

set_option maxHeartbeats 1000000 in
set_option maxRecDepth 100000 in
theorem iPR_bad1 {s a b : ByteArray} {n d : Int} {ls : List ByteArray} (hls : pcsB s ⟨#[47]⟩ = ls) (h0 : ls[0]? = some a) (hl : 1 ≤ ls.length) (h2 : ls.length ≠ 2) (hl2 : ls.length ≤ 1048577) (hpa : pI a.data.toList = none) (w : World) (ht : Tab10 w) (he : Errs w) (hs : s.size ≤ 1048576) (has : a.size ≤ 1048576) (hbs : b.size ≤ 1048576) :
    Calls Tryd.prog 16 #[.string s] w fun e w' => e = .returned (.tuple #[.agg #[.int .i64 0, .int .i64 0], .bool false]) ∧ Below w.heap.size w w' := by
  have HT := Lib.hid ht; clear ht
  have HE := Lib.hid he; clear he
  have HLS := Lib.hid hls; clear hls
  have H0 := Lib.hid h0; clear h0
  have HP := Lib.hid hpa; clear hpa
  go_enter Tryd.func16, Tryd.ntmps16
  go_wp2_with fail
  go_at_call 43; with_reducible refine (iSplitAny_lit HLS.out _ (by omega) (by decide)).mono ?_
  rintro e wa ⟨g0, c0, rfl, hO0, hg0, hb1⟩
  obtain ⟨cA, hga⟩ := own_cell hO0 H0.out
  clear hO0
  have cc_wa0 := cell_keep (p := ⟨w.heap.size, 0, none⟩) (v := .int .i64 0) hb1 (by first | assumption | (go_keep; done) | (go_simp; done) | (simp; done)) (by first | omega | (simp <;> omega))
  have cc_wa1 := cell_keep (p := ⟨w.heap.size, 1, none⟩) (v := .int .i64 0) hb1 (by first | assumption | (go_keep; done) | (go_simp; done) | (simp; done)) (by first | omega | (simp <;> omega))
  have cf_wa0 := frozen_keep (p := ⟨w.heap.size, 0, none⟩) hb1 (by first | assumption | (go_keep; done) | (go_simp; done) | (simp; done)) (by first | omega | (simp <;> omega))
  have cf_wa1 := frozen_keep (p := ⟨w.heap.size, 1, none⟩) hb1 (by first | assumption | (go_keep; done) | (go_simp; done) | (simp; done)) (by first | omega | (simp <;> omega))
  have hS1_wa : Below w.heap.size w wa := S_below hb1 (by repeat (first | exact Below.refl _ _ | assumption | refine below_drewN ?_ _ | refine Below.drew ?_ | refine Below.alloc ?_ (by first | omega | (simp <;> omega)) _ | refine Below.setCell ?_ (by first | omega | (simp <;> omega)) _)) (by first | omega | (simp <;> omega))
  have hz1_wa : w.heap.size + 1 ≤ wa.heap.size := S_size hb1 (by first | omega | (simp <;> omega))
  have hqb_wa0 : w.heap.size < wa.heap.size := S_lt hb1 (by first | omega | (simp <;> omega))
  clear hb1
  generalize ls.length = m at *
  go_wp2_with fail
  go_at_call 44; with_reducible refine (iParseInt_lit HP.out _ (HT.out.step (by repeat (first | exact Below.refl _ _ | assumption | refine below_drewN ?_ _ | refine Below.drew ?_ | refine Below.alloc ?_ (by first | omega | (simp <;> omega)) _ | refine Below.setCell ?_ (by first | omega | (simp <;> omega)) _))) (HE.out.step (by repeat (first | exact Below.refl _ _ | assumption | refine below_drewN ?_ _ | refine Below.drew ?_ | refine Below.alloc ?_ (by first | omega | (simp <;> omega)) _ | refine Below.setCell ?_ (by first | omega | (simp <;> omega)) _))) (by omega)).mono ?_
  rintro e wb ⟨rfl, hb1⟩
  simp only [PRes]
  have cc_wb0 := cell_keep (p := ⟨w.heap.size, 0, none⟩) (v := .int .i64 0) hb1 (by first | assumption | (go_keep; done) | (go_simp; done) | (simp; done)) (by first | omega | (simp <;> omega))
  have cc_wb1 := cell_keep (p := ⟨w.heap.size, 1, none⟩) (v := .int .i64 0) hb1 (by first | assumption | (go_keep; done) | (go_simp; done) | (simp; done)) (by first | omega | (simp <;> omega))
  have cc_wb2 := cell_keep (p := ⟨g0, 0, none⟩) (v := .string a) hb1 (by first | assumption | (go_keep; done) | (go_simp; done) | (simp; done)) (by first | omega | (simp <;> omega))
  have cf_wb0 := frozen_keep (p := ⟨w.heap.size, 0, none⟩) hb1 (by first | assumption | (go_keep; done) | (go_simp; done) | (simp; done)) (by first | omega | (simp <;> omega))
  have cf_wb1 := frozen_keep (p := ⟨w.heap.size, 1, none⟩) hb1 (by first | assumption | (go_keep; done) | (go_simp; done) | (simp; done)) (by first | omega | (simp <;> omega))
  have hS1_wb : Below w.heap.size w wb := S_below hb1 (by repeat (first | exact Below.refl _ _ | assumption | refine below_drewN ?_ _ | refine Below.drew ?_ | refine Below.alloc ?_ (by first | omega | (simp <;> omega)) _ | refine Below.setCell ?_ (by first | omega | (simp <;> omega)) _)) (by first | omega | (simp <;> omega))
  have hz1_wb : w.heap.size + 1 ≤ wb.heap.size := S_size hb1 (by first | omega | (simp <;> omega))
  have hqb_wb0 : w.heap.size < wb.heap.size := S_lt hb1 (by first | omega | (simp <;> omega))
  have hqb_wb1 : g0 < wb.heap.size := S_lt hb1 (by first | omega | (simp <;> omega))
  clear hb1
  go_wp2_with fail
  exact bodyPost_ret (v := .tuple #[.agg #[.int .i64 0, .int .i64 0], .bool false]) (by simp [results, Tryd.results16, go_sem, set_0a cc_wb0, set2_1a cc_wb1]) rfl ⟨rfl, (by repeat (first | exact Below.refl _ _ | assumption | refine below_drewN ?_ _ | refine Below.drew ?_ | refine Below.alloc ?_ (by first | omega | (simp <;> omega)) _ | refine Below.setCell ?_ (by first | omega | (simp <;> omega)) _))⟩

set_option maxHeartbeats 1000000 in
set_option maxRecDepth 100000 in
theorem iPR_bad2 {s a b : ByteArray} {n d : Int} {ls : List ByteArray} (hls : pcsB s ⟨#[47]⟩ = ls) (h0 : ls[0]? = some a) (h1 : ls[1]? = some b) (hl : ls.length = 2) (hpa : pI a.data.toList = none) (w : World) (ht : Tab10 w) (he : Errs w) (hs : s.size ≤ 1048576) (has : a.size ≤ 1048576) (hbs : b.size ≤ 1048576) :
    Calls Tryd.prog 16 #[.string s] w fun e w' => e = .returned (.tuple #[.agg #[.int .i64 0, .int .i64 0], .bool false]) ∧ Below w.heap.size w w' := by
  have HT := Lib.hid ht; clear ht
  have HE := Lib.hid he; clear he
  have HLS := Lib.hid hls; clear hls
  have H0 := Lib.hid h0; clear h0
  have H1 := Lib.hid h1; clear h1
  have HP := Lib.hid hpa; clear hpa
  go_enter Tryd.func16, Tryd.ntmps16
  go_wp2_with fail
  go_at_call 43; with_reducible refine (iSplitAny_lit HLS.out _ (by omega) (by decide)).mono ?_
  rintro e wa ⟨g0, c0, rfl, hO0, hg0, hb1⟩
  obtain ⟨cA, hga⟩ := own_cell hO0 H0.out
  obtain ⟨cB, _⟩ := own_cell hO0 H1.out
  clear hO0
  have cc_wa0 := cell_keep (p := ⟨w.heap.size, 0, none⟩) (v := .int .i64 0) hb1 (by first | assumption | (go_keep; done) | (go_simp; done) | (simp; done)) (by first | omega | (simp <;> omega))
  have cc_wa1 := cell_keep (p := ⟨w.heap.size, 1, none⟩) (v := .int .i64 0) hb1 (by first | assumption | (go_keep; done) | (go_simp; done) | (simp; done)) (by first | omega | (simp <;> omega))
  have cf_wa0 := frozen_keep (p := ⟨w.heap.size, 0, none⟩) hb1 (by first | assumption | (go_keep; done) | (go_simp; done) | (simp; done)) (by first | omega | (simp <;> omega))
  have cf_wa1 := frozen_keep (p := ⟨w.heap.size, 1, none⟩) hb1 (by first | assumption | (go_keep; done) | (go_simp; done) | (simp; done)) (by first | omega | (simp <;> omega))
  have hS1_wa : Below w.heap.size w wa := S_below hb1 (by repeat (first | exact Below.refl _ _ | assumption | refine below_drewN ?_ _ | refine Below.drew ?_ | refine Below.alloc ?_ (by first | omega | (simp <;> omega)) _ | refine Below.setCell ?_ (by first | omega | (simp <;> omega)) _)) (by first | omega | (simp <;> omega))
  have hz1_wa : w.heap.size + 1 ≤ wa.heap.size := S_size hb1 (by first | omega | (simp <;> omega))
  have hqb_wa0 : w.heap.size < wa.heap.size := S_lt hb1 (by first | omega | (simp <;> omega))
  clear hb1
  generalize ls.length = m at *
  subst hl
  go_wp2_with fail
  go_at_call 44; with_reducible refine (iParseInt_lit HP.out _ (HT.out.step (by repeat (first | exact Below.refl _ _ | assumption | refine below_drewN ?_ _ | refine Below.drew ?_ | refine Below.alloc ?_ (by first | omega | (simp <;> omega)) _ | refine Below.setCell ?_ (by first | omega | (simp <;> omega)) _))) (HE.out.step (by repeat (first | exact Below.refl _ _ | assumption | refine below_drewN ?_ _ | refine Below.drew ?_ | refine Below.alloc ?_ (by first | omega | (simp <;> omega)) _ | refine Below.setCell ?_ (by first | omega | (simp <;> omega)) _))) (by omega)).mono ?_
  rintro e wb ⟨rfl, hb1⟩
  simp only [PRes]
  have cc_wb0 := cell_keep (p := ⟨w.heap.size, 0, none⟩) (v := .int .i64 0) hb1 (by first | assumption | (go_keep; done) | (go_simp; done) | (simp; done)) (by first | omega | (simp <;> omega))
  have cc_wb1 := cell_keep (p := ⟨w.heap.size, 1, none⟩) (v := .int .i64 0) hb1 (by first | assumption | (go_keep; done) | (go_simp; done) | (simp; done)) (by first | omega | (simp <;> omega))
  have cc_wb2 := cell_keep (p := ⟨g0, 0, none⟩) (v := .string a) hb1 (by first | assumption | (go_keep; done) | (go_simp; done) | (simp; done)) (by first | omega | (simp <;> omega))
  have cc_wb3 := cell_keep (p := ⟨g0, 1, none⟩) (v := .string b) hb1 (by first | assumption | (go_keep; done) | (go_simp; done) | (simp; done)) (by first | omega | (simp <;> omega))
  have cf_wb0 := frozen_keep (p := ⟨w.heap.size, 0, none⟩) hb1 (by first | assumption | (go_keep; done) | (go_simp; done) | (simp; done)) (by first | omega | (simp <;> omega))
  have cf_wb1 := frozen_keep (p := ⟨w.heap.size, 1, none⟩) hb1 (by first | assumption | (go_keep; done) | (go_simp; done) | (simp; done)) (by first | omega | (simp <;> omega))
  have hS1_wb : Below w.heap.size w wb := S_below hb1 (by repeat (first | exact Below.refl _ _ | assumption | refine below_drewN ?_ _ | refine Below.drew ?_ | refine Below.alloc ?_ (by first | omega | (simp <;> omega)) _ | refine Below.setCell ?_ (by first | omega | (simp <;> omega)) _)) (by first | omega | (simp <;> omega))
  have hz1_wb : w.heap.size + 1 ≤ wb.heap.size := S_size hb1 (by first | omega | (simp <;> omega))
  have hqb_wb0 : w.heap.size < wb.heap.size := S_lt hb1 (by first | omega | (simp <;> omega))
  have hqb_wb1 : g0 < wb.heap.size := S_lt hb1 (by first | omega | (simp <;> omega))
  clear hb1
  go_wp2_with fail
  exact bodyPost_ret (v := .tuple #[.agg #[.int .i64 0, .int .i64 0], .bool false]) (by simp [results, Tryd.results16, go_sem, set_0a cc_wb0, set2_1a cc_wb1]) rfl ⟨rfl, (by repeat (first | exact Below.refl _ _ | assumption | refine below_drewN ?_ _ | refine Below.drew ?_ | refine Below.alloc ?_ (by first | omega | (simp <;> omega)) _ | refine Below.setCell ?_ (by first | omega | (simp <;> omega)) _))⟩

set_option maxHeartbeats 1000000 in
set_option maxRecDepth 100000 in
theorem iPR_bad3 {s a b : ByteArray} {n d : Int} {ls : List ByteArray} (hls : pcsB s ⟨#[47]⟩ = ls) (h0 : ls[0]? = some a) (h1 : ls[1]? = some b) (hl : ls.length = 2) (hpa : pI a.data.toList = some n) (hpb : pI b.data.toList = none) (w : World) (ht : Tab10 w) (he : Errs w) (hs : s.size ≤ 1048576) (has : a.size ≤ 1048576) (hbs : b.size ≤ 1048576) :
    Calls Tryd.prog 16 #[.string s] w fun e w' => e = .returned (.tuple #[.agg #[.int .i64 0, .int .i64 0], .bool false]) ∧ Below w.heap.size w w' := by
  have HT := Lib.hid ht; clear ht
  have HE := Lib.hid he; clear he
  have HLS := Lib.hid hls; clear hls
  have H0 := Lib.hid h0; clear h0
  have H1 := Lib.hid h1; clear h1
  obtain ⟨_, n1, n2⟩ := pI_some hpa
  have HP := Lib.hid hpa; clear hpa
  have HQ := Lib.hid hpb; clear hpb
  go_enter Tryd.func16, Tryd.ntmps16
  go_wp2_with fail
  go_at_call 43; with_reducible refine (iSplitAny_lit HLS.out _ (by omega) (by decide)).mono ?_
  rintro e wa ⟨g0, c0, rfl, hO0, hg0, hb1⟩
  obtain ⟨cA, hga⟩ := own_cell hO0 H0.out
  obtain ⟨cB, _⟩ := own_cell hO0 H1.out
  clear hO0
  have cc_wa0 := cell_keep (p := ⟨w.heap.size, 0, none⟩) (v := .int .i64 0) hb1 (by first | assumption | (go_keep; done) | (go_simp; done) | (simp; done)) (by first | omega | (simp <;> omega))
  have cc_wa1 := cell_keep (p := ⟨w.heap.size, 1, none⟩) (v := .int .i64 0) hb1 (by first | assumption | (go_keep; done) | (go_simp; done) | (simp; done)) (by first | omega | (simp <;> omega))
  have cf_wa0 := frozen_keep (p := ⟨w.heap.size, 0, none⟩) hb1 (by first | assumption | (go_keep; done) | (go_simp; done) | (simp; done)) (by first | omega | (simp <;> omega))
  have cf_wa1 := frozen_keep (p := ⟨w.heap.size, 1, none⟩) hb1 (by first | assumption | (go_keep; done) | (go_simp; done) | (simp; done)) (by first | omega | (simp <;> omega))
  have hS1_wa : Below w.heap.size w wa := S_below hb1 (by repeat (first | exact Below.refl _ _ | assumption | refine below_drewN ?_ _ | refine Below.drew ?_ | refine Below.alloc ?_ (by first | omega | (simp <;> omega)) _ | refine Below.setCell ?_ (by first | omega | (simp <;> omega)) _)) (by first | omega | (simp <;> omega))
  have hz1_wa : w.heap.size + 1 ≤ wa.heap.size := S_size hb1 (by first | omega | (simp <;> omega))
  have hqb_wa0 : w.heap.size < wa.heap.size := S_lt hb1 (by first | omega | (simp <;> omega))
  clear hb1
  generalize ls.length = m at *
  subst hl
  go_wp2_with fail
  go_at_call 44; with_reducible refine (iParseInt_lit HP.out _ (HT.out.step (by repeat (first | exact Below.refl _ _ | assumption | refine below_drewN ?_ _ | refine Below.drew ?_ | refine Below.alloc ?_ (by first | omega | (simp <;> omega)) _ | refine Below.setCell ?_ (by first | omega | (simp <;> omega)) _))) (HE.out.step (by repeat (first | exact Below.refl _ _ | assumption | refine below_drewN ?_ _ | refine Below.drew ?_ | refine Below.alloc ?_ (by first | omega | (simp <;> omega)) _ | refine Below.setCell ?_ (by first | omega | (simp <;> omega)) _))) (by omega)).mono ?_
  rintro e wb ⟨rfl, hb1⟩
  simp only [PRes]
  have cc_wb0 := cell_keep (p := ⟨w.heap.size, 0, none⟩) (v := .int .i64 0) hb1 (by first | assumption | (go_keep; done) | (go_simp; done) | (simp; done)) (by first | omega | (simp <;> omega))
  have cc_wb1 := cell_keep (p := ⟨w.heap.size, 1, none⟩) (v := .int .i64 0) hb1 (by first | assumption | (go_keep; done) | (go_simp; done) | (simp; done)) (by first | omega | (simp <;> omega))
  have cc_wb2 := cell_keep (p := ⟨g0, 0, none⟩) (v := .string a) hb1 (by first | assumption | (go_keep; done) | (go_simp; done) | (simp; done)) (by first | omega | (simp <;> omega))
  have cc_wb3 := cell_keep (p := ⟨g0, 1, none⟩) (v := .string b) hb1 (by first | assumption | (go_keep; done) | (go_simp; done) | (simp; done)) (by first | omega | (simp <;> omega))
  have cf_wb0 := frozen_keep (p := ⟨w.heap.size, 0, none⟩) hb1 (by first | assumption | (go_keep; done) | (go_simp; done) | (simp; done)) (by first | omega | (simp <;> omega))
  have cf_wb1 := frozen_keep (p := ⟨w.heap.size, 1, none⟩) hb1 (by first | assumption | (go_keep; done) | (go_simp; done) | (simp; done)) (by first | omega | (simp <;> omega))
  have hS1_wb : Below w.heap.size w wb := S_below hb1 (by repeat (first | exact Below.refl _ _ | assumption | refine below_drewN ?_ _ | refine Below.drew ?_ | refine Below.alloc ?_ (by first | omega | (simp <;> omega)) _ | refine Below.setCell ?_ (by first | omega | (simp <;> omega)) _)) (by first | omega | (simp <;> omega))
  have hz1_wb : w.heap.size + 1 ≤ wb.heap.size := S_size hb1 (by first | omega | (simp <;> omega))
  have hqb_wb0 : w.heap.size < wb.heap.size := S_lt hb1 (by first | omega | (simp <;> omega))
  have hqb_wb1 : g0 < wb.heap.size := S_lt hb1 (by first | omega | (simp <;> omega))
  clear hb1
  go_wp2_with fail
  go_at_call 44; with_reducible refine (iParseInt_lit HQ.out _ (HT.out.step (by repeat (first | exact Below.refl _ _ | assumption | refine below_drewN ?_ _ | refine Below.drew ?_ | refine Below.alloc ?_ (by first | omega | (simp <;> omega)) _ | refine Below.setCell ?_ (by first | omega | (simp <;> omega)) _))) (HE.out.step (by repeat (first | exact Below.refl _ _ | assumption | refine below_drewN ?_ _ | refine Below.drew ?_ | refine Below.alloc ?_ (by first | omega | (simp <;> omega)) _ | refine Below.setCell ?_ (by first | omega | (simp <;> omega)) _))) (by omega)).mono ?_
  rintro e wc ⟨rfl, hb1⟩
  simp only [PRes]
  have cc_wc0 := cell_keep (p := ⟨w.heap.size, 0, none⟩) (v := .int .i64 0) hb1 (by first | assumption | (go_keep; done) | (go_simp; done) | (simp; done)) (by first | omega | (simp <;> omega))
  have cc_wc1 := cell_keep (p := ⟨w.heap.size, 1, none⟩) (v := .int .i64 0) hb1 (by first | assumption | (go_keep; done) | (go_simp; done) | (simp; done)) (by first | omega | (simp <;> omega))
  have cc_wc2 := cell_keep (p := ⟨wb.heap.size, 0, none⟩) (v := .int .i64 n) hb1 (by first | assumption | (go_keep; done) | (go_simp; done) | (simp; done)) (by first | omega | (simp <;> omega))
  have cc_wc3 := cell_keep (p := ⟨wb.heap.size, 1, none⟩) (v := .int .i64 1) hb1 (by first | assumption | (go_keep; done) | (go_simp; done) | (simp; done)) (by first | omega | (simp <;> omega))
  have cf_wc0 := frozen_keep (p := ⟨w.heap.size, 0, none⟩) hb1 (by first | assumption | (go_keep; done) | (go_simp; done) | (simp; done)) (by first | omega | (simp <;> omega))
  have cf_wc1 := frozen_keep (p := ⟨w.heap.size, 1, none⟩) hb1 (by first | assumption | (go_keep; done) | (go_simp; done) | (simp; done)) (by first | omega | (simp <;> omega))
  have cf_wc3 := frozen_keep (p := ⟨wb.heap.size, 1, none⟩) hb1 (by first | assumption | (go_keep; done) | (go_simp; done) | (simp; done)) (by first | omega | (simp <;> omega))
  have hS1_wc : Below w.heap.size w wc := S_below hb1 (by repeat (first | exact Below.refl _ _ | assumption | refine below_drewN ?_ _ | refine Below.drew ?_ | refine Below.alloc ?_ (by first | omega | (simp <;> omega)) _ | refine Below.setCell ?_ (by first | omega | (simp <;> omega)) _)) (by first | omega | (simp <;> omega))
  have hz1_wc : w.heap.size + 1 ≤ wc.heap.size := S_size hb1 (by first | omega | (simp <;> omega))
  have hqb_wc0 : w.heap.size < wc.heap.size := S_lt hb1 (by first | omega | (simp <;> omega))
  have hqb_wc1 : wb.heap.size < wc.heap.size := S_lt hb1 (by first | omega | (simp <;> omega))
  clear hb1
  go_wp2_with fail
  have hn_ : w.heap.size ≠ wb.heap.size := by omega
  exact bodyPost_ret (v := .tuple #[.agg #[.int .i64 0, .int .i64 0], .bool false]) (by simp [results, Tryd.results16, go_sem, set_0s cc_wc0 hn_, set2_1s cc_wc1 hn_]) rfl ⟨rfl, (by repeat (first | exact Below.refl _ _ | assumption | refine below_drewN ?_ _ | refine Below.drew ?_ | refine Below.alloc ?_ (by first | omega | (simp <;> omega)) _ | refine Below.setCell ?_ (by first | omega | (simp <;> omega)) _))⟩

set_option maxHeartbeats 1000000 in
set_option maxRecDepth 100000 in
theorem iPR_oneA {s a b : ByteArray} {n d : Int} {ls : List ByteArray} (hls : pcsB s ⟨#[47]⟩ = ls) (h0 : ls[0]? = some a) (hl : 1 ≤ ls.length) (h2 : ls.length ≠ 2) (hl2 : ls.length ≤ 1048577) (hpa : pI a.data.toList = some n) (ho : ratioOkV n 1 = false) (w : World) (ht : Tab10 w) (he : Errs w) (hs : s.size ≤ 1048576) (has : a.size ≤ 1048576) (hbs : b.size ≤ 1048576) :
    Calls Tryd.prog 16 #[.string s] w fun e w' => e = .returned (.tuple #[.agg #[.int .i64 0, .int .i64 0], .bool false]) ∧ Below w.heap.size w w' := by
  have HT := Lib.hid ht; clear ht
  have HE := Lib.hid he; clear he
  have HLS := Lib.hid hls; clear hls
  have H0 := Lib.hid h0; clear h0
  have HO := Lib.hid ho; clear ho
  obtain ⟨_, n1, n2⟩ := pI_some hpa
  have HP := Lib.hid hpa; clear hpa
  go_enter Tryd.func16, Tryd.ntmps16
  go_wp2_with fail
  go_at_call 43; with_reducible refine (iSplitAny_lit HLS.out _ (by omega) (by decide)).mono ?_
  rintro e wa ⟨g0, c0, rfl, hO0, hg0, hb1⟩
  obtain ⟨cA, hga⟩ := own_cell hO0 H0.out
  clear hO0
  have cc_wa0 := cell_keep (p := ⟨w.heap.size, 0, none⟩) (v := .int .i64 0) hb1 (by first | assumption | (go_keep; done) | (go_simp; done) | (simp; done)) (by first | omega | (simp <;> omega))
  have cc_wa1 := cell_keep (p := ⟨w.heap.size, 1, none⟩) (v := .int .i64 0) hb1 (by first | assumption | (go_keep; done) | (go_simp; done) | (simp; done)) (by first | omega | (simp <;> omega))
  have cf_wa0 := frozen_keep (p := ⟨w.heap.size, 0, none⟩) hb1 (by first | assumption | (go_keep; done) | (go_simp; done) | (simp; done)) (by first | omega | (simp <;> omega))
  have cf_wa1 := frozen_keep (p := ⟨w.heap.size, 1, none⟩) hb1 (by first | assumption | (go_keep; done) | (go_simp; done) | (simp; done)) (by first | omega | (simp <;> omega))
  have hS1_wa : Below w.heap.size w wa := S_below hb1 (by repeat (first | exact Below.refl _ _ | assumption | refine below_drewN ?_ _ | refine Below.drew ?_ | refine Below.alloc ?_ (by first | omega | (simp <;> omega)) _ | refine Below.setCell ?_ (by first | omega | (simp <;> omega)) _)) (by first | omega | (simp <;> omega))
  have hz1_wa : w.heap.size + 1 ≤ wa.heap.size := S_size hb1 (by first | omega | (simp <;> omega))
  have hqb_wa0 : w.heap.size < wa.heap.size := S_lt hb1 (by first | omega | (simp <;> omega))
  clear hb1
  generalize ls.length = m at *
  go_wp2_with fail
  go_at_call 44; with_reducible refine (iParseInt_lit HP.out _ (HT.out.step (by repeat (first | exact Below.refl _ _ | assumption | refine below_drewN ?_ _ | refine Below.drew ?_ | refine Below.alloc ?_ (by first | omega | (simp <;> omega)) _ | refine Below.setCell ?_ (by first | omega | (simp <;> omega)) _))) (HE.out.step (by repeat (first | exact Below.refl _ _ | assumption | refine below_drewN ?_ _ | refine Below.drew ?_ | refine Below.alloc ?_ (by first | omega | (simp <;> omega)) _ | refine Below.setCell ?_ (by first | omega | (simp <;> omega)) _))) (by omega)).mono ?_
  rintro e wb ⟨rfl, hb1⟩
  simp only [PRes]
  have cc_wb0 := cell_keep (p := ⟨w.heap.size, 0, none⟩) (v := .int .i64 0) hb1 (by first | assumption | (go_keep; done) | (go_simp; done) | (simp; done)) (by first | omega | (simp <;> omega))
  have cc_wb1 := cell_keep (p := ⟨w.heap.size, 1, none⟩) (v := .int .i64 0) hb1 (by first | assumption | (go_keep; done) | (go_simp; done) | (simp; done)) (by first | omega | (simp <;> omega))
  have cc_wb2 := cell_keep (p := ⟨g0, 0, none⟩) (v := .string a) hb1 (by first | assumption | (go_keep; done) | (go_simp; done) | (simp; done)) (by first | omega | (simp <;> omega))
  have cf_wb0 := frozen_keep (p := ⟨w.heap.size, 0, none⟩) hb1 (by first | assumption | (go_keep; done) | (go_simp; done) | (simp; done)) (by first | omega | (simp <;> omega))
  have cf_wb1 := frozen_keep (p := ⟨w.heap.size, 1, none⟩) hb1 (by first | assumption | (go_keep; done) | (go_simp; done) | (simp; done)) (by first | omega | (simp <;> omega))
  have hS1_wb : Below w.heap.size w wb := S_below hb1 (by repeat (first | exact Below.refl _ _ | assumption | refine below_drewN ?_ _ | refine Below.drew ?_ | refine Below.alloc ?_ (by first | omega | (simp <;> omega)) _ | refine Below.setCell ?_ (by first | omega | (simp <;> omega)) _)) (by first | omega | (simp <;> omega))
  have hz1_wb : w.heap.size + 1 ≤ wb.heap.size := S_size hb1 (by first | omega | (simp <;> omega))
  have hqb_wb0 : w.heap.size < wb.heap.size := S_lt hb1 (by first | omega | (simp <;> omega))
  have hqb_wb1 : g0 < wb.heap.size := S_lt hb1 (by first | omega | (simp <;> omega))
  clear hb1
  go_wp2_with (first | (go_at_call 22; with_reducible refine (iRatioOk_lit HO.out _ n1 n2).mono ?_; rintro e w1 ⟨rfl, hb1⟩; have cc0 := cell_keep (p := ⟨w.heap.size, 0, none⟩) (v := .int .i64 0) hb1 (by first | assumption | (go_keep; done) | (go_simp; done) | (simp; done)) (by first | omega | (simp <;> omega)); have cc1 := cell_keep (p := ⟨w.heap.size, 1, none⟩) (v := .int .i64 0) hb1 (by first | assumption | (go_keep; done) | (go_simp; done) | (simp; done)) (by first | omega | (simp <;> omega)); have cc2 := cell_keep (p := ⟨wb.heap.size, 0, none⟩) (v := .int .i64 n) hb1 (by first | assumption | (go_keep; done) | (go_simp; done) | (simp; done)) (by first | omega | (simp <;> omega)); have cc3 := cell_keep (p := ⟨wb.heap.size, 1, none⟩) (v := .int .i64 1) hb1 (by first | assumption | (go_keep; done) | (go_simp; done) | (simp; done)) (by first | omega | (simp <;> omega)); have cf0 := frozen_keep (p := ⟨w.heap.size, 0, none⟩) hb1 (by first | assumption | (go_keep; done) | (go_simp; done) | (simp; done)) (by first | omega | (simp <;> omega)); have cf1 := frozen_keep (p := ⟨w.heap.size, 1, none⟩) hb1 (by first | assumption | (go_keep; done) | (go_simp; done) | (simp; done)) (by first | omega | (simp <;> omega)); have hS1 : Below w.heap.size w w1 := S_below hb1 (by repeat (first | exact Below.refl _ _ | assumption | refine below_drewN ?_ _ | refine Below.drew ?_ | refine Below.alloc ?_ (by first | omega | (simp <;> omega)) _ | refine Below.setCell ?_ (by first | omega | (simp <;> omega)) _)) (by first | omega | (simp <;> omega)); have hz1 : w.heap.size + 1 ≤ w1.heap.size := S_size hb1 (by first | omega | (simp <;> omega)); have hqb0 : w.heap.size < w1.heap.size := S_lt hb1 (by first | omega | (simp <;> omega)); have hqb1 : wb.heap.size < w1.heap.size := S_lt hb1 (by first | omega | (simp <;> omega)); clear hb1))
  exact bodyPost_ret (v := .tuple #[.agg #[.int .i64 0, .int .i64 0], .bool false]) (by simp [results, Tryd.results16, go_sem, set_0 cc0, set2_1 cc1]) rfl ⟨rfl, (by repeat (first | exact Below.refl _ _ | assumption | refine below_drewN ?_ _ | refine Below.drew ?_ | refine Below.alloc ?_ (by first | omega | (simp <;> omega)) _ | refine Below.setCell ?_ (by first | omega | (simp <;> omega)) _))⟩

set_option maxHeartbeats 1000000 in
set_option maxRecDepth 100000 in
theorem iPR_oneB {s a b : ByteArray} {n d : Int} {ls : List ByteArray} (hls : pcsB s ⟨#[47]⟩ = ls) (h0 : ls[0]? = some a) (hl : 1 ≤ ls.length) (h2 : ls.length ≠ 2) (hl2 : ls.length ≤ 1048577) (hpa : pI a.data.toList = some n) (ho : ratioOkV n 1 = true) (hf : fmtR n 1 ≠ s) (w : World) (ht : Tab10 w) (he : Errs w) (hs : s.size ≤ 1048576) (has : a.size ≤ 1048576) (hbs : b.size ≤ 1048576) :
    Calls Tryd.prog 16 #[.string s] w fun e w' => e = .returned (.tuple #[.agg #[.int .i64 0, .int .i64 0], .bool false]) ∧ Below w.heap.size w w' := by
  have HT := Lib.hid ht; clear ht
  have HE := Lib.hid he; clear he
  have HLS := Lib.hid hls; clear hls
  have H0 := Lib.hid h0; clear h0
  have HO := Lib.hid ho; clear ho
  have hne := str_ne hf; clear hf
  obtain ⟨f, hf⟩ : ∃ f, fmtR n 1 = f := ⟨_, rfl⟩
  rw [hf] at hne
  have HF := Lib.hid hf; clear hf
  obtain ⟨_, n1, n2⟩ := pI_some hpa
  have HP := Lib.hid hpa; clear hpa
  go_enter Tryd.func16, Tryd.ntmps16
  go_wp2_with fail
  go_at_call 43; with_reducible refine (iSplitAny_lit HLS.out _ (by omega) (by decide)).mono ?_
  rintro e wa ⟨g0, c0, rfl, hO0, hg0, hb1⟩
  obtain ⟨cA, hga⟩ := own_cell hO0 H0.out
  clear hO0
  have cc_wa0 := cell_keep (p := ⟨w.heap.size, 0, none⟩) (v := .int .i64 0) hb1 (by first | assumption | (go_keep; done) | (go_simp; done) | (simp; done)) (by first | omega | (simp <;> omega))
  have cc_wa1 := cell_keep (p := ⟨w.heap.size, 1, none⟩) (v := .int .i64 0) hb1 (by first | assumption | (go_keep; done) | (go_simp; done) | (simp; done)) (by first | omega | (simp <;> omega))
  have cf_wa0 := frozen_keep (p := ⟨w.heap.size, 0, none⟩) hb1 (by first | assumption | (go_keep; done) | (go_simp; done) | (simp; done)) (by first | omega | (simp <;> omega))
  have cf_wa1 := frozen_keep (p := ⟨w.heap.size, 1, none⟩) hb1 (by first | assumption | (go_keep; done) | (go_simp; done) | (simp; done)) (by first | omega | (simp <;> omega))
  have hS1_wa : Below w.heap.size w wa := S_below hb1 (by repeat (first | exact Below.refl _ _ | assumption | refine below_drewN ?_ _ | refine Below.drew ?_ | refine Below.alloc ?_ (by first | omega | (simp <;> omega)) _ | refine Below.setCell ?_ (by first | omega | (simp <;> omega)) _)) (by first | omega | (simp <;> omega))
  have hz1_wa : w.heap.size + 1 ≤ wa.heap.size := S_size hb1 (by first | omega | (simp <;> omega))
  have hqb_wa0 : w.heap.size < wa.heap.size := S_lt hb1 (by first | omega | (simp <;> omega))
  clear hb1
  generalize ls.length = m at *
  go_wp2_with fail
  go_at_call 44; with_reducible refine (iParseInt_lit HP.out _ (HT.out.step (by repeat (first | exact Below.refl _ _ | assumption | refine below_drewN ?_ _ | refine Below.drew ?_ | refine Below.alloc ?_ (by first | omega | (simp <;> omega)) _ | refine Below.setCell ?_ (by first | omega | (simp <;> omega)) _))) (HE.out.step (by repeat (first | exact Below.refl _ _ | assumption | refine below_drewN ?_ _ | refine Below.drew ?_ | refine Below.alloc ?_ (by first | omega | (simp <;> omega)) _ | refine Below.setCell ?_ (by first | omega | (simp <;> omega)) _))) (by omega)).mono ?_
  rintro e wb ⟨rfl, hb1⟩
  simp only [PRes]
  have cc_wb0 := cell_keep (p := ⟨w.heap.size, 0, none⟩) (v := .int .i64 0) hb1 (by first | assumption | (go_keep; done) | (go_simp; done) | (simp; done)) (by first | omega | (simp <;> omega))
  have cc_wb1 := cell_keep (p := ⟨w.heap.size, 1, none⟩) (v := .int .i64 0) hb1 (by first | assumption | (go_keep; done) | (go_simp; done) | (simp; done)) (by first | omega | (simp <;> omega))
  have cc_wb2 := cell_keep (p := ⟨g0, 0, none⟩) (v := .string a) hb1 (by first | assumption | (go_keep; done) | (go_simp; done) | (simp; done)) (by first | omega | (simp <;> omega))
  have cf_wb0 := frozen_keep (p := ⟨w.heap.size, 0, none⟩) hb1 (by first | assumption | (go_keep; done) | (go_simp; done) | (simp; done)) (by first | omega | (simp <;> omega))
  have cf_wb1 := frozen_keep (p := ⟨w.heap.size, 1, none⟩) hb1 (by first | assumption | (go_keep; done) | (go_simp; done) | (simp; done)) (by first | omega | (simp <;> omega))
  have hS1_wb : Below w.heap.size w wb := S_below hb1 (by repeat (first | exact Below.refl _ _ | assumption | refine below_drewN ?_ _ | refine Below.drew ?_ | refine Below.alloc ?_ (by first | omega | (simp <;> omega)) _ | refine Below.setCell ?_ (by first | omega | (simp <;> omega)) _)) (by first | omega | (simp <;> omega))
  have hz1_wb : w.heap.size + 1 ≤ wb.heap.size := S_size hb1 (by first | omega | (simp <;> omega))
  have hqb_wb0 : w.heap.size < wb.heap.size := S_lt hb1 (by first | omega | (simp <;> omega))
  have hqb_wb1 : g0 < wb.heap.size := S_lt hb1 (by first | omega | (simp <;> omega))
  clear hb1
  go_wp2_with (first | (go_at_call 22; with_reducible refine (iRatioOk_lit HO.out _ n1 n2).mono ?_; rintro e w1 ⟨rfl, hb1⟩; have cc0 := cell_keep (p := ⟨w.heap.size, 0, none⟩) (v := .int .i64 0) hb1 (by first | assumption | (go_keep; done) | (go_simp; done) | (simp; done)) (by first | omega | (simp <;> omega)); have cc1 := cell_keep (p := ⟨w.heap.size, 1, none⟩) (v := .int .i64 0) hb1 (by first | assumption | (go_keep; done) | (go_simp; done) | (simp; done)) (by first | omega | (simp <;> omega)); have cc2 := cell_keep (p := ⟨wb.heap.size, 0, none⟩) (v := .int .i64 n) hb1 (by first | assumption | (go_keep; done) | (go_simp; done) | (simp; done)) (by first | omega | (simp <;> omega)); have cc3 := cell_keep (p := ⟨wb.heap.size, 1, none⟩) (v := .int .i64 1) hb1 (by first | assumption | (go_keep; done) | (go_simp; done) | (simp; done)) (by first | omega | (simp <;> omega)); have cf0 := frozen_keep (p := ⟨w.heap.size, 0, none⟩) hb1 (by first | assumption | (go_keep; done) | (go_simp; done) | (simp; done)) (by first | omega | (simp <;> omega)); have cf1 := frozen_keep (p := ⟨w.heap.size, 1, none⟩) hb1 (by first | assumption | (go_keep; done) | (go_simp; done) | (simp; done)) (by first | omega | (simp <;> omega)); have hS1 : Below w.heap.size w w1 := S_below hb1 (by repeat (first | exact Below.refl _ _ | assumption | refine below_drewN ?_ _ | refine Below.drew ?_ | refine Below.alloc ?_ (by first | omega | (simp <;> omega)) _ | refine Below.setCell ?_ (by first | omega | (simp <;> omega)) _)) (by first | omega | (simp <;> omega)); have hz1 : w.heap.size + 1 ≤ w1.heap.size := S_size hb1 (by first | omega | (simp <;> omega)); have hqb0 : w.heap.size < w1.heap.size := S_lt hb1 (by first | omega | (simp <;> omega)); have hqb1 : wb.heap.size < w1.heap.size := S_lt hb1 (by first | omega | (simp <;> omega)); clear hb1) | (go_at_call 11; with_reducible refine (iFormatRatio_lit HF.out _ (HT.out.step (by repeat (first | exact Below.refl _ _ | assumption | refine below_drewN ?_ _ | refine Below.drew ?_ | refine Below.alloc ?_ (by first | omega | (simp <;> omega)) _ | refine Below.setCell ?_ (by first | omega | (simp <;> omega)) _))) n1 n2).mono ?_; rintro e w1 ⟨rfl, hb1⟩; have cc0 := cell_keep (p := ⟨w.heap.size, 0, none⟩) (v := .int .i64 0) hb1 (by first | assumption | (go_keep; done) | (go_simp; done) | (simp; done)) (by first | omega | (simp <;> omega)); have cc1 := cell_keep (p := ⟨w.heap.size, 1, none⟩) (v := .int .i64 0) hb1 (by first | assumption | (go_keep; done) | (go_simp; done) | (simp; done)) (by first | omega | (simp <;> omega)); have cc2 := cell_keep (p := ⟨wb.heap.size, 0, none⟩) (v := .int .i64 n) hb1 (by first | assumption | (go_keep; done) | (go_simp; done) | (simp; done)) (by first | omega | (simp <;> omega)); have cc3 := cell_keep (p := ⟨wb.heap.size, 1, none⟩) (v := .int .i64 1) hb1 (by first | assumption | (go_keep; done) | (go_simp; done) | (simp; done)) (by first | omega | (simp <;> omega)); have cf0 := frozen_keep (p := ⟨w.heap.size, 0, none⟩) hb1 (by first | assumption | (go_keep; done) | (go_simp; done) | (simp; done)) (by first | omega | (simp <;> omega)); have cf1 := frozen_keep (p := ⟨w.heap.size, 1, none⟩) hb1 (by first | assumption | (go_keep; done) | (go_simp; done) | (simp; done)) (by first | omega | (simp <;> omega)); have hS1 : Below w.heap.size w w1 := S_below hb1 (by repeat (first | exact Below.refl _ _ | assumption | refine below_drewN ?_ _ | refine Below.drew ?_ | refine Below.alloc ?_ (by first | omega | (simp <;> omega)) _ | refine Below.setCell ?_ (by first | omega | (simp <;> omega)) _)) (by first | omega | (simp <;> omega)); have hz1 : w.heap.size + 1 ≤ w1.heap.size := S_size hb1 (by first | omega | (simp <;> omega)); have hqb0 : w.heap.size < w1.heap.size := S_lt hb1 (by first | omega | (simp <;> omega)); have hqb1 : wb.heap.size < w1.heap.size := S_lt hb1 (by first | omega | (simp <;> omega)); clear hb1))
  exact bodyPost_ret (v := .tuple #[.agg #[.int .i64 0, .int .i64 0], .bool false]) (by simp [results, Tryd.results16, go_sem, set_0 cc0, set2_1 cc1]) rfl ⟨rfl, (by repeat (first | exact Below.refl _ _ | assumption | refine below_drewN ?_ _ | refine Below.drew ?_ | refine Below.alloc ?_ (by first | omega | (simp <;> omega)) _ | refine Below.setCell ?_ (by first | omega | (simp <;> omega)) _))⟩

set_option maxHeartbeats 1000000 in
set_option maxRecDepth 100000 in
theorem iPR_oneC {s a b : ByteArray} {n d : Int} {ls : List ByteArray} (hls : pcsB s ⟨#[47]⟩ = ls) (h0 : ls[0]? = some a) (hl : 1 ≤ ls.length) (h2 : ls.length ≠ 2) (hl2 : ls.length ≤ 1048577) (hpa : pI a.data.toList = some n) (ho : ratioOkV n 1 = true) (hf : fmtR n 1 = s) (w : World) (ht : Tab10 w) (he : Errs w) (hs : s.size ≤ 1048576) (has : a.size ≤ 1048576) (hbs : b.size ≤ 1048576) :
    Calls Tryd.prog 16 #[.string s] w fun e w' => e = .returned (.tuple #[.agg #[.int .i64 n, .int .i64 1], .bool true]) ∧ Below w.heap.size w w' := by
  have HT := Lib.hid ht; clear ht
  have HE := Lib.hid he; clear he
  have HLS := Lib.hid hls; clear hls
  have H0 := Lib.hid h0; clear h0
  have HO := Lib.hid ho; clear ho
  have HF := Lib.hid hf; clear hf
  obtain ⟨_, n1, n2⟩ := pI_some hpa
  have HP := Lib.hid hpa; clear hpa
  go_enter Tryd.func16, Tryd.ntmps16
  go_wp2_with fail
  go_at_call 43; with_reducible refine (iSplitAny_lit HLS.out _ (by omega) (by decide)).mono ?_
  rintro e wa ⟨g0, c0, rfl, hO0, hg0, hb1⟩
  obtain ⟨cA, hga⟩ := own_cell hO0 H0.out
  clear hO0
  have cc_wa0 := cell_keep (p := ⟨w.heap.size, 0, none⟩) (v := .int .i64 0) hb1 (by first | assumption | (go_keep; done) | (go_simp; done) | (simp; done)) (by first | omega | (simp <;> omega))
  have cc_wa1 := cell_keep (p := ⟨w.heap.size, 1, none⟩) (v := .int .i64 0) hb1 (by first | assumption | (go_keep; done) | (go_simp; done) | (simp; done)) (by first | omega | (simp <;> omega))
  have cf_wa0 := frozen_keep (p := ⟨w.heap.size, 0, none⟩) hb1 (by first | assumption | (go_keep; done) | (go_simp; done) | (simp; done)) (by first | omega | (simp <;> omega))
  have cf_wa1 := frozen_keep (p := ⟨w.heap.size, 1, none⟩) hb1 (by first | assumption | (go_keep; done) | (go_simp; done) | (simp; done)) (by first | omega | (simp <;> omega))
  have hS1_wa : Below w.heap.size w wa := S_below hb1 (by repeat (first | exact Below.refl _ _ | assumption | refine below_drewN ?_ _ | refine Below.drew ?_ | refine Below.alloc ?_ (by first | omega | (simp <;> omega)) _ | refine Below.setCell ?_ (by first | omega | (simp <;> omega)) _)) (by first | omega | (simp <;> omega))
  have hz1_wa : w.heap.size + 1 ≤ wa.heap.size := S_size hb1 (by first | omega | (simp <;> omega))
  have hqb_wa0 : w.heap.size < wa.heap.size := S_lt hb1 (by first | omega | (simp <;> omega))
  clear hb1
  generalize ls.length = m at *
  go_wp2_with fail
  go_at_call 44; with_reducible refine (iParseInt_lit HP.out _ (HT.out.step (by repeat (first | exact Below.refl _ _ | assumption | refine below_drewN ?_ _ | refine Below.drew ?_ | refine Below.alloc ?_ (by first | omega | (simp <;> omega)) _ | refine Below.setCell ?_ (by first | omega | (simp <;> omega)) _))) (HE.out.step (by repeat (first | exact Below.refl _ _ | assumption | refine below_drewN ?_ _ | refine Below.drew ?_ | refine Below.alloc ?_ (by first | omega | (simp <;> omega)) _ | refine Below.setCell ?_ (by first | omega | (simp <;> omega)) _))) (by omega)).mono ?_
  rintro e wb ⟨rfl, hb1⟩
  simp only [PRes]
  have cc_wb0 := cell_keep (p := ⟨w.heap.size, 0, none⟩) (v := .int .i64 0) hb1 (by first | assumption | (go_keep; done) | (go_simp; done) | (simp; done)) (by first | omega | (simp <;> omega))
  have cc_wb1 := cell_keep (p := ⟨w.heap.size, 1, none⟩) (v := .int .i64 0) hb1 (by first | assumption | (go_keep; done) | (go_simp; done) | (simp; done)) (by first | omega | (simp <;> omega))
  have cc_wb2 := cell_keep (p := ⟨g0, 0, none⟩) (v := .string a) hb1 (by first | assumption | (go_keep; done) | (go_simp; done) | (simp; done)) (by first | omega | (simp <;> omega))
  have cf_wb0 := frozen_keep (p := ⟨w.heap.size, 0, none⟩) hb1 (by first | assumption | (go_keep; done) | (go_simp; done) | (simp; done)) (by first | omega | (simp <;> omega))
  have cf_wb1 := frozen_keep (p := ⟨w.heap.size, 1, none⟩) hb1 (by first | assumption | (go_keep; done) | (go_simp; done) | (simp; done)) (by first | omega | (simp <;> omega))
  have hS1_wb : Below w.heap.size w wb := S_below hb1 (by repeat (first | exact Below.refl _ _ | assumption | refine below_drewN ?_ _ | refine Below.drew ?_ | refine Below.alloc ?_ (by first | omega | (simp <;> omega)) _ | refine Below.setCell ?_ (by first | omega | (simp <;> omega)) _)) (by first | omega | (simp <;> omega))
  have hz1_wb : w.heap.size + 1 ≤ wb.heap.size := S_size hb1 (by first | omega | (simp <;> omega))
  have hqb_wb0 : w.heap.size < wb.heap.size := S_lt hb1 (by first | omega | (simp <;> omega))
  have hqb_wb1 : g0 < wb.heap.size := S_lt hb1 (by first | omega | (simp <;> omega))
  clear hb1
  go_wp2_with (first | (go_at_call 22; with_reducible refine (iRatioOk_lit HO.out _ n1 n2).mono ?_; rintro e w1 ⟨rfl, hb1⟩; have cc0 := cell_keep (p := ⟨w.heap.size, 0, none⟩) (v := .int .i64 0) hb1 (by first | assumption | (go_keep; done) | (go_simp; done) | (simp; done)) (by first | omega | (simp <;> omega)); have cc1 := cell_keep (p := ⟨w.heap.size, 1, none⟩) (v := .int .i64 0) hb1 (by first | assumption | (go_keep; done) | (go_simp; done) | (simp; done)) (by first | omega | (simp <;> omega)); have cc2 := cell_keep (p := ⟨wb.heap.size, 0, none⟩) (v := .int .i64 n) hb1 (by first | assumption | (go_keep; done) | (go_simp; done) | (simp; done)) (by first | omega | (simp <;> omega)); have cc3 := cell_keep (p := ⟨wb.heap.size, 1, none⟩) (v := .int .i64 1) hb1 (by first | assumption | (go_keep; done) | (go_simp; done) | (simp; done)) (by first | omega | (simp <;> omega)); have cf0 := frozen_keep (p := ⟨w.heap.size, 0, none⟩) hb1 (by first | assumption | (go_keep; done) | (go_simp; done) | (simp; done)) (by first | omega | (simp <;> omega)); have cf1 := frozen_keep (p := ⟨w.heap.size, 1, none⟩) hb1 (by first | assumption | (go_keep; done) | (go_simp; done) | (simp; done)) (by first | omega | (simp <;> omega)); have hS1 : Below w.heap.size w w1 := S_below hb1 (by repeat (first | exact Below.refl _ _ | assumption | refine below_drewN ?_ _ | refine Below.drew ?_ | refine Below.alloc ?_ (by first | omega | (simp <;> omega)) _ | refine Below.setCell ?_ (by first | omega | (simp <;> omega)) _)) (by first | omega | (simp <;> omega)); have hz1 : w.heap.size + 1 ≤ w1.heap.size := S_size hb1 (by first | omega | (simp <;> omega)); have hqb0 : w.heap.size < w1.heap.size := S_lt hb1 (by first | omega | (simp <;> omega)); have hqb1 : wb.heap.size < w1.heap.size := S_lt hb1 (by first | omega | (simp <;> omega)); clear hb1) | (go_at_call 11; with_reducible refine (iFormatRatio_lit HF.out _ (HT.out.step (by repeat (first | exact Below.refl _ _ | assumption | refine below_drewN ?_ _ | refine Below.drew ?_ | refine Below.alloc ?_ (by first | omega | (simp <;> omega)) _ | refine Below.setCell ?_ (by first | omega | (simp <;> omega)) _))) n1 n2).mono ?_; rintro e w1 ⟨rfl, hb1⟩; have cc0 := cell_keep (p := ⟨w.heap.size, 0, none⟩) (v := .int .i64 0) hb1 (by first | assumption | (go_keep; done) | (go_simp; done) | (simp; done)) (by first | omega | (simp <;> omega)); have cc1 := cell_keep (p := ⟨w.heap.size, 1, none⟩) (v := .int .i64 0) hb1 (by first | assumption | (go_keep; done) | (go_simp; done) | (simp; done)) (by first | omega | (simp <;> omega)); have cc2 := cell_keep (p := ⟨wb.heap.size, 0, none⟩) (v := .int .i64 n) hb1 (by first | assumption | (go_keep; done) | (go_simp; done) | (simp; done)) (by first | omega | (simp <;> omega)); have cc3 := cell_keep (p := ⟨wb.heap.size, 1, none⟩) (v := .int .i64 1) hb1 (by first | assumption | (go_keep; done) | (go_simp; done) | (simp; done)) (by first | omega | (simp <;> omega)); have cf0 := frozen_keep (p := ⟨w.heap.size, 0, none⟩) hb1 (by first | assumption | (go_keep; done) | (go_simp; done) | (simp; done)) (by first | omega | (simp <;> omega)); have cf1 := frozen_keep (p := ⟨w.heap.size, 1, none⟩) hb1 (by first | assumption | (go_keep; done) | (go_simp; done) | (simp; done)) (by first | omega | (simp <;> omega)); have hS1 : Below w.heap.size w w1 := S_below hb1 (by repeat (first | exact Below.refl _ _ | assumption | refine below_drewN ?_ _ | refine Below.drew ?_ | refine Below.alloc ?_ (by first | omega | (simp <;> omega)) _ | refine Below.setCell ?_ (by first | omega | (simp <;> omega)) _)) (by first | omega | (simp <;> omega)); have hz1 : w.heap.size + 1 ≤ w1.heap.size := S_size hb1 (by first | omega | (simp <;> omega)); have hqb0 : w.heap.size < w1.heap.size := S_lt hb1 (by first | omega | (simp <;> omega)); have hqb1 : wb.heap.size < w1.heap.size := S_lt hb1 (by first | omega | (simp <;> omega)); clear hb1))
  exact bodyPost_ret (v := .tuple #[.agg #[.int .i64 n, .int .i64 1], .bool true]) (by simp [results, Tryd.results16, go_sem, set_0 cc0, set2_1 cc1]) rfl ⟨rfl, (by repeat (first | exact Below.refl _ _ | assumption | refine below_drewN ?_ _ | refine Below.drew ?_ | refine Below.alloc ?_ (by first | omega | (simp <;> omega)) _ | refine Below.setCell ?_ (by first | omega | (simp <;> omega)) _))⟩

set_option maxHeartbeats 1000000 in
set_option maxRecDepth 100000 in
theorem iPR_twoA {s a b : ByteArray} {n d : Int} {ls : List ByteArray} (hls : pcsB s ⟨#[47]⟩ = ls) (h0 : ls[0]? = some a) (h1 : ls[1]? = some b) (hl : ls.length = 2) (hpa : pI a.data.toList = some n) (hpb : pI b.data.toList = some d) (ho : ratioOkV n d = false) (w : World) (ht : Tab10 w) (he : Errs w) (hs : s.size ≤ 1048576) (has : a.size ≤ 1048576) (hbs : b.size ≤ 1048576) :
    Calls Tryd.prog 16 #[.string s] w fun e w' => e = .returned (.tuple #[.agg #[.int .i64 0, .int .i64 0], .bool false]) ∧ Below w.heap.size w w' := by
  have HT := Lib.hid ht; clear ht
  have HE := Lib.hid he; clear he
  have HLS := Lib.hid hls; clear hls
  have H0 := Lib.hid h0; clear h0
  have HO := Lib.hid ho; clear ho
  have H1 := Lib.hid h1; clear h1
  obtain ⟨_, n1, n2⟩ := pI_some hpa
  have HP := Lib.hid hpa; clear hpa
  obtain ⟨_, d1, d2⟩ := pI_some hpb
  have HQ := Lib.hid hpb; clear hpb
  go_enter Tryd.func16, Tryd.ntmps16
  go_wp2_with fail
  go_at_call 43; with_reducible refine (iSplitAny_lit HLS.out _ (by omega) (by decide)).mono ?_
  rintro e wa ⟨g0, c0, rfl, hO0, hg0, hb1⟩
  obtain ⟨cA, hga⟩ := own_cell hO0 H0.out
  obtain ⟨cB, _⟩ := own_cell hO0 H1.out
  clear hO0
  have cc_wa0 := cell_keep (p := ⟨w.heap.size, 0, none⟩) (v := .int .i64 0) hb1 (by first | assumption | (go_keep; done) | (go_simp; done) | (simp; done)) (by first | omega | (simp <;> omega))
  have cc_wa1 := cell_keep (p := ⟨w.heap.size, 1, none⟩) (v := .int .i64 0) hb1 (by first | assumption | (go_keep; done) | (go_simp; done) | (simp; done)) (by first | omega | (simp <;> omega))
  have cf_wa0 := frozen_keep (p := ⟨w.heap.size, 0, none⟩) hb1 (by first | assumption | (go_keep; done) | (go_simp; done) | (simp; done)) (by first | omega | (simp <;> omega))
  have cf_wa1 := frozen_keep (p := ⟨w.heap.size, 1, none⟩) hb1 (by first | assumption | (go_keep; done) | (go_simp; done) | (simp; done)) (by first | omega | (simp <;> omega))
  have hS1_wa : Below w.heap.size w wa := S_below hb1 (by repeat (first | exact Below.refl _ _ | assumption | refine below_drewN ?_ _ | refine Below.drew ?_ | refine Below.alloc ?_ (by first | omega | (simp <;> omega)) _ | refine Below.setCell ?_ (by first | omega | (simp <;> omega)) _)) (by first | omega | (simp <;> omega))
  have hz1_wa : w.heap.size + 1 ≤ wa.heap.size := S_size hb1 (by first | omega | (simp <;> omega))
  have hqb_wa0 : w.heap.size < wa.heap.size := S_lt hb1 (by first | omega | (simp <;> omega))
  clear hb1
  generalize ls.length = m at *
  subst hl
  go_wp2_with fail
  go_at_call 44; with_reducible refine (iParseInt_lit HP.out _ (HT.out.step (by repeat (first | exact Below.refl _ _ | assumption | refine below_drewN ?_ _ | refine Below.drew ?_ | refine Below.alloc ?_ (by first | omega | (simp <;> omega)) _ | refine Below.setCell ?_ (by first | omega | (simp <;> omega)) _))) (HE.out.step (by repeat (first | exact Below.refl _ _ | assumption | refine below_drewN ?_ _ | refine Below.drew ?_ | refine Below.alloc ?_ (by first | omega | (simp <;> omega)) _ | refine Below.setCell ?_ (by first | omega | (simp <;> omega)) _))) (by omega)).mono ?_
  rintro e wb ⟨rfl, hb1⟩
  simp only [PRes]
  have cc_wb0 := cell_keep (p := ⟨w.heap.size, 0, none⟩) (v := .int .i64 0) hb1 (by first | assumption | (go_keep; done) | (go_simp; done) | (simp; done)) (by first | omega | (simp <;> omega))
  have cc_wb1 := cell_keep (p := ⟨w.heap.size, 1, none⟩) (v := .int .i64 0) hb1 (by first | assumption | (go_keep; done) | (go_simp; done) | (simp; done)) (by first | omega | (simp <;> omega))
  have cc_wb2 := cell_keep (p := ⟨g0, 0, none⟩) (v := .string a) hb1 (by first | assumption | (go_keep; done) | (go_simp; done) | (simp; done)) (by first | omega | (simp <;> omega))
  have cc_wb3 := cell_keep (p := ⟨g0, 1, none⟩) (v := .string b) hb1 (by first | assumption | (go_keep; done) | (go_simp; done) | (simp; done)) (by first | omega | (simp <;> omega))
  have cf_wb0 := frozen_keep (p := ⟨w.heap.size, 0, none⟩) hb1 (by first | assumption | (go_keep; done) | (go_simp; done) | (simp; done)) (by first | omega | (simp <;> omega))
  have cf_wb1 := frozen_keep (p := ⟨w.heap.size, 1, none⟩) hb1 (by first | assumption | (go_keep; done) | (go_simp; done) | (simp; done)) (by first | omega | (simp <;> omega))
  have hS1_wb : Below w.heap.size w wb := S_below hb1 (by repeat (first | exact Below.refl _ _ | assumption | refine below_drewN ?_ _ | refine Below.drew ?_ | refine Below.alloc ?_ (by first | omega | (simp <;> omega)) _ | refine Below.setCell ?_ (by first | omega | (simp <;> omega)) _)) (by first | omega | (simp <;> omega))
  have hz1_wb : w.heap.size + 1 ≤ wb.heap.size := S_size hb1 (by first | omega | (simp <;> omega))
  have hqb_wb0 : w.heap.size < wb.heap.size := S_lt hb1 (by first | omega | (simp <;> omega))
  have hqb_wb1 : g0 < wb.heap.size := S_lt hb1 (by first | omega | (simp <;> omega))
  clear hb1
  go_wp2_with fail
  go_at_call 44; with_reducible refine (iParseInt_lit HQ.out _ (HT.out.step (by repeat (first | exact Below.refl _ _ | assumption | refine below_drewN ?_ _ | refine Below.drew ?_ | refine Below.alloc ?_ (by first | omega | (simp <;> omega)) _ | refine Below.setCell ?_ (by first | omega | (simp <;> omega)) _))) (HE.out.step (by repeat (first | exact Below.refl _ _ | assumption | refine below_drewN ?_ _ | refine Below.drew ?_ | refine Below.alloc ?_ (by first | omega | (simp <;> omega)) _ | refine Below.setCell ?_ (by first | omega | (simp <;> omega)) _))) (by omega)).mono ?_
  rintro e wc ⟨rfl, hb1⟩
  simp only [PRes]
  have cc_wc0 := cell_keep (p := ⟨w.heap.size, 0, none⟩) (v := .int .i64 0) hb1 (by first | assumption | (go_keep; done) | (go_simp; done) | (simp; done)) (by first | omega | (simp <;> omega))
  have cc_wc1 := cell_keep (p := ⟨w.heap.size, 1, none⟩) (v := .int .i64 0) hb1 (by first | assumption | (go_keep; done) | (go_simp; done) | (simp; done)) (by first | omega | (simp <;> omega))
  have cc_wc2 := cell_keep (p := ⟨wb.heap.size, 0, none⟩) (v := .int .i64 n) hb1 (by first | assumption | (go_keep; done) | (go_simp; done) | (simp; done)) (by first | omega | (simp <;> omega))
  have cc_wc3 := cell_keep (p := ⟨wb.heap.size, 1, none⟩) (v := .int .i64 1) hb1 (by first | assumption | (go_keep; done) | (go_simp; done) | (simp; done)) (by first | omega | (simp <;> omega))
  have cf_wc0 := frozen_keep (p := ⟨w.heap.size, 0, none⟩) hb1 (by first | assumption | (go_keep; done) | (go_simp; done) | (simp; done)) (by first | omega | (simp <;> omega))
  have cf_wc1 := frozen_keep (p := ⟨w.heap.size, 1, none⟩) hb1 (by first | assumption | (go_keep; done) | (go_simp; done) | (simp; done)) (by first | omega | (simp <;> omega))
  have cf_wc3 := frozen_keep (p := ⟨wb.heap.size, 1, none⟩) hb1 (by first | assumption | (go_keep; done) | (go_simp; done) | (simp; done)) (by first | omega | (simp <;> omega))
  have hS1_wc : Below w.heap.size w wc := S_below hb1 (by repeat (first | exact Below.refl _ _ | assumption | refine below_drewN ?_ _ | refine Below.drew ?_ | refine Below.alloc ?_ (by first | omega | (simp <;> omega)) _ | refine Below.setCell ?_ (by first | omega | (simp <;> omega)) _)) (by first | omega | (simp <;> omega))
  have hz1_wc : w.heap.size + 1 ≤ wc.heap.size := S_size hb1 (by first | omega | (simp <;> omega))
  have hqb_wc0 : w.heap.size < wc.heap.size := S_lt hb1 (by first | omega | (simp <;> omega))
  have hqb_wc1 : wb.heap.size < wc.heap.size := S_lt hb1 (by first | omega | (simp <;> omega))
  clear hb1
  go_wp2_with (first | (go_at_call 22; with_reducible refine (iRatioOk_lit HO.out _ n1 n2).mono ?_; rintro e w1 ⟨rfl, hb1⟩; have cc0 := cell_keep (p := ⟨w.heap.size, 0, none⟩) (v := .int .i64 0) hb1 (by first | assumption | (go_keep; done) | (go_simp; done) | (simp; done)) (by first | omega | (simp <;> omega)); have cc1 := cell_keep (p := ⟨w.heap.size, 1, none⟩) (v := .int .i64 0) hb1 (by first | assumption | (go_keep; done) | (go_simp; done) | (simp; done)) (by first | omega | (simp <;> omega)); have cc2 := cell_keep (p := ⟨wb.heap.size, 0, none⟩) (v := .int .i64 n) hb1 (by first | assumption | (go_keep; done) | (go_simp; done) | (simp; done)) (by first | omega | (simp <;> omega)); have cc3 := cell_keep (p := ⟨wb.heap.size, 1, none⟩) (v := .int .i64 d) hb1 (by first | assumption | (go_keep; done) | (go_simp; done) | (simp; done)) (by first | omega | (simp <;> omega)); have cf0 := frozen_keep (p := ⟨w.heap.size, 0, none⟩) hb1 (by first | assumption | (go_keep; done) | (go_simp; done) | (simp; done)) (by first | omega | (simp <;> omega)); have cf1 := frozen_keep (p := ⟨w.heap.size, 1, none⟩) hb1 (by first | assumption | (go_keep; done) | (go_simp; done) | (simp; done)) (by first | omega | (simp <;> omega)); have hS1 : Below w.heap.size w w1 := S_below hb1 (by repeat (first | exact Below.refl _ _ | assumption | refine below_drewN ?_ _ | refine Below.drew ?_ | refine Below.alloc ?_ (by first | omega | (simp <;> omega)) _ | refine Below.setCell ?_ (by first | omega | (simp <;> omega)) _)) (by first | omega | (simp <;> omega)); have hz1 : w.heap.size + 1 ≤ w1.heap.size := S_size hb1 (by first | omega | (simp <;> omega)); have hqb0 : w.heap.size < w1.heap.size := S_lt hb1 (by first | omega | (simp <;> omega)); have hqb1 : wb.heap.size < w1.heap.size := S_lt hb1 (by first | omega | (simp <;> omega)); clear hb1))
  exact bodyPost_ret (v := .tuple #[.agg #[.int .i64 0, .int .i64 0], .bool false]) (by simp [results, Tryd.results16, go_sem, set_0 cc0, set2_1 cc1]) rfl ⟨rfl, (by repeat (first | exact Below.refl _ _ | assumption | refine below_drewN ?_ _ | refine Below.drew ?_ | refine Below.alloc ?_ (by first | omega | (simp <;> omega)) _ | refine Below.setCell ?_ (by first | omega | (simp <;> omega)) _))⟩

set_option maxHeartbeats 1000000 in
set_option maxRecDepth 100000 in
theorem iPR_twoB {s a b : ByteArray} {n d : Int} {ls : List ByteArray} (hls : pcsB s ⟨#[47]⟩ = ls) (h0 : ls[0]? = some a) (h1 : ls[1]? = some b) (hl : ls.length = 2) (hpa : pI a.data.toList = some n) (hpb : pI b.data.toList = some d) (ho : ratioOkV n d = true) (hf : fmtR n d ≠ s) (w : World) (ht : Tab10 w) (he : Errs w) (hs : s.size ≤ 1048576) (has : a.size ≤ 1048576) (hbs : b.size ≤ 1048576) :
    Calls Tryd.prog 16 #[.string s] w fun e w' => e = .returned (.tuple #[.agg #[.int .i64 0, .int .i64 0], .bool false]) ∧ Below w.heap.size w w' := by
  have HT := Lib.hid ht; clear ht
  have HE := Lib.hid he; clear he
  have HLS := Lib.hid hls; clear hls
  have H0 := Lib.hid h0; clear h0
  have HO := Lib.hid ho; clear ho
  have hne := str_ne hf; clear hf
  obtain ⟨f, hf⟩ : ∃ f, fmtR n d = f := ⟨_, rfl⟩
  rw [hf] at hne
  have HF := Lib.hid hf; clear hf
  have H1 := Lib.hid h1; clear h1
  obtain ⟨_, n1, n2⟩ := pI_some hpa
  have HP := Lib.hid hpa; clear hpa
  obtain ⟨_, d1, d2⟩ := pI_some hpb
  have HQ := Lib.hid hpb; clear hpb
  go_enter Tryd.func16, Tryd.ntmps16
  go_wp2_with fail
  go_at_call 43; with_reducible refine (iSplitAny_lit HLS.out _ (by omega) (by decide)).mono ?_
  rintro e wa ⟨g0, c0, rfl, hO0, hg0, hb1⟩
  obtain ⟨cA, hga⟩ := own_cell hO0 H0.out
  obtain ⟨cB, _⟩ := own_cell hO0 H1.out
  clear hO0
  have cc_wa0 := cell_keep (p := ⟨w.heap.size, 0, none⟩) (v := .int .i64 0) hb1 (by first | assumption | (go_keep; done) | (go_simp; done) | (simp; done)) (by first | omega | (simp <;> omega))
  have cc_wa1 := cell_keep (p := ⟨w.heap.size, 1, none⟩) (v := .int .i64 0) hb1 (by first | assumption | (go_keep; done) | (go_simp; done) | (simp; done)) (by first | omega | (simp <;> omega))
  have cf_wa0 := frozen_keep (p := ⟨w.heap.size, 0, none⟩) hb1 (by first | assumption | (go_keep; done) | (go_simp; done) | (simp; done)) (by first | omega | (simp <;> omega))
  have cf_wa1 := frozen_keep (p := ⟨w.heap.size, 1, none⟩) hb1 (by first | assumption | (go_keep; done) | (go_simp; done) | (simp; done)) (by first | omega | (simp <;> omega))
  have hS1_wa : Below w.heap.size w wa := S_below hb1 (by repeat (first | exact Below.refl _ _ | assumption | refine below_drewN ?_ _ | refine Below.drew ?_ | refine Below.alloc ?_ (by first | omega | (simp <;> omega)) _ | refine Below.setCell ?_ (by first | omega | (simp <;> omega)) _)) (by first | omega | (simp <;> omega))
  have hz1_wa : w.heap.size + 1 ≤ wa.heap.size := S_size hb1 (by first | omega | (simp <;> omega))
  have hqb_wa0 : w.heap.size < wa.heap.size := S_lt hb1 (by first | omega | (simp <;> omega))
  clear hb1
  generalize ls.length = m at *
  subst hl
  go_wp2_with fail
  go_at_call 44; with_reducible refine (iParseInt_lit HP.out _ (HT.out.step (by repeat (first | exact Below.refl _ _ | assumption | refine below_drewN ?_ _ | refine Below.drew ?_ | refine Below.alloc ?_ (by first | omega | (simp <;> omega)) _ | refine Below.setCell ?_ (by first | omega | (simp <;> omega)) _))) (HE.out.step (by repeat (first | exact Below.refl _ _ | assumption | refine below_drewN ?_ _ | refine Below.drew ?_ | refine Below.alloc ?_ (by first | omega | (simp <;> omega)) _ | refine Below.setCell ?_ (by first | omega | (simp <;> omega)) _))) (by omega)).mono ?_
  rintro e wb ⟨rfl, hb1⟩
  simp only [PRes]
  have cc_wb0 := cell_keep (p := ⟨w.heap.size, 0, none⟩) (v := .int .i64 0) hb1 (by first | assumption | (go_keep; done) | (go_simp; done) | (simp; done)) (by first | omega | (simp <;> omega))
  have cc_wb1 := cell_keep (p := ⟨w.heap.size, 1, none⟩) (v := .int .i64 0) hb1 (by first | assumption | (go_keep; done) | (go_simp; done) | (simp; done)) (by first | omega | (simp <;> omega))
  have cc_wb2 := cell_keep (p := ⟨g0, 0, none⟩) (v := .string a) hb1 (by first | assumption | (go_keep; done) | (go_simp; done) | (simp; done)) (by first | omega | (simp <;> omega))
  have cc_wb3 := cell_keep (p := ⟨g0, 1, none⟩) (v := .string b) hb1 (by first | assumption | (go_keep; done) | (go_simp; done) | (simp; done)) (by first | omega | (simp <;> omega))
  have cf_wb0 := frozen_keep (p := ⟨w.heap.size, 0, none⟩) hb1 (by first | assumption | (go_keep; done) | (go_simp; done) | (simp; done)) (by first | omega | (simp <;> omega))
  have cf_wb1 := frozen_keep (p := ⟨w.heap.size, 1, none⟩) hb1 (by first | assumption | (go_keep; done) | (go_simp; done) | (simp; done)) (by first | omega | (simp <;> omega))
  have hS1_wb : Below w.heap.size w wb := S_below hb1 (by repeat (first | exact Below.refl _ _ | assumption | refine below_drewN ?_ _ | refine Below.drew ?_ | refine Below.alloc ?_ (by first | omega | (simp <;> omega)) _ | refine Below.setCell ?_ (by first | omega | (simp <;> omega)) _)) (by first | omega | (simp <;> omega))
  have hz1_wb : w.heap.size + 1 ≤ wb.heap.size := S_size hb1 (by first | omega | (simp <;> omega))
  have hqb_wb0 : w.heap.size < wb.heap.size := S_lt hb1 (by first | omega | (simp <;> omega))
  have hqb_wb1 : g0 < wb.heap.size := S_lt hb1 (by first | omega | (simp <;> omega))
  clear hb1
  go_wp2_with fail
  go_at_call 44; with_reducible refine (iParseInt_lit HQ.out _ (HT.out.step (by repeat (first | exact Below.refl _ _ | assumption | refine below_drewN ?_ _ | refine Below.drew ?_ | refine Below.alloc ?_ (by first | omega | (simp <;> omega)) _ | refine Below.setCell ?_ (by first | omega | (simp <;> omega)) _))) (HE.out.step (by repeat (first | exact Below.refl _ _ | assumption | refine below_drewN ?_ _ | refine Below.drew ?_ | refine Below.alloc ?_ (by first | omega | (simp <;> omega)) _ | refine Below.setCell ?_ (by first | omega | (simp <;> omega)) _))) (by omega)).mono ?_
  rintro e wc ⟨rfl, hb1⟩
  simp only [PRes]
  have cc_wc0 := cell_keep (p := ⟨w.heap.size, 0, none⟩) (v := .int .i64 0) hb1 (by first | assumption | (go_keep; done) | (go_simp; done) | (simp; done)) (by first | omega | (simp <;> omega))
  have cc_wc1 := cell_keep (p := ⟨w.heap.size, 1, none⟩) (v := .int .i64 0) hb1 (by first | assumption | (go_keep; done) | (go_simp; done) | (simp; done)) (by first | omega | (simp <;> omega))
  have cc_wc2 := cell_keep (p := ⟨wb.heap.size, 0, none⟩) (v := .int .i64 n) hb1 (by first | assumption | (go_keep; done) | (go_simp; done) | (simp; done)) (by first | omega | (simp <;> omega))
  have cc_wc3 := cell_keep (p := ⟨wb.heap.size, 1, none⟩) (v := .int .i64 1) hb1 (by first | assumption | (go_keep; done) | (go_simp; done) | (simp; done)) (by first | omega | (simp <;> omega))
  have cf_wc0 := frozen_keep (p := ⟨w.heap.size, 0, none⟩) hb1 (by first | assumption | (go_keep; done) | (go_simp; done) | (simp; done)) (by first | omega | (simp <;> omega))
  have cf_wc1 := frozen_keep (p := ⟨w.heap.size, 1, none⟩) hb1 (by first | assumption | (go_keep; done) | (go_simp; done) | (simp; done)) (by first | omega | (simp <;> omega))
  have cf_wc3 := frozen_keep (p := ⟨wb.heap.size, 1, none⟩) hb1 (by first | assumption | (go_keep; done) | (go_simp; done) | (simp; done)) (by first | omega | (simp <;> omega))
  have hS1_wc : Below w.heap.size w wc := S_below hb1 (by repeat (first | exact Below.refl _ _ | assumption | refine below_drewN ?_ _ | refine Below.drew ?_ | refine Below.alloc ?_ (by first | omega | (simp <;> omega)) _ | refine Below.setCell ?_ (by first | omega | (simp <;> omega)) _)) (by first | omega | (simp <;> omega))
  have hz1_wc : w.heap.size + 1 ≤ wc.heap.size := S_size hb1 (by first | omega | (simp <;> omega))
  have hqb_wc0 : w.heap.size < wc.heap.size := S_lt hb1 (by first | omega | (simp <;> omega))
  have hqb_wc1 : wb.heap.size < wc.heap.size := S_lt hb1 (by first | omega | (simp <;> omega))
  clear hb1
  go_wp2_with (first | (go_at_call 22; with_reducible refine (iRatioOk_lit HO.out _ n1 n2).mono ?_; rintro e w1 ⟨rfl, hb1⟩; have cc0 := cell_keep (p := ⟨w.heap.size, 0, none⟩) (v := .int .i64 0) hb1 (by first | assumption | (go_keep; done) | (go_simp; done) | (simp; done)) (by first | omega | (simp <;> omega)); have cc1 := cell_keep (p := ⟨w.heap.size, 1, none⟩) (v := .int .i64 0) hb1 (by first | assumption | (go_keep; done) | (go_simp; done) | (simp; done)) (by first | omega | (simp <;> omega)); have cc2 := cell_keep (p := ⟨wb.heap.size, 0, none⟩) (v := .int .i64 n) hb1 (by first | assumption | (go_keep; done) | (go_simp; done) | (simp; done)) (by first | omega | (simp <;> omega)); have cc3 := cell_keep (p := ⟨wb.heap.size, 1, none⟩) (v := .int .i64 d) hb1 (by first | assumption | (go_keep; done) | (go_simp; done) | (simp; done)) (by first | omega | (simp <;> omega)); have cf0 := frozen_keep (p := ⟨w.heap.size, 0, none⟩) hb1 (by first | assumption | (go_keep; done) | (go_simp; done) | (simp; done)) (by first | omega | (simp <;> omega)); have cf1 := frozen_keep (p := ⟨w.heap.size, 1, none⟩) hb1 (by first | assumption | (go_keep; done) | (go_simp; done) | (simp; done)) (by first | omega | (simp <;> omega)); have hS1 : Below w.heap.size w w1 := S_below hb1 (by repeat (first | exact Below.refl _ _ | assumption | refine below_drewN ?_ _ | refine Below.drew ?_ | refine Below.alloc ?_ (by first | omega | (simp <;> omega)) _ | refine Below.setCell ?_ (by first | omega | (simp <;> omega)) _)) (by first | omega | (simp <;> omega)); have hz1 : w.heap.size + 1 ≤ w1.heap.size := S_size hb1 (by first | omega | (simp <;> omega)); have hqb0 : w.heap.size < w1.heap.size := S_lt hb1 (by first | omega | (simp <;> omega)); have hqb1 : wb.heap.size < w1.heap.size := S_lt hb1 (by first | omega | (simp <;> omega)); clear hb1) | (go_at_call 11; with_reducible refine (iFormatRatio_lit HF.out _ (HT.out.step (by repeat (first | exact Below.refl _ _ | assumption | refine below_drewN ?_ _ | refine Below.drew ?_ | refine Below.alloc ?_ (by first | omega | (simp <;> omega)) _ | refine Below.setCell ?_ (by first | omega | (simp <;> omega)) _))) n1 n2).mono ?_; rintro e w1 ⟨rfl, hb1⟩; have cc0 := cell_keep (p := ⟨w.heap.size, 0, none⟩) (v := .int .i64 0) hb1 (by first | assumption | (go_keep; done) | (go_simp; done) | (simp; done)) (by first | omega | (simp <;> omega)); have cc1 := cell_keep (p := ⟨w.heap.size, 1, none⟩) (v := .int .i64 0) hb1 (by first | assumption | (go_keep; done) | (go_simp; done) | (simp; done)) (by first | omega | (simp <;> omega)); have cc2 := cell_keep (p := ⟨wb.heap.size, 0, none⟩) (v := .int .i64 n) hb1 (by first | assumption | (go_keep; done) | (go_simp; done) | (simp; done)) (by first | omega | (simp <;> omega)); have cc3 := cell_keep (p := ⟨wb.heap.size, 1, none⟩) (v := .int .i64 d) hb1 (by first | assumption | (go_keep; done) | (go_simp; done) | (simp; done)) (by first | omega | (simp <;> omega)); have cf0 := frozen_keep (p := ⟨w.heap.size, 0, none⟩) hb1 (by first | assumption | (go_keep; done) | (go_simp; done) | (simp; done)) (by first | omega | (simp <;> omega)); have cf1 := frozen_keep (p := ⟨w.heap.size, 1, none⟩) hb1 (by first | assumption | (go_keep; done) | (go_simp; done) | (simp; done)) (by first | omega | (simp <;> omega)); have hS1 : Below w.heap.size w w1 := S_below hb1 (by repeat (first | exact Below.refl _ _ | assumption | refine below_drewN ?_ _ | refine Below.drew ?_ | refine Below.alloc ?_ (by first | omega | (simp <;> omega)) _ | refine Below.setCell ?_ (by first | omega | (simp <;> omega)) _)) (by first | omega | (simp <;> omega)); have hz1 : w.heap.size + 1 ≤ w1.heap.size := S_size hb1 (by first | omega | (simp <;> omega)); have hqb0 : w.heap.size < w1.heap.size := S_lt hb1 (by first | omega | (simp <;> omega)); have hqb1 : wb.heap.size < w1.heap.size := S_lt hb1 (by first | omega | (simp <;> omega)); clear hb1))
  exact bodyPost_ret (v := .tuple #[.agg #[.int .i64 0, .int .i64 0], .bool false]) (by simp [results, Tryd.results16, go_sem, set_0 cc0, set2_1 cc1]) rfl ⟨rfl, (by repeat (first | exact Below.refl _ _ | assumption | refine below_drewN ?_ _ | refine Below.drew ?_ | refine Below.alloc ?_ (by first | omega | (simp <;> omega)) _ | refine Below.setCell ?_ (by first | omega | (simp <;> omega)) _))⟩

set_option maxHeartbeats 1000000 in
set_option maxRecDepth 100000 in
theorem iPR_twoC {s a b : ByteArray} {n d : Int} {ls : List ByteArray} (hls : pcsB s ⟨#[47]⟩ = ls) (h0 : ls[0]? = some a) (h1 : ls[1]? = some b) (hl : ls.length = 2) (hpa : pI a.data.toList = some n) (hpb : pI b.data.toList = some d) (ho : ratioOkV n d = true) (hf : fmtR n d = s) (w : World) (ht : Tab10 w) (he : Errs w) (hs : s.size ≤ 1048576) (has : a.size ≤ 1048576) (hbs : b.size ≤ 1048576) :
    Calls Tryd.prog 16 #[.string s] w fun e w' => e = .returned (.tuple #[.agg #[.int .i64 n, .int .i64 d], .bool true]) ∧ Below w.heap.size w w' := by
  have HT := Lib.hid ht; clear ht
  have HE := Lib.hid he; clear he
  have HLS := Lib.hid hls; clear hls
  have H0 := Lib.hid h0; clear h0
  have HO := Lib.hid ho; clear ho
  have HF := Lib.hid hf; clear hf
  have H1 := Lib.hid h1; clear h1
  obtain ⟨_, n1, n2⟩ := pI_some hpa
  have HP := Lib.hid hpa; clear hpa
  obtain ⟨_, d1, d2⟩ := pI_some hpb
  have HQ := Lib.hid hpb; clear hpb
  go_enter Tryd.func16, Tryd.ntmps16
  go_wp2_with fail
  go_at_call 43; with_reducible refine (iSplitAny_lit HLS.out _ (by omega) (by decide)).mono ?_
  rintro e wa ⟨g0, c0, rfl, hO0, hg0, hb1⟩
  obtain ⟨cA, hga⟩ := own_cell hO0 H0.out
  obtain ⟨cB, _⟩ := own_cell hO0 H1.out
  clear hO0
  have cc_wa0 := cell_keep (p := ⟨w.heap.size, 0, none⟩) (v := .int .i64 0) hb1 (by first | assumption | (go_keep; done) | (go_simp; done) | (simp; done)) (by first | omega | (simp <;> omega))
  have cc_wa1 := cell_keep (p := ⟨w.heap.size, 1, none⟩) (v := .int .i64 0) hb1 (by first | assumption | (go_keep; done) | (go_simp; done) | (simp; done)) (by first | omega | (simp <;> omega))
  have cf_wa0 := frozen_keep (p := ⟨w.heap.size, 0, none⟩) hb1 (by first | assumption | (go_keep; done) | (go_simp; done) | (simp; done)) (by first | omega | (simp <;> omega))
  have cf_wa1 := frozen_keep (p := ⟨w.heap.size, 1, none⟩) hb1 (by first | assumption | (go_keep; done) | (go_simp; done) | (simp; done)) (by first | omega | (simp <;> omega))
  have hS1_wa : Below w.heap.size w wa := S_below hb1 (by repeat (first | exact Below.refl _ _ | assumption | refine below_drewN ?_ _ | refine Below.drew ?_ | refine Below.alloc ?_ (by first | omega | (simp <;> omega)) _ | refine Below.setCell ?_ (by first | omega | (simp <;> omega)) _)) (by first | omega | (simp <;> omega))
  have hz1_wa : w.heap.size + 1 ≤ wa.heap.size := S_size hb1 (by first | omega | (simp <;> omega))
  have hqb_wa0 : w.heap.size < wa.heap.size := S_lt hb1 (by first | omega | (simp <;> omega))
  clear hb1
  generalize ls.length = m at *
  subst hl
  go_wp2_with fail
  go_at_call 44; with_reducible refine (iParseInt_lit HP.out _ (HT.out.step (by repeat (first | exact Below.refl _ _ | assumption | refine below_drewN ?_ _ | refine Below.drew ?_ | refine Below.alloc ?_ (by first | omega | (simp <;> omega)) _ | refine Below.setCell ?_ (by first | omega | (simp <;> omega)) _))) (HE.out.step (by repeat (first | exact Below.refl _ _ | assumption | refine below_drewN ?_ _ | refine Below.drew ?_ | refine Below.alloc ?_ (by first | omega | (simp <;> omega)) _ | refine Below.setCell ?_ (by first | omega | (simp <;> omega)) _))) (by omega)).mono ?_
  rintro e wb ⟨rfl, hb1⟩
  simp only [PRes]
  have cc_wb0 := cell_keep (p := ⟨w.heap.size, 0, none⟩) (v := .int .i64 0) hb1 (by first | assumption | (go_keep; done) | (go_simp; done) | (simp; done)) (by first | omega | (simp <;> omega))
  have cc_wb1 := cell_keep (p := ⟨w.heap.size, 1, none⟩) (v := .int .i64 0) hb1 (by first | assumption | (go_keep; done) | (go_simp; done) | (simp; done)) (by first | omega | (simp <;> omega))
  have cc_wb2 := cell_keep (p := ⟨g0, 0, none⟩) (v := .string a) hb1 (by first | assumption | (go_keep; done) | (go_simp; done) | (simp; done)) (by first | omega | (simp <;> omega))
  have cc_wb3 := cell_keep (p := ⟨g0, 1, none⟩) (v := .string b) hb1 (by first | assumption | (go_keep; done) | (go_simp; done) | (simp; done)) (by first | omega | (simp <;> omega))
  have cf_wb0 := frozen_keep (p := ⟨w.heap.size, 0, none⟩) hb1 (by first | assumption | (go_keep; done) | (go_simp; done) | (simp; done)) (by first | omega | (simp <;> omega))
  have cf_wb1 := frozen_keep (p := ⟨w.heap.size, 1, none⟩) hb1 (by first | assumption | (go_keep; done) | (go_simp; done) | (simp; done)) (by first | omega | (simp <;> omega))
  have hS1_wb : Below w.heap.size w wb := S_below hb1 (by repeat (first | exact Below.refl _ _ | assumption | refine below_drewN ?_ _ | refine Below.drew ?_ | refine Below.alloc ?_ (by first | omega | (simp <;> omega)) _ | refine Below.setCell ?_ (by first | omega | (simp <;> omega)) _)) (by first | omega | (simp <;> omega))
  have hz1_wb : w.heap.size + 1 ≤ wb.heap.size := S_size hb1 (by first | omega | (simp <;> omega))
  have hqb_wb0 : w.heap.size < wb.heap.size := S_lt hb1 (by first | omega | (simp <;> omega))
  have hqb_wb1 : g0 < wb.heap.size := S_lt hb1 (by first | omega | (simp <;> omega))
  clear hb1
  go_wp2_with fail
  go_at_call 44; with_reducible refine (iParseInt_lit HQ.out _ (HT.out.step (by repeat (first | exact Below.refl _ _ | assumption | refine below_drewN ?_ _ | refine Below.drew ?_ | refine Below.alloc ?_ (by first | omega | (simp <;> omega)) _ | refine Below.setCell ?_ (by first | omega | (simp <;> omega)) _))) (HE.out.step (by repeat (first | exact Below.refl _ _ | assumption | refine below_drewN ?_ _ | refine Below.drew ?_ | refine Below.alloc ?_ (by first | omega | (simp <;> omega)) _ | refine Below.setCell ?_ (by first | omega | (simp <;> omega)) _))) (by omega)).mono ?_
  rintro e wc ⟨rfl, hb1⟩
  simp only [PRes]
  have cc_wc0 := cell_keep (p := ⟨w.heap.size, 0, none⟩) (v := .int .i64 0) hb1 (by first | assumption | (go_keep; done) | (go_simp; done) | (simp; done)) (by first | omega | (simp <;> omega))
  have cc_wc1 := cell_keep (p := ⟨w.heap.size, 1, none⟩) (v := .int .i64 0) hb1 (by first | assumption | (go_keep; done) | (go_simp; done) | (simp; done)) (by first | omega | (simp <;> omega))
  have cc_wc2 := cell_keep (p := ⟨wb.heap.size, 0, none⟩) (v := .int .i64 n) hb1 (by first | assumption | (go_keep; done) | (go_simp; done) | (simp; done)) (by first | omega | (simp <;> omega))
  have cc_wc3 := cell_keep (p := ⟨wb.heap.size, 1, none⟩) (v := .int .i64 1) hb1 (by first | assumption | (go_keep; done) | (go_simp; done) | (simp; done)) (by first | omega | (simp <;> omega))
  have cf_wc0 := frozen_keep (p := ⟨w.heap.size, 0, none⟩) hb1 (by first | assumption | (go_keep; done) | (go_simp; done) | (simp; done)) (by first | omega | (simp <;> omega))
  have cf_wc1 := frozen_keep (p := ⟨w.heap.size, 1, none⟩) hb1 (by first | assumption | (go_keep; done) | (go_simp; done) | (simp; done)) (by first | omega | (simp <;> omega))
  have cf_wc3 := frozen_keep (p := ⟨wb.heap.size, 1, none⟩) hb1 (by first | assumption | (go_keep; done) | (go_simp; done) | (simp; done)) (by first | omega | (simp <;> omega))
  have hS1_wc : Below w.heap.size w wc := S_below hb1 (by repeat (first | exact Below.refl _ _ | assumption | refine below_drewN ?_ _ | refine Below.drew ?_ | refine Below.alloc ?_ (by first | omega | (simp <;> omega)) _ | refine Below.setCell ?_ (by first | omega | (simp <;> omega)) _)) (by first | omega | (simp <;> omega))
  have hz1_wc : w.heap.size + 1 ≤ wc.heap.size := S_size hb1 (by first | omega | (simp <;> omega))
  have hqb_wc0 : w.heap.size < wc.heap.size := S_lt hb1 (by first | omega | (simp <;> omega))
  have hqb_wc1 : wb.heap.size < wc.heap.size := S_lt hb1 (by first | omega | (simp <;> omega))
  clear hb1
  go_wp2_with (first | (go_at_call 22; with_reducible refine (iRatioOk_lit HO.out _ n1 n2).mono ?_; rintro e w1 ⟨rfl, hb1⟩; have cc0 := cell_keep (p := ⟨w.heap.size, 0, none⟩) (v := .int .i64 0) hb1 (by first | assumption | (go_keep; done) | (go_simp; done) | (simp; done)) (by first | omega | (simp <;> omega)); have cc1 := cell_keep (p := ⟨w.heap.size, 1, none⟩) (v := .int .i64 0) hb1 (by first | assumption | (go_keep; done) | (go_simp; done) | (simp; done)) (by first | omega | (simp <;> omega)); have cc2 := cell_keep (p := ⟨wb.heap.size, 0, none⟩) (v := .int .i64 n) hb1 (by first | assumption | (go_keep; done) | (go_simp; done) | (simp; done)) (by first | omega | (simp <;> omega)); have cc3 := cell_keep (p := ⟨wb.heap.size, 1, none⟩) (v := .int .i64 d) hb1 (by first | assumption | (go_keep; done) | (go_simp; done) | (simp; done)) (by first | omega | (simp <;> omega)); have cf0 := frozen_keep (p := ⟨w.heap.size, 0, none⟩) hb1 (by first | assumption | (go_keep; done) | (go_simp; done) | (simp; done)) (by first | omega | (simp <;> omega)); have cf1 := frozen_keep (p := ⟨w.heap.size, 1, none⟩) hb1 (by first | assumption | (go_keep; done) | (go_simp; done) | (simp; done)) (by first | omega | (simp <;> omega)); have hS1 : Below w.heap.size w w1 := S_below hb1 (by repeat (first | exact Below.refl _ _ | assumption | refine below_drewN ?_ _ | refine Below.drew ?_ | refine Below.alloc ?_ (by first | omega | (simp <;> omega)) _ | refine Below.setCell ?_ (by first | omega | (simp <;> omega)) _)) (by first | omega | (simp <;> omega)); have hz1 : w.heap.size + 1 ≤ w1.heap.size := S_size hb1 (by first | omega | (simp <;> omega)); have hqb0 : w.heap.size < w1.heap.size := S_lt hb1 (by first | omega | (simp <;> omega)); have hqb1 : wb.heap.size < w1.heap.size := S_lt hb1 (by first | omega | (simp <;> omega)); clear hb1) | (go_at_call 11; with_reducible refine (iFormatRatio_lit HF.out _ (HT.out.step (by repeat (first | exact Below.refl _ _ | assumption | refine below_drewN ?_ _ | refine Below.drew ?_ | refine Below.alloc ?_ (by first | omega | (simp <;> omega)) _ | refine Below.setCell ?_ (by first | omega | (simp <;> omega)) _))) n1 n2).mono ?_; rintro e w1 ⟨rfl, hb1⟩; have cc0 := cell_keep (p := ⟨w.heap.size, 0, none⟩) (v := .int .i64 0) hb1 (by first | assumption | (go_keep; done) | (go_simp; done) | (simp; done)) (by first | omega | (simp <;> omega)); have cc1 := cell_keep (p := ⟨w.heap.size, 1, none⟩) (v := .int .i64 0) hb1 (by first | assumption | (go_keep; done) | (go_simp; done) | (simp; done)) (by first | omega | (simp <;> omega)); have cc2 := cell_keep (p := ⟨wb.heap.size, 0, none⟩) (v := .int .i64 n) hb1 (by first | assumption | (go_keep; done) | (go_simp; done) | (simp; done)) (by first | omega | (simp <;> omega)); have cc3 := cell_keep (p := ⟨wb.heap.size, 1, none⟩) (v := .int .i64 d) hb1 (by first | assumption | (go_keep; done) | (go_simp; done) | (simp; done)) (by first | omega | (simp <;> omega)); have cf0 := frozen_keep (p := ⟨w.heap.size, 0, none⟩) hb1 (by first | assumption | (go_keep; done) | (go_simp; done) | (simp; done)) (by first | omega | (simp <;> omega)); have cf1 := frozen_keep (p := ⟨w.heap.size, 1, none⟩) hb1 (by first | assumption | (go_keep; done) | (go_simp; done) | (simp; done)) (by first | omega | (simp <;> omega)); have hS1 : Below w.heap.size w w1 := S_below hb1 (by repeat (first | exact Below.refl _ _ | assumption | refine below_drewN ?_ _ | refine Below.drew ?_ | refine Below.alloc ?_ (by first | omega | (simp <;> omega)) _ | refine Below.setCell ?_ (by first | omega | (simp <;> omega)) _)) (by first | omega | (simp <;> omega)); have hz1 : w.heap.size + 1 ≤ w1.heap.size := S_size hb1 (by first | omega | (simp <;> omega)); have hqb0 : w.heap.size < w1.heap.size := S_lt hb1 (by first | omega | (simp <;> omega)); have hqb1 : wb.heap.size < w1.heap.size := S_lt hb1 (by first | omega | (simp <;> omega)); clear hb1))
  exact bodyPost_ret (v := .tuple #[.agg #[.int .i64 n, .int .i64 d], .bool true]) (by simp [results, Tryd.results16, go_sem, set_0 cc0, set2_1 cc1]) rfl ⟨rfl, (by repeat (first | exact Below.refl _ _ | assumption | refine below_drewN ?_ _ | refine Below.drew ?_ | refine Below.alloc ?_ (by first | omega | (simp <;> omega)) _ | refine Below.setCell ?_ (by first | omega | (simp <;> omega)) _))⟩

end Go.Proofs.YtkmfejdmdiemaaaDoor
