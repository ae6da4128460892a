/- The walk of the law FnExactRegionFrom. -/
import Derived.Test.YthdaoadleeelnaaMrk
namespace Go.Proofs.Ythdaoadleeelnaa
open Go.ChangeShapes Go.WideShapes Go.ChangeAt Go.RowKit
attribute [local go_sem ↓] Go.wp_at_zero Go.wp_at_succ
set_option linter.unusedVariables false

theorem szHalfS_lit {q v : Int} (A : Option Addr) (n c : Nat) (w : World) (h1 : 0 ≤ q) (h2 : q ≤ 1048576) (hn : n ≤ 9223372036854775807) (hv : leftV q n = v) :
    Calls Try.prog 28 #[.slice A n c, .int .i64 q] w fun e w' => e = .returned (.int .i64 v) ∧ w = w' := by
  subst hv; exact szHalfS_any A n c q w h1 h2 hn

theorem eqRegion_is (A A' : Option Addr) (n n' c c' : Nat) (hs : List Hp) (w : World) (hn : n = hs.length) (hn' : n' = hs.length) (hA : HsAt w w.heap.size A hs) (hA' : HsAt w w.heap.size A' hs) (hm : n ≤ 4611686018427387904) :
    Calls Try.prog 21 #[.agg #[.slice A n c], .agg #[.slice A' n' c']] w fun e w' => e = .returned (.bool true) ∧ Below w.heap.size w w' := eqRegion_same A A' n n' c c' hs w hn hn' hA hA' hm

set_option maxHeartbeats 1000000 in
set_option maxRecDepth 100000 in
theorem exRegionFrom_walk (A : Option Addr) (n c : Nat) (hs : List Hp) (w : World) (hn : n = hs.length) (hm : n ≤ maxLen) (hA : HsAt w w.heap.size A hs) (hI : ∀ x ∈ hs, Ints3 x) :
    Calls Try.prog 7 #[.slice A n c] w fun e w' => e = .returned (.bool true) ∧ Below w.heap.size w w' := by
  unfold maxLen at hm
  have HA := Lib.hid hA; clear hA
  have HN := Lib.hid hn; clear hn
  clear hI
  by_cases hz : 1048576 < n
  · go_enter Try.func7, Try.ntmps7
    go_wp2_with fail
    go_at_call 28; refine (szHalfS_lit (v := -1) _ _ _ _ (by decide) (by decide) (by omega) (leftV_stop (by omega))).mono ?_; rintro e w1 ⟨rfl, rfl⟩
    go_wp2_with fail
    go_ret
    exact ⟨rfl, Below.refl _ _⟩
  · have hn6 : n ≤ 1048576 := by omega
    have hL : hs.length ≤ 1048576 := by have := HN.out; omega
    have hn7 : hs.length ≤ 4611686018427387904 := by omega
    obtain ⟨R, hR⟩ : ∃ R, rfR hs = R := ⟨_, rfl⟩
    obtain ⟨b, hb⟩ : ∃ b, rfB hs = b := ⟨_, rfl⟩
    have hRl := rfR_len (hs := hs)
    rw [hR] at hRl
    have HR := Lib.hid hR
    have HB := Lib.hid hb
    clear hR hb
    obtain ⟨q, hq⟩ : ∃ q : Int, 1 + 3 * (R.length : Int) = q := ⟨_, rfl⟩
    have hq0 : ¬ q < 0 := by omega
    have HQ := Lib.hid hq; clear hq
    obtain ⟨t, ht⟩ : ∃ t : Int, 1 + 3 * (hs.length : Int) = t := ⟨_, rfl⟩
    have ht0 : ¬ t < 0 := by omega
    have HT := Lib.hid ht; clear ht
    go_enter Try.func7, Try.ntmps7
    go_wp2_with fail
    go_at_call 28; refine (szHalfS_lit (v := 1048576 - n) _ _ _ _ (by decide) (by decide) (by omega) (leftV_go (by omega))).mono ?_; rintro e w1 ⟨rfl, rfl⟩
    have hS1_w : Below w.heap.size w w := Below.refl _ _
    go_wp2_with fail
    go_at_call 30; with_reducible refine (toHalfS_any _ _ _ hs _ HN.out HA.out hn6).mono ?_
    rintro e wa ⟨ga, ca, rfl, hOa, hga, hb1⟩
    have hS1_wa : Below w.heap.size w wa := S_below hb1 (by repeat (first | exact Below.refl _ _ | assumption | refine below_drewN ?_ _ | refine Below.drew ?_ | refine Below.alloc ?_ (by first | omega | (simp <;> omega)) _ | refine Below.setCell ?_ (by first | omega | (simp <;> omega)) _)) (by first | omega | (simp <;> omega))
    have hz1_wa : w.heap.size ≤ wa.heap.size := S_size hb1 (by first | omega | (simp <;> omega))
    clear hb1
    have Ra := Lib.hid hOa.of_len; clear hOa
    go_wp2_with fail
    go_at_call 29; with_reducible refine (sRegionFrom_to HR.out HB.out rfl Ra.out hn7).mono ?_
    rintro e wb ⟨A1, c1, rfl, hO1, hb1⟩
    have hzb := hb1.size
    have hS1_wb : Below w.heap.size w wb := S_below hb1 (by repeat (first | exact Below.refl _ _ | assumption | refine below_drewN ?_ _ | refine Below.drew ?_ | refine Below.alloc ?_ (by first | omega | (simp <;> omega)) _ | refine Below.setCell ?_ (by first | omega | (simp <;> omega)) _)) (by first | omega | (simp <;> omega))
    have hz1_wb : w.heap.size ≤ wb.heap.size := S_size hb1 (by first | omega | (simp <;> omega))
    clear hb1
    have O1 := Lib.hid hO1; clear hO1 Ra
    go_wp2_with fail
    go_at_call 30; with_reducible refine (toHalfS_any _ _ _ hs _ HN.out (HA.out.step (by repeat (first | exact Below.refl _ _ | assumption | refine below_drewN ?_ _ | refine Below.drew ?_ | refine Below.alloc ?_ (by first | omega | (simp <;> omega)) _ | refine Below.setCell ?_ (by first | omega | (simp <;> omega)) _))) hn6).mono ?_
    rintro e wc ⟨gx, cx, rfl, hOx, hgx, hb1⟩
    have O1c := Lib.hid ((O1.out.kept ((Below.refl _ _).alloc (Nat.le_refl _) _)).kept hb1)
    have cc_wc0 := cell_keep (p := ⟨wb.heap.size, 0, none⟩) (v := .slice A1 R.length c1) hb1 (by first | assumption | (go_keep; done) | (go_simp; done) | (simp; done)) (by first | omega | (simp <;> omega))
    have hS1_wc : Below w.heap.size w wc := S_below hb1 (by repeat (first | exact Below.refl _ _ | assumption | refine below_drewN ?_ _ | refine Below.drew ?_ | refine Below.alloc ?_ (by first | omega | (simp <;> omega)) _ | refine Below.setCell ?_ (by first | omega | (simp <;> omega)) _)) (by first | omega | (simp <;> omega))
    have hz1_wc : w.heap.size ≤ wc.heap.size := S_size hb1 (by first | omega | (simp <;> omega))
    have hqb_wc0 : wb.heap.size < wc.heap.size := S_lt hb1 (by first | omega | (simp <;> omega))
    clear hb1
    have OX := Lib.hid hOx; clear hOx
    have D1 := Lib.hid O1.out.lt
    have hgx' : wb.heap.size < gx := by simp at hgx; omega
    have hgc : gx < wc.heap.size := OX.out.lt gx rfl
    clear hgx O1
    go_wp2_with fail
    go_at_call 31; with_reducible refine (iRegionFrom_to HR.out HB.out rfl OX.out.of_len hn7).mono ?_
    rintro e wd ⟨A2, c2, rfl, hO2, hb1⟩
    have hzd := hb1.size
    have O1d := Lib.hid (O1c.out.kept hb1)
    have OXd := Lib.hid (OX.out.kept hb1)
    have cc_wd0 := cell_keep (p := ⟨wb.heap.size, 0, none⟩) (v := .slice A1 R.length c1) hb1 (by first | assumption | (go_keep; done) | (go_simp; done) | (simp; done)) (by first | omega | (simp <;> omega))
    have hS1_wd : Below w.heap.size w wd := S_below hb1 (by repeat (first | exact Below.refl _ _ | assumption | refine below_drewN ?_ _ | refine Below.drew ?_ | refine Below.alloc ?_ (by first | omega | (simp <;> omega)) _ | refine Below.setCell ?_ (by first | omega | (simp <;> omega)) _)) (by first | omega | (simp <;> omega))
    have hz1_wd : w.heap.size ≤ wd.heap.size := S_size hb1 (by first | omega | (simp <;> omega))
    have hqb_wd0 : wb.heap.size < wd.heap.size := S_lt hb1 (by first | omega | (simp <;> omega))
    clear hb1
    have O2 := Lib.hid hO2; clear hO2 O1c OX
    have D2 := Lib.hid O2.out.low
    have D3 := Lib.hid O2.out.lt
    go_wp2_with fail
    go_at_call 21; with_reducible refine (eqRegion_is _ _ _ _ _ _ R _ rfl rfl (O2.out.kept ((Below.refl _ _).alloc (Nat.le_refl _) _)).of_len (O1d.out.kept ((Below.refl _ _).alloc (Nat.le_refl _) _)).of_len (by omega)).mono ?_
    rintro e we ⟨rfl, hb1⟩
    have O1e := Lib.hid ((O1d.out.kept ((Below.refl _ _).alloc (Nat.le_refl _) _)).kept hb1)
    have O2e := Lib.hid ((O2.out.kept ((Below.refl _ _).alloc (Nat.le_refl _) _)).kept hb1)
    have OXe := Lib.hid ((OXd.out.kept ((Below.refl _ _).alloc (Nat.le_refl _) _)).kept hb1)
    have cc_we0 := cell_keep (p := ⟨wb.heap.size, 0, none⟩) (v := .slice A1 R.length c1) hb1 (by first | assumption | (go_keep; done) | (go_simp; done) | (simp; done)) (by first | omega | (simp <;> omega))
    have cc_we1 := cell_keep (p := ⟨wd.heap.size, 0, none⟩) (v := .slice A2 R.length c2) hb1 (by first | assumption | (go_keep; done) | (go_simp; done) | (simp; done)) (by first | omega | (simp <;> omega))
    have hS1_we : Below w.heap.size w we := S_below hb1 (by repeat (first | exact Below.refl _ _ | assumption | refine below_drewN ?_ _ | refine Below.drew ?_ | refine Below.alloc ?_ (by first | omega | (simp <;> omega)) _ | refine Below.setCell ?_ (by first | omega | (simp <;> omega)) _)) (by first | omega | (simp <;> omega))
    have hz1_we : w.heap.size ≤ we.heap.size := S_size hb1 (by first | omega | (simp <;> omega))
    have hqb_we0 : wb.heap.size < we.heap.size := S_lt hb1 (by first | omega | (simp <;> omega))
    have hqb_we1 : wd.heap.size < we.heap.size := S_lt hb1 (by first | omega | (simp <;> omega))
    clear hb1
    clear O1d O2 OXd
    go_wp2_with fail
    go_at_call 30; with_reducible refine (toHalfS_any _ _ _ hs _ HN.out (HA.out.step (by repeat (first | exact Below.refl _ _ | assumption | refine below_drewN ?_ _ | refine Below.drew ?_ | refine Below.alloc ?_ (by first | omega | (simp <;> omega)) _ | refine Below.setCell ?_ (by first | omega | (simp <;> omega)) _))) hn6).mono ?_
    rintro e wf ⟨gf, cf, rfl, hOf, hgf, hb1⟩
    have O1f := Lib.hid (O1e.out.kept hb1)
    have O2f := Lib.hid (O2e.out.kept hb1)
    have OXf := Lib.hid (OXe.out.kept hb1)
    have cc_wf0 := cell_keep (p := ⟨wb.heap.size, 0, none⟩) (v := .slice A1 R.length c1) hb1 (by first | assumption | (go_keep; done) | (go_simp; done) | (simp; done)) (by first | omega | (simp <;> omega))
    have cc_wf1 := cell_keep (p := ⟨wd.heap.size, 0, none⟩) (v := .slice A2 R.length c2) hb1 (by first | assumption | (go_keep; done) | (go_simp; done) | (simp; done)) (by first | omega | (simp <;> omega))
    have hS1_wf : Below w.heap.size w wf := S_below hb1 (by repeat (first | exact Below.refl _ _ | assumption | refine below_drewN ?_ _ | refine Below.drew ?_ | refine Below.alloc ?_ (by first | omega | (simp <;> omega)) _ | refine Below.setCell ?_ (by first | omega | (simp <;> omega)) _)) (by first | omega | (simp <;> omega))
    have hz1_wf : w.heap.size ≤ wf.heap.size := S_size hb1 (by first | omega | (simp <;> omega))
    have hqb_wf0 : wb.heap.size < wf.heap.size := S_lt hb1 (by first | omega | (simp <;> omega))
    have hqb_wf1 : wd.heap.size < wf.heap.size := S_lt hb1 (by first | omega | (simp <;> omega))
    clear hb1
    have OF := Lib.hid hOf
    clear O1e O2e OXe hOf hgf
    go_wp2_with fail
    go_at_call 14; with_reducible refine (eqHalfS_same _ _ _ _ _ _ hs _ rfl rfl OXf.out.of_len OF.out.of_len hn7).mono ?_
    rintro e wg ⟨rfl, hb1⟩
    have O1g := Lib.hid (O1f.out.kept hb1)
    have O2g := Lib.hid (O2f.out.kept hb1)
    have OXg := Lib.hid (OXf.out.kept hb1)
    have cc_wg0 := cell_keep (p := ⟨wb.heap.size, 0, none⟩) (v := .slice A1 R.length c1) hb1 (by first | assumption | (go_keep; done) | (go_simp; done) | (simp; done)) (by first | omega | (simp <;> omega))
    have cc_wg1 := cell_keep (p := ⟨wd.heap.size, 0, none⟩) (v := .slice A2 R.length c2) hb1 (by first | assumption | (go_keep; done) | (go_simp; done) | (simp; done)) (by first | omega | (simp <;> omega))
    have hS1_wg : Below w.heap.size w wg := S_below hb1 (by repeat (first | exact Below.refl _ _ | assumption | refine below_drewN ?_ _ | refine Below.drew ?_ | refine Below.alloc ?_ (by first | omega | (simp <;> omega)) _ | refine Below.setCell ?_ (by first | omega | (simp <;> omega)) _)) (by first | omega | (simp <;> omega))
    have hz1_wg : w.heap.size ≤ wg.heap.size := S_size hb1 (by first | omega | (simp <;> omega))
    have hqb_wg0 : wb.heap.size < wg.heap.size := S_lt hb1 (by first | omega | (simp <;> omega))
    have hqb_wg1 : wd.heap.size < wg.heap.size := S_lt hb1 (by first | omega | (simp <;> omega))
    clear hb1
    clear O1f O2f OXf OF
    go_wp2_with fail
    go_at_call 15; refine (markHalfS_own OXg.out (by omega) (by decide) (by decide) HT.out).mono ?_; rintro e wh ⟨hx, hxl, rfl, hOh, hMh, hGh⟩
    have hGh : wg.grownBy wh (some gx) := hGh
    have hgz := hGh.size
    have cc_wh0 := hGh.cell cc_wg0 (by simp; omega)
    have cc_wh1 := hGh.cell cc_wg1 (by simp; omega)
    have hS1_wh : Below w.heap.size w wh := hS1_wg.trans (grown_belowH hGh (by omega) (by omega))
    have O1h := Lib.hid (O1g.out.besides hGh (fun q hq e => by injection e with e; have := D1.out q hq; omega))
    have O2h := Lib.hid (O2g.out.besides hGh (fun q hq e => by injection e with e; have := D2.out q hq; omega))
    have hqb_wh0 : wb.heap.size < wh.heap.size := by omega
    have hqb_wh1 : wd.heap.size < wh.heap.size := by omega
    clear O1g O2g OXg hOh hMh hGh hgz cc_wg0 cc_wg1
    go_wp2_with fail
    go_at_call 21; with_reducible refine (eqRegion_is _ _ _ _ _ _ R _ rfl rfl O2h.out.of_len O1h.out.of_len (by omega)).mono ?_
    rintro e wi ⟨rfl, hb1⟩
    have O1i := Lib.hid (O1h.out.kept hb1)
    have O2i := Lib.hid (O2h.out.kept hb1)
    have cc_wi0 := cell_keep (p := ⟨wb.heap.size, 0, none⟩) (v := .slice A1 R.length c1) hb1 (by first | assumption | (go_keep; done) | (go_simp; done) | (simp; done)) (by first | omega | (simp <;> omega))
    have cc_wi1 := cell_keep (p := ⟨wd.heap.size, 0, none⟩) (v := .slice A2 R.length c2) hb1 (by first | assumption | (go_keep; done) | (go_simp; done) | (simp; done)) (by first | omega | (simp <;> omega))
    have hS1_wi : Below w.heap.size w wi := S_below hb1 (by repeat (first | exact Below.refl _ _ | assumption | refine below_drewN ?_ _ | refine Below.drew ?_ | refine Below.alloc ?_ (by first | omega | (simp <;> omega)) _ | refine Below.setCell ?_ (by first | omega | (simp <;> omega)) _)) (by first | omega | (simp <;> omega))
    have hz1_wi : w.heap.size ≤ wi.heap.size := S_size hb1 (by first | omega | (simp <;> omega))
    have hqb_wi0 : wb.heap.size < wi.heap.size := S_lt hb1 (by first | omega | (simp <;> omega))
    have hqb_wi1 : wd.heap.size < wi.heap.size := S_lt hb1 (by first | omega | (simp <;> omega))
    clear hb1
    clear O1h O2h
    go_wp2_with fail
    go_at_call 26; refine (markRegion_own O2i.out (by omega) (by decide) (by decide) HQ.out).mono ?_; rintro e wj ⟨R', hR', rfl, hOj, hMj, hGj⟩
    have hgz := hGj.size
    have cc_wj0 := hGj.cell cc_wi0 (fun e => by have := D2.out _ e.symm; simp at this; omega)
    have cc_wj1 := hGj.cell cc_wi1 (fun e => by have := D3.out _ e.symm; simp at this)
    have hS1_wj : Below w.heap.size w wj := hS1_wi.grown hGj (by omega) (fun q hq => by have := D2.out q hq; omega)
    have O1j := Lib.hid (O1i.out.besides hGj (fun q hq e => by have := D2.out q e; have := D1.out q hq; omega))
    have O2j := Lib.hid hOj
    have M2 := Lib.hid hMj
    have L2 := Lib.hid hR'
    have hqb_wj0 : wb.heap.size < wj.heap.size := by omega
    have hqb_wj1 : wd.heap.size < wj.heap.size := by omega
    clear O1i O2i hOj hMj hGj hR' hgz cc_wi0 cc_wi1
    go_wp2_with fail
    go_at_call 27; with_reducible refine (heldRegion_lit L2.out.symm O2j.out.of_len M2.out (by omega) (by decide) (by decide) HQ.out (by omega)).mono ?_
    rintro e wk ⟨rfl, hb1⟩
    have O1k := Lib.hid (O1j.out.kept hb1)
    have O2k := Lib.hid (O2j.out.kept hb1)
    have cc_wk0 := cell_keep (p := ⟨wb.heap.size, 0, none⟩) (v := .slice A1 R.length c1) hb1 (by first | assumption | (go_keep; done) | (go_simp; done) | (simp; done)) (by first | omega | (simp <;> omega))
    have cc_wk1 := cell_keep (p := ⟨wd.heap.size, 0, none⟩) (v := .slice A2 R.length c2) hb1 (by first | assumption | (go_keep; done) | (go_simp; done) | (simp; done)) (by first | omega | (simp <;> omega))
    have hS1_wk : Below w.heap.size w wk := S_below hb1 (by repeat (first | exact Below.refl _ _ | assumption | refine below_drewN ?_ _ | refine Below.drew ?_ | refine Below.alloc ?_ (by first | omega | (simp <;> omega)) _ | refine Below.setCell ?_ (by first | omega | (simp <;> omega)) _)) (by first | omega | (simp <;> omega))
    have hz1_wk : w.heap.size ≤ wk.heap.size := S_size hb1 (by first | omega | (simp <;> omega))
    have hqb_wk0 : wb.heap.size < wk.heap.size := S_lt hb1 (by first | omega | (simp <;> omega))
    have hqb_wk1 : wd.heap.size < wk.heap.size := S_lt hb1 (by first | omega | (simp <;> omega))
    clear hb1
    clear O1j O2j
    go_wp2_with fail
    go_at_call 30; with_reducible refine (toHalfS_any _ _ _ hs _ HN.out (HA.out.step (by repeat (first | exact Below.refl _ _ | assumption | refine below_drewN ?_ _ | refine Below.drew ?_ | refine Below.alloc ?_ (by first | omega | (simp <;> omega)) _ | refine Below.setCell ?_ (by first | omega | (simp <;> omega)) _))) hn6).mono ?_
    rintro e wl ⟨gl, cl, rfl, hOl, hgl, hb1⟩
    have O1l := Lib.hid (O1k.out.kept hb1)
    have O2l := Lib.hid (O2k.out.kept hb1)
    have cc_wl0 := cell_keep (p := ⟨wb.heap.size, 0, none⟩) (v := .slice A1 R.length c1) hb1 (by first | assumption | (go_keep; done) | (go_simp; done) | (simp; done)) (by first | omega | (simp <;> omega))
    have cc_wl1 := cell_keep (p := ⟨wd.heap.size, 0, none⟩) (v := .slice A2 R.length c2) hb1 (by first | assumption | (go_keep; done) | (go_simp; done) | (simp; done)) (by first | omega | (simp <;> omega))
    have hS1_wl : Below w.heap.size w wl := S_below hb1 (by repeat (first | exact Below.refl _ _ | assumption | refine below_drewN ?_ _ | refine Below.drew ?_ | refine Below.alloc ?_ (by first | omega | (simp <;> omega)) _ | refine Below.setCell ?_ (by first | omega | (simp <;> omega)) _)) (by first | omega | (simp <;> omega))
    have hz1_wl : w.heap.size ≤ wl.heap.size := S_size hb1 (by first | omega | (simp <;> omega))
    have hqb_wl0 : wb.heap.size < wl.heap.size := S_lt hb1 (by first | omega | (simp <;> omega))
    have hqb_wl1 : wd.heap.size < wl.heap.size := S_lt hb1 (by first | omega | (simp <;> omega))
    clear hb1
    have OL := Lib.hid hOl
    clear O1k O2k hOl hgl
    go_wp2_with fail
    go_at_call 31; with_reducible refine (iRegionFrom_to HR.out HB.out rfl OL.out.of_len hn7).mono ?_
    rintro e wm ⟨A3, c3, rfl, hO3, hb1⟩
    have O1m := Lib.hid (O1l.out.kept hb1)
    have O2m := Lib.hid (O2l.out.kept hb1)
    have cc_wm0 := cell_keep (p := ⟨wb.heap.size, 0, none⟩) (v := .slice A1 R.length c1) hb1 (by first | assumption | (go_keep; done) | (go_simp; done) | (simp; done)) (by first | omega | (simp <;> omega))
    have cc_wm1 := cell_keep (p := ⟨wd.heap.size, 0, none⟩) (v := .slice A2 R.length c2) hb1 (by first | assumption | (go_keep; done) | (go_simp; done) | (simp; done)) (by first | omega | (simp <;> omega))
    have hS1_wm : Below w.heap.size w wm := S_below hb1 (by repeat (first | exact Below.refl _ _ | assumption | refine below_drewN ?_ _ | refine Below.drew ?_ | refine Below.alloc ?_ (by first | omega | (simp <;> omega)) _ | refine Below.setCell ?_ (by first | omega | (simp <;> omega)) _)) (by first | omega | (simp <;> omega))
    have hz1_wm : w.heap.size ≤ wm.heap.size := S_size hb1 (by first | omega | (simp <;> omega))
    have hqb_wm0 : wb.heap.size < wm.heap.size := S_lt hb1 (by first | omega | (simp <;> omega))
    have hqb_wm1 : wd.heap.size < wm.heap.size := S_lt hb1 (by first | omega | (simp <;> omega))
    clear hb1
    have O3 := Lib.hid hO3
    clear O1l O2l hO3 OL
    go_wp2_with fail
    go_at_call 21; with_reducible refine (eqRegion_is _ _ _ _ _ _ R _ rfl rfl (O3.out.kept ((Below.refl _ _).alloc (Nat.le_refl _) _)).of_len (O1m.out.kept ((Below.refl _ _).alloc (Nat.le_refl _) _)).of_len (by omega)).mono ?_
    rintro e wn ⟨rfl, hb1⟩
    have O2n := Lib.hid ((O2m.out.kept ((Below.refl _ _).alloc (Nat.le_refl _) _)).kept hb1)
    have cc_wn0 := cell_keep (p := ⟨wb.heap.size, 0, none⟩) (v := .slice A1 R.length c1) hb1 (by first | assumption | (go_keep; done) | (go_simp; done) | (simp; done)) (by first | omega | (simp <;> omega))
    have cc_wn1 := cell_keep (p := ⟨wd.heap.size, 0, none⟩) (v := .slice A2 R.length c2) hb1 (by first | assumption | (go_keep; done) | (go_simp; done) | (simp; done)) (by first | omega | (simp <;> omega))
    have cc_wn2 := cell_keep (p := ⟨wm.heap.size, 0, none⟩) (v := .slice A3 R.length c3) hb1 (by first | assumption | (go_keep; done) | (go_simp; done) | (simp; done)) (by first | omega | (simp <;> omega))
    have hS1_wn : Below w.heap.size w wn := S_below hb1 (by repeat (first | exact Below.refl _ _ | assumption | refine below_drewN ?_ _ | refine Below.drew ?_ | refine Below.alloc ?_ (by first | omega | (simp <;> omega)) _ | refine Below.setCell ?_ (by first | omega | (simp <;> omega)) _)) (by first | omega | (simp <;> omega))
    have hz1_wn : w.heap.size ≤ wn.heap.size := S_size hb1 (by first | omega | (simp <;> omega))
    have hqb_wn0 : wb.heap.size < wn.heap.size := S_lt hb1 (by first | omega | (simp <;> omega))
    have hqb_wn1 : wd.heap.size < wn.heap.size := S_lt hb1 (by first | omega | (simp <;> omega))
    have hqb_wn2 : wm.heap.size < wn.heap.size := S_lt hb1 (by first | omega | (simp <;> omega))
    clear hb1
    clear O1m O2m O3
    go_wp2_with fail
    go_at_call 27; with_reducible refine (heldRegion_lit L2.out.symm O2n.out.of_len M2.out (by omega) (by decide) (by decide) HQ.out (by omega)).mono ?_
    rintro e wo ⟨rfl, hb1⟩
    have cc_wo0 := cell_keep (p := ⟨wb.heap.size, 0, none⟩) (v := .slice A1 R.length c1) hb1 (by first | assumption | (go_keep; done) | (go_simp; done) | (simp; done)) (by first | omega | (simp <;> omega))
    have cc_wo1 := cell_keep (p := ⟨wd.heap.size, 0, none⟩) (v := .slice A2 R.length c2) hb1 (by first | assumption | (go_keep; done) | (go_simp; done) | (simp; done)) (by first | omega | (simp <;> omega))
    have cc_wo2 := cell_keep (p := ⟨wm.heap.size, 0, none⟩) (v := .slice A3 R.length c3) hb1 (by first | assumption | (go_keep; done) | (go_simp; done) | (simp; done)) (by first | omega | (simp <;> omega))
    have hS1_wo : Below w.heap.size w wo := S_below hb1 (by repeat (first | exact Below.refl _ _ | assumption | refine below_drewN ?_ _ | refine Below.drew ?_ | refine Below.alloc ?_ (by first | omega | (simp <;> omega)) _ | refine Below.setCell ?_ (by first | omega | (simp <;> omega)) _)) (by first | omega | (simp <;> omega))
    have hz1_wo : w.heap.size ≤ wo.heap.size := S_size hb1 (by first | omega | (simp <;> omega))
    have hqb_wo0 : wb.heap.size < wo.heap.size := S_lt hb1 (by first | omega | (simp <;> omega))
    have hqb_wo1 : wd.heap.size < wo.heap.size := S_lt hb1 (by first | omega | (simp <;> omega))
    have hqb_wo2 : wm.heap.size < wo.heap.size := S_lt hb1 (by first | omega | (simp <;> omega))
    clear hb1
    go_wp2_with fail
    go_ret
    exact ⟨rfl, (by repeat (first | exact Below.refl _ _ | assumption | refine below_drewN ?_ _ | refine Below.drew ?_ | refine Below.alloc ?_ (by first | omega | (simp <;> omega)) _ | refine Below.setCell ?_ (by first | omega | (simp <;> omega)) _))⟩

end Go.Proofs.Ythdaoadleeelnaa
