/- The walk of the law FnExactRegionOk. -/
import Derived.Test.YthdaoadleeelnaaRgF
namespace Go.Proofs.Ythdaoadleeelnaa
open Go.ChangeShapes Go.WideShapes Go.ChangeAt Go.RowKit
attribute [local go_sem ↓] Go.wp_at_zero Go.wp_at_succ
set_option linter.unusedVariables false

theorem sRegionOk_lit {v : Bool} (A : Option Addr) (n c : Nat) (hs : List Hp) (w : World) (hn : n = hs.length) (hA : HsAt w w.heap.size A hs) (hm : n ≤ 4611686018427387904) (hv : regOkB hs = v) :
    Calls Try.prog 32 #[.agg #[.slice A n c]] w fun e w' => e = .returned (.bool v) ∧ Below w.heap.size w w' := by
  subst hv; exact sRegionOk_any A n c hs w hn hA hm

theorem iRegionOk_lit {v : Bool} (A : Option Addr) (n c : Nat) (hs : List Hp) (w : World) (hn : n = hs.length) (hA : HsAt w w.heap.size A hs) (hm : n ≤ 4611686018427387904) (hv : regOkB hs = v) :
    Calls Try.prog 33 #[.agg #[.slice A n c]] w fun e w' => e = .returned (.bool v) ∧ Below w.heap.size w w' := by
  subst hv; exact iRegionOk_any A n c hs w hn hA hm

set_option maxHeartbeats 1000000 in
set_option maxRecDepth 100000 in
theorem exRegionOk_walk (A : Option Addr) (n c : Nat) (hs : List Hp) (w : World) (hn : n = hs.length) (hm : n ≤ maxLen) (hA : HsAt w w.heap.size A hs) (hI : ∀ x ∈ hs, Ints3 x) :
    Calls Try.prog 8 #[.agg #[.slice A n c]] w fun e w' => e = .returned (.bool true) ∧ Below w.heap.size w w' := by
  unfold maxLen at hm
  have HA := Lib.hid hA; clear hA
  have HN := Lib.hid hn; clear hn
  by_cases hz : 1048576 < n
  · go_enter Try.func8, Try.ntmps8
    go_wp2_with fail
    go_at_call 17; refine (szRegion_lit (v := -1) _ _ _ _ (by decide) (by decide) (by omega) (leftV_stop (by omega))).mono ?_; rintro e w1 ⟨rfl, hb⟩
    have hS : Below w.heap.size w w1 := S_below hb (by repeat (first | exact Below.refl _ _ | assumption | refine below_drewN ?_ _ | refine Below.drew ?_ | refine Below.alloc ?_ (by first | omega | (simp <;> omega)) _ | refine Below.setCell ?_ (by first | omega | (simp <;> omega)) _)) (by first | omega | (simp <;> omega))
    clear hb
    go_wp2_with fail
    go_ret
    exact ⟨rfl, hS⟩
  · go_enter Try.func8, Try.ntmps8
    go_wp2_with fail
    go_at_call 17; refine (szRegion_lit (v := 1048576 - n) _ _ _ _ (by decide) (by decide) (by omega) (leftV_go (by omega))).mono ?_; rintro e w1 ⟨rfl, hb⟩
    have hS1 : Below w.heap.size w w1 := S_below hb (by repeat (first | exact Below.refl _ _ | assumption | refine below_drewN ?_ _ | refine Below.drew ?_ | refine Below.alloc ?_ (by first | omega | (simp <;> omega)) _ | refine Below.setCell ?_ (by first | omega | (simp <;> omega)) _)) (by first | omega | (simp <;> omega))
    have C1 := cell_keep (p := ⟨w.heap.size, 0, none⟩) (v := .slice A n c) hb (by first | (go_simp; done) | (simp; done)) (by simp)
    have hz1 : w.heap.size + 1 ≤ w1.heap.size := S_size hb (by simp)
    clear hb
    have hL : hs.length ≤ 1048576 := by have := HN.out; omega
    have hn7 : hs.length ≤ 4611686018427387904 := by omega
    cases hv : regOkB hs
    all_goals
      have HV := Lib.hid hv
      clear hv
      go_wp2_with fail
      go_at_call 19; with_reducible refine (toRegion_any _ _ _ hs _ HN.out (HA.out.step (by repeat (first | exact Below.refl _ _ | assumption | refine below_drewN ?_ _ | refine Below.drew ?_ | refine Below.alloc ?_ (by first | omega | (simp <;> omega)) _ | refine Below.setCell ?_ (by first | omega | (simp <;> omega)) _))) (by omega)).mono ?_
      rintro e w2 ⟨g2, c2, rfl, hO2, hg2, hb1⟩
      have cc_w20 := cell_keep (p := ⟨w.heap.size, 0, none⟩) (v := .slice A n c) hb1 (by first | assumption | (go_keep; done) | (go_simp; done) | (simp; done)) (by first | omega | (simp <;> omega))
      have hS1_w2 : Below w.heap.size w w2 := S_below hb1 (by repeat (first | exact Below.refl _ _ | assumption | refine below_drewN ?_ _ | refine Below.drew ?_ | refine Below.alloc ?_ (by first | omega | (simp <;> omega)) _ | refine Below.setCell ?_ (by first | omega | (simp <;> omega)) _)) (by first | omega | (simp <;> omega))
      have hz1_w2 : w.heap.size + 1 ≤ w2.heap.size := S_size hb1 (by first | omega | (simp <;> omega))
      have hqb_w20 : w.heap.size < w2.heap.size := S_lt hb1 (by first | omega | (simp <;> omega))
      clear hb1
      have O2 := Lib.hid hO2.of_len
      clear hO2
      go_wp2_with fail
      go_at_call 32; with_reducible refine (sRegionOk_lit _ _ _ hs _ rfl O2.out hn7 HV.out).mono ?_
      rintro e w3 ⟨rfl, hb1⟩
      have cc_w30 := cell_keep (p := ⟨w.heap.size, 0, none⟩) (v := .slice A n c) hb1 (by first | assumption | (go_keep; done) | (go_simp; done) | (simp; done)) (by first | omega | (simp <;> omega))
      have hS1_w3 : Below w.heap.size w w3 := S_below hb1 (by repeat (first | exact Below.refl _ _ | assumption | refine below_drewN ?_ _ | refine Below.drew ?_ | refine Below.alloc ?_ (by first | omega | (simp <;> omega)) _ | refine Below.setCell ?_ (by first | omega | (simp <;> omega)) _)) (by first | omega | (simp <;> omega))
      have hz1_w3 : w.heap.size + 1 ≤ w3.heap.size := S_size hb1 (by first | omega | (simp <;> omega))
      have hqb_w30 : w.heap.size < w3.heap.size := S_lt hb1 (by first | omega | (simp <;> omega))
      clear hb1
      clear cc_w20 hS1_w2 O2
      go_wp2_with fail
      go_at_call 19; with_reducible refine (toRegion_any _ _ _ hs _ HN.out (HA.out.step (by repeat (first | exact Below.refl _ _ | assumption | refine below_drewN ?_ _ | refine Below.drew ?_ | refine Below.alloc ?_ (by first | omega | (simp <;> omega)) _ | refine Below.setCell ?_ (by first | omega | (simp <;> omega)) _))) (by omega)).mono ?_
      rintro e w4 ⟨g4, c4, rfl, hO4, hg4, hb1⟩
      have cc_w40 := cell_keep (p := ⟨w.heap.size, 0, none⟩) (v := .slice A n c) hb1 (by first | assumption | (go_keep; done) | (go_simp; done) | (simp; done)) (by first | omega | (simp <;> omega))
      have hS1_w4 : Below w.heap.size w w4 := S_below hb1 (by repeat (first | exact Below.refl _ _ | assumption | refine below_drewN ?_ _ | refine Below.drew ?_ | refine Below.alloc ?_ (by first | omega | (simp <;> omega)) _ | refine Below.setCell ?_ (by first | omega | (simp <;> omega)) _)) (by first | omega | (simp <;> omega))
      have hz1_w4 : w.heap.size + 1 ≤ w4.heap.size := S_size hb1 (by first | omega | (simp <;> omega))
      have hqb_w40 : w.heap.size < w4.heap.size := S_lt hb1 (by first | omega | (simp <;> omega))
      clear hb1
      have O4 := Lib.hid hO4
      clear cc_w30 hS1_w3 hO4
      go_wp2_with fail
      go_at_call 33; with_reducible refine (iRegionOk_lit _ _ _ hs _ rfl (O4.out.kept ((Below.refl _ _).alloc (Nat.le_refl _) _)).of_len hn7 HV.out).mono ?_
      rintro e w5 ⟨rfl, hb1⟩
      have O5 := Lib.hid ((O4.out.kept ((Below.refl _ _).alloc (Nat.le_refl _) _)).kept hb1)
      have cc_w50 := cell_keep (p := ⟨w.heap.size, 0, none⟩) (v := .slice A n c) hb1 (by first | assumption | (go_keep; done) | (go_simp; done) | (simp; done)) (by first | omega | (simp <;> omega))
      have cc_w51 := cell_keep (p := ⟨w4.heap.size, 0, none⟩) (v := .slice (some ⟨g4, 0, none⟩) hs.length c4) hb1 (by first | assumption | (go_keep; done) | (go_simp; done) | (simp; done)) (by first | omega | (simp <;> omega))
      have hS1_w5 : Below w.heap.size w w5 := S_below hb1 (by repeat (first | exact Below.refl _ _ | assumption | refine below_drewN ?_ _ | refine Below.drew ?_ | refine Below.alloc ?_ (by first | omega | (simp <;> omega)) _ | refine Below.setCell ?_ (by first | omega | (simp <;> omega)) _)) (by first | omega | (simp <;> omega))
      have hz1_w5 : w.heap.size + 1 ≤ w5.heap.size := S_size hb1 (by first | omega | (simp <;> omega))
      have hqb_w50 : w.heap.size < w5.heap.size := S_lt hb1 (by first | omega | (simp <;> omega))
      have hqb_w51 : w4.heap.size < w5.heap.size := S_lt hb1 (by first | omega | (simp <;> omega))
      clear hb1
      clear cc_w40 hS1_w4 O4
      go_wp2_with fail
      have hO5 := O5.out.of_len
      have hn6 : n ≤ 1048576 := by omega
      have hd5 : Below w.heap.size w w5.drew := hS1_w5.drew
      go_region_with (first
        | (go_at_call 19; go_loud (with_reducible refine (toRegion_any _ _ _ hs _ HN.out (HA.out.step hd5) hn6).mono ?_); rintro e w6 ⟨g6, c6, rfl, hO6, hg6, hb1⟩; have hb5 : Below w5.heap.size w5 w6 := S_below hb1 (by repeat (first | exact Below.refl _ _ | assumption | refine below_drewN ?_ _ | refine Below.drew ?_ | refine Below.alloc ?_ (by first | omega | (simp <;> omega)) _ | refine Below.setCell ?_ (by first | omega | (simp <;> omega)) _)) (Nat.le_refl _); have R6 := hO5.step hb5; have O6 := hO6.of_len; have cc6 := cell_keep hb5 cc_w51 hqb_w51; have cc5 := cell_keep hb5 cc_w50 hqb_w50; have hS6 : Below w.heap.size w w6 := hS1_w5.trans (hb5.mono (by omega)); have hz6 := hS6.size; clear hO6 hb1 hb5)
        | (go_at_call 21; with_reducible refine (eqRegion_same _ _ _ _ _ _ hs _ rfl rfl R6 O6 hn7).mono ?_; rintro e w7 ⟨rfl, hb1⟩; have hS7 : Below w.heap.size w w7 := S_below hb1 (by repeat (first | exact Below.refl _ _ | assumption | refine below_drewN ?_ _ | refine Below.drew ?_ | refine Below.alloc ?_ (by first | omega | (simp <;> omega)) _ | refine Below.setCell ?_ (by first | omega | (simp <;> omega)) _)) hz6; clear hb1))
      all_goals
        go_wp2_with fail
        go_ret
        exact ⟨rfl, (by repeat (first | exact Below.refl _ _ | assumption | refine below_drewN ?_ _ | refine Below.drew ?_ | refine Below.alloc ?_ (by first | omega | (simp <;> omega)) _ | refine Below.setCell ?_ (by first | omega | (simp <;> omega)) _))⟩

end Go.Proofs.Ythdaoadleeelnaa
