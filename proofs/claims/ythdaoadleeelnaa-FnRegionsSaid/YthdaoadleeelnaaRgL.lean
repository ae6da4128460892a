/- The walks of the laws FnExactIsVoid and FnExactSameRegion. The walk of the law FnExactSameRegion. -/
import Derived.Test.YthdaoadleeelnaaReg
import Derived.Test.YthdaoadleeelnaaOpen
namespace Go.Proofs.Ythdaoadleeelnaa
open Go.ChangeShapes Go.WideShapes Go.ChangeAt Go.RowKit
attribute [local go_sem ↓] Go.wp_at_zero Go.wp_at_succ
set_option linter.unusedVariables false

theorem leftV_stop {q : Int} {n : Nat} (h : q < n) : leftV q n = -1 := if_pos h

theorem leftV_go {q : Int} {n : Nat} (h : ¬ q < n) : leftV q n = q - n := if_neg h

theorem szRegion_lit {q v : Int} (A : Option Addr) (n c : Nat) (w : World) (h1 : 0 ≤ q) (h2 : q ≤ 1048576) (hn : n ≤ 9223372036854775807) (hv : leftV q n = v) :
    Calls Try.prog 17 #[.agg #[.slice A n c], .int .i64 q] w fun e w' => e = .returned (.int .i64 v) ∧ Below w.heap.size w w' := by
  subst hv; exact szRegion_any A n c q w h1 h2 hn

theorem eqRegion_same (A A' : Option Addr) (n n' c c' : Nat) (hs : List Hp) (w : World) (hn : n = hs.length) (hn' : n' = hs.length) (hA : HsAt w w.heap.size A hs) (hA' : HsAt w w.heap.size A' hs) (hm : n ≤ 4611686018427387904) :
    Calls Try.prog 21 #[.agg #[.slice A n c], .agg #[.slice A' n' c']] w fun e w' => e = .returned (.bool true) ∧ Below w.heap.size w w' :=
  eqRegion_any A A' n n' c c' hs hs w hn hn' hA hA' hm (by omega) (v := true) (by simp)

theorem OwnH.two {w w' : World} {B g n c : Nat} {hs : List Hp} (h : OwnH w B (.slice (some ⟨g, 0, none⟩) n c) hs) (hb : Below w.heap.size w w') : OwnH w' B (.slice (some ⟨g, 0, none⟩) n c) hs := h.kept hb

theorem iIsVoid_lit {v : Bool} (A : Option Addr) (n c : Nat) (w : World) (hn : n ≤ 9223372036854775807) (hv : decide (n = 0) = v) :
    Calls Try.prog 20 #[.agg #[.slice A n c]] w fun e w' => e = .returned (.bool v) ∧ Below w.heap.size w w' := by
  subst hv; exact iIsVoid_any A n c w hn

theorem sIsVoid_lit {v : Bool} (A : Option Addr) (n c : Nat) (w : World) (hn : n ≤ 9223372036854775807) (hv : decide (n = 0) = v) :
    Calls Try.prog 18 #[.agg #[.slice A n c]] w fun e w' => e = .returned (.bool v) ∧ Below w.heap.size w w' := by
  subst hv; exact sIsVoid_any A n c w hn

set_option maxHeartbeats 1000000 in
set_option maxRecDepth 100000 in
theorem exIsVoid_walk (A : Option Addr) (n c : Nat) (hs : List Hp) (w : World) (hn : n = hs.length) (hm : n ≤ maxLen) (hA : HsAt w w.heap.size A hs) (hI : ∀ x ∈ hs, Ints3 x) :
    Calls Try.prog 4 #[.agg #[.slice A n c]] w fun e w' => e = .returned (.bool true) ∧ Below w.heap.size w w' := by
  unfold maxLen at hm
  have HA := Lib.hid hA; clear hA
  have HN := Lib.hid hn; clear hn
  by_cases hz : 1048576 < n
  · go_enter Try.func4, Try.ntmps4
    go_wp2_with fail
    go_at_call 17; refine (szRegion_lit (v := -1) _ _ _ _ (by decide) (by decide) (by omega) (leftV_stop (by omega))).mono ?_; rintro e w1 ⟨rfl, hb⟩
    have hS : Below w.heap.size w w1 := S_below hb (by repeat (first | exact Below.refl _ _ | assumption | refine below_drewN ?_ _ | refine Below.drew ?_ | refine Below.alloc ?_ (by first | omega | (simp <;> omega)) _ | refine Below.setCell ?_ (by first | omega | (simp <;> omega)) _)) (by first | omega | (simp <;> omega))
    clear hb
    go_wp2_with fail
    go_ret
    exact ⟨rfl, hS⟩
  · go_enter Try.func4, Try.ntmps4
    go_wp2_with fail
    go_at_call 17; refine (szRegion_lit (v := 1048576 - n) _ _ _ _ (by decide) (by decide) (by omega) (leftV_go (by omega))).mono ?_; rintro e w1 ⟨rfl, hb⟩
    have hS1 : Below w.heap.size w w1 := S_below hb (by repeat (first | exact Below.refl _ _ | assumption | refine below_drewN ?_ _ | refine Below.drew ?_ | refine Below.alloc ?_ (by first | omega | (simp <;> omega)) _ | refine Below.setCell ?_ (by first | omega | (simp <;> omega)) _)) (by first | omega | (simp <;> omega))
    have C1 := cell_keep (p := ⟨w.heap.size, 0, none⟩) (v := .slice A n c) hb (by first | (go_simp; done) | (simp; done)) (by simp)
    have hz1 : w.heap.size + 1 ≤ w1.heap.size := S_size hb (by simp)
    clear hb
    have hL : hs.length ≤ 1048576 := by have := HN.out; omega
    cases hv : decide (hs.length = 0)
    all_goals
      have HV := Lib.hid hv
      clear hv
      go_wp2_with fail
      go_at_call 19; with_reducible refine (toRegion_any _ _ _ hs _ HN.out (HA.out.step (by repeat (first | exact Below.refl _ _ | assumption | refine below_drewN ?_ _ | refine Below.drew ?_ | refine Below.alloc ?_ (by first | omega | (simp <;> omega)) _ | refine Below.setCell ?_ (by first | omega | (simp <;> omega)) _))) (by omega)).mono ?_
      rintro e w2 ⟨g2, c2, rfl, hO2, hg2, hb1⟩
      have cc_w20 := cell_keep (p := ⟨w.heap.size, 0, none⟩) (v := .slice A n c) hb1 (by first | assumption | (go_keep; done) | (go_simp; done) | (simp; done)) (by first | omega | (simp <;> omega))
      have hS1_w2 : Below w.heap.size w w2 := S_below hb1 (by repeat (first | exact Below.refl _ _ | assumption | refine below_drewN ?_ _ | refine Below.drew ?_ | refine Below.alloc ?_ (by first | omega | (simp <;> omega)) _ | refine Below.setCell ?_ (by first | omega | (simp <;> omega)) _)) (by first | omega | (simp <;> omega))
      have hz1_w2 : w.heap.size + 1 ≤ w2.heap.size := S_size hb1 (by first | omega | (simp <;> omega))
      have hqb_w20 : w.heap.size < w2.heap.size := S_lt hb1 (by first | omega | (simp <;> omega))
      clear hb1
      go_wp2_with fail
      go_at_call 18; with_reducible refine (sIsVoid_lit _ _ _ _ (by omega) HV.out).mono ?_
      rintro e w3 ⟨rfl, hb1⟩
      have cc_w30 := cell_keep (p := ⟨w.heap.size, 0, none⟩) (v := .slice A n c) hb1 (by first | assumption | (go_keep; done) | (go_simp; done) | (simp; done)) (by first | omega | (simp <;> omega))
      have hS1_w3 : Below w.heap.size w w3 := S_below hb1 (by repeat (first | exact Below.refl _ _ | assumption | refine below_drewN ?_ _ | refine Below.drew ?_ | refine Below.alloc ?_ (by first | omega | (simp <;> omega)) _ | refine Below.setCell ?_ (by first | omega | (simp <;> omega)) _)) (by first | omega | (simp <;> omega))
      have hz1_w3 : w.heap.size + 1 ≤ w3.heap.size := S_size hb1 (by first | omega | (simp <;> omega))
      have hqb_w30 : w.heap.size < w3.heap.size := S_lt hb1 (by first | omega | (simp <;> omega))
      clear hb1
      clear cc_w20 hS1_w2 hO2
      go_wp2_with fail
      go_at_call 19; with_reducible refine (toRegion_any _ _ _ hs _ HN.out (HA.out.step (by repeat (first | exact Below.refl _ _ | assumption | refine below_drewN ?_ _ | refine Below.drew ?_ | refine Below.alloc ?_ (by first | omega | (simp <;> omega)) _ | refine Below.setCell ?_ (by first | omega | (simp <;> omega)) _))) (by omega)).mono ?_
      rintro e w4 ⟨g4, c4, rfl, hO4, hg4, hb1⟩
      have cc_w40 := cell_keep (p := ⟨w.heap.size, 0, none⟩) (v := .slice A n c) hb1 (by first | assumption | (go_keep; done) | (go_simp; done) | (simp; done)) (by first | omega | (simp <;> omega))
      have hS1_w4 : Below w.heap.size w w4 := S_below hb1 (by repeat (first | exact Below.refl _ _ | assumption | refine below_drewN ?_ _ | refine Below.drew ?_ | refine Below.alloc ?_ (by first | omega | (simp <;> omega)) _ | refine Below.setCell ?_ (by first | omega | (simp <;> omega)) _)) (by first | omega | (simp <;> omega))
      have hz1_w4 : w.heap.size + 1 ≤ w4.heap.size := S_size hb1 (by first | omega | (simp <;> omega))
      have hqb_w40 : w.heap.size < w4.heap.size := S_lt hb1 (by first | omega | (simp <;> omega))
      clear hb1
      have O4 := Lib.hid hO4
      clear cc_w30 hS1_w3 hO4
      go_wp2_with fail
      go_at_call 20; with_reducible refine (iIsVoid_lit _ _ _ _ (by omega) HV.out).mono ?_
      rintro e w5 ⟨rfl, hb1⟩
      have O5 := Lib.hid ((O4.out.kept ((Below.refl _ _).alloc (Nat.le_refl _) _)).kept hb1)
      have cc_w50 := cell_keep (p := ⟨w.heap.size, 0, none⟩) (v := .slice A n c) hb1 (by first | assumption | (go_keep; done) | (go_simp; done) | (simp; done)) (by first | omega | (simp <;> omega))
      have cc_w51 := cell_keep (p := ⟨w4.heap.size, 0, none⟩) (v := .slice (some ⟨g4, 0, none⟩) hs.length c4) hb1 (by first | assumption | (go_keep; done) | (go_simp; done) | (simp; done)) (by first | omega | (simp <;> omega))
      have hS1_w5 : Below w.heap.size w w5 := S_below hb1 (by repeat (first | exact Below.refl _ _ | assumption | refine below_drewN ?_ _ | refine Below.drew ?_ | refine Below.alloc ?_ (by first | omega | (simp <;> omega)) _ | refine Below.setCell ?_ (by first | omega | (simp <;> omega)) _)) (by first | omega | (simp <;> omega))
      have hz1_w5 : w.heap.size + 1 ≤ w5.heap.size := S_size hb1 (by first | omega | (simp <;> omega))
      have hqb_w50 : w.heap.size < w5.heap.size := S_lt hb1 (by first | omega | (simp <;> omega))
      have hqb_w51 : w4.heap.size < w5.heap.size := S_lt hb1 (by first | omega | (simp <;> omega))
      clear hb1
      clear cc_w40 hS1_w4 O4
      go_wp2_with fail
      have hO5 := O5.out.of_len
      have hn6 : n ≤ 1048576 := by omega
      have hn7 : hs.length ≤ 4611686018427387904 := by omega
      have hd5 : Below w.heap.size w w5.drew := hS1_w5.drew
      go_region_with (first
        | (go_at_call 19; go_loud (with_reducible refine (toRegion_any _ _ _ hs _ HN.out (HA.out.step hd5) hn6).mono ?_); rintro e w6 ⟨g6, c6, rfl, hO6, hg6, hb1⟩; have hb5 : Below w5.heap.size w5 w6 := S_below hb1 (by repeat (first | exact Below.refl _ _ | assumption | refine below_drewN ?_ _ | refine Below.drew ?_ | refine Below.alloc ?_ (by first | omega | (simp <;> omega)) _ | refine Below.setCell ?_ (by first | omega | (simp <;> omega)) _)) (Nat.le_refl _); have R6 := hO5.step hb5; have O6 := hO6.of_len; have cc6 := cell_keep hb5 cc_w51 hqb_w51; have cc5 := cell_keep hb5 cc_w50 hqb_w50; have hS6 : Below w.heap.size w w6 := hS1_w5.trans (hb5.mono (by omega)); have hz6 := hS6.size; clear hO6 hb1 hb5)
        | (go_at_call 21; with_reducible refine (eqRegion_same _ _ _ _ _ _ hs _ rfl rfl R6 O6 hn7).mono ?_; rintro e w7 ⟨rfl, hb1⟩; have hS7 : Below w.heap.size w w7 := S_below hb1 (by repeat (first | exact Below.refl _ _ | assumption | refine below_drewN ?_ _ | refine Below.drew ?_ | refine Below.alloc ?_ (by first | omega | (simp <;> omega)) _ | refine Below.setCell ?_ (by first | omega | (simp <;> omega)) _)) hz6; clear hb1))
      all_goals
        go_wp2_with fail
        go_ret
        exact ⟨rfl, (by repeat (first | exact Below.refl _ _ | assumption | refine below_drewN ?_ _ | refine Below.drew ?_ | refine Below.alloc ?_ (by first | omega | (simp <;> omega)) _ | refine Below.setCell ?_ (by first | omega | (simp <;> omega)) _))⟩

theorem iSameRegion_lit {v : Bool} (A A' : Option Addr) (n n' c c' : Nat) (hs hs' : List Hp) (w : World) (hn : n = hs.length) (hn' : n' = hs'.length) (hA : HsAt w w.heap.size A hs) (hA' : HsAt w w.heap.size A' hs') (hm : n ≤ 4611686018427387904) (hm' : n' ≤ 4611686018427387904) (hv : decide (hs = hs') = v) :
    Calls Try.prog 23 #[.agg #[.slice A n c], .agg #[.slice A' n' c']] w fun e w' => e = .returned (.bool v) ∧ Below w.heap.size w w' := by
  subst hv; exact iSameRegion_any A A' n n' c c' hs hs' w hn hn' hA hA' hm hm'

theorem sSameRegion_lit {v : Bool} (A A' : Option Addr) (n n' c c' : Nat) (hs hs' : List Hp) (w : World) (hn : n = hs.length) (hn' : n' = hs'.length) (hA : HsAt w w.heap.size A hs) (hA' : HsAt w w.heap.size A' hs') (hm : n ≤ 4611686018427387904) (hm' : n' ≤ 4611686018427387904) (hv : decide (hs = hs') = v) :
    Calls Try.prog 22 #[.agg #[.slice A n c], .agg #[.slice A' n' c']] w fun e w' => e = .returned (.bool v) ∧ Below w.heap.size w w' := by
  subst hv; exact sSameRegion_any A A' n n' c c' hs hs' w hn hn' hA hA' hm hm'

set_option maxHeartbeats 1000000 in
set_option maxRecDepth 100000 in
theorem exSameRegion_walk (A : Option Addr) (n c : Nat) (hs : List Hp) (A' : Option Addr) (n' c' : Nat) (hs' : List Hp) (w : World) (hn : n = hs.length) (hm : n ≤ maxLen) (hA : HsAt w w.heap.size A hs) (hI : ∀ x ∈ hs, Ints3 x) (hn' : n' = hs'.length) (hm' : n' ≤ maxLen) (hA' : HsAt w w.heap.size A' hs') (hI' : ∀ x ∈ hs', Ints3 x) :
    Calls Try.prog 5 #[.agg #[.slice A n c], .agg #[.slice A' n' c']] w fun e w' => e = .returned (.bool true) ∧ Below w.heap.size w w' := by
  unfold maxLen at hm hm'
  have HA := Lib.hid hA; clear hA
  have HN := Lib.hid hn; clear hn
  have HA' := Lib.hid hA'; clear hA'
  have HN' := Lib.hid hn'; clear hn'
  clear hI hI'
  by_cases hz : 1048576 < n
  · go_enter Try.func5, Try.ntmps5
    go_wp2_with fail
    go_at_call 17; refine (szRegion_lit (v := -1) _ _ _ _ (by decide) (by decide) (by omega) (leftV_stop (by omega))).mono ?_; rintro e w1 ⟨rfl, hb⟩
    have hS : Below w.heap.size w w1 := S_below hb (by repeat (first | exact Below.refl _ _ | assumption | refine below_drewN ?_ _ | refine Below.drew ?_ | refine Below.alloc ?_ (by first | omega | (simp <;> omega)) _ | refine Below.setCell ?_ (by first | omega | (simp <;> omega)) _)) (by first | omega | (simp <;> omega))
    clear hb
    go_wp2_with fail
    go_ret
    exact ⟨rfl, hS⟩
  · have hq0 : (0 : Int) ≤ 1048576 - n := by omega
    by_cases hy : (1048576 - n : Int) < n'
    · go_enter Try.func5, Try.ntmps5
      go_wp2_with fail
      go_at_call 17; with_reducible refine (szRegion_lit (v := 1048576 - n) _ _ _ _ (by decide) (by decide) (by omega) (leftV_go (by omega))).mono ?_
      rintro e w1 ⟨rfl, hb1⟩
      have cc_w10 := cell_keep (p := ⟨w.heap.size, 0, none⟩) (v := .slice A n c) hb1 (by first | assumption | (go_keep; done) | (go_simp; done) | (simp; done)) (by first | omega | (simp <;> omega))
      have cc_w11 := cell_keep (p := ⟨w.heap.size + 1, 0, none⟩) (v := .slice A' n' c') hb1 (by first | assumption | (go_keep; done) | (go_simp; done) | (simp; done)) (by first | omega | (simp <;> omega))
      have hS1_w1 : Below w.heap.size w w1 := S_below hb1 (by repeat (first | exact Below.refl _ _ | assumption | refine below_drewN ?_ _ | refine Below.drew ?_ | refine Below.alloc ?_ (by first | omega | (simp <;> omega)) _ | refine Below.setCell ?_ (by first | omega | (simp <;> omega)) _)) (by first | omega | (simp <;> omega))
      have hz1_w1 : w.heap.size + 1 + 1 ≤ w1.heap.size := S_size hb1 (by first | omega | (simp <;> omega))
      have hqb_w10 : w.heap.size < w1.heap.size := S_lt hb1 (by first | omega | (simp <;> omega))
      have hqb_w11 : w.heap.size + 1 < w1.heap.size := S_lt hb1 (by first | omega | (simp <;> omega))
      clear hb1
      go_wp2_with fail
      go_at_call 17; with_reducible refine (szRegion_lit (v := -1) _ _ _ _ (by omega) (by omega) (by omega) (leftV_stop (by omega))).mono ?_
      rintro e w2 ⟨rfl, hb1⟩
      have cc_w20 := cell_keep (p := ⟨w.heap.size, 0, none⟩) (v := .slice A n c) hb1 (by first | assumption | (go_keep; done) | (go_simp; done) | (simp; done)) (by first | omega | (simp <;> omega))
      have cc_w21 := cell_keep (p := ⟨w.heap.size + 1, 0, none⟩) (v := .slice A' n' c') hb1 (by first | assumption | (go_keep; done) | (go_simp; done) | (simp; done)) (by first | omega | (simp <;> omega))
      have hS1_w2 : Below w.heap.size w w2 := S_below hb1 (by repeat (first | exact Below.refl _ _ | assumption | refine below_drewN ?_ _ | refine Below.drew ?_ | refine Below.alloc ?_ (by first | omega | (simp <;> omega)) _ | refine Below.setCell ?_ (by first | omega | (simp <;> omega)) _)) (by first | omega | (simp <;> omega))
      have hz1_w2 : w.heap.size + 1 + 1 ≤ w2.heap.size := S_size hb1 (by first | omega | (simp <;> omega))
      have hqb_w20 : w.heap.size < w2.heap.size := S_lt hb1 (by first | omega | (simp <;> omega))
      have hqb_w21 : w.heap.size + 1 < w2.heap.size := S_lt hb1 (by first | omega | (simp <;> omega))
      clear hb1
      go_wp2_with fail
      go_ret
      exact ⟨rfl, (by repeat (first | exact Below.refl _ _ | assumption | refine below_drewN ?_ _ | refine Below.drew ?_ | refine Below.alloc ?_ (by first | omega | (simp <;> omega)) _ | refine Below.setCell ?_ (by first | omega | (simp <;> omega)) _))⟩
    · go_enter Try.func5, Try.ntmps5
      go_wp2_with fail
      go_at_call 17; with_reducible refine (szRegion_lit (v := 1048576 - n) _ _ _ _ (by decide) (by decide) (by omega) (leftV_go (by omega))).mono ?_
      rintro e w1 ⟨rfl, hb1⟩
      have cc_w10 := cell_keep (p := ⟨w.heap.size, 0, none⟩) (v := .slice A n c) hb1 (by first | assumption | (go_keep; done) | (go_simp; done) | (simp; done)) (by first | omega | (simp <;> omega))
      have cc_w11 := cell_keep (p := ⟨w.heap.size + 1, 0, none⟩) (v := .slice A' n' c') hb1 (by first | assumption | (go_keep; done) | (go_simp; done) | (simp; done)) (by first | omega | (simp <;> omega))
      have hS1_w1 : Below w.heap.size w w1 := S_below hb1 (by repeat (first | exact Below.refl _ _ | assumption | refine below_drewN ?_ _ | refine Below.drew ?_ | refine Below.alloc ?_ (by first | omega | (simp <;> omega)) _ | refine Below.setCell ?_ (by first | omega | (simp <;> omega)) _)) (by first | omega | (simp <;> omega))
      have hz1_w1 : w.heap.size + 1 + 1 ≤ w1.heap.size := S_size hb1 (by first | omega | (simp <;> omega))
      have hqb_w10 : w.heap.size < w1.heap.size := S_lt hb1 (by first | omega | (simp <;> omega))
      have hqb_w11 : w.heap.size + 1 < w1.heap.size := S_lt hb1 (by first | omega | (simp <;> omega))
      clear hb1
      go_wp2_with fail
      go_at_call 17; with_reducible refine (szRegion_lit (v := 1048576 - n - n') _ _ _ _ (by omega) (by omega) (by omega) (leftV_go (by omega))).mono ?_
      rintro e w2 ⟨rfl, hb1⟩
      have cc_w20 := cell_keep (p := ⟨w.heap.size, 0, none⟩) (v := .slice A n c) hb1 (by first | assumption | (go_keep; done) | (go_simp; done) | (simp; done)) (by first | omega | (simp <;> omega))
      have cc_w21 := cell_keep (p := ⟨w.heap.size + 1, 0, none⟩) (v := .slice A' n' c') hb1 (by first | assumption | (go_keep; done) | (go_simp; done) | (simp; done)) (by first | omega | (simp <;> omega))
      have hS1_w2 : Below w.heap.size w w2 := S_below hb1 (by repeat (first | exact Below.refl _ _ | assumption | refine below_drewN ?_ _ | refine Below.drew ?_ | refine Below.alloc ?_ (by first | omega | (simp <;> omega)) _ | refine Below.setCell ?_ (by first | omega | (simp <;> omega)) _)) (by first | omega | (simp <;> omega))
      have hz1_w2 : w.heap.size + 1 + 1 ≤ w2.heap.size := S_size hb1 (by first | omega | (simp <;> omega))
      have hqb_w20 : w.heap.size < w2.heap.size := S_lt hb1 (by first | omega | (simp <;> omega))
      have hqb_w21 : w.heap.size + 1 < w2.heap.size := S_lt hb1 (by first | omega | (simp <;> omega))
      clear hb1
      clear cc_w10 cc_w11 hS1_w1
      have hn6 : n ≤ 1048576 := by omega
      have hn6' : n' ≤ 1048576 := by omega
      have hL : hs.length ≤ 1048576 := by have := HN.out; omega
      have hL' : hs'.length ≤ 1048576 := by have := HN'.out; omega
      have hn7 : hs.length ≤ 4611686018427387904 := by omega
      have hn7' : hs'.length ≤ 4611686018427387904 := by omega
      have hd2 : Below w.heap.size w w2.drew := hS1_w2.drew
      obtain ⟨vv, hv⟩ : ∃ vv, decide (hs = hs') = vv := ⟨_, rfl⟩
      have HV := Lib.hid hv
      clear hv
      go_wp2_with fail
      go_upto_region 8 with fail
      go_cut [6] (fun s6 wx => s6 = .bool vv ∧ Below w2.heap.size w2 wx)
      case first =>
        go_region_with (first | (go_at_call 19; (with_reducible refine (toRegion_any _ _ _ hs _ HN.out (HA.out.step hd2) hn6).mono ?_); rintro e w_a ⟨g_a, c_a, rfl, hO_a, hg_a, hb_1⟩; have hb_a : Below w2.heap.size w2 w_a := S_below hb_1 (by repeat (first | exact Below.refl _ _ | assumption | refine below_drewN ?_ _ | refine Below.drew ?_ | refine Below.alloc ?_ (by first | omega | (simp <;> omega)) _ | refine Below.setCell ?_ (by first | omega | (simp <;> omega)) _)) (Nat.le_refl _); have hS_a : Below w.heap.size w w_a := hS1_w2.trans (hb_a.mono hS1_w2.size); have O_a := hO_a.of_len; have ck0 := cell_keep hb_a cc_w20 hqb_w20; have ck1 := cell_keep hb_a cc_w21 hqb_w21; clear hO_a hb_1) | (go_at_call 19; (with_reducible refine (toRegion_any _ _ _ hs' _ HN'.out (HA'.out.step hS_a) hn6').mono ?_); rintro e w_c ⟨g_c, c_c, rfl, hO_c, hg_c, hb_3⟩; have hb_c : Below w2.heap.size w2 w_c := hb_a.trans (hb_3.mono hb_a.size); have R_a := O_a.step hb_3; have O_c := hO_c.of_len; clear hO_c hb_3) | (go_at_call 22; (with_reducible refine (sSameRegion_lit _ _ _ _ _ _ hs hs' _ rfl rfl R_a O_c hn7 hn7' HV.out).mono ?_); rintro e w_b ⟨rfl, hb_2⟩; have hb_b : Below w2.heap.size w2 w_b := S_below hb_2 hb_c hb_c.size; clear hb_2))
        all_goals
          go_wp2_with fail
          go_meet
          exact ⟨rfl,  by first | assumption | exact (by repeat (first | exact Below.refl _ _ | assumption | refine below_drewN ?_ _ | refine Below.drew ?_ | refine Below.alloc ?_ (by first | omega | (simp <;> omega)) _ | refine Below.setCell ?_ (by first | omega | (simp <;> omega)) _))⟩
      case rest =>
        obtain ⟨rfl,  hb1⟩ := hcut
        generalize wc = w3 at *
        have cc_w30 := cell_keep (p := ⟨w.heap.size, 0, none⟩) (v := .slice A n c) hb1 (by first | assumption | (go_keep; done) | (go_simp; done) | (simp; done)) (by first | omega | (simp <;> omega))
        have cc_w31 := cell_keep (p := ⟨w.heap.size + 1, 0, none⟩) (v := .slice A' n' c') hb1 (by first | assumption | (go_keep; done) | (go_simp; done) | (simp; done)) (by first | omega | (simp <;> omega))
        have hS1_w3 : Below w.heap.size w w3 := S_below hb1 (by repeat (first | exact Below.refl _ _ | assumption | refine below_drewN ?_ _ | refine Below.drew ?_ | refine Below.alloc ?_ (by first | omega | (simp <;> omega)) _ | refine Below.setCell ?_ (by first | omega | (simp <;> omega)) _)) (by first | omega | (simp <;> omega))
        have hz1_w3 : w.heap.size + 1 + 1 ≤ w3.heap.size := S_size hb1 (by first | omega | (simp <;> omega))
        have hqb_w30 : w.heap.size < w3.heap.size := S_lt hb1 (by first | omega | (simp <;> omega))
        have hqb_w31 : w.heap.size + 1 < w3.heap.size := S_lt hb1 (by first | omega | (simp <;> omega))
        skip -- clear hb1
        go_wp2_with fail
        go_at_call 19; with_reducible refine (toRegion_any _ _ _ hs _ HN.out (HA.out.step (by repeat (first | exact Below.refl _ _ | assumption | refine below_drewN ?_ _ | refine Below.drew ?_ | refine Below.alloc ?_ (by first | omega | (simp <;> omega)) _ | refine Below.setCell ?_ (by first | omega | (simp <;> omega)) _))) (by omega)).mono ?_
        rintro e w4 ⟨g4, c4, rfl, hO4, hg4, hb1⟩
        have cc_w40 := cell_keep (p := ⟨w.heap.size, 0, none⟩) (v := .slice A n c) hb1 (by first | assumption | (go_keep; done) | (go_simp; done) | (simp; done)) (by first | omega | (simp <;> omega))
        have cc_w41 := cell_keep (p := ⟨w.heap.size + 1, 0, none⟩) (v := .slice A' n' c') hb1 (by first | assumption | (go_keep; done) | (go_simp; done) | (simp; done)) (by first | omega | (simp <;> omega))
        have hS1_w4 : Below w.heap.size w w4 := S_below hb1 (by repeat (first | exact Below.refl _ _ | assumption | refine below_drewN ?_ _ | refine Below.drew ?_ | refine Below.alloc ?_ (by first | omega | (simp <;> omega)) _ | refine Below.setCell ?_ (by first | omega | (simp <;> omega)) _)) (by first | omega | (simp <;> omega))
        have hz1_w4 : w.heap.size + 1 + 1 ≤ w4.heap.size := S_size hb1 (by first | omega | (simp <;> omega))
        have hqb_w40 : w.heap.size < w4.heap.size := S_lt hb1 (by first | omega | (simp <;> omega))
        have hqb_w41 : w.heap.size + 1 < w4.heap.size := S_lt hb1 (by first | omega | (simp <;> omega))
        clear hb1
        clear cc_w30 cc_w31 hS1_w3
        have O4 := Lib.hid hO4
        clear hO4
        go_wp2_with fail
        go_at_call 19; with_reducible refine (toRegion_any _ _ _ hs' _ HN'.out (HA'.out.step (by repeat (first | exact Below.refl _ _ | assumption | refine below_drewN ?_ _ | refine Below.drew ?_ | refine Below.alloc ?_ (by first | omega | (simp <;> omega)) _ | refine Below.setCell ?_ (by first | omega | (simp <;> omega)) _))) (by omega)).mono ?_
        rintro e w5 ⟨g5, c5, rfl, hO5, hg5, hb1⟩
        have O4' := Lib.hid ((O4.out.kept ((Below.refl _ _).alloc (Nat.le_refl _) _)).kept hb1)
        have cc_w50 := cell_keep (p := ⟨w.heap.size, 0, none⟩) (v := .slice A n c) hb1 (by first | assumption | (go_keep; done) | (go_simp; done) | (simp; done)) (by first | omega | (simp <;> omega))
        have cc_w51 := cell_keep (p := ⟨w.heap.size + 1, 0, none⟩) (v := .slice A' n' c') hb1 (by first | assumption | (go_keep; done) | (go_simp; done) | (simp; done)) (by first | omega | (simp <;> omega))
        have cc_w52 := cell_keep (p := ⟨w4.heap.size, 0, none⟩) (v := .slice (some ⟨g4, 0, none⟩) hs.length c4) hb1 (by first | assumption | (go_keep; done) | (go_simp; done) | (simp; done)) (by first | omega | (simp <;> omega))
        have hS1_w5 : Below w.heap.size w w5 := S_below hb1 (by repeat (first | exact Below.refl _ _ | assumption | refine below_drewN ?_ _ | refine Below.drew ?_ | refine Below.alloc ?_ (by first | omega | (simp <;> omega)) _ | refine Below.setCell ?_ (by first | omega | (simp <;> omega)) _)) (by first | omega | (simp <;> omega))
        have hz1_w5 : w.heap.size + 1 + 1 ≤ w5.heap.size := S_size hb1 (by first | omega | (simp <;> omega))
        have hqb_w50 : w.heap.size < w5.heap.size := S_lt hb1 (by first | omega | (simp <;> omega))
        have hqb_w51 : w.heap.size + 1 < w5.heap.size := S_lt hb1 (by first | omega | (simp <;> omega))
        have hqb_w52 : w4.heap.size < w5.heap.size := S_lt hb1 (by first | omega | (simp <;> omega))
        clear hb1
        clear cc_w40 cc_w41 hS1_w4 O4
        have O5 := Lib.hid hO5
        clear hO5
        go_wp2_with fail
        go_at_call 23; with_reducible refine (iSameRegion_lit _ _ _ _ _ _ hs hs' _ rfl rfl ((O4'.out.kept ((Below.refl _ _).alloc (Nat.le_refl _) _)).of_len) ((O5.out.kept ((Below.refl _ _).alloc (Nat.le_refl _) _)).of_len) hn7 hn7' HV.out).mono ?_
        rintro e w6 ⟨rfl, hb1⟩
        have O4'' := Lib.hid ((O4'.out.kept ((Below.refl _ _).alloc (Nat.le_refl _) _)).kept hb1)
        have O5' := Lib.hid ((O5.out.kept ((Below.refl _ _).alloc (Nat.le_refl _) _)).kept hb1)
        have cc_w60 := cell_keep (p := ⟨w.heap.size, 0, none⟩) (v := .slice A n c) hb1 (by first | assumption | (go_keep; done) | (go_simp; done) | (simp; done)) (by first | omega | (simp <;> omega))
        have cc_w61 := cell_keep (p := ⟨w.heap.size + 1, 0, none⟩) (v := .slice A' n' c') hb1 (by first | assumption | (go_keep; done) | (go_simp; done) | (simp; done)) (by first | omega | (simp <;> omega))
        have cc_w62 := cell_keep (p := ⟨w4.heap.size, 0, none⟩) (v := .slice (some ⟨g4, 0, none⟩) hs.length c4) hb1 (by first | assumption | (go_keep; done) | (go_simp; done) | (simp; done)) (by first | omega | (simp <;> omega))
        have cc_w63 := cell_keep (p := ⟨w5.heap.size, 0, none⟩) (v := .slice (some ⟨g5, 0, none⟩) hs'.length c5) hb1 (by first | assumption | (go_keep; done) | (go_simp; done) | (simp; done)) (by first | omega | (simp <;> omega))
        have hS1_w6 : Below w.heap.size w w6 := S_below hb1 (by repeat (first | exact Below.refl _ _ | assumption | refine below_drewN ?_ _ | refine Below.drew ?_ | refine Below.alloc ?_ (by first | omega | (simp <;> omega)) _ | refine Below.setCell ?_ (by first | omega | (simp <;> omega)) _)) (by first | omega | (simp <;> omega))
        have hz1_w6 : w.heap.size + 1 + 1 ≤ w6.heap.size := S_size hb1 (by first | omega | (simp <;> omega))
        have hqb_w60 : w.heap.size < w6.heap.size := S_lt hb1 (by first | omega | (simp <;> omega))
        have hqb_w61 : w.heap.size + 1 < w6.heap.size := S_lt hb1 (by first | omega | (simp <;> omega))
        have hqb_w62 : w4.heap.size < w6.heap.size := S_lt hb1 (by first | omega | (simp <;> omega))
        have hqb_w63 : w5.heap.size < w6.heap.size := S_lt hb1 (by first | omega | (simp <;> omega))
        clear hb1
        clear cc_w50 cc_w51 cc_w52 hS1_w5 O4' O5
        go_wp2_with fail
        have HO4 := O4''.out.of_len
        have hd_ : Below w.heap.size w w6.drew := by refine Below.drew ?_; assumption
        go_upto_region 14 with fail
        go_cut [39] (fun s39 wx => s39 = .bool false ∧ Below w6.heap.size w6 wx)
        case first =>
          go_region_with (first | (go_at_call 19; (with_reducible refine (toRegion_any _ _ _ hs _ HN.out (HA.out.step hd_) hn6).mono ?_); rintro e w_a ⟨g_a, c_a, rfl, hO_a, hg_a, hb_1⟩; have hb_a : Below w6.heap.size w6 w_a := S_below hb_1 (by repeat (first | exact Below.refl _ _ | assumption | refine below_drewN ?_ _ | refine Below.drew ?_ | refine Below.alloc ?_ (by first | omega | (simp <;> omega)) _ | refine Below.setCell ?_ (by first | omega | (simp <;> omega)) _)) (Nat.le_refl _); have R_a := HO4.step hb_a; have O_a := hO_a.of_len; have ck0 := cell_keep (p := ⟨w.heap.size, 0, none⟩) (v := .slice A n c) hb_a (by first | assumption | (go_keep; done) | (go_simp; done) | (simp; done)) (by first | assumption | omega | (simp <;> omega)); have ck1 := cell_keep (p := ⟨w.heap.size + 1, 0, none⟩) (v := .slice A' n' c') hb_a (by first | assumption | (go_keep; done) | (go_simp; done) | (simp; done)) (by first | assumption | omega | (simp <;> omega)); have ck2 := cell_keep (p := ⟨w4.heap.size, 0, none⟩) (v := .slice (some ⟨g4, 0, none⟩) hs.length c4) hb_a (by first | assumption | (go_keep; done) | (go_simp; done) | (simp; done)) (by first | assumption | omega | (simp <;> omega)); have ck3 := cell_keep (p := ⟨w5.heap.size, 0, none⟩) (v := .slice (some ⟨g5, 0, none⟩) hs'.length c5) hb_a (by first | assumption | (go_keep; done) | (go_simp; done) | (simp; done)) (by first | assumption | omega | (simp <;> omega)); clear hO_a hb_1) | (go_at_call 21; (with_reducible refine (eqRegion_same _ _ _ _ _ _ hs _ rfl rfl R_a O_a hn7).mono ?_); rintro e w_b ⟨rfl, hb_2⟩; have hb_b : Below w6.heap.size w6 w_b := S_below hb_2 (by repeat (first | exact Below.refl _ _ | assumption | refine below_drewN ?_ _ | refine Below.drew ?_ | refine Below.alloc ?_ (by first | omega | (simp <;> omega)) _ | refine Below.setCell ?_ (by first | omega | (simp <;> omega)) _)) hb_a.size; clear hb_2))
          all_goals
            go_wp2_with fail
            go_meet
            exact ⟨rfl,  by first | assumption | exact (by repeat (first | exact Below.refl _ _ | assumption | refine below_drewN ?_ _ | refine Below.drew ?_ | refine Below.alloc ?_ (by first | omega | (simp <;> omega)) _ | refine Below.setCell ?_ (by first | omega | (simp <;> omega)) _))⟩
        case rest =>
          obtain ⟨rfl,  hb1⟩ := hcut
          generalize wc = w7 at *
          have cc_w70 := cell_keep (p := ⟨w.heap.size, 0, none⟩) (v := .slice A n c) hb1 (by first | assumption | (go_keep; done) | (go_simp; done) | (simp; done)) (by first | omega | (simp <;> omega))
          have cc_w71 := cell_keep (p := ⟨w.heap.size + 1, 0, none⟩) (v := .slice A' n' c') hb1 (by first | assumption | (go_keep; done) | (go_simp; done) | (simp; done)) (by first | omega | (simp <;> omega))
          have cc_w72 := cell_keep (p := ⟨w4.heap.size, 0, none⟩) (v := .slice (some ⟨g4, 0, none⟩) hs.length c4) hb1 (by first | assumption | (go_keep; done) | (go_simp; done) | (simp; done)) (by first | omega | (simp <;> omega))
          have cc_w73 := cell_keep (p := ⟨w5.heap.size, 0, none⟩) (v := .slice (some ⟨g5, 0, none⟩) hs'.length c5) hb1 (by first | assumption | (go_keep; done) | (go_simp; done) | (simp; done)) (by first | omega | (simp <;> omega))
          have hS1_w7 : Below w.heap.size w w7 := S_below hb1 (by repeat (first | exact Below.refl _ _ | assumption | refine below_drewN ?_ _ | refine Below.drew ?_ | refine Below.alloc ?_ (by first | omega | (simp <;> omega)) _ | refine Below.setCell ?_ (by first | omega | (simp <;> omega)) _)) (by first | omega | (simp <;> omega))
          have hz1_w7 : w.heap.size + 1 + 1 ≤ w7.heap.size := S_size hb1 (by first | omega | (simp <;> omega))
          have hqb_w70 : w.heap.size < w7.heap.size := S_lt hb1 (by first | omega | (simp <;> omega))
          have hqb_w71 : w.heap.size + 1 < w7.heap.size := S_lt hb1 (by first | omega | (simp <;> omega))
          have hqb_w72 : w4.heap.size < w7.heap.size := S_lt hb1 (by first | omega | (simp <;> omega))
          have hqb_w73 : w5.heap.size < w7.heap.size := S_lt hb1 (by first | omega | (simp <;> omega))
          skip -- clear hb1
          have HO5 := (O5'.out.kept hb1).of_len
          have hn6 := hn6'
          have hn7 := hn7'
          clear cc_w60 cc_w61 cc_w62 cc_w63 hS1_w6 HO4 hd_
          go_wp2_with fail
          have hd_ : Below w.heap.size w w7.drew := by refine Below.drew ?_; assumption
          go_upto_region 16 with fail
          go_cut [44] (fun s44 wx => s44 = .bool false ∧ Below w7.heap.size w7 wx)
          case first =>
            go_region_with (first | (go_at_call 19; (with_reducible refine (toRegion_any _ _ _ hs' _ HN'.out (HA'.out.step hd_) hn6).mono ?_); rintro e w_a ⟨g_a, c_a, rfl, hO_a, hg_a, hb_1⟩; have hb_a : Below w7.heap.size w7 w_a := S_below hb_1 (by repeat (first | exact Below.refl _ _ | assumption | refine below_drewN ?_ _ | refine Below.drew ?_ | refine Below.alloc ?_ (by first | omega | (simp <;> omega)) _ | refine Below.setCell ?_ (by first | omega | (simp <;> omega)) _)) (Nat.le_refl _); have R_a := HO5.step hb_a; have O_a := hO_a.of_len; have ck0 := cell_keep (p := ⟨w.heap.size, 0, none⟩) (v := .slice A n c) hb_a (by first | assumption | (go_keep; done) | (go_simp; done) | (simp; done)) (by first | assumption | omega | (simp <;> omega)); have ck1 := cell_keep (p := ⟨w.heap.size + 1, 0, none⟩) (v := .slice A' n' c') hb_a (by first | assumption | (go_keep; done) | (go_simp; done) | (simp; done)) (by first | assumption | omega | (simp <;> omega)); have ck2 := cell_keep (p := ⟨w4.heap.size, 0, none⟩) (v := .slice (some ⟨g4, 0, none⟩) hs.length c4) hb_a (by first | assumption | (go_keep; done) | (go_simp; done) | (simp; done)) (by first | assumption | omega | (simp <;> omega)); have ck3 := cell_keep (p := ⟨w5.heap.size, 0, none⟩) (v := .slice (some ⟨g5, 0, none⟩) hs'.length c5) hb_a (by first | assumption | (go_keep; done) | (go_simp; done) | (simp; done)) (by first | assumption | omega | (simp <;> omega)); clear hO_a hb_1) | (go_at_call 21; (with_reducible refine (eqRegion_same _ _ _ _ _ _ hs' _ rfl rfl R_a O_a hn7).mono ?_); rintro e w_b ⟨rfl, hb_2⟩; have hb_b : Below w7.heap.size w7 w_b := S_below hb_2 (by repeat (first | exact Below.refl _ _ | assumption | refine below_drewN ?_ _ | refine Below.drew ?_ | refine Below.alloc ?_ (by first | omega | (simp <;> omega)) _ | refine Below.setCell ?_ (by first | omega | (simp <;> omega)) _)) hb_a.size; clear hb_2))
            all_goals
              go_wp2_with fail
              go_meet
              exact ⟨rfl,  by first | assumption | exact (by repeat (first | exact Below.refl _ _ | assumption | refine below_drewN ?_ _ | refine Below.drew ?_ | refine Below.alloc ?_ (by first | omega | (simp <;> omega)) _ | refine Below.setCell ?_ (by first | omega | (simp <;> omega)) _))⟩
          case rest =>
            obtain ⟨rfl,  hb1⟩ := hcut
            generalize wc = w8 at *
            have cc_w80 := cell_keep (p := ⟨w.heap.size, 0, none⟩) (v := .slice A n c) hb1 (by first | assumption | (go_keep; done) | (go_simp; done) | (simp; done)) (by first | omega | (simp <;> omega))
            have cc_w81 := cell_keep (p := ⟨w.heap.size + 1, 0, none⟩) (v := .slice A' n' c') hb1 (by first | assumption | (go_keep; done) | (go_simp; done) | (simp; done)) (by first | omega | (simp <;> omega))
            have cc_w82 := cell_keep (p := ⟨w4.heap.size, 0, none⟩) (v := .slice (some ⟨g4, 0, none⟩) hs.length c4) hb1 (by first | assumption | (go_keep; done) | (go_simp; done) | (simp; done)) (by first | omega | (simp <;> omega))
            have cc_w83 := cell_keep (p := ⟨w5.heap.size, 0, none⟩) (v := .slice (some ⟨g5, 0, none⟩) hs'.length c5) hb1 (by first | assumption | (go_keep; done) | (go_simp; done) | (simp; done)) (by first | omega | (simp <;> omega))
            have hS1_w8 : Below w.heap.size w w8 := S_below hb1 (by repeat (first | exact Below.refl _ _ | assumption | refine below_drewN ?_ _ | refine Below.drew ?_ | refine Below.alloc ?_ (by first | omega | (simp <;> omega)) _ | refine Below.setCell ?_ (by first | omega | (simp <;> omega)) _)) (by first | omega | (simp <;> omega))
            have hz1_w8 : w.heap.size + 1 + 1 ≤ w8.heap.size := S_size hb1 (by first | omega | (simp <;> omega))
            have hqb_w80 : w.heap.size < w8.heap.size := S_lt hb1 (by first | omega | (simp <;> omega))
            have hqb_w81 : w.heap.size + 1 < w8.heap.size := S_lt hb1 (by first | omega | (simp <;> omega))
            have hqb_w82 : w4.heap.size < w8.heap.size := S_lt hb1 (by first | omega | (simp <;> omega))
            have hqb_w83 : w5.heap.size < w8.heap.size := S_lt hb1 (by first | omega | (simp <;> omega))
            skip -- clear hb1
            go_wp2_with fail
            go_ret
            exact ⟨rfl, (by repeat (first | exact Below.refl _ _ | assumption | refine below_drewN ?_ _ | refine Below.drew ?_ | refine Below.alloc ?_ (by first | omega | (simp <;> omega)) _ | refine Below.setCell ?_ (by first | omega | (simp <;> omega)) _))⟩

end Go.Proofs.Ythdaoadleeelnaa
