/- RegionOk of the reference. -/
import Derived.Test.YthdaoadleeelnaaRn13
import Derived.Test.YthdaoadleeelnaaRgL
namespace Go.Proofs.Ythdaoadleeelnaa
open Go.ChangeShapes Go.WideShapes Go.ChangeAt Go.RowKit
attribute [local go_sem ↓] Go.wp_at_zero Go.wp_at_succ
set_option linter.unusedVariables false

/-- RegionOk's answer. -/
def regOkB (hs : List Hp) : Bool := decide (hs.length = 0) || (rfB hs && decide (hs = rfR hs))

theorem sRegionFrom_to {A : Option Addr} {n c : Nat} {hs R : List Hp} {b : Bool} {w : World} (hR : rfR hs = R) (hb : rfB hs = b) (hn : n = hs.length) (hA : HsAt w w.heap.size A hs) (hm : n ≤ 4611686018427387904) :
    Calls Try.prog 29 #[.slice A n c] w (RPost R b w) := by
  subst hR; subst hb; exact sRegionFrom_any A n c hs w hn hA hm

theorem rfR_len {hs : List Hp} : (rfR hs).length ≤ 40 := by
  unfold rfR
  split
  · rename_i h
    unfold rfB at h
    simp only [Bool.and_eq_true, decide_eq_true_eq] at h
    exact h.2
  · simp

set_option maxHeartbeats 1000000 in
set_option maxRecDepth 100000 in
theorem sRegionOk_any (A : Option Addr) (n c : Nat) (hs : List Hp) (w : World) (hn : n = hs.length) (hA : HsAt w w.heap.size A hs) (hm : n ≤ 4611686018427387904) :
    Calls Try.prog 32 #[.agg #[.slice A n c]] w fun e w' => e = .returned (.bool (regOkB hs)) ∧ Below w.heap.size w w' := by
  have HA := Lib.hid hA; clear hA
  have HN := Lib.hid hn
  obtain ⟨R, hR⟩ : ∃ R, rfR hs = R := ⟨_, rfl⟩
  have hRl := rfR_len (hs := hs)
  rw [hR] at hRl
  have HR := Lib.hid hR
  cases hb : rfB hs
  all_goals
    have HB := Lib.hid hb
    by_cases h0 : n = 0
    · have HV := Lib.hid (show regOkB hs = true by unfold regOkB; rw [decide_eq_true (by omega)]; rfl)
      clear hn hR hb
      subst h0
      go_enter Try.func32, Try.ntmps32
      go_wp2_with fail
      go_wp2_with fail
      go_at_call 29; with_reducible refine (sRegionFrom_to HR.out HB.out HN.out (HA.out.step ((Below.refl _ _).alloc (Nat.le_refl _) _)) hm).mono ?_
      rintro e w1 ⟨Av, cv, rfl, hO, hb1⟩
      have cc_w10 := cell_keep (p := ⟨w.heap.size, 0, none⟩) (v := .slice A 0 c) hb1 (by first | assumption | (go_keep; done) | (go_simp; done) | (simp; done)) (by first | omega | (simp <;> omega))
      have hS1_w1 : Below w.heap.size w w1 := S_below hb1 (by repeat (first | exact Below.refl _ _ | assumption | refine below_drewN ?_ _ | refine Below.drew ?_ | refine Below.alloc ?_ (by first | omega | (simp <;> omega)) _ | refine Below.setCell ?_ (by first | omega | (simp <;> omega)) _)) (by first | omega | (simp <;> omega))
      have hz1_w1 : w.heap.size + 1 ≤ w1.heap.size := S_size hb1 (by first | omega | (simp <;> omega))
      have hqb_w10 : w.heap.size < w1.heap.size := S_lt hb1 (by first | omega | (simp <;> omega))
      clear hb1
      go_wp2_with fail
      go_ret
      exact ⟨ret_bool HV.out.symm, (by repeat (first | exact Below.refl _ _ | assumption | refine below_drewN ?_ _ | refine Below.drew ?_ | refine Below.alloc ?_ (by first | omega | (simp <;> omega)) _ | refine Below.setCell ?_ (by first | omega | (simp <;> omega)) _))⟩
    · have hn0 : ((n : Int) == 0) = false := by simp; omega
      have hl0 : ¬ hs.length = 0 := by omega
      first
        | (have HV := Lib.hid (show regOkB hs = false by unfold regOkB; rw [decide_eq_false hl0, hb]; rfl))
        | (have HV := Lib.hid (show regOkB hs = decide (hs = R) by unfold regOkB; rw [decide_eq_false hl0, hb, hR]; rfl))
      clear hn hR hb hl0
      obtain ⟨v, hv⟩ : ∃ v, decide (hs = R) = v := ⟨_, rfl⟩
      try rw [hv] at HV
      have HD := Lib.hid hv
      clear hv
      go_enter Try.func32, Try.ntmps32
      go_wp2_with fail
      go_wp2_with fail
      go_at_call 29; with_reducible refine (sRegionFrom_to HR.out HB.out HN.out (HA.out.step ((Below.refl _ _).alloc (Nat.le_refl _) _)) hm).mono ?_
      rintro e w1 ⟨Av, cv, rfl, hO, hb1⟩
      have HO := Lib.hid (hO.of_len.step ((Below.refl _ _).alloc (Nat.le_refl _) (.cells #[.slice Av R.length cv] 33)))
      have cc_w10 := cell_keep (p := ⟨w.heap.size, 0, none⟩) (v := .slice A n c) hb1 (by first | assumption | (go_keep; done) | (go_simp; done) | (simp; done)) (by first | omega | (simp <;> omega))
      have hS1_w1 : Below w.heap.size w w1 := S_below hb1 (by repeat (first | exact Below.refl _ _ | assumption | refine below_drewN ?_ _ | refine Below.drew ?_ | refine Below.alloc ?_ (by first | omega | (simp <;> omega)) _ | refine Below.setCell ?_ (by first | omega | (simp <;> omega)) _)) (by first | omega | (simp <;> omega))
      have hz1_w1 : w.heap.size + 1 ≤ w1.heap.size := S_size hb1 (by first | omega | (simp <;> omega))
      have hqb_w10 : w.heap.size < w1.heap.size := S_lt hb1 (by first | omega | (simp <;> omega))
      clear hb1
      go_wp2_with (first | (go_at_call 22; (with_reducible refine (sSameRegion_lit _ _ _ _ _ _ hs R _ HN.out rfl ((HA.out.step hS1_w1).step ((Below.refl _ _).alloc (Nat.le_refl _) _)) HO.out (by omega) (by omega) HD.out).mono ?_); rintro e w2 ⟨rfl, hb2⟩; have hS2 : Below w.heap.size w w2 := S_below hb2 (hS1_w1.alloc (by omega) _) (by simp; omega)))
      go_ret
      exact ⟨ret_bool HV.out.symm, (by repeat (first | exact Below.refl _ _ | assumption | refine below_drewN ?_ _ | refine Below.drew ?_ | refine Below.alloc ?_ (by first | omega | (simp <;> omega)) _ | refine Below.setCell ?_ (by first | omega | (simp <;> omega)) _))⟩

end Go.Proofs.Ythdaoadleeelnaa
