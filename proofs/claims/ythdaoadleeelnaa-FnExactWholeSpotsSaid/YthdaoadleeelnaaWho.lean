/- WholeSpots of the program. -/
import Derived.Test.YthdaoadleeelnaaCol
import Derived.Test.YthdaoadleeelnaaHsp
namespace Go.Proofs.Ythdaoadleeelnaa
open Go.ChangeShapes Go.WideShapes Go.ChangeAt Go.RowKit
attribute [local go_sem ↓] Go.wp_at_zero Go.wp_at_succ
set_option linter.unusedVariables false

/-- The whole points of the first columns. -/
def whU (hs : List Hp) : Nat → Int
  | 0 => 0
  | k + 1 => whU hs k + cntC (colF hs (-1000 + k))

def whoV (hs : List Hp) : Int := if regOkB hs && decide (hs.length ≠ 0) then whU hs 2001 else 0

theorem who_void {hs : List Hp} (h : hs.length = 0) : whoV hs = 0 := by unfold whoV; rw [decide_eq_false (by omega), Bool.and_false]; rfl

theorem who_no {hs : List Hp} (h : regOkB hs = false) : whoV hs = 0 := by unfold whoV; rw [h]; rfl

theorem who_yes {hs : List Hp} (h : regOkB hs = true) (h0 : ¬ hs.length = 0) : whoV hs = whU hs 2001 := by unfold whoV; rw [h, decide_eq_true (by omega)]; rfl

set_option maxHeartbeats 1000000 in
set_option maxRecDepth 100000 in
theorem iWholeSpots_any (A : Option Addr) (n c : Nat) (hs : List Hp) (w : World) (hn : n = hs.length) (hA : HsAt w w.heap.size A hs) (hm : n ≤ 4611686018427387904) :
    Calls Try.prog 38 #[.agg #[.slice A n c]] w fun e w' => e = .returned (.int .i64 (whoV hs)) ∧ Below w.heap.size w w' := by
  have HA := Lib.hid (hA.step ((Below.refl _ w).alloc (Nat.le_refl _) (.cells #[.slice A n c] 33)))
  have HA0 := Lib.hid hA; clear hA
  have HN := Lib.hid hn
  by_cases h0 : n = 0
  · have HV := Lib.hid (who_void (hs := hs) (by omega))
    clear hn
    subst h0
    go_enter Try.func38, Try.ntmps38
    go_wp2_with fail
    go_wp2_with fail
    go_at_call 20; with_reducible refine (iIsVoid_lit (v := true) _ _ _ _ (by omega) rfl).mono ?_
    rintro e w1 ⟨rfl, hb1⟩
    have cc_w10 := cell_keep (p := ⟨w.heap.size, 0, none⟩) (v := .slice A 0 c) hb1 (by first | assumption | (go_keep; done) | (go_simp; done) | (simp; done)) (by first | omega | (simp <;> omega))
    have hS1_w1 : Below w.heap.size w w1 := S_below hb1 (by repeat (first | exact Below.refl _ _ | assumption | refine below_drewN ?_ _ | refine Below.drew ?_ | refine Below.alloc ?_ (by first | omega | (simp <;> omega)) _ | refine Below.setCell ?_ (by first | omega | (simp <;> omega)) _)) (by first | omega | (simp <;> omega))
    have hz1_w1 : w.heap.size + 1 ≤ w1.heap.size := S_size hb1 (by first | omega | (simp <;> omega))
    have hqb_w10 : w.heap.size < w1.heap.size := S_lt hb1 (by first | omega | (simp <;> omega))
    clear hb1
    go_wp2_with fail
    go_ret
    exact ⟨ret_int HV.out.symm, (by repeat (first | exact Below.refl _ _ | assumption | refine below_drewN ?_ _ | refine Below.drew ?_ | refine Below.alloc ?_ (by first | omega | (simp <;> omega)) _ | refine Below.setCell ?_ (by first | omega | (simp <;> omega)) _))⟩
  · cases hr : regOkB hs
    · have HV := Lib.hid (who_no hr)
      have HR := Lib.hid hr; clear hr hn
      go_enter Try.func38, Try.ntmps38
      go_wp2_with fail
      go_wp2_with fail
      go_at_call 20; with_reducible refine (iIsVoid_lit (v := false) _ _ _ _ (by omega) (decide_eq_false h0)).mono ?_
      rintro e w1 ⟨rfl, hb1⟩
      have HA1 := Lib.hid (HA.out.step hb1)
      have cc_w10 := cell_keep (p := ⟨w.heap.size, 0, none⟩) (v := .slice A n c) hb1 (by first | assumption | (go_keep; done) | (go_simp; done) | (simp; done)) (by first | omega | (simp <;> omega))
      have hS1_w1 : Below w.heap.size w w1 := S_below hb1 (by repeat (first | exact Below.refl _ _ | assumption | refine below_drewN ?_ _ | refine Below.drew ?_ | refine Below.alloc ?_ (by first | omega | (simp <;> omega)) _ | refine Below.setCell ?_ (by first | omega | (simp <;> omega)) _)) (by first | omega | (simp <;> omega))
      have hz1_w1 : w.heap.size + 1 ≤ w1.heap.size := S_size hb1 (by first | omega | (simp <;> omega))
      have hqb_w10 : w.heap.size < w1.heap.size := S_lt hb1 (by first | omega | (simp <;> omega))
      clear hb1
      go_wp2_with fail
      go_at_call 33; with_reducible refine (iRegionOk_lit _ _ _ hs _ HN.out HA1.out (by omega) HR.out).mono ?_
      rintro e w2 ⟨rfl, hb1⟩
      have cc_w20 := cell_keep (p := ⟨w.heap.size, 0, none⟩) (v := .slice A n c) hb1 (by first | assumption | (go_keep; done) | (go_simp; done) | (simp; done)) (by first | omega | (simp <;> omega))
      have hS1_w2 : Below w.heap.size w w2 := S_below hb1 (by repeat (first | exact Below.refl _ _ | assumption | refine below_drewN ?_ _ | refine Below.drew ?_ | refine Below.alloc ?_ (by first | omega | (simp <;> omega)) _ | refine Below.setCell ?_ (by first | omega | (simp <;> omega)) _)) (by first | omega | (simp <;> omega))
      have hz1_w2 : w.heap.size + 1 ≤ w2.heap.size := S_size hb1 (by first | omega | (simp <;> omega))
      have hqb_w20 : w.heap.size < w2.heap.size := S_lt hb1 (by first | omega | (simp <;> omega))
      clear hb1
      go_wp2_with fail
      go_ret
      exact ⟨ret_int HV.out.symm, (by repeat (first | exact Below.refl _ _ | assumption | refine below_drewN ?_ _ | refine Below.drew ?_ | refine Below.alloc ?_ (by first | omega | (simp <;> omega)) _ | refine Below.setCell ?_ (by first | omega | (simp <;> omega)) _))⟩
    · have hn40 : n ≤ 40 := by rw [HN.out]; exact regOk_len hr
      have HV := Lib.hid (who_yes hr (by omega))
      have HK := Lib.hid (regOk_ok hr)
      have HR := Lib.hid hr; clear hr hn
      go_enter Try.func38, Try.ntmps38
      go_wp2_with fail
      go_wp2_with fail
      go_at_call 20; with_reducible refine (iIsVoid_lit (v := false) _ _ _ _ (by omega) (decide_eq_false h0)).mono ?_
      rintro e w1 ⟨rfl, hb1⟩
      have HA1 := Lib.hid (HA.out.step hb1)
      have cc_w10 := cell_keep (p := ⟨w.heap.size, 0, none⟩) (v := .slice A n c) hb1 (by first | assumption | (go_keep; done) | (go_simp; done) | (simp; done)) (by first | omega | (simp <;> omega))
      have hS1_w1 : Below w.heap.size w w1 := S_below hb1 (by repeat (first | exact Below.refl _ _ | assumption | refine below_drewN ?_ _ | refine Below.drew ?_ | refine Below.alloc ?_ (by first | omega | (simp <;> omega)) _ | refine Below.setCell ?_ (by first | omega | (simp <;> omega)) _)) (by first | omega | (simp <;> omega))
      have hz1_w1 : w.heap.size + 1 ≤ w1.heap.size := S_size hb1 (by first | omega | (simp <;> omega))
      have hqb_w10 : w.heap.size < w1.heap.size := S_lt hb1 (by first | omega | (simp <;> omega))
      clear hb1
      go_wp2_with fail
      go_at_call 33; with_reducible refine (iRegionOk_lit _ _ _ hs _ HN.out HA1.out (by omega) HR.out).mono ?_
      rintro e w2 ⟨rfl, hb1⟩
      have cc_w20 := cell_keep (p := ⟨w.heap.size, 0, none⟩) (v := .slice A n c) hb1 (by first | assumption | (go_keep; done) | (go_simp; done) | (simp; done)) (by first | omega | (simp <;> omega))
      have hS1_w2 : Below w.heap.size w w2 := S_below hb1 (by repeat (first | exact Below.refl _ _ | assumption | refine below_drewN ?_ _ | refine Below.drew ?_ | refine Below.alloc ?_ (by first | omega | (simp <;> omega)) _ | refine Below.setCell ?_ (by first | omega | (simp <;> omega)) _)) (by first | omega | (simp <;> omega))
      have hz1_w2 : w.heap.size + 1 ≤ w2.heap.size := S_size hb1 (by first | omega | (simp <;> omega))
      have hqb_w20 : w.heap.size < w2.heap.size := S_lt hb1 (by first | omega | (simp <;> omega))
      clear hb1
      clear HA1 HA
      go_wp2_with fail
      go_loopw [3, 4] (fun s i wr => ∃ (k : Nat) (N : Int), k ≤ 2001 ∧ i = .int .i64 (-1000 + k) ∧ s = .int .i64 N ∧ RowKit.Hid (N = whU hs k) ∧ (0 ≤ N ∧ N ≤ 2001 * k) ∧ wr.cell? ⟨w.heap.size, 0, none⟩ = some (.slice A n c) ∧ w.heap.size < wr.heap.size ∧ Below w.heap.size w wr) (fun _ i _ => 2001 - (intOf i + 1000).toNat)
      case atStart => exact ⟨0, 0, by omega, rfl, rfl, rfl, by omega, cc_w20, hqb_w20, hS1_w2⟩
      case round =>
        obtain ⟨k, N, hk, rfl, rfl, HE, ⟨n1, n2⟩, q0, hz, hb⟩ := hrel
        by_cases hlt : k < 2001
        · have HW := Lib.hid (show whU hs (k + 1) = N + cntC (colF hs (-1000 + k)) by rw [show whU hs (k + 1) = whU hs k + cntC (colF hs (-1000 + k)) from rfl, HE.out])
          have HAr := Lib.hid (HA0.out.step hb)
          go_wp2_with fail
          go_at_call 58; with_reducible refine (columnOf_any A n c hs (-1000 + k) wr HN.out HAr.out hn40 HK.out (by omega) (by omega)).mono ?_
          rintro e w3 ⟨lo, hi, rfl, hc, ⟨l1, l2⟩, ⟨i1, i2⟩, hb1⟩
          have cc_w30 := cell_keep (p := ⟨w.heap.size, 0, none⟩) (v := .slice A n c) hb1 (by first | assumption | (go_keep; done) | (go_simp; done) | (simp; done)) (by first | omega | (simp <;> omega))
          have hS1_w3 : Below w.heap.size w w3 := S_below hb1 (by repeat (first | exact Below.refl _ _ | assumption | refine below_drewN ?_ _ | refine Below.drew ?_ | refine Below.alloc ?_ (by first | omega | (simp <;> omega)) _ | refine Below.setCell ?_ (by first | omega | (simp <;> omega)) _)) (by first | omega | (simp <;> omega))
          have hz1_w3 : w.heap.size ≤ w3.heap.size := S_size hb1 (by first | omega | (simp <;> omega))
          have hqb_w30 : w.heap.size < w3.heap.size := S_lt hb1 (by first | omega | (simp <;> omega))
          clear hb1
          rw [← hc] at HW
          clear hc
          go_wp2_with fail
          go_roundw
          case rel => exact ⟨k + 1, N + max (hi - lo + 1) 0, by omega, by go_num, rfl, HW.out.symm, by omega, cc_w30, hqb_w30, hS1_w3⟩
          case measure => simp [intOf]; omega
        · have hk1 : k = 2001 := by omega
          subst hk1
          have HF := Lib.hid (HE.out.trans HV.out.symm)
          go_wp2_with fail
          go_ret
          exact ⟨ret_int HF.out, hb⟩

end Go.Proofs.Ythdaoadleeelnaa
