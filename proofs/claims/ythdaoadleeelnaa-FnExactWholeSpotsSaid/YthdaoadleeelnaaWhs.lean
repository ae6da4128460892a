/- WholeSpots of the reference. -/
import Derived.Test.YthdaoadleeelnaaWho
namespace Go.Proofs.Ythdaoadleeelnaa
open Go.ChangeShapes Go.WideShapes Go.ChangeAt Go.RowKit
attribute [local go_sem ↓] Go.wp_at_zero Go.wp_at_succ
set_option linter.unusedVariables false

theorem sFloor_is {a b p : Int} (h : a / b = p) (w : World) (h1 : -9223372036854775808 ≤ a) (h2 : a ≤ 9223372036854775807) (hb : 1 ≤ b) (hb2 : b ≤ 9223372036854775807) :
    Calls Try.prog 57 #[.int .i64 a, .int .i64 b] w fun e w' => e = .returned (.int .i64 p) ∧ w = w' := by
  subst h; exact sFloor_any a b w h1 h2 hb hb2

theorem cnt_max (lo hi : Int) : cntC (lo, hi) = max 0 (hi - lo + 1) := Int.max_comm _ _

set_option maxHeartbeats 1000000 in
set_option maxRecDepth 100000 in
theorem sWholeSpots_any (A : Option Addr) (n c : Nat) (hs : List Hp) (w : World) (hn : n = hs.length) (hA : HsAt w w.heap.size A hs) (hm : n ≤ 4611686018427387904) :
    Calls Try.prog 37 #[.agg #[.slice A n c]] w fun e w' => e = .returned (.int .i64 (whoV hs)) ∧ Below w.heap.size w w' := by
  have HA := Lib.hid (hA.step ((Below.refl _ w).alloc (Nat.le_refl _) (.cells #[.slice A n c] 33)))
  have HA0 := Lib.hid hA; clear hA
  have HN := Lib.hid hn
  cases hr : regOkB hs
  · have HV := Lib.hid (who_no hr)
    have HR := Lib.hid hr; clear hr hn
    go_enter Try.func37, Try.ntmps37
    go_wp2_with fail
    go_wp2_with fail
    go_at_call 32; with_reducible refine (sRegionOk_lit _ _ _ hs _ HN.out HA.out (by omega) HR.out).mono ?_
    rintro e w1 ⟨rfl, hb1⟩
    have cc_w10 := cell_keep (p := ⟨w.heap.size, 0, none⟩) (v := .slice A n c) hb1 (by first | assumption | (go_keep; done) | (go_simp; done) | (simp; done)) (by first | omega | (simp <;> omega))
    have hS1_w1 : Below w.heap.size w w1 := S_below hb1 (by repeat (first | exact Below.refl _ _ | assumption | refine below_drewN ?_ _ | refine Below.drew ?_ | refine Below.alloc ?_ (by first | omega | (simp <;> omega)) _ | refine Below.setCell ?_ (by first | omega | (simp <;> omega)) _)) (by first | omega | (simp <;> omega))
    have hz1_w1 : w.heap.size + 1 ≤ w1.heap.size := S_size hb1 (by first | omega | (simp <;> omega))
    have hqb_w10 : w.heap.size < w1.heap.size := S_lt hb1 (by first | omega | (simp <;> omega))
    clear hb1
    go_wp2_with fail
    go_ret
    exact ⟨ret_int HV.out.symm, (by repeat (first | exact Below.refl _ _ | assumption | refine below_drewN ?_ _ | refine Below.drew ?_ | refine Below.alloc ?_ (by first | omega | (simp <;> omega)) _ | refine Below.setCell ?_ (by first | omega | (simp <;> omega)) _))⟩
  · have HK := Lib.hid (regOk_ok hr)
    have hn40 : n ≤ 40 := by rw [HN.out]; exact regOk_len hr
    by_cases h0 : n = 0
    · have HV := Lib.hid (who_void (hs := hs) (by omega))
      have HR := Lib.hid hr; clear hr hn
      subst h0
      go_enter Try.func37, Try.ntmps37
      go_wp2_with fail
      go_wp2_with fail
      go_at_call 32; with_reducible refine (sRegionOk_lit _ _ _ hs _ HN.out HA.out (by omega) HR.out).mono ?_
      rintro e w1 ⟨rfl, hb1⟩
      have cc_w10 := cell_keep (p := ⟨w.heap.size, 0, none⟩) (v := .slice A 0 c) hb1 (by first | assumption | (go_keep; done) | (go_simp; done) | (simp; done)) (by first | omega | (simp <;> omega))
      have hS1_w1 : Below w.heap.size w w1 := S_below hb1 (by repeat (first | exact Below.refl _ _ | assumption | refine below_drewN ?_ _ | refine Below.drew ?_ | refine Below.alloc ?_ (by first | omega | (simp <;> omega)) _ | refine Below.setCell ?_ (by first | omega | (simp <;> omega)) _)) (by first | omega | (simp <;> omega))
      have hz1_w1 : w.heap.size + 1 ≤ w1.heap.size := S_size hb1 (by first | omega | (simp <;> omega))
      have hqb_w10 : w.heap.size < w1.heap.size := S_lt hb1 (by first | omega | (simp <;> omega))
      clear hb1
      go_wp2_with fail
      go_at_call 18; with_reducible refine (sIsVoid_lit (v := true) _ _ _ _ (by omega) rfl).mono ?_
      rintro e w2 ⟨rfl, hb1⟩
      have cc_w20 := cell_keep (p := ⟨w.heap.size, 0, none⟩) (v := .slice A 0 c) hb1 (by first | assumption | (go_keep; done) | (go_simp; done) | (simp; done)) (by first | omega | (simp <;> omega))
      have hS1_w2 : Below w.heap.size w w2 := S_below hb1 (by repeat (first | exact Below.refl _ _ | assumption | refine below_drewN ?_ _ | refine Below.drew ?_ | refine Below.alloc ?_ (by first | omega | (simp <;> omega)) _ | refine Below.setCell ?_ (by first | omega | (simp <;> omega)) _)) (by first | omega | (simp <;> omega))
      have hz1_w2 : w.heap.size + 1 ≤ w2.heap.size := S_size hb1 (by first | omega | (simp <;> omega))
      have hqb_w20 : w.heap.size < w2.heap.size := S_lt hb1 (by first | omega | (simp <;> omega))
      clear hb1
      go_wp2_with fail
      go_ret
      exact ⟨ret_int HV.out.symm, (by repeat (first | exact Below.refl _ _ | assumption | refine below_drewN ?_ _ | refine Below.drew ?_ | refine Below.alloc ?_ (by first | omega | (simp <;> omega)) _ | refine Below.setCell ?_ (by first | omega | (simp <;> omega)) _))⟩
    · have HV := Lib.hid (who_yes hr (by omega))
      have HR := Lib.hid hr; clear hr hn
      go_enter Try.func37, Try.ntmps37
      go_wp2_with fail
      go_wp2_with fail
      go_at_call 32; with_reducible refine (sRegionOk_lit _ _ _ hs _ HN.out HA.out (by omega) HR.out).mono ?_
      rintro e w1 ⟨rfl, hb1⟩
      have cc_w10 := cell_keep (p := ⟨w.heap.size, 0, none⟩) (v := .slice A n c) hb1 (by first | assumption | (go_keep; done) | (go_simp; done) | (simp; done)) (by first | omega | (simp <;> omega))
      have hS1_w1 : Below w.heap.size w w1 := S_below hb1 (by repeat (first | exact Below.refl _ _ | assumption | refine below_drewN ?_ _ | refine Below.drew ?_ | refine Below.alloc ?_ (by first | omega | (simp <;> omega)) _ | refine Below.setCell ?_ (by first | omega | (simp <;> omega)) _)) (by first | omega | (simp <;> omega))
      have hz1_w1 : w.heap.size + 1 ≤ w1.heap.size := S_size hb1 (by first | omega | (simp <;> omega))
      have hqb_w10 : w.heap.size < w1.heap.size := S_lt hb1 (by first | omega | (simp <;> omega))
      clear hb1
      go_wp2_with fail
      go_at_call 18; with_reducible refine (sIsVoid_lit (v := false) _ _ _ _ (by omega) (decide_eq_false h0)).mono ?_
      rintro e w2 ⟨rfl, hb1⟩
      have cc_w20 := cell_keep (p := ⟨w.heap.size, 0, none⟩) (v := .slice A n c) hb1 (by first | assumption | (go_keep; done) | (go_simp; done) | (simp; done)) (by first | omega | (simp <;> omega))
      have hS1_w2 : Below w.heap.size w w2 := S_below hb1 (by repeat (first | exact Below.refl _ _ | assumption | refine below_drewN ?_ _ | refine Below.drew ?_ | refine Below.alloc ?_ (by first | omega | (simp <;> omega)) _ | refine Below.setCell ?_ (by first | omega | (simp <;> omega)) _)) (by first | omega | (simp <;> omega))
      have hz1_w2 : w.heap.size + 1 ≤ w2.heap.size := S_size hb1 (by first | omega | (simp <;> omega))
      have hqb_w20 : w.heap.size < w2.heap.size := S_lt hb1 (by first | omega | (simp <;> omega))
      clear hb1
      clear HA
      go_wp2_with fail
      go_loopw [3, 4] (fun s i wr => ∃ (k : Nat) (N : Int), k ≤ 2001 ∧ i = .int .i64 (-1000 + k) ∧ s = .int .i64 N ∧ RowKit.Hid (N = whU hs k) ∧ (0 ≤ N ∧ N ≤ 2001 * k) ∧ wr.cell? ⟨w.heap.size, 0, none⟩ = some (.slice A n c) ∧ w.heap.size < wr.heap.size ∧ Below w.heap.size w wr) (fun _ i _ => 2001 - (intOf i + 1000).toNat)
      case atStart => exact ⟨0, 0, by omega, rfl, rfl, rfl, by omega, cc_w20, hqb_w20, hS1_w2⟩
      case round =>
        obtain ⟨k, N, hk, rfl, rfl, HE, ⟨n1, n2⟩, q0, hz, hb⟩ := hrel
        by_cases hlt : k < 2001
        · obtain ⟨x, hx⟩ : ∃ x : Int, -1000 + (k : Int) = x := ⟨_, rfl⟩
          have HW := Lib.hid (show whU hs (k + 1) = N + cntC (colF hs x) by rw [show whU hs (k + 1) = whU hs k + cntC (colF hs (-1000 + k)) from rfl, HE.out, hx])
          rw [hx]
          have hx1 : -1000 ≤ x := by omega
          have hx2 : x ≤ 1000 := by omega
          have HX := Lib.hid hx
          clear hx
          rename World => wo
          go_wp2_with fail
          go_loopw [5, 6, 23] (fun l h i wr => ∃ (j : Nat) (lo hi : Int), j ≤ n ∧ i = .int .i64 j ∧ l = .int .i64 lo ∧ h = .int .i64 hi ∧ RowKit.Hid ((lo, hi) = colF (hs.take j) x) ∧ (-1000 ≤ lo ∧ lo ≤ 200000000) ∧ (-200000000 ≤ hi ∧ hi ≤ 200000000) ∧ (hi ≤ 1000 ∨ hi < lo) ∧ wr.cell? ⟨w.heap.size, 0, none⟩ = some (.slice A n c) ∧ w.heap.size < wr.heap.size ∧ Below w.heap.size w wr) (fun _ _ i _ => n - (intOf i).toNat)
          case atStart => exact ⟨0, -1000, 1000, Nat.zero_le _, rfl, rfl, rfl, (rfl : ((-1000 : Int), (1000 : Int)) = colF [] x), by omega, by omega, by omega, q0, hz, hb⟩
          case round =>
            obtain ⟨j, lo, hi, hj, rfl, rfl, rfl, HF, ⟨l1, l2⟩, ⟨i1, i2⟩, hd, q1, hz1, hb1⟩ := hrel
            have hsz := hb1.size
            by_cases hltj : j < n
            · have hl1 : j < hs.length := by have := HN.out; omega
              obtain ⟨bL, oL, rfl, hlb, c0, c1, c2⟩ := (HA0.out.below hb1).at_ hl1
              have hlb' : bL < wr.heap.size := by omega
              have hst := colF_step (x := x) hl1
              have hkh := HK.out _ (List.getElem_mem hl1)
              generalize hs[j] = h at *
              obtain ⟨a, b, cc⟩ := h
              simp only at c0 c1 c2
              obtain ⟨⟨m1, m2⟩, ⟨b1, b2⟩, t1, t2⟩ := top_range hkh hx1 hx2
              clear hkh
              have HS := Lib.hid hst; clear hst
              have g0 : ∀ o : Obj, (wr.alloc o).cell? ⟨w.heap.size, 0, none⟩ = some (.slice (some ⟨bL, oL, none⟩) n c) := fun o => (World.cell?_alloc_lt wr o ⟨w.heap.size, 0, none⟩ (by simp; omega)).trans q1
              rcases (show 0 < b ∨ b < 0 ∨ b = 0 by omega) with hb0 | hb0 | hb0
              · obtain ⟨p, hp⟩ : ∃ p, (cc - a * x) / b = p := ⟨_, rfl⟩
                have hpb := floor_in hp (by omega) (K := 150000000) (by omega) (by omega) (by omega)
                have HV2 := Lib.hid (HS.out.trans (col_up HF.out hb0 hp))
                have HP := Lib.hid hp
                clear hp
                go_wp2_with (first | (go_at_call 57; with_reducible refine (sFloor_is HP.out _ (by omega) (by omega) (by omega) (by omega)).mono ?_; rintro e w1 ⟨rfl, rfl⟩))
                go_roundw
                case rel => exact ⟨j + 1, lo, min hi p, by omega, by go_num, rfl, rfl, HV2.out.symm, ⟨l1, l2⟩, by omega, by omega, g0 _, by simp; omega, (by repeat (first | exact Below.refl _ _ | assumption | refine below_drewN ?_ _ | refine Below.drew ?_ | refine Below.alloc ?_ (by first | omega | (simp <;> omega)) _ | refine Below.setCell ?_ (by first | omega | (simp <;> omega)) _))⟩
                case measure => simp [intOf]; omega
              · obtain ⟨p, hp⟩ : ∃ p, (cc - a * x) / (-b) = p := ⟨_, rfl⟩
                have hpb := floor_in hp (by omega) (K := 150000000) (by omega) (by omega) (by omega)
                have HV2 := Lib.hid (HS.out.trans (col_down HF.out hb0 hp))
                have HP := Lib.hid hp
                have nb : ¬ 0 < b := by omega
                clear hp
                go_wp2_with (first | (go_at_call 57; with_reducible refine (sFloor_is HP.out _ (by omega) (by omega) (by omega) (by omega)).mono ?_; rintro e w1 ⟨rfl, rfl⟩))
                go_roundw
                case rel => exact ⟨j + 1, max lo (-p), hi, by omega, by go_num, rfl, rfl, HV2.out.symm, by omega, ⟨i1, i2⟩, by omega, g0 _, by simp; omega, (by repeat (first | exact Below.refl _ _ | assumption | refine below_drewN ?_ _ | refine Below.drew ?_ | refine Below.alloc ?_ (by first | omega | (simp <;> omega)) _ | refine Below.setCell ?_ (by first | omega | (simp <;> omega)) _))⟩
                case measure => simp [intOf]; omega
              · subst hb0
                by_cases hx : cc < a * x
                · have HV2 := Lib.hid (HS.out.trans (col_none HF.out rfl hx))
                  go_wp2_with fail
                  go_roundw
                  case rel => exact ⟨j + 1, lo, lo - 1, by omega, by go_num, rfl, rfl, HV2.out.symm, ⟨l1, l2⟩, by omega, by omega, g0 _, by simp; omega, (by repeat (first | exact Below.refl _ _ | assumption | refine below_drewN ?_ _ | refine Below.drew ?_ | refine Below.alloc ?_ (by first | omega | (simp <;> omega)) _ | refine Below.setCell ?_ (by first | omega | (simp <;> omega)) _))⟩
                  case measure => simp [intOf]; omega
                · have HV2 := Lib.hid (HS.out.trans (col_all HF.out rfl hx))
                  go_wp2_with fail
                  go_roundw
                  case rel => exact ⟨j + 1, lo, hi, by omega, by go_num, rfl, rfl, HV2.out.symm, ⟨l1, l2⟩, ⟨i1, i2⟩, hd, g0 _, by simp; omega, (by repeat (first | exact Below.refl _ _ | assumption | refine below_drewN ?_ _ | refine Below.drew ?_ | refine Below.alloc ?_ (by first | omega | (simp <;> omega)) _ | refine Below.setCell ?_ (by first | omega | (simp <;> omega)) _))⟩
                  case measure => simp [intOf]; omega
            · have hc : whU hs (k + 1) = N + max 0 (hi - lo + 1) := by rw [HW.out, ← colF_end (k := j) (by have := HN.out; omega), ← HF.out, cnt_max]
              have HC := Lib.hid hc; clear hc
              have hx3 := HX.out
              go_wp2_with fail
              go_roundw
              case rel => exact ⟨k + 1, N + max 0 (hi - lo + 1), by omega, by go_num, rfl, HC.out.symm, by omega, q1, hz1, hb1⟩
              case measure => simp [intOf]; omega
        · have hk1 : k = 2001 := by omega
          subst hk1
          have HF := Lib.hid (HE.out.trans HV.out.symm)
          go_wp2_with fail
          go_ret
          exact ⟨ret_int HF.out, hb⟩

end Go.Proofs.Ythdaoadleeelnaa
