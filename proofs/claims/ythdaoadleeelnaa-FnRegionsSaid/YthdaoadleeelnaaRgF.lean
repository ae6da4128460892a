/- RegionFrom of the program. -/
import Derived.Test.YthdaoadleeelnaaMet
import Derived.Test.YthdaoadleeelnaaRn15
namespace Go.Proofs.Ythdaoadleeelnaa
open Go.ChangeShapes Go.WideShapes Go.ChangeAt Go.RowKit
attribute [local go_sem ↓] Go.wp_at_zero Go.wp_at_succ
set_option linter.unusedVariables false

theorem areHalves_is {A : Option Addr} {n c : Nat} {hs : List Hp} {v : Bool} {w : World} (h : hs.all okH = v) (hn : n = hs.length) (hA : HsAt w w.heap.size A hs) (hm : n ≤ 1048576) :
    Calls Try.prog 51 #[.slice A n c] w fun e w' => e = .returned (.bool v) ∧ Below w.heap.size w w' := by
  subst h; exact areHalves_any A n c hs w hn hA hm

theorem rfF_ok {hs : List Hp} {n : Nat} (hn : n = hs.length) (h : ¬ 40 < n) (ho : hs.all okH = true) : n ≤ 40 := by omega

set_option maxHeartbeats 1000000 in
set_option maxRecDepth 100000 in
theorem iRegionFrom_any (A : Option Addr) (n c : Nat) (hs : List Hp) (w : World) (hn : n = hs.length) (hA : HsAt w w.heap.size A hs) (hm : n ≤ 4611686018427387904) :
    Calls Try.prog 31 #[.slice A n c] w (RPost (rfR hs) (rfB hs) w) := by
  have HA := Lib.hid hA; clear hA
  by_cases h40 : 40 < n
  · have HV := Lib.hid (rf_no (rfG_long (hs := hs) (by omega)))
    clear hn
    go_enter Try.func31, Try.ntmps31
    go_wp2_with fail
    exact bodyPost_ret (v := .tuple #[.agg #[.slice none 0 0], .bool false]) (by simp [results, Try.results31, go_sem]) rfl ⟨none, 0, by rw [HV.out.1, HV.out.2]; rfl, by rw [HV.out.1]; exact World.ownsRow_nil _ _ _ _, (by repeat (first | exact Below.refl _ _ | assumption | refine below_drewN ?_ _ | refine Below.drew ?_ | refine Below.alloc ?_ (by first | omega | (simp <;> omega)) _ | refine Below.setCell ?_ (by first | omega | (simp <;> omega)) _))⟩
  · have HN := Lib.hid hn
    clear hn
    cases ho : hs.all okH
    · have HV := Lib.hid (rf_no (rfG_not ho))
      have HO := Lib.hid ho; clear ho
      go_enter Try.func31, Try.ntmps31
      go_wp2_with fail
      go_wp2_with fail
      go_at_call 51; with_reducible refine (areHalves_is HO.out HN.out (HA.out.step ((Below.refl _ _).alloc (Nat.le_refl _) _)) (by omega)).mono ?_
      rintro e w1 ⟨rfl, hb1⟩
      have cc_w10 := cell_keep (p := ⟨w.heap.size, 0, none⟩) (v := .slice none 0 0) hb1 (by first | assumption | (go_keep; done) | (go_simp; done) | (simp; done)) (by first | omega | (simp <;> omega))
      have cf_w10 := frozen_keep (p := ⟨w.heap.size, 0, none⟩) hb1 (by first | assumption | (go_keep; done) | (go_simp; done) | (simp; done)) (by first | omega | (simp <;> omega))
      have hS1_w1 : Below w.heap.size w w1 := S_below hb1 (by repeat (first | exact Below.refl _ _ | assumption | refine below_drewN ?_ _ | refine Below.drew ?_ | refine Below.alloc ?_ (by first | omega | (simp <;> omega)) _ | refine Below.setCell ?_ (by first | omega | (simp <;> omega)) _)) (by first | omega | (simp <;> omega))
      have hz1_w1 : w.heap.size + 1 ≤ w1.heap.size := S_size hb1 (by first | omega | (simp <;> omega))
      have hqb_w10 : w.heap.size < w1.heap.size := S_lt hb1 (by first | omega | (simp <;> omega))
      clear hb1
      go_wp2_with fail
      exact bodyPost_ret (v := .tuple #[.agg #[.slice none 0 0], .bool false]) (by simp [results, Try.results31, go_sem, set_0 cc_w10]) rfl ⟨none, 0, by rw [HV.out.1, HV.out.2]; rfl, by rw [HV.out.1]; exact World.ownsRow_nil _ _ _ _, (by repeat (first | exact Below.refl _ _ | assumption | refine below_drewN ?_ _ | refine Below.drew ?_ | refine Below.alloc ?_ (by first | omega | (simp <;> omega)) _ | refine Below.setCell ?_ (by first | omega | (simp <;> omega)) _))⟩
    · have HO := Lib.hid ho; clear ho
      go_enter Try.func31, Try.ntmps31
      go_wp2_with fail
      go_wp2_with fail
      go_at_call 51; with_reducible refine (areHalves_is HO.out HN.out (HA.out.step ((Below.refl _ _).alloc (Nat.le_refl _) _)) (by omega)).mono ?_
      rintro e w1 ⟨rfl, hb1⟩
      have cc_w10 := cell_keep (p := ⟨w.heap.size, 0, none⟩) (v := .slice none 0 0) hb1 (by first | assumption | (go_keep; done) | (go_simp; done) | (simp; done)) (by first | omega | (simp <;> omega))
      have cf_w10 := frozen_keep (p := ⟨w.heap.size, 0, none⟩) hb1 (by first | assumption | (go_keep; done) | (go_simp; done) | (simp; done)) (by first | omega | (simp <;> omega))
      have hS1_w1 : Below w.heap.size w w1 := S_below hb1 (by repeat (first | exact Below.refl _ _ | assumption | refine below_drewN ?_ _ | refine Below.drew ?_ | refine Below.alloc ?_ (by first | omega | (simp <;> omega)) _ | refine Below.setCell ?_ (by first | omega | (simp <;> omega)) _)) (by first | omega | (simp <;> omega))
      have hz1_w1 : w.heap.size + 1 ≤ w1.heap.size := S_size hb1 (by first | omega | (simp <;> omega))
      have hqb_w10 : w.heap.size < w1.heap.size := S_lt hb1 (by first | omega | (simp <;> omega))
      clear hb1
      go_wp2_with fail
      go_at_call 52; refine (meetAll_any _ n c hs w1 HN.out (HA.out.step hS1_w1) (by omega) HO.out).mono ?_; rintro e w2 ⟨Av, cv, rfl, hO, hb1⟩
      have dR := cell_keep (p := ⟨w.heap.size, 0, none⟩) hb1 cc_w10 (by simp; omega)
      have gR := frozen_keep (p := ⟨w.heap.size, 0, none⟩) hb1 cf_w10 (by simp; omega)
      have hS1 : Below w.heap.size w w2 := S_below hb1 hS1_w1 (by omega)
      have hOf := Lib.hid ((hO.setFar (p := ⟨w.heap.size, 0, none⟩) (hO.near (by simp; omega)) (.slice Av (rfR hs).length cv)).wide (B' := w.heap.size) (by omega))
      clear hb1 hO
      go_wp2_with fail
      exact bodyPost_ret (v := .tuple #[.agg #[.slice Av (rfR hs).length cv], .bool (rfB hs)]) (by simp [results, Try.results31, go_sem, set_0 dR]) rfl ⟨Av, cv, rfl, hOf.out, (by repeat (first | exact Below.refl _ _ | assumption | refine below_drewN ?_ _ | refine Below.drew ?_ | refine Below.alloc ?_ (by first | omega | (simp <;> omega)) _ | refine Below.setCell ?_ (by first | omega | (simp <;> omega)) _))⟩

theorem iRegionFrom_to {A : Option Addr} {n c : Nat} {hs R : List Hp} {b : Bool} {w : World} (hR : rfR hs = R) (hb : rfB hs = b) (hn : n = hs.length) (hA : HsAt w w.heap.size A hs) (hm : n ≤ 4611686018427387904) :
    Calls Try.prog 31 #[.slice A n c] w (RPost R b w) := by
  subst hR; subst hb; exact iRegionFrom_any A n c hs w hn hA hm

set_option maxHeartbeats 1000000 in
set_option maxRecDepth 100000 in
theorem iRegionOk_any (A : Option Addr) (n c : Nat) (hs : List Hp) (w : World) (hn : n = hs.length) (hA : HsAt w w.heap.size A hs) (hm : n ≤ 4611686018427387904) :
    Calls Try.prog 33 #[.agg #[.slice A n c]] w fun e w' => e = .returned (.bool (regOkB hs)) ∧ Below w.heap.size w w' := by
  have HA := Lib.hid hA; clear hA
  by_cases h0 : n = 0
  · have HV := Lib.hid (show regOkB hs = true by unfold regOkB; rw [decide_eq_true (by omega)]; rfl)
    clear hn
    subst h0
    go_enter Try.func33, Try.ntmps33
    go_wp2_with fail
    go_ret
    exact ⟨ret_bool HV.out.symm, (by repeat (first | exact Below.refl _ _ | assumption | refine below_drewN ?_ _ | refine Below.drew ?_ | refine Below.alloc ?_ (by first | omega | (simp <;> omega)) _ | refine Below.setCell ?_ (by first | omega | (simp <;> omega)) _))⟩
  · have HN := Lib.hid hn
    have hn0 : ((n : Int) == 0) = false := by simp; omega
    have hl0 : ¬ hs.length = 0 := by omega
    obtain ⟨R, hR⟩ : ∃ R, rfR hs = R := ⟨_, rfl⟩
    have hRl := rfR_len (hs := hs)
    rw [hR] at hRl
    have HR := Lib.hid hR
    cases hb : rfB hs
    all_goals
      have HB := Lib.hid hb
      first
        | (have HV := Lib.hid (show regOkB hs = false by unfold regOkB; rw [decide_eq_false hl0, hb]; rfl))
        | (have HV := Lib.hid (show regOkB hs = decide (hs = R) by unfold regOkB; rw [decide_eq_false hl0, hb, hR]; rfl))
      clear hn hR hb hl0
      obtain ⟨v, hv⟩ : ∃ v, decide (hs = R) = v := ⟨_, rfl⟩
      try rw [hv] at HV
      have HD := Lib.hid hv
      clear hv
      go_enter Try.func33, Try.ntmps33
      go_wp2_with fail
      go_wp2_with fail
      go_at_call 31; with_reducible refine (iRegionFrom_to HR.out HB.out HN.out (HA.out.step ((Below.refl _ _).alloc (Nat.le_refl _) _)) hm).mono ?_
      rintro e w1 ⟨Av, cv, rfl, hO, hb1⟩
      have HO := Lib.hid (hO.of_len.step ((Below.refl _ _).alloc (Nat.le_refl _) (.cells #[.slice Av R.length cv] 33)))
      have cc_w10 := cell_keep (p := ⟨w.heap.size, 0, none⟩) (v := .slice A n c) hb1 (by first | assumption | (go_keep; done) | (go_simp; done) | (simp; done)) (by first | omega | (simp <;> omega))
      have hS1_w1 : Below w.heap.size w w1 := S_below hb1 (by repeat (first | exact Below.refl _ _ | assumption | refine below_drewN ?_ _ | refine Below.drew ?_ | refine Below.alloc ?_ (by first | omega | (simp <;> omega)) _ | refine Below.setCell ?_ (by first | omega | (simp <;> omega)) _)) (by first | omega | (simp <;> omega))
      have hz1_w1 : w.heap.size + 1 ≤ w1.heap.size := S_size hb1 (by first | omega | (simp <;> omega))
      have hqb_w10 : w.heap.size < w1.heap.size := S_lt hb1 (by first | omega | (simp <;> omega))
      clear hb1
      go_wp2_with (first | (go_at_call 23; (with_reducible refine (iSameRegion_lit _ _ _ _ _ _ hs R _ HN.out rfl ((HA.out.step hS1_w1).step ((Below.refl _ _).alloc (Nat.le_refl _) _)) HO.out (by omega) (by omega) HD.out).mono ?_); rintro e w2 ⟨rfl, hb2⟩; have hS2 : Below w.heap.size w w2 := S_below hb2 (hS1_w1.alloc (by omega) _) (by simp; omega)))
      go_ret
      exact ⟨ret_bool HV.out.symm, (by repeat (first | exact Below.refl _ _ | assumption | refine below_drewN ?_ _ | refine Below.drew ?_ | refine Below.alloc ?_ (by first | omega | (simp <;> omega)) _ | refine Below.setCell ?_ (by first | omega | (simp <;> omega)) _))⟩

end Go.Proofs.Ythdaoadleeelnaa
