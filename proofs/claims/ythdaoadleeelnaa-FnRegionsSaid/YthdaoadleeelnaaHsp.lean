/- HasSpot, of the program and of the reference. -/
import Derived.Test.YthdaoadleeelnaaRgW
import Derived.Test.YthdaoadleeelnaaRn7
namespace Go.Proofs.Ythdaoadleeelnaa
open Go.ChangeShapes Go.WideShapes Go.ChangeAt Go.RowKit
attribute [local go_sem ↓] Go.wp_at_zero Go.wp_at_succ
set_option linter.unusedVariables false

def hasV (hs : List Hp) (x y d : Int) : Bool := decide (hs.length ≠ 0) && (spotOkV x y d && (regOkB hs && holdsR hs x y d))

theorem regOk_len {hs : List Hp} (h : regOkB hs = true) : hs.length ≤ 40 := by
  unfold regOkB at h
  rw [Bool.or_eq_true, Bool.and_eq_true, decide_eq_true_eq, decide_eq_true_eq] at h
  rcases h with e | ⟨_, e⟩
  · omega
  · rw [e]; exact rfR_len

theorem regOk_ok {hs : List Hp} (h : regOkB hs = true) : ∀ x ∈ hs, okH x = true := by
  unfold regOkB at h
  rw [Bool.or_eq_true, Bool.and_eq_true, decide_eq_true_eq, decide_eq_true_eq] at h
  rcases h with e | ⟨e, _⟩
  · rw [List.eq_nil_of_length_eq_zero e]; simp
  · unfold rfB rfG at e
    simp only [Bool.and_eq_true] at e
    exact List.all_eq_true.1 e.1.2

theorem holds_lit {v : Bool} {hs : List Hp} {x y d : Int} (hv : holdsR hs x y d = v) (A : Option Addr) (n c : Nat) (w : World) (hn : n = hs.length) (hA : HsAt w w.heap.size A hs) (hm : n ≤ 1048576)
    (hx1 : -9223372036854775808 ≤ x) (hx2 : x ≤ 9223372036854775807) (hy1 : -9223372036854775808 ≤ y) (hy2 : y ≤ 9223372036854775807) :
    Calls Try.prog 56 #[.agg #[.slice A n c], .agg #[.int .i64 x, .int .i64 y, .int .i64 d]] w fun e w' => e = .returned (.bool v) ∧ Below w.heap.size w w' := by
  subst hv; exact holds_any A n c hs x y d w hn hA hm hx1 hx2 hy1 hy2

theorem l05Has_lit {v : Bool} {hs : List Hp} {x y d : Int} (hv : holdsR hs x y d = v) (A : Option Addr) (n c : Nat) (w : World) (hn : n = hs.length) (hA : HsAt w w.heap.size A hs) (hr : regOkB hs = true) (h2 : spotOkV x y d = true) :
    Calls Try.prog 54 #[.agg #[.slice A n c], .agg #[.int .i64 x, .int .i64 y, .int .i64 d]] w fun e w' => e = .returned (.bool v) ∧ Below w.heap.size w w' := by
  subst hv; exact l05Has_any A n c hs x y d w hn hA (by have := regOk_len hr; omega) (regOk_ok hr) h2

set_option maxHeartbeats 1000000 in
set_option maxRecDepth 100000 in
theorem iHasSpot_any (A : Option Addr) (n c : Nat) (hs : List Hp) (x y d : Int) (w : World) (hn : n = hs.length) (hA : HsAt w w.heap.size A hs) (hm : n ≤ 4611686018427387904)
    (hx1 : -9223372036854775808 ≤ x) (hx2 : x ≤ 9223372036854775807) (hy1 : -9223372036854775808 ≤ y) (hy2 : y ≤ 9223372036854775807) :
    Calls Try.prog 36 #[.agg #[.slice A n c], .agg #[.int .i64 x, .int .i64 y, .int .i64 d]] w fun e w' => e = .returned (.bool (hasV hs x y d)) ∧ Below w.heap.size w w' := by
  have HA := Lib.hid (hA.step (((Below.refl _ w).alloc (Nat.le_refl _) (.cells #[.slice A n c] 33)).alloc (Nat.le_of_lt (new_lt _ _)) (.cells #[.int .i64 x, .int .i64 y, .int .i64 d] 49))); clear hA
  have HN := Lib.hid hn
  by_cases h0 : n = 0
  · have HV := Lib.hid (show hasV hs x y d = false by unfold hasV; rw [decide_eq_false (by omega)]; rfl)
    clear hn
    subst h0
    go_enter Try.func36, Try.ntmps36
    go_wp2_with fail
    go_wp2_with fail
    go_at_call 20; with_reducible refine (iIsVoid_lit (v := true) _ _ _ _ (by omega) rfl).mono ?_
    rintro e w1 ⟨rfl, hb1⟩
    have cc_w10 := cell_keep (p := ⟨w.heap.size, 0, none⟩) (v := .slice A 0 c) hb1 (by first | assumption | (go_keep; done) | (go_simp; done) | (simp; done)) (by first | omega | (simp <;> omega))
    have cc_w11 := cell_keep (p := ⟨w.heap.size + 1, 0, none⟩) (v := .int .i64 x) hb1 (by first | assumption | (go_keep; done) | (go_simp; done) | (simp; done)) (by first | omega | (simp <;> omega))
    have cc_w12 := cell_keep (p := ⟨w.heap.size + 1, 1, none⟩) (v := .int .i64 y) hb1 (by first | assumption | (go_keep; done) | (go_simp; done) | (simp; done)) (by first | omega | (simp <;> omega))
    have cc_w13 := cell_keep (p := ⟨w.heap.size + 1, 2, none⟩) (v := .int .i64 d) hb1 (by first | assumption | (go_keep; done) | (go_simp; done) | (simp; done)) (by first | omega | (simp <;> omega))
    have hS1_w1 : Below w.heap.size w w1 := S_below hb1 (by repeat (first | exact Below.refl _ _ | assumption | refine below_drewN ?_ _ | refine Below.drew ?_ | refine Below.alloc ?_ (by first | omega | (simp <;> omega)) _ | refine Below.setCell ?_ (by first | omega | (simp <;> omega)) _)) (by first | omega | (simp <;> omega))
    have hz1_w1 : w.heap.size + 1 + 1 ≤ w1.heap.size := S_size hb1 (by first | omega | (simp <;> omega))
    have hqb_w10 : w.heap.size < w1.heap.size := S_lt hb1 (by first | omega | (simp <;> omega))
    have hqb_w11 : w.heap.size + 1 < w1.heap.size := S_lt hb1 (by first | omega | (simp <;> omega))
    clear hb1
    go_wp2_with fail
    go_ret
    exact ⟨ret_bool HV.out.symm, (by repeat (first | exact Below.refl _ _ | assumption | refine below_drewN ?_ _ | refine Below.drew ?_ | refine Below.alloc ?_ (by first | omega | (simp <;> omega)) _ | refine Below.setCell ?_ (by first | omega | (simp <;> omega)) _))⟩
  · have hl : decide (hs.length ≠ 0) = true := decide_eq_true (by omega)
    clear hn
    cases h1 : spotOkV x y d
    · have HV := Lib.hid (show hasV hs x y d = false by unfold hasV; rw [h1, hl]; rfl)
      have H1 := Lib.hid h1; clear h1 hl
      go_enter Try.func36, Try.ntmps36
      go_wp2_with fail
      go_wp2_with fail
      go_at_call 20; with_reducible refine (iIsVoid_lit (v := false) _ _ _ _ (by omega) (decide_eq_false h0)).mono ?_
      rintro e w1 ⟨rfl, hb1⟩
      have cc_w10 := cell_keep (p := ⟨w.heap.size, 0, none⟩) (v := .slice A n c) hb1 (by first | assumption | (go_keep; done) | (go_simp; done) | (simp; done)) (by first | omega | (simp <;> omega))
      have cc_w11 := cell_keep (p := ⟨w.heap.size + 1, 0, none⟩) (v := .int .i64 x) hb1 (by first | assumption | (go_keep; done) | (go_simp; done) | (simp; done)) (by first | omega | (simp <;> omega))
      have cc_w12 := cell_keep (p := ⟨w.heap.size + 1, 1, none⟩) (v := .int .i64 y) hb1 (by first | assumption | (go_keep; done) | (go_simp; done) | (simp; done)) (by first | omega | (simp <;> omega))
      have cc_w13 := cell_keep (p := ⟨w.heap.size + 1, 2, none⟩) (v := .int .i64 d) hb1 (by first | assumption | (go_keep; done) | (go_simp; done) | (simp; done)) (by first | omega | (simp <;> omega))
      have hS1_w1 : Below w.heap.size w w1 := S_below hb1 (by repeat (first | exact Below.refl _ _ | assumption | refine below_drewN ?_ _ | refine Below.drew ?_ | refine Below.alloc ?_ (by first | omega | (simp <;> omega)) _ | refine Below.setCell ?_ (by first | omega | (simp <;> omega)) _)) (by first | omega | (simp <;> omega))
      have hz1_w1 : w.heap.size + 1 + 1 ≤ w1.heap.size := S_size hb1 (by first | omega | (simp <;> omega))
      have hqb_w10 : w.heap.size < w1.heap.size := S_lt hb1 (by first | omega | (simp <;> omega))
      have hqb_w11 : w.heap.size + 1 < w1.heap.size := S_lt hb1 (by first | omega | (simp <;> omega))
      clear hb1
      go_wp2_with fail
      go_at_call 55; with_reducible refine (iSpotOk_lit' H1.out _ hx1 hx2 hy1 hy2).mono ?_
      rintro e w2 ⟨rfl, hb1⟩
      have cc_w20 := cell_keep (p := ⟨w.heap.size, 0, none⟩) (v := .slice A n c) hb1 (by first | assumption | (go_keep; done) | (go_simp; done) | (simp; done)) (by first | omega | (simp <;> omega))
      have cc_w21 := cell_keep (p := ⟨w.heap.size + 1, 0, none⟩) (v := .int .i64 x) hb1 (by first | assumption | (go_keep; done) | (go_simp; done) | (simp; done)) (by first | omega | (simp <;> omega))
      have cc_w22 := cell_keep (p := ⟨w.heap.size + 1, 1, none⟩) (v := .int .i64 y) hb1 (by first | assumption | (go_keep; done) | (go_simp; done) | (simp; done)) (by first | omega | (simp <;> omega))
      have cc_w23 := cell_keep (p := ⟨w.heap.size + 1, 2, none⟩) (v := .int .i64 d) hb1 (by first | assumption | (go_keep; done) | (go_simp; done) | (simp; done)) (by first | omega | (simp <;> omega))
      have hS1_w2 : Below w.heap.size w w2 := S_below hb1 (by repeat (first | exact Below.refl _ _ | assumption | refine below_drewN ?_ _ | refine Below.drew ?_ | refine Below.alloc ?_ (by first | omega | (simp <;> omega)) _ | refine Below.setCell ?_ (by first | omega | (simp <;> omega)) _)) (by first | omega | (simp <;> omega))
      have hz1_w2 : w.heap.size + 1 + 1 ≤ w2.heap.size := S_size hb1 (by first | omega | (simp <;> omega))
      have hqb_w20 : w.heap.size < w2.heap.size := S_lt hb1 (by first | omega | (simp <;> omega))
      have hqb_w21 : w.heap.size + 1 < w2.heap.size := S_lt hb1 (by first | omega | (simp <;> omega))
      clear hb1
      go_wp2_with fail
      go_ret
      exact ⟨ret_bool HV.out.symm, (by repeat (first | exact Below.refl _ _ | assumption | refine below_drewN ?_ _ | refine Below.drew ?_ | refine Below.alloc ?_ (by first | omega | (simp <;> omega)) _ | refine Below.setCell ?_ (by first | omega | (simp <;> omega)) _))⟩
    · cases h2 : regOkB hs
      · have HV := Lib.hid (show hasV hs x y d = false by unfold hasV; rw [h1, hl, h2]; rfl)
        have H1 := Lib.hid h1; clear h1 hl
        have H2 := Lib.hid h2; clear h2
        go_enter Try.func36, Try.ntmps36
        go_wp2_with fail
        go_wp2_with fail
        go_at_call 20; with_reducible refine (iIsVoid_lit (v := false) _ _ _ _ (by omega) (decide_eq_false h0)).mono ?_
        rintro e w1 ⟨rfl, hb1⟩
        have HA1 := Lib.hid (HA.out.step hb1)
        have cc_w10 := cell_keep (p := ⟨w.heap.size, 0, none⟩) (v := .slice A n c) hb1 (by first | assumption | (go_keep; done) | (go_simp; done) | (simp; done)) (by first | omega | (simp <;> omega))
        have cc_w11 := cell_keep (p := ⟨w.heap.size + 1, 0, none⟩) (v := .int .i64 x) hb1 (by first | assumption | (go_keep; done) | (go_simp; done) | (simp; done)) (by first | omega | (simp <;> omega))
        have cc_w12 := cell_keep (p := ⟨w.heap.size + 1, 1, none⟩) (v := .int .i64 y) hb1 (by first | assumption | (go_keep; done) | (go_simp; done) | (simp; done)) (by first | omega | (simp <;> omega))
        have cc_w13 := cell_keep (p := ⟨w.heap.size + 1, 2, none⟩) (v := .int .i64 d) hb1 (by first | assumption | (go_keep; done) | (go_simp; done) | (simp; done)) (by first | omega | (simp <;> omega))
        have hS1_w1 : Below w.heap.size w w1 := S_below hb1 (by repeat (first | exact Below.refl _ _ | assumption | refine below_drewN ?_ _ | refine Below.drew ?_ | refine Below.alloc ?_ (by first | omega | (simp <;> omega)) _ | refine Below.setCell ?_ (by first | omega | (simp <;> omega)) _)) (by first | omega | (simp <;> omega))
        have hz1_w1 : w.heap.size + 1 + 1 ≤ w1.heap.size := S_size hb1 (by first | omega | (simp <;> omega))
        have hqb_w10 : w.heap.size < w1.heap.size := S_lt hb1 (by first | omega | (simp <;> omega))
        have hqb_w11 : w.heap.size + 1 < w1.heap.size := S_lt hb1 (by first | omega | (simp <;> omega))
        clear hb1
        go_wp2_with fail
        go_at_call 55; with_reducible refine (iSpotOk_lit' H1.out _ hx1 hx2 hy1 hy2).mono ?_
        rintro e w2 ⟨rfl, hb1⟩
        have HA2 := Lib.hid (HA1.out.step hb1)
        have cc_w20 := cell_keep (p := ⟨w.heap.size, 0, none⟩) (v := .slice A n c) hb1 (by first | assumption | (go_keep; done) | (go_simp; done) | (simp; done)) (by first | omega | (simp <;> omega))
        have cc_w21 := cell_keep (p := ⟨w.heap.size + 1, 0, none⟩) (v := .int .i64 x) hb1 (by first | assumption | (go_keep; done) | (go_simp; done) | (simp; done)) (by first | omega | (simp <;> omega))
        have cc_w22 := cell_keep (p := ⟨w.heap.size + 1, 1, none⟩) (v := .int .i64 y) hb1 (by first | assumption | (go_keep; done) | (go_simp; done) | (simp; done)) (by first | omega | (simp <;> omega))
        have cc_w23 := cell_keep (p := ⟨w.heap.size + 1, 2, none⟩) (v := .int .i64 d) hb1 (by first | assumption | (go_keep; done) | (go_simp; done) | (simp; done)) (by first | omega | (simp <;> omega))
        have hS1_w2 : Below w.heap.size w w2 := S_below hb1 (by repeat (first | exact Below.refl _ _ | assumption | refine below_drewN ?_ _ | refine Below.drew ?_ | refine Below.alloc ?_ (by first | omega | (simp <;> omega)) _ | refine Below.setCell ?_ (by first | omega | (simp <;> omega)) _)) (by first | omega | (simp <;> omega))
        have hz1_w2 : w.heap.size + 1 + 1 ≤ w2.heap.size := S_size hb1 (by first | omega | (simp <;> omega))
        have hqb_w20 : w.heap.size < w2.heap.size := S_lt hb1 (by first | omega | (simp <;> omega))
        have hqb_w21 : w.heap.size + 1 < w2.heap.size := S_lt hb1 (by first | omega | (simp <;> omega))
        clear hb1
        go_wp2_with fail
        go_at_call 33; with_reducible refine (iRegionOk_lit _ _ _ hs _ HN.out HA2.out (by omega) H2.out).mono ?_
        rintro e w3 ⟨rfl, hb1⟩
        have cc_w30 := cell_keep (p := ⟨w.heap.size, 0, none⟩) (v := .slice A n c) hb1 (by first | assumption | (go_keep; done) | (go_simp; done) | (simp; done)) (by first | omega | (simp <;> omega))
        have cc_w31 := cell_keep (p := ⟨w.heap.size + 1, 0, none⟩) (v := .int .i64 x) hb1 (by first | assumption | (go_keep; done) | (go_simp; done) | (simp; done)) (by first | omega | (simp <;> omega))
        have cc_w32 := cell_keep (p := ⟨w.heap.size + 1, 1, none⟩) (v := .int .i64 y) hb1 (by first | assumption | (go_keep; done) | (go_simp; done) | (simp; done)) (by first | omega | (simp <;> omega))
        have cc_w33 := cell_keep (p := ⟨w.heap.size + 1, 2, none⟩) (v := .int .i64 d) hb1 (by first | assumption | (go_keep; done) | (go_simp; done) | (simp; done)) (by first | omega | (simp <;> omega))
        have hS1_w3 : Below w.heap.size w w3 := S_below hb1 (by repeat (first | exact Below.refl _ _ | assumption | refine below_drewN ?_ _ | refine Below.drew ?_ | refine Below.alloc ?_ (by first | omega | (simp <;> omega)) _ | refine Below.setCell ?_ (by first | omega | (simp <;> omega)) _)) (by first | omega | (simp <;> omega))
        have hz1_w3 : w.heap.size + 1 + 1 ≤ w3.heap.size := S_size hb1 (by first | omega | (simp <;> omega))
        have hqb_w30 : w.heap.size < w3.heap.size := S_lt hb1 (by first | omega | (simp <;> omega))
        have hqb_w31 : w.heap.size + 1 < w3.heap.size := S_lt hb1 (by first | omega | (simp <;> omega))
        clear hb1
        go_wp2_with fail
        go_ret
        exact ⟨ret_bool HV.out.symm, (by repeat (first | exact Below.refl _ _ | assumption | refine below_drewN ?_ _ | refine Below.drew ?_ | refine Below.alloc ?_ (by first | omega | (simp <;> omega)) _ | refine Below.setCell ?_ (by first | omega | (simp <;> omega)) _))⟩
      · have hn40 : n ≤ 40 := by rw [HN.out]; exact regOk_len h2
        obtain ⟨v, hv⟩ : ∃ v, holdsR hs x y d = v := ⟨_, rfl⟩
        have HV := Lib.hid (show hasV hs x y d = v by unfold hasV; rw [h1, hl, h2, hv]; rfl)
        have H1 := Lib.hid h1; clear h1 hl
        have H2 := Lib.hid h2; clear h2
        have H3 := Lib.hid hv; clear hv
        go_enter Try.func36, Try.ntmps36
        go_wp2_with fail
        go_wp2_with fail
        go_at_call 20; with_reducible refine (iIsVoid_lit (v := false) _ _ _ _ (by omega) (decide_eq_false h0)).mono ?_
        rintro e w1 ⟨rfl, hb1⟩
        have HA1 := Lib.hid (HA.out.step hb1)
        have cc_w10 := cell_keep (p := ⟨w.heap.size, 0, none⟩) (v := .slice A n c) hb1 (by first | assumption | (go_keep; done) | (go_simp; done) | (simp; done)) (by first | omega | (simp <;> omega))
        have cc_w11 := cell_keep (p := ⟨w.heap.size + 1, 0, none⟩) (v := .int .i64 x) hb1 (by first | assumption | (go_keep; done) | (go_simp; done) | (simp; done)) (by first | omega | (simp <;> omega))
        have cc_w12 := cell_keep (p := ⟨w.heap.size + 1, 1, none⟩) (v := .int .i64 y) hb1 (by first | assumption | (go_keep; done) | (go_simp; done) | (simp; done)) (by first | omega | (simp <;> omega))
        have cc_w13 := cell_keep (p := ⟨w.heap.size + 1, 2, none⟩) (v := .int .i64 d) hb1 (by first | assumption | (go_keep; done) | (go_simp; done) | (simp; done)) (by first | omega | (simp <;> omega))
        have hS1_w1 : Below w.heap.size w w1 := S_below hb1 (by repeat (first | exact Below.refl _ _ | assumption | refine below_drewN ?_ _ | refine Below.drew ?_ | refine Below.alloc ?_ (by first | omega | (simp <;> omega)) _ | refine Below.setCell ?_ (by first | omega | (simp <;> omega)) _)) (by first | omega | (simp <;> omega))
        have hz1_w1 : w.heap.size + 1 + 1 ≤ w1.heap.size := S_size hb1 (by first | omega | (simp <;> omega))
        have hqb_w10 : w.heap.size < w1.heap.size := S_lt hb1 (by first | omega | (simp <;> omega))
        have hqb_w11 : w.heap.size + 1 < w1.heap.size := S_lt hb1 (by first | omega | (simp <;> omega))
        clear hb1
        go_wp2_with fail
        go_at_call 55; with_reducible refine (iSpotOk_lit' H1.out _ hx1 hx2 hy1 hy2).mono ?_
        rintro e w2 ⟨rfl, hb1⟩
        have HA2 := Lib.hid (HA1.out.step hb1)
        have cc_w20 := cell_keep (p := ⟨w.heap.size, 0, none⟩) (v := .slice A n c) hb1 (by first | assumption | (go_keep; done) | (go_simp; done) | (simp; done)) (by first | omega | (simp <;> omega))
        have cc_w21 := cell_keep (p := ⟨w.heap.size + 1, 0, none⟩) (v := .int .i64 x) hb1 (by first | assumption | (go_keep; done) | (go_simp; done) | (simp; done)) (by first | omega | (simp <;> omega))
        have cc_w22 := cell_keep (p := ⟨w.heap.size + 1, 1, none⟩) (v := .int .i64 y) hb1 (by first | assumption | (go_keep; done) | (go_simp; done) | (simp; done)) (by first | omega | (simp <;> omega))
        have cc_w23 := cell_keep (p := ⟨w.heap.size + 1, 2, none⟩) (v := .int .i64 d) hb1 (by first | assumption | (go_keep; done) | (go_simp; done) | (simp; done)) (by first | omega | (simp <;> omega))
        have hS1_w2 : Below w.heap.size w w2 := S_below hb1 (by repeat (first | exact Below.refl _ _ | assumption | refine below_drewN ?_ _ | refine Below.drew ?_ | refine Below.alloc ?_ (by first | omega | (simp <;> omega)) _ | refine Below.setCell ?_ (by first | omega | (simp <;> omega)) _)) (by first | omega | (simp <;> omega))
        have hz1_w2 : w.heap.size + 1 + 1 ≤ w2.heap.size := S_size hb1 (by first | omega | (simp <;> omega))
        have hqb_w20 : w.heap.size < w2.heap.size := S_lt hb1 (by first | omega | (simp <;> omega))
        have hqb_w21 : w.heap.size + 1 < w2.heap.size := S_lt hb1 (by first | omega | (simp <;> omega))
        clear hb1
        go_wp2_with fail
        go_at_call 33; with_reducible refine (iRegionOk_lit _ _ _ hs _ HN.out HA2.out (by omega) H2.out).mono ?_
        rintro e w3 ⟨rfl, hb1⟩
        have HA3 := Lib.hid (HA2.out.step hb1)
        have cc_w30 := cell_keep (p := ⟨w.heap.size, 0, none⟩) (v := .slice A n c) hb1 (by first | assumption | (go_keep; done) | (go_simp; done) | (simp; done)) (by first | omega | (simp <;> omega))
        have cc_w31 := cell_keep (p := ⟨w.heap.size + 1, 0, none⟩) (v := .int .i64 x) hb1 (by first | assumption | (go_keep; done) | (go_simp; done) | (simp; done)) (by first | omega | (simp <;> omega))
        have cc_w32 := cell_keep (p := ⟨w.heap.size + 1, 1, none⟩) (v := .int .i64 y) hb1 (by first | assumption | (go_keep; done) | (go_simp; done) | (simp; done)) (by first | omega | (simp <;> omega))
        have cc_w33 := cell_keep (p := ⟨w.heap.size + 1, 2, none⟩) (v := .int .i64 d) hb1 (by first | assumption | (go_keep; done) | (go_simp; done) | (simp; done)) (by first | omega | (simp <;> omega))
        have hS1_w3 : Below w.heap.size w w3 := S_below hb1 (by repeat (first | exact Below.refl _ _ | assumption | refine below_drewN ?_ _ | refine Below.drew ?_ | refine Below.alloc ?_ (by first | omega | (simp <;> omega)) _ | refine Below.setCell ?_ (by first | omega | (simp <;> omega)) _)) (by first | omega | (simp <;> omega))
        have hz1_w3 : w.heap.size + 1 + 1 ≤ w3.heap.size := S_size hb1 (by first | omega | (simp <;> omega))
        have hqb_w30 : w.heap.size < w3.heap.size := S_lt hb1 (by first | omega | (simp <;> omega))
        have hqb_w31 : w.heap.size + 1 < w3.heap.size := S_lt hb1 (by first | omega | (simp <;> omega))
        clear hb1
        go_wp2_with fail
        go_at_call 56; with_reducible refine (holds_lit H3.out _ _ _ _ HN.out HA3.out (by omega) hx1 hx2 hy1 hy2).mono ?_
        rintro e w4 ⟨rfl, hb1⟩
        have cc_w40 := cell_keep (p := ⟨w.heap.size, 0, none⟩) (v := .slice A n c) hb1 (by first | assumption | (go_keep; done) | (go_simp; done) | (simp; done)) (by first | omega | (simp <;> omega))
        have cc_w41 := cell_keep (p := ⟨w.heap.size + 1, 0, none⟩) (v := .int .i64 x) hb1 (by first | assumption | (go_keep; done) | (go_simp; done) | (simp; done)) (by first | omega | (simp <;> omega))
        have cc_w42 := cell_keep (p := ⟨w.heap.size + 1, 1, none⟩) (v := .int .i64 y) hb1 (by first | assumption | (go_keep; done) | (go_simp; done) | (simp; done)) (by first | omega | (simp <;> omega))
        have cc_w43 := cell_keep (p := ⟨w.heap.size + 1, 2, none⟩) (v := .int .i64 d) hb1 (by first | assumption | (go_keep; done) | (go_simp; done) | (simp; done)) (by first | omega | (simp <;> omega))
        have hS1_w4 : Below w.heap.size w w4 := S_below hb1 (by repeat (first | exact Below.refl _ _ | assumption | refine below_drewN ?_ _ | refine Below.drew ?_ | refine Below.alloc ?_ (by first | omega | (simp <;> omega)) _ | refine Below.setCell ?_ (by first | omega | (simp <;> omega)) _)) (by first | omega | (simp <;> omega))
        have hz1_w4 : w.heap.size + 1 + 1 ≤ w4.heap.size := S_size hb1 (by first | omega | (simp <;> omega))
        have hqb_w40 : w.heap.size < w4.heap.size := S_lt hb1 (by first | omega | (simp <;> omega))
        have hqb_w41 : w.heap.size + 1 < w4.heap.size := S_lt hb1 (by first | omega | (simp <;> omega))
        clear hb1
        go_wp2_with fail
        go_ret
        exact ⟨ret_bool HV.out.symm, (by repeat (first | exact Below.refl _ _ | assumption | refine below_drewN ?_ _ | refine Below.drew ?_ | refine Below.alloc ?_ (by first | omega | (simp <;> omega)) _ | refine Below.setCell ?_ (by first | omega | (simp <;> omega)) _))⟩

theorem hasV_swap (hs : List Hp) (x y d : Int) : hasV hs x y d = (regOkB hs && (spotOkV x y d && holdsR hs x y d)) := by
  unfold hasV holdsR
  by_cases h : hs.length = 0
  · rw [decide_eq_false (by omega : ¬ hs.length ≠ 0), decide_eq_true h]; simp
  · rw [decide_eq_true (by omega : hs.length ≠ 0), decide_eq_false h]
    cases spotOkV x y d <;> cases regOkB hs <;> simp

set_option maxHeartbeats 1000000 in
set_option maxRecDepth 100000 in
theorem sHasSpot_any (A : Option Addr) (n c : Nat) (hs : List Hp) (x y d : Int) (w : World) (hn : n = hs.length) (hA : HsAt w w.heap.size A hs) (hm : n ≤ 4611686018427387904)
    (hx1 : -9223372036854775808 ≤ x) (hx2 : x ≤ 9223372036854775807) (hy1 : -9223372036854775808 ≤ y) (hy2 : y ≤ 9223372036854775807) :
    Calls Try.prog 34 #[.agg #[.slice A n c], .agg #[.int .i64 x, .int .i64 y, .int .i64 d]] w fun e w' => e = .returned (.bool (hasV hs x y d)) ∧ Below w.heap.size w w' := by
  rw [hasV_swap]
  have HA := Lib.hid (hA.step (((Below.refl _ w).alloc (Nat.le_refl _) (.cells #[.slice A n c] 33)).alloc (Nat.le_of_lt (new_lt _ _)) (.cells #[.int .i64 x, .int .i64 y, .int .i64 d] 49))); clear hA
  have HN := Lib.hid hn
  clear hn
  cases h2 : regOkB hs
  · have H2 := Lib.hid h2; clear h2
    go_enter Try.func34, Try.ntmps34
    go_wp2_with fail
    go_wp2_with fail
    go_at_call 32; with_reducible refine (sRegionOk_lit _ _ _ hs _ HN.out HA.out (by omega) H2.out).mono ?_
    rintro e w1 ⟨rfl, hb1⟩
    have cc_w10 := cell_keep (p := ⟨w.heap.size, 0, none⟩) (v := .slice A n c) hb1 (by first | assumption | (go_keep; done) | (go_simp; done) | (simp; done)) (by first | omega | (simp <;> omega))
    have cc_w11 := cell_keep (p := ⟨w.heap.size + 1, 0, none⟩) (v := .int .i64 x) hb1 (by first | assumption | (go_keep; done) | (go_simp; done) | (simp; done)) (by first | omega | (simp <;> omega))
    have cc_w12 := cell_keep (p := ⟨w.heap.size + 1, 1, none⟩) (v := .int .i64 y) hb1 (by first | assumption | (go_keep; done) | (go_simp; done) | (simp; done)) (by first | omega | (simp <;> omega))
    have cc_w13 := cell_keep (p := ⟨w.heap.size + 1, 2, none⟩) (v := .int .i64 d) hb1 (by first | assumption | (go_keep; done) | (go_simp; done) | (simp; done)) (by first | omega | (simp <;> omega))
    have hS1_w1 : Below w.heap.size w w1 := S_below hb1 (by repeat (first | exact Below.refl _ _ | assumption | refine below_drewN ?_ _ | refine Below.drew ?_ | refine Below.alloc ?_ (by first | omega | (simp <;> omega)) _ | refine Below.setCell ?_ (by first | omega | (simp <;> omega)) _)) (by first | omega | (simp <;> omega))
    have hz1_w1 : w.heap.size + 1 + 1 ≤ w1.heap.size := S_size hb1 (by first | omega | (simp <;> omega))
    have hqb_w10 : w.heap.size < w1.heap.size := S_lt hb1 (by first | omega | (simp <;> omega))
    have hqb_w11 : w.heap.size + 1 < w1.heap.size := S_lt hb1 (by first | omega | (simp <;> omega))
    clear hb1
    go_wp2_with fail
    go_ret
    exact ⟨rfl, (by repeat (first | exact Below.refl _ _ | assumption | refine below_drewN ?_ _ | refine Below.drew ?_ | refine Below.alloc ?_ (by first | omega | (simp <;> omega)) _ | refine Below.setCell ?_ (by first | omega | (simp <;> omega)) _))⟩
  · cases h1 : spotOkV x y d
    · have H1 := Lib.hid h1; clear h1
      have H2 := Lib.hid h2; clear h2
      go_enter Try.func34, Try.ntmps34
      go_wp2_with fail
      go_wp2_with fail
      go_at_call 32; with_reducible refine (sRegionOk_lit _ _ _ hs _ HN.out HA.out (by omega) H2.out).mono ?_
      rintro e w1 ⟨rfl, hb1⟩
      have cc_w10 := cell_keep (p := ⟨w.heap.size, 0, none⟩) (v := .slice A n c) hb1 (by first | assumption | (go_keep; done) | (go_simp; done) | (simp; done)) (by first | omega | (simp <;> omega))
      have cc_w11 := cell_keep (p := ⟨w.heap.size + 1, 0, none⟩) (v := .int .i64 x) hb1 (by first | assumption | (go_keep; done) | (go_simp; done) | (simp; done)) (by first | omega | (simp <;> omega))
      have cc_w12 := cell_keep (p := ⟨w.heap.size + 1, 1, none⟩) (v := .int .i64 y) hb1 (by first | assumption | (go_keep; done) | (go_simp; done) | (simp; done)) (by first | omega | (simp <;> omega))
      have cc_w13 := cell_keep (p := ⟨w.heap.size + 1, 2, none⟩) (v := .int .i64 d) hb1 (by first | assumption | (go_keep; done) | (go_simp; done) | (simp; done)) (by first | omega | (simp <;> omega))
      have hS1_w1 : Below w.heap.size w w1 := S_below hb1 (by repeat (first | exact Below.refl _ _ | assumption | refine below_drewN ?_ _ | refine Below.drew ?_ | refine Below.alloc ?_ (by first | omega | (simp <;> omega)) _ | refine Below.setCell ?_ (by first | omega | (simp <;> omega)) _)) (by first | omega | (simp <;> omega))
      have hz1_w1 : w.heap.size + 1 + 1 ≤ w1.heap.size := S_size hb1 (by first | omega | (simp <;> omega))
      have hqb_w10 : w.heap.size < w1.heap.size := S_lt hb1 (by first | omega | (simp <;> omega))
      have hqb_w11 : w.heap.size + 1 < w1.heap.size := S_lt hb1 (by first | omega | (simp <;> omega))
      clear hb1
      go_wp2_with fail
      go_at_call 53; with_reducible refine (sSpotOk_lit' H1.out _ hx1 hx2 hy1 hy2).mono ?_
      rintro e w2 ⟨rfl, hb1⟩
      have cc_w20 := cell_keep (p := ⟨w.heap.size, 0, none⟩) (v := .slice A n c) hb1 (by first | assumption | (go_keep; done) | (go_simp; done) | (simp; done)) (by first | omega | (simp <;> omega))
      have cc_w21 := cell_keep (p := ⟨w.heap.size + 1, 0, none⟩) (v := .int .i64 x) hb1 (by first | assumption | (go_keep; done) | (go_simp; done) | (simp; done)) (by first | omega | (simp <;> omega))
      have cc_w22 := cell_keep (p := ⟨w.heap.size + 1, 1, none⟩) (v := .int .i64 y) hb1 (by first | assumption | (go_keep; done) | (go_simp; done) | (simp; done)) (by first | omega | (simp <;> omega))
      have cc_w23 := cell_keep (p := ⟨w.heap.size + 1, 2, none⟩) (v := .int .i64 d) hb1 (by first | assumption | (go_keep; done) | (go_simp; done) | (simp; done)) (by first | omega | (simp <;> omega))
      have hS1_w2 : Below w.heap.size w w2 := S_below hb1 (by repeat (first | exact Below.refl _ _ | assumption | refine below_drewN ?_ _ | refine Below.drew ?_ | refine Below.alloc ?_ (by first | omega | (simp <;> omega)) _ | refine Below.setCell ?_ (by first | omega | (simp <;> omega)) _)) (by first | omega | (simp <;> omega))
      have hz1_w2 : w.heap.size + 1 + 1 ≤ w2.heap.size := S_size hb1 (by first | omega | (simp <;> omega))
      have hqb_w20 : w.heap.size < w2.heap.size := S_lt hb1 (by first | omega | (simp <;> omega))
      have hqb_w21 : w.heap.size + 1 < w2.heap.size := S_lt hb1 (by first | omega | (simp <;> omega))
      clear hb1
      go_wp2_with fail
      go_ret
      exact ⟨rfl, (by repeat (first | exact Below.refl _ _ | assumption | refine below_drewN ?_ _ | refine Below.drew ?_ | refine Below.alloc ?_ (by first | omega | (simp <;> omega)) _ | refine Below.setCell ?_ (by first | omega | (simp <;> omega)) _))⟩
    · obtain ⟨v, hv⟩ : ∃ v, holdsR hs x y d = v := ⟨_, rfl⟩
      rw [hv]
      have H1 := Lib.hid h1; clear h1
      have H2 := Lib.hid h2; clear h2
      have H3 := Lib.hid hv; clear hv
      go_enter Try.func34, Try.ntmps34
      go_wp2_with fail
      go_wp2_with fail
      go_at_call 32; with_reducible refine (sRegionOk_lit _ _ _ hs _ HN.out HA.out (by omega) H2.out).mono ?_
      rintro e w1 ⟨rfl, hb1⟩
      have HA1 := Lib.hid (HA.out.step hb1)
      have cc_w10 := cell_keep (p := ⟨w.heap.size, 0, none⟩) (v := .slice A n c) hb1 (by first | assumption | (go_keep; done) | (go_simp; done) | (simp; done)) (by first | omega | (simp <;> omega))
      have cc_w11 := cell_keep (p := ⟨w.heap.size + 1, 0, none⟩) (v := .int .i64 x) hb1 (by first | assumption | (go_keep; done) | (go_simp; done) | (simp; done)) (by first | omega | (simp <;> omega))
      have cc_w12 := cell_keep (p := ⟨w.heap.size + 1, 1, none⟩) (v := .int .i64 y) hb1 (by first | assumption | (go_keep; done) | (go_simp; done) | (simp; done)) (by first | omega | (simp <;> omega))
      have cc_w13 := cell_keep (p := ⟨w.heap.size + 1, 2, none⟩) (v := .int .i64 d) hb1 (by first | assumption | (go_keep; done) | (go_simp; done) | (simp; done)) (by first | omega | (simp <;> omega))
      have hS1_w1 : Below w.heap.size w w1 := S_below hb1 (by repeat (first | exact Below.refl _ _ | assumption | refine below_drewN ?_ _ | refine Below.drew ?_ | refine Below.alloc ?_ (by first | omega | (simp <;> omega)) _ | refine Below.setCell ?_ (by first | omega | (simp <;> omega)) _)) (by first | omega | (simp <;> omega))
      have hz1_w1 : w.heap.size + 1 + 1 ≤ w1.heap.size := S_size hb1 (by first | omega | (simp <;> omega))
      have hqb_w10 : w.heap.size < w1.heap.size := S_lt hb1 (by first | omega | (simp <;> omega))
      have hqb_w11 : w.heap.size + 1 < w1.heap.size := S_lt hb1 (by first | omega | (simp <;> omega))
      clear hb1
      go_wp2_with fail
      go_at_call 53; with_reducible refine (sSpotOk_lit' H1.out _ hx1 hx2 hy1 hy2).mono ?_
      rintro e w2 ⟨rfl, hb1⟩
      have HA2 := Lib.hid (HA1.out.step hb1)
      have cc_w20 := cell_keep (p := ⟨w.heap.size, 0, none⟩) (v := .slice A n c) hb1 (by first | assumption | (go_keep; done) | (go_simp; done) | (simp; done)) (by first | omega | (simp <;> omega))
      have cc_w21 := cell_keep (p := ⟨w.heap.size + 1, 0, none⟩) (v := .int .i64 x) hb1 (by first | assumption | (go_keep; done) | (go_simp; done) | (simp; done)) (by first | omega | (simp <;> omega))
      have cc_w22 := cell_keep (p := ⟨w.heap.size + 1, 1, none⟩) (v := .int .i64 y) hb1 (by first | assumption | (go_keep; done) | (go_simp; done) | (simp; done)) (by first | omega | (simp <;> omega))
      have cc_w23 := cell_keep (p := ⟨w.heap.size + 1, 2, none⟩) (v := .int .i64 d) hb1 (by first | assumption | (go_keep; done) | (go_simp; done) | (simp; done)) (by first | omega | (simp <;> omega))
      have hS1_w2 : Below w.heap.size w w2 := S_below hb1 (by repeat (first | exact Below.refl _ _ | assumption | refine below_drewN ?_ _ | refine Below.drew ?_ | refine Below.alloc ?_ (by first | omega | (simp <;> omega)) _ | refine Below.setCell ?_ (by first | omega | (simp <;> omega)) _)) (by first | omega | (simp <;> omega))
      have hz1_w2 : w.heap.size + 1 + 1 ≤ w2.heap.size := S_size hb1 (by first | omega | (simp <;> omega))
      have hqb_w20 : w.heap.size < w2.heap.size := S_lt hb1 (by first | omega | (simp <;> omega))
      have hqb_w21 : w.heap.size + 1 < w2.heap.size := S_lt hb1 (by first | omega | (simp <;> omega))
      clear hb1
      go_wp2_with fail
      go_at_call 54; with_reducible refine (l05Has_lit H3.out _ _ _ _ HN.out HA2.out H2.out H1.out).mono ?_
      rintro e w4 ⟨rfl, hb1⟩
      have cc_w40 := cell_keep (p := ⟨w.heap.size, 0, none⟩) (v := .slice A n c) hb1 (by first | assumption | (go_keep; done) | (go_simp; done) | (simp; done)) (by first | omega | (simp <;> omega))
      have cc_w41 := cell_keep (p := ⟨w.heap.size + 1, 0, none⟩) (v := .int .i64 x) hb1 (by first | assumption | (go_keep; done) | (go_simp; done) | (simp; done)) (by first | omega | (simp <;> omega))
      have cc_w42 := cell_keep (p := ⟨w.heap.size + 1, 1, none⟩) (v := .int .i64 y) hb1 (by first | assumption | (go_keep; done) | (go_simp; done) | (simp; done)) (by first | omega | (simp <;> omega))
      have cc_w43 := cell_keep (p := ⟨w.heap.size + 1, 2, none⟩) (v := .int .i64 d) hb1 (by first | assumption | (go_keep; done) | (go_simp; done) | (simp; done)) (by first | omega | (simp <;> omega))
      have hS1_w4 : Below w.heap.size w w4 := S_below hb1 (by repeat (first | exact Below.refl _ _ | assumption | refine below_drewN ?_ _ | refine Below.drew ?_ | refine Below.alloc ?_ (by first | omega | (simp <;> omega)) _ | refine Below.setCell ?_ (by first | omega | (simp <;> omega)) _)) (by first | omega | (simp <;> omega))
      have hz1_w4 : w.heap.size + 1 + 1 ≤ w4.heap.size := S_size hb1 (by first | omega | (simp <;> omega))
      have hqb_w40 : w.heap.size < w4.heap.size := S_lt hb1 (by first | omega | (simp <;> omega))
      have hqb_w41 : w.heap.size + 1 < w4.heap.size := S_lt hb1 (by first | omega | (simp <;> omega))
      clear hb1
      go_wp2_with fail
      go_ret
      exact ⟨rfl, (by repeat (first | exact Below.refl _ _ | assumption | refine below_drewN ?_ _ | refine Below.drew ?_ | refine Below.alloc ?_ (by first | omega | (simp <;> omega)) _ | refine Below.setCell ?_ (by first | omega | (simp <;> omega)) _))⟩

end Go.Proofs.Ythdaoadleeelnaa
