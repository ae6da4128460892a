/- The walk of the law FnExactHasSpot. -/
import Derived.Test.YthdaoadleeelnaaHsp
namespace Go.Proofs.Ythdaoadleeelnaa
open Go.ChangeShapes Go.WideShapes Go.ChangeAt Go.RowKit
attribute [local go_sem ↓] Go.wp_at_zero Go.wp_at_succ
set_option linter.unusedVariables false

theorem sHasSpot_lit {v : Bool} {hs : List Hp} {x y d : Int} (hv : hasV hs x y d = v) (A : Option Addr) (n c : Nat) (w : World) (hn : n = hs.length) (hA : HsAt w w.heap.size A hs) (hm : n ≤ 4611686018427387904)
    (hx1 : -9223372036854775808 ≤ x) (hx2 : x ≤ 9223372036854775807) (hy1 : -9223372036854775808 ≤ y) (hy2 : y ≤ 9223372036854775807) :
    Calls Try.prog 34 #[.agg #[.slice A n c], .agg #[.int .i64 x, .int .i64 y, .int .i64 d]] w fun e w' => e = .returned (.bool v) ∧ Below w.heap.size w w' := by
  subst hv; exact sHasSpot_any A n c hs x y d w hn hA hm hx1 hx2 hy1 hy2

theorem iHasSpot_lit {v : Bool} {hs : List Hp} {x y d : Int} (hv : hasV hs x y d = v) (A : Option Addr) (n c : Nat) (w : World) (hn : n = hs.length) (hA : HsAt w w.heap.size A hs) (hm : n ≤ 4611686018427387904)
    (hx1 : -9223372036854775808 ≤ x) (hx2 : x ≤ 9223372036854775807) (hy1 : -9223372036854775808 ≤ y) (hy2 : y ≤ 9223372036854775807) :
    Calls Try.prog 36 #[.agg #[.slice A n c], .agg #[.int .i64 x, .int .i64 y, .int .i64 d]] w fun e w' => e = .returned (.bool v) ∧ Below w.heap.size w w' := by
  subst hv; exact iHasSpot_any A n c hs x y d w hn hA hm hx1 hx2 hy1 hy2

set_option maxHeartbeats 1000000 in
set_option maxRecDepth 100000 in
theorem exHasSpot_walk (A : Option Addr) (n c : Nat) (hs : List Hp) (x y d : Int) (hx : I64 x) (hy : I64 y) (hd : I64 d) (w : World) (hn : n = hs.length) (hm : n ≤ maxLen) (hA : HsAt w w.heap.size A hs) (hI : ∀ x ∈ hs, Ints3 x) :
    Calls Try.prog 9 #[.agg #[.slice A n c], .agg #[.int .i64 x, .int .i64 y, .int .i64 d]] w fun e w' => e = .returned (.bool true) ∧ Below w.heap.size w w' := by
  unfold maxLen at hm
  obtain ⟨hx1, hx2⟩ := hx
  obtain ⟨hy1, hy2⟩ := hy
  have HA := Lib.hid hA; clear hA
  have HN := Lib.hid hn; clear hn
  clear hI hd
  by_cases hz : 1048576 < n
  · go_enter Try.func9, Try.ntmps9
    go_wp2_with fail
    go_at_call 17; refine (szRegion_lit (v := -1) _ _ _ _ (by decide) (by decide) (by omega) (leftV_stop (by omega))).mono ?_; rintro e w1 ⟨rfl, hb⟩
    have hS : Below w.heap.size w w1 := S_below hb (by repeat (first | exact Below.refl _ _ | assumption | refine below_drewN ?_ _ | refine Below.drew ?_ | refine Below.alloc ?_ (by first | omega | (simp <;> omega)) _ | refine Below.setCell ?_ (by first | omega | (simp <;> omega)) _)) (by first | omega | (simp <;> omega))
    clear hb
    go_wp2_with fail
    go_ret
    exact ⟨rfl, hS⟩
  · go_enter Try.func9, Try.ntmps9
    go_wp2_with fail
    go_at_call 17; with_reducible refine (szRegion_lit (v := 1048576 - n) _ _ _ _ (by decide) (by decide) (by omega) (leftV_go (by omega))).mono ?_
    rintro e w2 ⟨rfl, hb1⟩
    have cc_w20 := cell_keep (p := ⟨w.heap.size, 0, none⟩) (v := .slice A n c) hb1 (by first | assumption | (go_keep; done) | (go_simp; done) | (simp; done)) (by first | omega | (simp <;> omega))
    have cc_w21 := cell_keep (p := ⟨w.heap.size + 1, 0, none⟩) (v := .int .i64 x) hb1 (by first | assumption | (go_keep; done) | (go_simp; done) | (simp; done)) (by first | omega | (simp <;> omega))
    have cc_w22 := cell_keep (p := ⟨w.heap.size + 1, 1, none⟩) (v := .int .i64 y) hb1 (by first | assumption | (go_keep; done) | (go_simp; done) | (simp; done)) (by first | omega | (simp <;> omega))
    have cc_w23 := cell_keep (p := ⟨w.heap.size + 1, 2, none⟩) (v := .int .i64 d) hb1 (by first | assumption | (go_keep; done) | (go_simp; done) | (simp; done)) (by first | omega | (simp <;> omega))
    have hS1_w2 : Below w.heap.size w w2 := S_below hb1 (by repeat (first | exact Below.refl _ _ | assumption | refine below_drewN ?_ _ | refine Below.drew ?_ | refine Below.alloc ?_ (by first | omega | (simp <;> omega)) _ | refine Below.setCell ?_ (by first | omega | (simp <;> omega)) _)) (by first | omega | (simp <;> omega))
    have hz1_w2 : w.heap.size + 1 + 1 ≤ w2.heap.size := S_size hb1 (by first | omega | (simp <;> omega))
    have hqb_w20 : w.heap.size < w2.heap.size := S_lt hb1 (by first | omega | (simp <;> omega))
    have hqb_w21 : w.heap.size + 1 < w2.heap.size := S_lt hb1 (by first | omega | (simp <;> omega))
    clear hb1
    have hn6 : n ≤ 1048576 := by omega
    have hL : hs.length ≤ 1048576 := by have := HN.out; omega
    have hn7 : hs.length ≤ 4611686018427387904 := by omega
    have hd2 : Below w.heap.size w w2.drew := hS1_w2.drew
    obtain ⟨vv, hv⟩ : ∃ vv, hasV hs x y d = vv := ⟨_, rfl⟩
    have HV := Lib.hid hv
    clear hv
    go_wp2_with fail
    go_upto_region 5 with fail
    go_cut [6] (fun s6 wx => s6 = .bool vv ∧ Below w2.heap.size w2 wx)
    case first =>
      go_region_with (first | (go_at_call 19; (first | (with_reducible refine (toRegion_any _ _ _ hs _ HN.out (HA.out.step hd2) hn6).mono ?_) | (with_reducible refine (toRegion_any _ _ _ hs _ HN.out (HA.out.step hS_t) hn6).mono ?_)); rintro e w_a ⟨g_a, c_a, rfl, hO_a, hg_a, hb_1⟩; (first | (have hb_a : Below w2.heap.size w2 w_a := hb_t.trans (hb_1.mono hb_t.size)) | (have hb_a : Below w2.heap.size w2 w_a := S_below hb_1 (by repeat (first | exact Below.refl _ _ | assumption | refine below_drewN ?_ _ | refine Below.drew ?_ | refine Below.alloc ?_ (by first | omega | (simp <;> omega)) _ | refine Below.setCell ?_ (by first | omega | (simp <;> omega)) _)) (Nat.le_refl _))); have O_a := hO_a.of_len; have ck0 := cell_keep hb_a cc_w20 hqb_w20; have ck1 := cell_keep hb_a cc_w21 hqb_w21; have ck2 := cell_keep hb_a cc_w22 hqb_w21; have ck3 := cell_keep hb_a cc_w23 hqb_w21; clear hO_a hb_1) | (go_at_call 35; (with_reducible refine (toSpot_any _ _ _ _).mono ?_); rintro e w_t ⟨rfl, hb_3⟩; (first | (have hb_t : Below w2.heap.size w2 w_t := hb_a.trans (hb_3.mono hb_a.size)) | (have hb_t : Below w2.heap.size w2 w_t := S_below hb_3 (by repeat (first | exact Below.refl _ _ | assumption | refine below_drewN ?_ _ | refine Below.drew ?_ | refine Below.alloc ?_ (by first | omega | (simp <;> omega)) _ | refine Below.setCell ?_ (by first | omega | (simp <;> omega)) _)) (Nat.le_refl _))); have hS_t : Below w.heap.size w w_t := hS1_w2.trans (hb_t.mono hS1_w2.size); have dk0 := cell_keep hb_t cc_w20 hqb_w20; have dk1 := cell_keep hb_t cc_w21 hqb_w21; have dk2 := cell_keep hb_t cc_w22 hqb_w21; have dk3 := cell_keep hb_t cc_w23 hqb_w21; (try have R_a := O_a.step hb_3); clear hb_3) | (go_at_call 34; (first | (with_reducible refine (sHasSpot_lit HV.out _ _ _ _ rfl R_a hn7 hx1 hx2 hy1 hy2).mono ?_) | (with_reducible refine (sHasSpot_lit HV.out _ _ _ _ rfl O_a hn7 hx1 hx2 hy1 hy2).mono ?_)); rintro e w_b ⟨rfl, hb_2⟩; (first | (have hb_b : Below w2.heap.size w2 w_b := S_below hb_2 hb_t hb_t.size) | (have hb_b : Below w2.heap.size w2 w_b := S_below hb_2 hb_a hb_a.size)); clear hb_2))
      all_goals
        go_wp2_with fail
        go_meet
        exact ⟨rfl,  by first | assumption | exact (by repeat (first | exact Below.refl _ _ | assumption | refine below_drewN ?_ _ | refine Below.drew ?_ | refine Below.alloc ?_ (by first | omega | (simp <;> omega)) _ | refine Below.setCell ?_ (by first | omega | (simp <;> omega)) _))⟩
    case rest =>
      obtain ⟨rfl,  hb1⟩ := hcut
      generalize wc = w3 at *
      have cc_w30 := cell_keep (p := ⟨w.heap.size, 0, none⟩) (v := .slice A n c) hb1 (by first | assumption | (go_keep; done) | (go_simp; done) | (simp; done)) (by first | omega | (simp <;> omega))
      have cc_w31 := cell_keep (p := ⟨w.heap.size + 1, 0, none⟩) (v := .int .i64 x) hb1 (by first | assumption | (go_keep; done) | (go_simp; done) | (simp; done)) (by first | omega | (simp <;> omega))
      have cc_w32 := cell_keep (p := ⟨w.heap.size + 1, 1, none⟩) (v := .int .i64 y) hb1 (by first | assumption | (go_keep; done) | (go_simp; done) | (simp; done)) (by first | omega | (simp <;> omega))
      have cc_w33 := cell_keep (p := ⟨w.heap.size + 1, 2, none⟩) (v := .int .i64 d) hb1 (by first | assumption | (go_keep; done) | (go_simp; done) | (simp; done)) (by first | omega | (simp <;> omega))
      have hS1_w3 : Below w.heap.size w w3 := S_below hb1 (by repeat (first | exact Below.refl _ _ | assumption | refine below_drewN ?_ _ | refine Below.drew ?_ | refine Below.alloc ?_ (by first | omega | (simp <;> omega)) _ | refine Below.setCell ?_ (by first | omega | (simp <;> omega)) _)) (by first | omega | (simp <;> omega))
      have hz1_w3 : w.heap.size + 1 + 1 ≤ w3.heap.size := S_size hb1 (by first | omega | (simp <;> omega))
      have hqb_w30 : w.heap.size < w3.heap.size := S_lt hb1 (by first | omega | (simp <;> omega))
      have hqb_w31 : w.heap.size + 1 < w3.heap.size := S_lt hb1 (by first | omega | (simp <;> omega))
      skip -- clear hb1
      go_wp2_with fail
      go_at_call 19; with_reducible refine (toRegion_any _ _ _ hs _ HN.out (HA.out.step (by repeat (first | exact Below.refl _ _ | assumption | refine below_drewN ?_ _ | refine Below.drew ?_ | refine Below.alloc ?_ (by first | omega | (simp <;> omega)) _ | refine Below.setCell ?_ (by first | omega | (simp <;> omega)) _))) (by omega)).mono ?_
      rintro e w4 ⟨g4, c4, rfl, hO4, hg4, hb1⟩
      have cc_w40 := cell_keep (p := ⟨w.heap.size, 0, none⟩) (v := .slice A n c) hb1 (by first | assumption | (go_keep; done) | (go_simp; done) | (simp; done)) (by first | omega | (simp <;> omega))
      have cc_w41 := cell_keep (p := ⟨w.heap.size + 1, 0, none⟩) (v := .int .i64 x) hb1 (by first | assumption | (go_keep; done) | (go_simp; done) | (simp; done)) (by first | omega | (simp <;> omega))
      have cc_w42 := cell_keep (p := ⟨w.heap.size + 1, 1, none⟩) (v := .int .i64 y) hb1 (by first | assumption | (go_keep; done) | (go_simp; done) | (simp; done)) (by first | omega | (simp <;> omega))
      have cc_w43 := cell_keep (p := ⟨w.heap.size + 1, 2, none⟩) (v := .int .i64 d) hb1 (by first | assumption | (go_keep; done) | (go_simp; done) | (simp; done)) (by first | omega | (simp <;> omega))
      have hS1_w4 : Below w.heap.size w w4 := S_below hb1 (by repeat (first | exact Below.refl _ _ | assumption | refine below_drewN ?_ _ | refine Below.drew ?_ | refine Below.alloc ?_ (by first | omega | (simp <;> omega)) _ | refine Below.setCell ?_ (by first | omega | (simp <;> omega)) _)) (by first | omega | (simp <;> omega))
      have hz1_w4 : w.heap.size + 1 + 1 ≤ w4.heap.size := S_size hb1 (by first | omega | (simp <;> omega))
      have hqb_w40 : w.heap.size < w4.heap.size := S_lt hb1 (by first | omega | (simp <;> omega))
      have hqb_w41 : w.heap.size + 1 < w4.heap.size := S_lt hb1 (by first | omega | (simp <;> omega))
      clear hb1
      have O4 := Lib.hid hO4
      clear hO4
      clear cc_w30 cc_w31 cc_w32 cc_w33 hS1_w3
      go_wp2_with fail
      generalize hW5 : w4.alloc (.cells #[.slice (some ⟨g4, 0, none⟩) hs.length c4] 33) = w5
      have b5 : Below w4.heap.size w4 w5 := by rw [← hW5]; exact (Below.refl _ _).alloc (Nat.le_refl _) _
      have cc_w54 : w5.cell? ⟨w4.heap.size, 0, none⟩ = some (.slice (some ⟨g4, 0, none⟩) hs.length c4) := by rw [← hW5]; exact cell_new_at w4 _ _ 0 rfl
      have hqb_w54 : w4.heap.size < w5.heap.size := by rw [← hW5]; exact new_lt _ _
      have cc_w50 := cell_keep b5 cc_w40 hqb_w40
      have cc_w51 := cell_keep b5 cc_w41 hqb_w41
      have cc_w52 := cell_keep b5 cc_w42 hqb_w41
      have cc_w53 := cell_keep b5 cc_w43 hqb_w41
      have hqb_w50 : w.heap.size < w5.heap.size := by omega
      have hqb_w51 : w.heap.size + 1 < w5.heap.size := by omega
      have hS1_w5 : Below w.heap.size w w5 := hS1_w4.trans (b5.mono (by omega))
      have O5 := Lib.hid (O4.out.kept b5)
      have R5 := (O4.out.kept b5).of_len
      have O5d := (O4.out.kept b5).of_len.step ((Below.refl w5.heap.size w5).drew)
      clear hW5 b5 cc_w40 cc_w41 cc_w42 cc_w43 hS1_w4 O4
      go_upto_region 7 with fail
      go_cut [8] (fun s8 wx => s8 = .bool vv ∧ Below w5.heap.size w5 wx)
      case first =>
        go_region_with (first | (go_at_call 35; (with_reducible refine (toSpot_any _ _ _ _).mono ?_); rintro e w_t ⟨rfl, hb_3⟩; have hb_t : Below w5.heap.size w5 w_t := S_below hb_3 (by repeat (first | exact Below.refl _ _ | assumption | refine below_drewN ?_ _ | refine Below.drew ?_ | refine Below.alloc ?_ (by first | omega | (simp <;> omega)) _ | refine Below.setCell ?_ (by first | omega | (simp <;> omega)) _)) (Nat.le_refl _); have dk4 := cell_keep hb_t cc_w54 hqb_w54; have R_a := R5.step hb_t; clear hb_3) | (go_at_call 36; (with_reducible refine (iHasSpot_lit HV.out _ _ _ _ rfl R_a hn7 hx1 hx2 hy1 hy2).mono ?_); rintro e w_b ⟨rfl, hb_2⟩; have hb_b : Below w5.heap.size w5 w_b := S_below hb_2 hb_t hb_t.size; clear hb_2))
        all_goals
          go_wp2_with fail
          go_meet
          exact ⟨rfl,  by first | assumption | exact (by repeat (first | exact Below.refl _ _ | assumption | refine below_drewN ?_ _ | refine Below.drew ?_ | refine Below.alloc ?_ (by first | omega | (simp <;> omega)) _ | refine Below.setCell ?_ (by first | omega | (simp <;> omega)) _))⟩
      case rest =>
        obtain ⟨rfl,  hb1⟩ := hcut
        generalize wc = w6 at *
        have cc_w60 := cell_keep (p := ⟨w.heap.size, 0, none⟩) (v := .slice A n c) hb1 (by first | assumption | (go_keep; done) | (go_simp; done) | (simp; done)) (by first | omega | (simp <;> omega))
        have cc_w61 := cell_keep (p := ⟨w.heap.size + 1, 0, none⟩) (v := .int .i64 x) hb1 (by first | assumption | (go_keep; done) | (go_simp; done) | (simp; done)) (by first | omega | (simp <;> omega))
        have cc_w62 := cell_keep (p := ⟨w.heap.size + 1, 1, none⟩) (v := .int .i64 y) hb1 (by first | assumption | (go_keep; done) | (go_simp; done) | (simp; done)) (by first | omega | (simp <;> omega))
        have cc_w63 := cell_keep (p := ⟨w.heap.size + 1, 2, none⟩) (v := .int .i64 d) hb1 (by first | assumption | (go_keep; done) | (go_simp; done) | (simp; done)) (by first | omega | (simp <;> omega))
        have cc_w64 := cell_keep (p := ⟨w4.heap.size, 0, none⟩) (v := .slice (some ⟨g4, 0, none⟩) hs.length c4) hb1 (by first | assumption | (go_keep; done) | (go_simp; done) | (simp; done)) (by first | omega | (simp <;> omega))
        have hS1_w6 : Below w.heap.size w w6 := S_below hb1 (by repeat (first | exact Below.refl _ _ | assumption | refine below_drewN ?_ _ | refine Below.drew ?_ | refine Below.alloc ?_ (by first | omega | (simp <;> omega)) _ | refine Below.setCell ?_ (by first | omega | (simp <;> omega)) _)) (by first | omega | (simp <;> omega))
        have hz1_w6 : w.heap.size + 1 + 1 ≤ w6.heap.size := S_size hb1 (by first | omega | (simp <;> omega))
        have hqb_w60 : w.heap.size < w6.heap.size := S_lt hb1 (by first | omega | (simp <;> omega))
        have hqb_w61 : w.heap.size + 1 < w6.heap.size := S_lt hb1 (by first | omega | (simp <;> omega))
        have hqb_w62 : w4.heap.size < w6.heap.size := S_lt hb1 (by first | omega | (simp <;> omega))
        skip -- clear hb1
        have HO5 := R5.step hb1
        clear R5 O5d
        go_wp2_with fail
        have hd_ : Below w.heap.size w w6.drew := by refine Below.drew ?_; assumption
        go_upto_region 10 with fail
        go_cut [32] (fun s32 wx => s32 = .bool false ∧ Below w6.heap.size w6 wx)
        case first =>
          go_region_with (first | (go_at_call 19; (with_reducible refine (toRegion_any _ _ _ hs _ HN.out (HA.out.step hd_) hn6).mono ?_); rintro e w_a ⟨g_a, c_a, rfl, hO_a, hg_a, hb_1⟩; have hb_a : Below w6.heap.size w6 w_a := S_below hb_1 (by repeat (first | exact Below.refl _ _ | assumption | refine below_drewN ?_ _ | refine Below.drew ?_ | refine Below.alloc ?_ (by first | omega | (simp <;> omega)) _ | refine Below.setCell ?_ (by first | omega | (simp <;> omega)) _)) (Nat.le_refl _); have R_a := HO5.step hb_a; have O_a := hO_a.of_len; have ck0 := cell_keep (p := ⟨w.heap.size, 0, none⟩) (v := .slice A n c) hb_a (by first | assumption | (go_keep; done) | (go_simp; done) | (simp; done)) (by first | assumption | omega | (simp <;> omega)); have ck1 := cell_keep (p := ⟨w.heap.size + 1, 0, none⟩) (v := .int .i64 x) hb_a (by first | assumption | (go_keep; done) | (go_simp; done) | (simp; done)) (by first | assumption | omega | (simp <;> omega)); have ck2 := cell_keep (p := ⟨w.heap.size + 1, 1, none⟩) (v := .int .i64 y) hb_a (by first | assumption | (go_keep; done) | (go_simp; done) | (simp; done)) (by first | assumption | omega | (simp <;> omega)); have ck3 := cell_keep (p := ⟨w.heap.size + 1, 2, none⟩) (v := .int .i64 d) hb_a (by first | assumption | (go_keep; done) | (go_simp; done) | (simp; done)) (by first | assumption | omega | (simp <;> omega)); have ck4 := cell_keep (p := ⟨w4.heap.size, 0, none⟩) (v := .slice (some ⟨g4, 0, none⟩) hs.length c4) hb_a (by first | assumption | (go_keep; done) | (go_simp; done) | (simp; done)) (by first | assumption | omega | (simp <;> omega)); clear hO_a hb_1) | (go_at_call 21; (with_reducible refine (eqRegion_same _ _ _ _ _ _ hs _ rfl rfl R_a O_a hn7).mono ?_); rintro e w_b ⟨rfl, hb_2⟩; have hb_b : Below w6.heap.size w6 w_b := S_below hb_2 (by repeat (first | exact Below.refl _ _ | assumption | refine below_drewN ?_ _ | refine Below.drew ?_ | refine Below.alloc ?_ (by first | omega | (simp <;> omega)) _ | refine Below.setCell ?_ (by first | omega | (simp <;> omega)) _)) hb_a.size; clear hb_2))
          all_goals
            go_wp2_with fail
            go_meet
            exact ⟨rfl,  by first | assumption | exact (by repeat (first | exact Below.refl _ _ | assumption | refine below_drewN ?_ _ | refine Below.drew ?_ | refine Below.alloc ?_ (by first | omega | (simp <;> omega)) _ | refine Below.setCell ?_ (by first | omega | (simp <;> omega)) _))⟩
        case rest =>
          obtain ⟨rfl,  hb1⟩ := hcut
          generalize wc = w7 at *
          have cc_w70 := cell_keep (p := ⟨w.heap.size, 0, none⟩) (v := .slice A n c) hb1 (by first | assumption | (go_keep; done) | (go_simp; done) | (simp; done)) (by first | omega | (simp <;> omega))
          have cc_w71 := cell_keep (p := ⟨w.heap.size + 1, 0, none⟩) (v := .int .i64 x) hb1 (by first | assumption | (go_keep; done) | (go_simp; done) | (simp; done)) (by first | omega | (simp <;> omega))
          have cc_w72 := cell_keep (p := ⟨w.heap.size + 1, 1, none⟩) (v := .int .i64 y) hb1 (by first | assumption | (go_keep; done) | (go_simp; done) | (simp; done)) (by first | omega | (simp <;> omega))
          have cc_w73 := cell_keep (p := ⟨w.heap.size + 1, 2, none⟩) (v := .int .i64 d) hb1 (by first | assumption | (go_keep; done) | (go_simp; done) | (simp; done)) (by first | omega | (simp <;> omega))
          have cc_w74 := cell_keep (p := ⟨w4.heap.size, 0, none⟩) (v := .slice (some ⟨g4, 0, none⟩) hs.length c4) hb1 (by first | assumption | (go_keep; done) | (go_simp; done) | (simp; done)) (by first | omega | (simp <;> omega))
          have hS1_w7 : Below w.heap.size w w7 := S_below hb1 (by repeat (first | exact Below.refl _ _ | assumption | refine below_drewN ?_ _ | refine Below.drew ?_ | refine Below.alloc ?_ (by first | omega | (simp <;> omega)) _ | refine Below.setCell ?_ (by first | omega | (simp <;> omega)) _)) (by first | omega | (simp <;> omega))
          have hz1_w7 : w.heap.size + 1 + 1 ≤ w7.heap.size := S_size hb1 (by first | omega | (simp <;> omega))
          have hqb_w70 : w.heap.size < w7.heap.size := S_lt hb1 (by first | omega | (simp <;> omega))
          have hqb_w71 : w.heap.size + 1 < w7.heap.size := S_lt hb1 (by first | omega | (simp <;> omega))
          have hqb_w72 : w4.heap.size < w7.heap.size := S_lt hb1 (by first | omega | (simp <;> omega))
          skip -- clear hb1
          go_wp2_with fail
          go_ret
          exact ⟨rfl, (by repeat (first | exact Below.refl _ _ | assumption | refine below_drewN ?_ _ | refine Below.drew ?_ | refine Below.alloc ?_ (by first | omega | (simp <;> omega)) _ | refine Below.setCell ?_ (by first | omega | (simp <;> omega)) _))⟩

end Go.Proofs.Ythdaoadleeelnaa
