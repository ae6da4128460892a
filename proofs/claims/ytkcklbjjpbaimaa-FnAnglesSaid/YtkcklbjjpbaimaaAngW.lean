/- The walk of the law FnAngles. -/
import Derived.Test.YtkcklbjjpbaimaaAngL
import Derived.Test.YtkcklbjjpbaimaaThrW
namespace Go.Proofs.Ytkcklbjjpbaimaa
open Go.ChangeShapes Go.WideShapes Go.ChangeAt Go.RowKit
attribute [local go_sem ↓] Go.wp_at_zero Go.wp_at_succ
set_option linter.unusedVariables false

theorem halfOkV_zero : halfOkV 0 0 0 = false := rfl

/-- What the walk asks of two valid half planes and of the first one moved inward. -/
def AngF (a b c a' b' c' : Int) (v1 v2 v3 v4 : Bool) (p q r : Int) : Prop :=
  bangV a b c a' b' c' = v1 ∧ bangV a' b' c' a b c = v2 ∧ sdirV a b c a' b' c' = v3 ∧ halfOkV (hoN a b (c - 1) a) (hoN a b (c - 1) b) (hoN a b (c - 1) (c - 1)) = v4 ∧
  tgV a b c a' b' c' a a' = p ∧ tgV a b c a' b' c' b b' = q ∧ tgV a b c a' b' c' c c' = r ∧ sdirV a b c a b c = true ∧ hoOk a b (c - 1) = v4 ∧
  (v4 = true → (tgV a b c (hoN a b (c - 1) a) (hoN a b (c - 1) b) (hoN a b (c - 1) (c - 1)) a (hoN a b (c - 1) a) = hoN a b (c - 1) a ∧ tgV a b c (hoN a b (c - 1) a) (hoN a b (c - 1) b) (hoN a b (c - 1) (c - 1)) b (hoN a b (c - 1) b) = hoN a b (c - 1) b ∧ tgV a b c (hoN a b (c - 1) a) (hoN a b (c - 1) b) (hoN a b (c - 1) (c - 1)) c (hoN a b (c - 1) (c - 1)) = hoN a b (c - 1) (c - 1)) ∧
    (tgV (hoN a b (c - 1) a) (hoN a b (c - 1) b) (hoN a b (c - 1) (c - 1)) a b c (hoN a b (c - 1) a) a = hoN a b (c - 1) a ∧ tgV (hoN a b (c - 1) a) (hoN a b (c - 1) b) (hoN a b (c - 1) (c - 1)) a b c (hoN a b (c - 1) b) b = hoN a b (c - 1) b ∧ tgV (hoN a b (c - 1) a) (hoN a b (c - 1) b) (hoN a b (c - 1) (c - 1)) a b c (hoN a b (c - 1) (c - 1)) c = hoN a b (c - 1) (c - 1)))

theorem angF_of {a b c a' b' c' : Int} (k1 : halfOkV a b c = true) (k2 : halfOkV a' b' c' = true) (hc1 : -1000 ≤ c) :
    (AngF a b c a' b' c' true false false true 0 0 0) ∨ (AngF a b c a' b' c' false true false true 0 0 0) ∨ (∃ p q r, (¬ p = 0) ∧ AngF a b c a' b' c' false false true true p q r) ∨ (∃ q r, (¬ q = 0) ∧ AngF a b c a' b' c' false false true true 0 q r) := by
  have e4 : halfOkV (hoN a b (c - 1) a) (hoN a b (c - 1) b) (hoN a b (c - 1) (c - 1)) = hoOk a b (c - 1) := by
    cases h : hoOk a b (c - 1)
    · rw [hoN_no h, hoN_no h, hoN_no h]; rfl
    · exact hoOk_valid h
  have hm := fun (ho : hoOk a b (c - 1) = true) => moved k1 ho
  have hk : hoOk a b (c - 1) = true → (tgV a b c (hoN a b (c - 1) a) (hoN a b (c - 1) b) (hoN a b (c - 1) (c - 1)) a (hoN a b (c - 1) a) = hoN a b (c - 1) a ∧ tgV a b c (hoN a b (c - 1) a) (hoN a b (c - 1) b) (hoN a b (c - 1) (c - 1)) b (hoN a b (c - 1) b) = hoN a b (c - 1) b ∧ tgV a b c (hoN a b (c - 1) a) (hoN a b (c - 1) b) (hoN a b (c - 1) (c - 1)) c (hoN a b (c - 1) (c - 1)) = hoN a b (c - 1) (c - 1)) ∧
    (tgV (hoN a b (c - 1) a) (hoN a b (c - 1) b) (hoN a b (c - 1) (c - 1)) a b c (hoN a b (c - 1) a) a = hoN a b (c - 1) a ∧ tgV (hoN a b (c - 1) a) (hoN a b (c - 1) b) (hoN a b (c - 1) (c - 1)) a b c (hoN a b (c - 1) b) b = hoN a b (c - 1) b ∧ tgV (hoN a b (c - 1) a) (hoN a b (c - 1) b) (hoN a b (c - 1) (c - 1)) a b c (hoN a b (c - 1) (c - 1)) c = hoN a b (c - 1) (c - 1)) := by
    intro ho
    obtain ⟨_, s1, s2, t1, t2⟩ := hm ho
    exact ⟨⟨tgV_second s1 t1 _ _, tgV_second s1 t1 _ _, tgV_second s1 t1 _ _⟩, tgV_first s2 t2 _ _, tgV_first s2 t2 _ _, tgV_first s2 t2 _ _⟩
  have sr := sdirV_refl k1
  have hbb := halfOkV_bounds k1
  have ho : hoOk a b (c - 1) = true := hoOk_small (by omega) (by omega) (by omega) (halfOkV_dir k1)
  rw [ho] at e4
  rcases tri_valid k1 k2 with ⟨h1, h2, h3⟩ | ⟨h1, h2, h3⟩ | ⟨h1, h2, h3⟩
  · exact .inl ⟨h1, h2, h3, e4, tgV_none h3 _ _, tgV_none h3 _ _, tgV_none h3 _ _, sr, ho, fun _ => hk ho⟩
  · exact .inr (.inl ⟨h1, h2, h3, e4, tgV_none h3 _ _, tgV_none h3 _ _, tgV_none h3 _ _, sr, ho, fun _ => hk ho⟩)
  · have hd1 := halfOkV_dir k1
    have hd2 := halfOkV_dir k2
    cases ht : tgB a b c a' b' c'
    · by_cases hp : a = 0
      · exact .inr (.inr (.inr ⟨b, c, by omega, h1, h2, h3, e4, (tgV_first h3 ht _ _).trans hp, tgV_first h3 ht _ _, tgV_first h3 ht _ _, sr, ho, fun _ => hk ho⟩))
      · exact .inr (.inr (.inl ⟨a, b, c, hp, h1, h2, h3, e4, tgV_first h3 ht _ _, tgV_first h3 ht _ _, tgV_first h3 ht _ _, sr, ho, fun _ => hk ho⟩))
    · by_cases hp : a' = 0
      · exact .inr (.inr (.inr ⟨b', c', by omega, h1, h2, h3, e4, (tgV_second h3 ht _ _).trans hp, tgV_second h3 ht _ _, tgV_second h3 ht _ _, sr, ho, fun _ => hk ho⟩))
      · exact .inr (.inr (.inl ⟨a', b', c', hp, h1, h2, h3, e4, tgV_second h3 ht _ _, tgV_second h3 ht _ _, tgV_second h3 ht _ _, sr, ho, fun _ => hk ho⟩))

set_option maxHeartbeats 4000000 in
theorem exAngles_walk (A : Option Addr) (n c0 : Nat) (w : World) (hn : n ≤ maxLen) (hB : BytesAt w w.heap.size A n) :
    Calls Try.prog 4 #[.slice A n c0] w fun e w' => e = .returned (.bool true) ∧ Below w.heap.size w w' := by
  unfold maxLen at hn
  have HB := Lib.hid hB; clear hB
  by_cases hz : 1048576 < n
  · go_enter Try.func4, Try.ntmps4
    go_wp2
    go_ret
    exact ⟨rfl, (by repeat (first | exact Below.refl _ _ | assumption | refine below_drewN ?_ _ | refine Below.drew ?_ | refine Below.alloc ?_ (by first | omega | (simp <;> omega)) _ | refine Below.setCell ?_ (by first | omega | (simp <;> omega)) _))⟩
  · go_enter Try.func4, Try.ntmps4
    go_wp2_with fail
    go_at_call 11; refine (MakeHalf_any 1 A n c0 w (by omega) HB.out (by omega) (by omega)).mono ?_; rintro e wa ⟨a, b, c, k1, hr1, rfl, hba⟩
    have HSa := Lib.hid hba
    have hza := hba.size
    have HK1 := Lib.hid k1
    clear hba k1
    go_wp2_with fail
    go_at_call 11; refine (MakeHalf_any 20 A n c0 _ (by omega) (bytes_step HB.out (HSa.out.alloc hza _)) (by omega) (by omega)).mono ?_; rintro e wb ⟨a', b', c', k2, hr2, rfl, hbb⟩
    have K3 := blk_below hbb (heap_alloc_new wa _)
    have c30 : wb.cell? ⟨wa.heap.size, 0, none⟩ = some (.int .i64 a) := cell_of_row wb _ 0 _ _ _ K3
    have c31 : wb.cell? ⟨wa.heap.size, 1, none⟩ = some (.int .i64 b) := cell_of_row wb _ 1 _ _ _ K3
    have c32 : wb.cell? ⟨wa.heap.size, 2, none⟩ = some (.int .i64 c) := cell_of_row wb _ 2 _ _ _ K3
    have hlt3 := heap_lt K3
    have hSb : Below w.heap.size w wb := S_below hbb (HSa.out.alloc hza _) (by simp; omega)
    have hzb := hSb.size
    have HK2 := Lib.hid k2
    have bd1 := halfOkV_bounds HK1.out
    have bd2 := halfOkV_bounds k2
    clear hbb K3 HSa k2
    have hc := angF_of HK1.out HK2.out (by omega)
    rcases hc with hc | hc | ⟨p, q, r, hp, hc⟩ | ⟨q, r, hp, hc⟩
    all_goals
      have H1 := Lib.hid hc.1
      have H2 := Lib.hid hc.2.1
      have H3 := Lib.hid hc.2.2.1
      have H4 := Lib.hid hc.2.2.2.1
      have T1 := Lib.hid hc.2.2.2.2.1
      have T2 := Lib.hid hc.2.2.2.2.2.1
      have T3 := Lib.hid hc.2.2.2.2.2.2.1
      have H5 := Lib.hid hc.2.2.2.2.2.2.2.1
      have H6 := Lib.hid hc.2.2.2.2.2.2.2.2.1
      try have H7 := Lib.hid (hc.2.2.2.2.2.2.2.2.2 rfl)
      clear hc
    all_goals
      go_wp2_with (first | (go_at_call 12; with_reducible refine (iBeforeAngle_lit H1.out _).mono ?_; rintro e w1 ⟨rfl, hb1⟩; have cc0 := cell_keep (p := ⟨wa.heap.size, 0, none⟩) (v := .int .i64 a) hb1 (by first | assumption | (go_keep; done) | (go_simp; done) | (simp; done)) (by first | omega | (simp <;> omega)); have cc1 := cell_keep (p := ⟨wa.heap.size, 1, none⟩) (v := .int .i64 b) hb1 (by first | assumption | (go_keep; done) | (go_simp; done) | (simp; done)) (by first | omega | (simp <;> omega)); have cc2 := cell_keep (p := ⟨wa.heap.size, 2, none⟩) (v := .int .i64 c) hb1 (by first | assumption | (go_keep; done) | (go_simp; done) | (simp; done)) (by first | omega | (simp <;> omega)); have cc3 := cell_keep (p := ⟨wb.heap.size, 0, none⟩) (v := .int .i64 a') hb1 (by first | assumption | (go_keep; done) | (go_simp; done) | (simp; done)) (by first | omega | (simp <;> omega)); have cc4 := cell_keep (p := ⟨wb.heap.size, 1, none⟩) (v := .int .i64 b') hb1 (by first | assumption | (go_keep; done) | (go_simp; done) | (simp; done)) (by first | omega | (simp <;> omega)); have cc5 := cell_keep (p := ⟨wb.heap.size, 2, none⟩) (v := .int .i64 c') hb1 (by first | assumption | (go_keep; done) | (go_simp; done) | (simp; done)) (by first | omega | (simp <;> omega)); have hS1 : Below w.heap.size w w1 := S_below hb1 (by repeat (first | exact Below.refl _ _ | assumption | refine below_drewN ?_ _ | refine Below.drew ?_ | refine Below.alloc ?_ (by first | omega | (simp <;> omega)) _ | refine Below.setCell ?_ (by first | omega | (simp <;> omega)) _)) (by first | omega | (simp <;> omega)); have hz1 : w.heap.size ≤ w1.heap.size := S_size hb1 (by first | omega | (simp <;> omega)); have hqb0 : wa.heap.size < w1.heap.size := S_lt hb1 (by first | omega | (simp <;> omega)); have hqb1 : wb.heap.size < w1.heap.size := S_lt hb1 (by first | omega | (simp <;> omega)); clear hb1) | (go_at_call 12; with_reducible refine (iBeforeAngle_lit H2.out _).mono ?_; rintro e w1 ⟨rfl, hb1⟩; have cc0 := cell_keep (p := ⟨wa.heap.size, 0, none⟩) (v := .int .i64 a) hb1 (by first | assumption | (go_keep; done) | (go_simp; done) | (simp; done)) (by first | omega | (simp <;> omega)); have cc1 := cell_keep (p := ⟨wa.heap.size, 1, none⟩) (v := .int .i64 b) hb1 (by first | assumption | (go_keep; done) | (go_simp; done) | (simp; done)) (by first | omega | (simp <;> omega)); have cc2 := cell_keep (p := ⟨wa.heap.size, 2, none⟩) (v := .int .i64 c) hb1 (by first | assumption | (go_keep; done) | (go_simp; done) | (simp; done)) (by first | omega | (simp <;> omega)); have cc3 := cell_keep (p := ⟨wb.heap.size, 0, none⟩) (v := .int .i64 a') hb1 (by first | assumption | (go_keep; done) | (go_simp; done) | (simp; done)) (by first | omega | (simp <;> omega)); have cc4 := cell_keep (p := ⟨wb.heap.size, 1, none⟩) (v := .int .i64 b') hb1 (by first | assumption | (go_keep; done) | (go_simp; done) | (simp; done)) (by first | omega | (simp <;> omega)); have cc5 := cell_keep (p := ⟨wb.heap.size, 2, none⟩) (v := .int .i64 c') hb1 (by first | assumption | (go_keep; done) | (go_simp; done) | (simp; done)) (by first | omega | (simp <;> omega)); have hS1 : Below w.heap.size w w1 := S_below hb1 (by repeat (first | exact Below.refl _ _ | assumption | refine below_drewN ?_ _ | refine Below.drew ?_ | refine Below.alloc ?_ (by first | omega | (simp <;> omega)) _ | refine Below.setCell ?_ (by first | omega | (simp <;> omega)) _)) (by first | omega | (simp <;> omega)); have hz1 : w.heap.size ≤ w1.heap.size := S_size hb1 (by first | omega | (simp <;> omega)); have hqb0 : wa.heap.size < w1.heap.size := S_lt hb1 (by first | omega | (simp <;> omega)); have hqb1 : wb.heap.size < w1.heap.size := S_lt hb1 (by first | omega | (simp <;> omega)); clear hb1) | (go_at_call 13; with_reducible refine (iSameDirection_lit H3.out _).mono ?_; rintro e w1 ⟨rfl, hb1⟩; have cc0 := cell_keep (p := ⟨wa.heap.size, 0, none⟩) (v := .int .i64 a) hb1 (by first | assumption | (go_keep; done) | (go_simp; done) | (simp; done)) (by first | omega | (simp <;> omega)); have cc1 := cell_keep (p := ⟨wa.heap.size, 1, none⟩) (v := .int .i64 b) hb1 (by first | assumption | (go_keep; done) | (go_simp; done) | (simp; done)) (by first | omega | (simp <;> omega)); have cc2 := cell_keep (p := ⟨wa.heap.size, 2, none⟩) (v := .int .i64 c) hb1 (by first | assumption | (go_keep; done) | (go_simp; done) | (simp; done)) (by first | omega | (simp <;> omega)); have cc3 := cell_keep (p := ⟨wb.heap.size, 0, none⟩) (v := .int .i64 a') hb1 (by first | assumption | (go_keep; done) | (go_simp; done) | (simp; done)) (by first | omega | (simp <;> omega)); have cc4 := cell_keep (p := ⟨wb.heap.size, 1, none⟩) (v := .int .i64 b') hb1 (by first | assumption | (go_keep; done) | (go_simp; done) | (simp; done)) (by first | omega | (simp <;> omega)); have cc5 := cell_keep (p := ⟨wb.heap.size, 2, none⟩) (v := .int .i64 c') hb1 (by first | assumption | (go_keep; done) | (go_simp; done) | (simp; done)) (by first | omega | (simp <;> omega)); have hS1 : Below w.heap.size w w1 := S_below hb1 (by repeat (first | exact Below.refl _ _ | assumption | refine below_drewN ?_ _ | refine Below.drew ?_ | refine Below.alloc ?_ (by first | omega | (simp <;> omega)) _ | refine Below.setCell ?_ (by first | omega | (simp <;> omega)) _)) (by first | omega | (simp <;> omega)); have hz1 : w.heap.size ≤ w1.heap.size := S_size hb1 (by first | omega | (simp <;> omega)); have hqb0 : wa.heap.size < w1.heap.size := S_lt hb1 (by first | omega | (simp <;> omega)); have hqb1 : wb.heap.size < w1.heap.size := S_lt hb1 (by first | omega | (simp <;> omega)); clear hb1))
      go_wp2_with fail
      go_at_call 14; with_reducible refine (iHalfOf_lit H6.out _ (by omega) (by omega) (by omega) (by omega) (by omega) (by omega)).mono ?_
      rintro e wc ⟨rfl, hb1⟩
      have cc_wc0 := cell_keep (p := ⟨wa.heap.size, 0, none⟩) (v := .int .i64 a) hb1 (by first | assumption | (go_keep; done) | (go_simp; done) | (simp; done)) (by first | omega | (simp <;> omega))
      have cc_wc1 := cell_keep (p := ⟨wa.heap.size, 1, none⟩) (v := .int .i64 b) hb1 (by first | assumption | (go_keep; done) | (go_simp; done) | (simp; done)) (by first | omega | (simp <;> omega))
      have cc_wc2 := cell_keep (p := ⟨wa.heap.size, 2, none⟩) (v := .int .i64 c) hb1 (by first | assumption | (go_keep; done) | (go_simp; done) | (simp; done)) (by first | omega | (simp <;> omega))
      have cc_wc3 := cell_keep (p := ⟨wb.heap.size, 0, none⟩) (v := .int .i64 a') hb1 (by first | assumption | (go_keep; done) | (go_simp; done) | (simp; done)) (by first | omega | (simp <;> omega))
      have cc_wc4 := cell_keep (p := ⟨wb.heap.size, 1, none⟩) (v := .int .i64 b') hb1 (by first | assumption | (go_keep; done) | (go_simp; done) | (simp; done)) (by first | omega | (simp <;> omega))
      have cc_wc5 := cell_keep (p := ⟨wb.heap.size, 2, none⟩) (v := .int .i64 c') hb1 (by first | assumption | (go_keep; done) | (go_simp; done) | (simp; done)) (by first | omega | (simp <;> omega))
      have hS1_wc : Below w.heap.size w wc := S_below hb1 (by repeat (first | exact Below.refl _ _ | assumption | refine below_drewN ?_ _ | refine Below.drew ?_ | refine Below.alloc ?_ (by first | omega | (simp <;> omega)) _ | refine Below.setCell ?_ (by first | omega | (simp <;> omega)) _)) (by first | omega | (simp <;> omega))
      have hz1_wc : w.heap.size ≤ wc.heap.size := S_size hb1 (by first | omega | (simp <;> omega))
      have hqb_wc0 : wa.heap.size < wc.heap.size := S_lt hb1 (by first | omega | (simp <;> omega))
      have hqb_wc1 : wb.heap.size < wc.heap.size := S_lt hb1 (by first | omega | (simp <;> omega))
      clear hb1
      go_wp2_with fail
    all_goals
      first
        | (go_region_held3 (fun w' => (Below w.heap.size w w' ∧ w.heap.size ≤ w'.heap.size) ∧ w'.cell? ⟨wa.heap.size, 0, none⟩ = some (.int .i64 a) ∧ w'.cell? ⟨wa.heap.size, 1, none⟩ = some (.int .i64 b) ∧ w'.cell? ⟨wa.heap.size, 2, none⟩ = some (.int .i64 c) ∧ w'.cell? ⟨wb.heap.size, 0, none⟩ = some (.int .i64 a') ∧ w'.cell? ⟨wb.heap.size, 1, none⟩ = some (.int .i64 b') ∧ w'.cell? ⟨wb.heap.size, 2, none⟩ = some (.int .i64 c') ∧ w'.cell? ⟨wc.heap.size, 0, none⟩ = some (.int .i64 (hoN a b (c - 1) a)) ∧ w'.cell? ⟨wc.heap.size, 1, none⟩ = some (.int .i64 (hoN a b (c - 1) b)) ∧ w'.cell? ⟨wc.heap.size, 2, none⟩ = some (.int .i64 (hoN a b (c - 1) (c - 1))) ∧ wa.heap.size < w'.heap.size ∧ wb.heap.size < w'.heap.size ∧ wc.heap.size < w'.heap.size) (first | (go_split_ands; refine ⟨⟨?_, ?_⟩, ?_, ?_, ?_, ?_, ?_, ?_, ?_, ?_, ?_, ?_, ?_, ?_⟩ <;> first | (with_reducible assumption) | ((with_reducible refine cell_keep hb1 ?_ ?_); (focus first | (with_reducible assumption) | (go_keep; done) | (go_simp; done) | (simp; done)); (focus first | omega | (simp <;> omega))) | ((with_reducible refine frozen_keep hb1 ?_ ?_); (focus first | (with_reducible assumption) | (go_keep; done) | (go_simp; done) | (simp; done)); (focus first | omega | (simp <;> omega))) | ((with_reducible refine S_size hb1 ?_); (focus first | omega | (simp <;> omega))) | ((with_reducible refine S_lt hb1 ?_); (focus first | omega | (simp <;> omega))) | ((with_reducible refine S_below hb1 ?_ ?_); (focus ((repeat (first | (with_reducible exact Below.refl _ _) | (with_reducible assumption) | (with_reducible refine below_drewN ?_ _) | (with_reducible refine Below.drew ?_) | ((with_reducible refine Below.alloc ?_ ?_ _); rotate_left; (focus first | omega | (simp <;> omega))) | ((with_reducible refine Below.setCell ?_ ?_ _); rotate_left; (focus first | omega | (simp <;> omega))))); done)); (focus first | omega | (simp <;> omega))) | ((with_reducible apply S_realloc2); (focus (with_reducible assumption)); (focus (with_reducible assumption)); (focus omega)) | (with_reducible show Below _ _ _; (repeat (first | (with_reducible exact Below.refl _ _) | (with_reducible assumption) | (with_reducible refine below_drewN ?_ _) | (with_reducible refine Below.drew ?_) | ((with_reducible refine Below.alloc ?_ ?_ _); rotate_left; (focus first | omega | (simp <;> omega))) | ((with_reducible refine Below.setCell ?_ ?_ _); rotate_left; (focus first | omega | (simp <;> omega))))); done) | (go_keep; done) | omega | (simp <;> omega) | (go_simp; done)))
            (first | (go_at_call 13; with_reducible refine (iSameDirection_lit H5.out _).mono ?_; rintro e w1 ⟨rfl, hb1⟩) | (go_at_call 15; with_reducible refine (iHalfOk_lit H4.out _).mono ?_; rintro e w1 ⟨rfl, hb1⟩) | (go_at_call 16; with_reducible refine (tight_is T1.out T2.out T3.out _).mono ?_; rintro e w1 ⟨rfl, hb1⟩) | (go_at_call 16; with_reducible refine (tight_is (H7.out).1.1 (H7.out).1.2.1 (H7.out).1.2.2 _).mono ?_; rintro e w1 ⟨rfl, hb1⟩) | (go_at_call 16; with_reducible refine (tight_is (H7.out).2.1 (H7.out).2.2.1 (H7.out).2.2.2 _).mono ?_; rintro e w1 ⟨rfl, hb1⟩)))
        | fail "held"
      go_split_ands
      go_wp2_with fail
      go_ret
      exact ⟨rfl, (by repeat (first | exact Below.refl _ _ | assumption | refine below_drewN ?_ _ | refine Below.drew ?_ | refine Below.alloc ?_ (by first | omega | (simp <;> omega)) _ | refine Below.setCell ?_ (by first | omega | (simp <;> omega)) _))⟩

end Go.Proofs.Ytkcklbjjpbaimaa
