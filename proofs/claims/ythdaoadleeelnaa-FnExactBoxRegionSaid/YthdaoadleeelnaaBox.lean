/- BoxRegion, of the program and of the reference. -/
import Derived.Test.YthdaoadleeelnaaMrk
namespace Go.Proofs.Ythdaoadleeelnaa
open Go.ChangeShapes Go.WideShapes Go.ChangeAt Go.RowKit
attribute [local go_sem ↓] Go.wp_at_zero Go.wp_at_succ
set_option linter.unusedVariables false

def areB (a b : Int) : Bool := decide (-1000 ≤ a) && (decide (a < b) && decide (b ≤ 1000))

def boxL (x0 y0 x1 y1 : Int) : List Hp := [(1, 0, x1), (0, 1, y1), (-1, 0, -x0), (0, -1, -y0)]

def bxB (x0 y0 x1 y1 : Int) : Bool := areB x0 x1 && areB y0 y1

def bxR (x0 y0 x1 y1 : Int) : List Hp := if bxB x0 y0 x1 y1 then mkR (boxL x0 y0 x1 y1) else []

theorem bx_no {x0 y0 x1 y1 : Int} (h : bxB x0 y0 x1 y1 = false) : bxR x0 y0 x1 y1 = [] ∧ bxB x0 y0 x1 y1 = false := ⟨by unfold bxR; rw [h]; rfl, h⟩

theorem bx_yes {x0 y0 x1 y1 : Int} (h1 : areB x0 x1 = true) (h2 : areB y0 y1 = true) : bxR x0 y0 x1 y1 = mkR (boxL x0 y0 x1 y1) ∧ bxB x0 y0 x1 y1 = true := by
  have h : bxB x0 y0 x1 y1 = true := by unfold bxB; rw [h1, h2]; rfl
  exact ⟨by unfold bxR; rw [h]; rfl, h⟩

theorem areB_true {a b : Int} (h : areB a b = true) : -1000 ≤ a ∧ a < b ∧ b ≤ 1000 := by
  unfold areB at h
  simpa only [Bool.and_eq_true, decide_eq_true_eq] using h

theorem box_ok {x0 y0 x1 y1 : Int} (h1 : areB x0 x1 = true) (h2 : areB y0 y1 = true) : ∀ h ∈ boxL x0 y0 x1 y1, okH h = true := by
  obtain ⟨a1, a2, a3⟩ := areB_true h1
  obtain ⟨b1, b2, b3⟩ := areB_true h2
  intro h hh
  unfold boxL at hh
  simp only [List.mem_cons, List.not_mem_nil, or_false] at hh
  have i1 : inB x1 (-100000000) 100000000 = true := by unfold inB; simp; omega
  have i2 : inB y1 (-100000000) 100000000 = true := by unfold inB; simp; omega
  have i3 : inB (-x0) (-100000000) 100000000 = true := by unfold inB; simp; omega
  have i4 : inB (-y0) (-100000000) 100000000 = true := by unfold inB; simp; omega
  rcases hh with rfl | rfl | rfl | rfl
  · unfold okH halfOkV; rw [i1]; simp [inB, gcdL]
  · unfold okH halfOkV; rw [i2]; simp [inB, gcdL]
  · unfold okH halfOkV; rw [i3]; simp [inB, gcdL]
  · unfold okH halfOkV; rw [i4]; simp [inB, gcdL]

theorem box_rf {x0 y0 x1 y1 : Int} (h1 : areB x0 x1 = true) (h2 : areB y0 y1 = true) : rfR (boxL x0 y0 x1 y1) = mkR (boxL x0 y0 x1 y1) ∧ rfB (boxL x0 y0 x1 y1) = true := by
  have hl : (mkR (boxL x0 y0 x1 y1)).length ≤ 8 := mkR_len (hs := boxL x0 y0 x1 y1)
  have hG : rfG (boxL x0 y0 x1 y1) = true := by
    unfold rfG
    rw [List.all_eq_true.2 (box_ok h1 h2)]; rfl
  exact rf_fit hG (by omega)

theorem hsAt_four (w : World) (a b c a' b' c' a1 b1 c1 a2 b2 c2 : Int) : OwnH (w.alloc (.cells #[.int .i64 a, .int .i64 b, .int .i64 c, .int .i64 a', .int .i64 b', .int .i64 c', .int .i64 a1, .int .i64 b1, .int .i64 c1, .int .i64 a2, .int .i64 b2, .int .i64 c2] 57)) w.heap.size (.slice (some ⟨w.heap.size, 0, none⟩) 4 4) [(a, b, c), (a', b', c'), (a1, b1, c1), (a2, b2, c2)] :=
  World.ownsRow_lit w _ 4 (Nat.le_refl _) (by unfold maxLen; omega) rfl

theorem box_at (w : World) (o : Obj) (x0 y0 x1 y1 : Int) : HsAt ((w.alloc o).alloc (.cells #[.int .i64 1, .int .i64 0, .int .i64 x1, .int .i64 0, .int .i64 1, .int .i64 y1, .int .i64 (-1), .int .i64 0, .int .i64 (-x0), .int .i64 0, .int .i64 (-1), .int .i64 (-y0)] 57)) ((w.alloc o).alloc (.cells #[.int .i64 1, .int .i64 0, .int .i64 x1, .int .i64 0, .int .i64 1, .int .i64 y1, .int .i64 (-1), .int .i64 0, .int .i64 (-x0), .int .i64 0, .int .i64 (-1), .int .i64 (-y0)] 57)).heap.size (some ⟨w.heap.size + 1, 0, none⟩) (boxL x0 y0 x1 y1) := by
  have := hsAt_four (w.alloc o) 1 0 x1 0 1 y1 (-1) 0 (-x0) 0 (-1) (-y0)
  rw [World.size_alloc] at this
  exact this.of_len

theorem under_lt (w : World) (o o' : Obj) : w.heap.size < ((w.alloc o).alloc o').heap.size := Nat.lt_trans (new_lt _ _) (new_lt _ _)

theorem cell_under (w : World) (o : Obj) (t : TypeId) : ((w.alloc (.cells #[.slice none 0 0] t)).alloc o).cell? ⟨w.heap.size, 0, none⟩ = some (.slice none 0 0) := by
  rw [World.cell?_alloc_past _ _ _ (new_lt _ _)]
  exact cell_new_at w _ _ 0 rfl

theorem frozen_under (w : World) (o : Obj) (t : TypeId) : ((w.alloc (.cells #[.slice none 0 0] t)).alloc o).frozen? ⟨w.heap.size, 0, none⟩ = false := by
  rw [World.frozen?_alloc_past _ _ _ (new_lt _ _)]
  simp

theorem below_under (w : World) (o o' : Obj) : Below w.heap.size w ((w.alloc o).alloc o') := ((Below.refl _ _).alloc (Nat.le_refl _) _).alloc (Nat.le_of_lt (new_lt _ _)) _

set_option maxHeartbeats 400000 in
set_option maxRecDepth 100000 in
theorem areBounds_any (a b : Int) (w : World) :
    Calls Try.prog 47 #[.int .i64 a, .int .i64 b] w fun e w' => e = .returned (.bool (areB a b)) ∧ w = w' := by
  unfold areB
  by_cases h1 : -1000 ≤ a
  · by_cases h2 : a < b
    · rw [decide_eq_true h1, decide_eq_true h2]
      go_enter Try.func47, Try.ntmps47
      go_wp2
      go_ret
      exact ⟨rfl, rfl⟩
    · rw [decide_eq_true h1, decide_eq_false h2]
      go_enter Try.func47, Try.ntmps47
      go_wp2
      go_ret
      exact ⟨rfl, rfl⟩
  · rw [decide_eq_false h1]
    go_enter Try.func47, Try.ntmps47
    go_wp2
    go_ret
    exact ⟨rfl, rfl⟩

theorem areBounds_is {a b : Int} {v : Bool} (h : areB a b = v) (w : World) :
    Calls Try.prog 47 #[.int .i64 a, .int .i64 b] w fun e w' => e = .returned (.bool v) ∧ w = w' := by
  subst h; exact areBounds_any a b w

theorem l01In_is {n lo hi : Int} {v : Bool} (h : inB n lo hi = v) (w : World) :
    Calls Try.prog 45 #[.int .i64 n, .int .i64 lo, .int .i64 hi] w fun e w' => e = .returned (.bool v) ∧ w = w' := by
  subst h; exact l01In_any n lo hi w

set_option maxHeartbeats 1000000 in
set_option maxRecDepth 100000 in
theorem iBoxRegion_any (x0 y0 x1 y1 : Int) (hx : I64 x0) (hy : I64 y0) (w : World) :
    Calls Try.prog 25 #[.int .i64 x0, .int .i64 y0, .int .i64 x1, .int .i64 y1] w (RPost (bxR x0 y0 x1 y1) (bxB x0 y0 x1 y1) w) := by
  obtain ⟨hx1, hx2⟩ := hx
  obtain ⟨hy1, hy2⟩ := hy
  cases h1 : areB x0 x1
  · have HV := Lib.hid (bx_no (show bxB x0 y0 x1 y1 = false by unfold bxB; rw [h1]; rfl))
    have H1 := Lib.hid h1; clear h1
    go_enter Try.func25, Try.ntmps25
    go_wp2_with (first | (go_at_call 47; with_reducible refine (areBounds_is H1.out _).mono ?_; rintro e w1 ⟨rfl, rfl⟩))
    exact bodyPost_ret (v := .tuple #[.agg #[.slice none 0 0], .bool false]) (by simp [results, Try.results25, go_sem]) rfl ⟨none, 0, by rw [HV.out.1, HV.out.2]; rfl, by rw [HV.out.1]; exact World.ownsRow_nil _ _ _ _, (by repeat (first | exact Below.refl _ _ | assumption | refine below_drewN ?_ _ | refine Below.drew ?_ | refine Below.alloc ?_ (by first | omega | (simp <;> omega)) _ | refine Below.setCell ?_ (by first | omega | (simp <;> omega)) _))⟩
  · cases h2 : areB y0 y1
    · have HV := Lib.hid (bx_no (show bxB x0 y0 x1 y1 = false by unfold bxB; rw [h1, h2]; rfl))
      have H1 := Lib.hid h1; clear h1
      have H2 := Lib.hid h2; clear h2
      go_enter Try.func25, Try.ntmps25
      go_wp2_with (first | (go_at_call 47; with_reducible refine (areBounds_is H1.out _).mono ?_; rintro e w1 ⟨rfl, rfl⟩) | (go_at_call 47; with_reducible refine (areBounds_is H2.out _).mono ?_; rintro e w1 ⟨rfl, rfl⟩))
      exact bodyPost_ret (v := .tuple #[.agg #[.slice none 0 0], .bool false]) (by simp [results, Try.results25, go_sem]) rfl ⟨none, 0, by rw [HV.out.1, HV.out.2]; rfl, by rw [HV.out.1]; exact World.ownsRow_nil _ _ _ _, (by repeat (first | exact Below.refl _ _ | assumption | refine below_drewN ?_ _ | refine Below.drew ?_ | refine Below.alloc ?_ (by first | omega | (simp <;> omega)) _ | refine Below.setCell ?_ (by first | omega | (simp <;> omega)) _))⟩
    · have HV := Lib.hid (bx_yes h1 h2)
      obtain ⟨hR, hB⟩ := box_rf h1 h2
      obtain ⟨R, hR'⟩ : ∃ R, mkR (boxL x0 y0 x1 y1) = R := ⟨_, rfl⟩
      have HR := Lib.hid (hR.trans hR')
      have HB := Lib.hid hB
      have HM := Lib.hid hR'
      obtain ⟨a1, a2, a3⟩ := areB_true h1
      obtain ⟨b1, b2, b3⟩ := areB_true h2
      have H1 := Lib.hid h1; clear h1
      have H2 := Lib.hid h2; clear h2
      clear hR hB hR'
      have HF := Lib.hid (box_at w (.cells #[.slice none 0 0] 33) x0 y0 x1 y1)
      have HL := Lib.hid (show 4 = (boxL x0 y0 x1 y1).length from rfl)
      go_enter Try.func25, Try.ntmps25
      go_wp2_with (first | (go_at_call 47; with_reducible refine (areBounds_is H1.out _).mono ?_; rintro e w1 ⟨rfl, rfl⟩) | (go_at_call 47; with_reducible refine (areBounds_is H2.out _).mono ?_; rintro e w1 ⟨rfl, rfl⟩))
      go_at_call 31; (with_reducible refine (iRegionFrom_to (n := 4) HR.out HB.out HL.out HF.out (by decide)).mono ?_); rintro e w2 ⟨Av, cv, rfl, hO, hb1⟩
      have dR := cell_keep hb1 (cell_under w _ _) (under_lt w _ _)
      have gR := frozen_keep hb1 (frozen_under w _ _) (under_lt w _ _)
      have hS1 : Below w.heap.size w w2 := S_below hb1 (below_under w _ _) (Nat.le_of_lt (under_lt w _ _))
      have hOf := Lib.hid ((hO.setFar (p := ⟨w.heap.size, 0, none⟩) (hO.near (under_lt w _ _)) (.slice Av R.length cv)).wide (B' := w.heap.size) (Nat.le_of_lt (under_lt w _ _)))
      have hz : w.heap.size < w2.heap.size := Nat.lt_of_lt_of_le (under_lt w _ _) hb1.size
      clear hb1 hO
      go_wp2_with fail
      exact bodyPost_ret (v := .tuple #[.agg #[.slice Av R.length cv], .bool true]) (by simp [results, Try.results25, go_sem, set_0 dR]) rfl ⟨Av, cv, by rw [HV.out.1, HV.out.2, HM.out], by rw [HV.out.1, HM.out]; exact hOf.out, (by repeat (first | exact Below.refl _ _ | assumption | refine below_drewN ?_ _ | refine Below.drew ?_ | refine Below.alloc ?_ (by first | omega | (simp <;> omega)) _ | refine Below.setCell ?_ (by first | omega | (simp <;> omega)) _))⟩

theorem in_of_are {a b : Int} (h : areB a b = true) : inB a (-1000) 1000 = true ∧ inB b (a + 1) 1000 = true := by
  obtain ⟨h1, h2, h3⟩ := areB_true h
  unfold inB
  simp only [Bool.and_eq_true, decide_eq_true_eq]
  omega

theorem in_not_are {a b : Int} (h : areB a b = false) : inB a (-1000) 1000 = false ∨ (inB a (-1000) 1000 = true ∧ (-1000 ≤ a ∧ a ≤ 1000) ∧ inB b (a + 1) 1000 = false) := by
  cases h1 : inB a (-1000) 1000
  · exact .inl rfl
  · have h1' : -1000 ≤ a ∧ a ≤ 1000 := by unfold inB at h1; simpa only [Bool.and_eq_true, decide_eq_true_eq] using h1
    refine .inr ⟨rfl, h1', ?_⟩
    rw [← Bool.not_eq_true] at h ⊢
    intro e
    apply h
    unfold inB at e
    simp only [Bool.and_eq_true, decide_eq_true_eq] at e
    unfold areB
    simp only [Bool.and_eq_true, decide_eq_true_eq]
    omega

set_option maxHeartbeats 1000000 in
set_option maxRecDepth 100000 in
theorem sBoxRegion_any (x0 y0 x1 y1 : Int) (hx : I64 x0) (hy : I64 y0) (w : World) :
    Calls Try.prog 24 #[.int .i64 x0, .int .i64 y0, .int .i64 x1, .int .i64 y1] w (RPost (bxR x0 y0 x1 y1) (bxB x0 y0 x1 y1) w) := by
  obtain ⟨hx1, hx2⟩ := hx
  obtain ⟨hy1, hy2⟩ := hy
  cases h1 : areB x0 x1
  · have HV := Lib.hid (bx_no (show bxB x0 y0 x1 y1 = false by unfold bxB; rw [h1]; rfl))
    rcases in_not_are h1 with e1 | ⟨e1, ⟨l1, l2⟩, e2⟩
    · clear h1
      have H1 := Lib.hid e1; clear e1
      go_enter Try.func24, Try.ntmps24
      go_wp2_with (first | (go_at_call 45; with_reducible refine (l01In_is H1.out _).mono ?_; rintro e w1 ⟨rfl, rfl⟩))
      exact bodyPost_ret (v := .tuple #[.agg #[.slice none 0 0], .bool false]) (by simp [results, Try.results24, go_sem]) rfl ⟨none, 0, by rw [HV.out.1, HV.out.2]; rfl, by rw [HV.out.1]; exact World.ownsRow_nil _ _ _ _, (by repeat (first | exact Below.refl _ _ | assumption | refine below_drewN ?_ _ | refine Below.drew ?_ | refine Below.alloc ?_ (by first | omega | (simp <;> omega)) _ | refine Below.setCell ?_ (by first | omega | (simp <;> omega)) _))⟩
    · clear h1
      have H1 := Lib.hid e1; clear e1
      have H2 := Lib.hid e2; clear e2
      go_enter Try.func24, Try.ntmps24
      go_wp2_with (first | (go_at_call 45; with_reducible refine (l01In_is H1.out _).mono ?_; rintro e w1 ⟨rfl, rfl⟩) | (go_at_call 45; with_reducible refine (l01In_is H2.out _).mono ?_; rintro e w1 ⟨rfl, rfl⟩))
      exact bodyPost_ret (v := .tuple #[.agg #[.slice none 0 0], .bool false]) (by simp [results, Try.results24, go_sem]) rfl ⟨none, 0, by rw [HV.out.1, HV.out.2]; rfl, by rw [HV.out.1]; exact World.ownsRow_nil _ _ _ _, (by repeat (first | exact Below.refl _ _ | assumption | refine below_drewN ?_ _ | refine Below.drew ?_ | refine Below.alloc ?_ (by first | omega | (simp <;> omega)) _ | refine Below.setCell ?_ (by first | omega | (simp <;> omega)) _))⟩
  · obtain ⟨e1, e2⟩ := in_of_are h1
    obtain ⟨a1, a2, a3⟩ := areB_true h1
    have H1 := Lib.hid e1; clear e1
    have H2 := Lib.hid e2; clear e2
    cases h2 : areB y0 y1
    · have HV := Lib.hid (bx_no (show bxB x0 y0 x1 y1 = false by unfold bxB; rw [h1, h2]; rfl))
      rcases in_not_are h2 with e1 | ⟨e1, ⟨l1, l2⟩, e2⟩
      · clear h1 h2
        have H3 := Lib.hid e1; clear e1
        go_enter Try.func24, Try.ntmps24
        go_wp2_with (first | (go_at_call 45; with_reducible refine (l01In_is H1.out _).mono ?_; rintro e w1 ⟨rfl, rfl⟩) | (go_at_call 45; with_reducible refine (l01In_is H2.out _).mono ?_; rintro e w1 ⟨rfl, rfl⟩) | (go_at_call 45; with_reducible refine (l01In_is H3.out _).mono ?_; rintro e w1 ⟨rfl, rfl⟩))
        exact bodyPost_ret (v := .tuple #[.agg #[.slice none 0 0], .bool false]) (by simp [results, Try.results24, go_sem]) rfl ⟨none, 0, by rw [HV.out.1, HV.out.2]; rfl, by rw [HV.out.1]; exact World.ownsRow_nil _ _ _ _, (by repeat (first | exact Below.refl _ _ | assumption | refine below_drewN ?_ _ | refine Below.drew ?_ | refine Below.alloc ?_ (by first | omega | (simp <;> omega)) _ | refine Below.setCell ?_ (by first | omega | (simp <;> omega)) _))⟩
      · clear h1 h2
        have H3 := Lib.hid e1; clear e1
        have H4 := Lib.hid e2; clear e2
        go_enter Try.func24, Try.ntmps24
        go_wp2_with (first | (go_at_call 45; with_reducible refine (l01In_is H1.out _).mono ?_; rintro e w1 ⟨rfl, rfl⟩) | (go_at_call 45; with_reducible refine (l01In_is H2.out _).mono ?_; rintro e w1 ⟨rfl, rfl⟩) | (go_at_call 45; with_reducible refine (l01In_is H3.out _).mono ?_; rintro e w1 ⟨rfl, rfl⟩) | (go_at_call 45; with_reducible refine (l01In_is H4.out _).mono ?_; rintro e w1 ⟨rfl, rfl⟩))
        exact bodyPost_ret (v := .tuple #[.agg #[.slice none 0 0], .bool false]) (by simp [results, Try.results24, go_sem]) rfl ⟨none, 0, by rw [HV.out.1, HV.out.2]; rfl, by rw [HV.out.1]; exact World.ownsRow_nil _ _ _ _, (by repeat (first | exact Below.refl _ _ | assumption | refine below_drewN ?_ _ | refine Below.drew ?_ | refine Below.alloc ?_ (by first | omega | (simp <;> omega)) _ | refine Below.setCell ?_ (by first | omega | (simp <;> omega)) _))⟩
    · have HV := Lib.hid (bx_yes h1 h2)
      obtain ⟨e1, e2⟩ := in_of_are h2
      obtain ⟨b1, b2, b3⟩ := areB_true h2
      have H3 := Lib.hid e1; clear e1
      have H4 := Lib.hid e2; clear e2
      have HK := Lib.hid (box_ok h1 h2)
      obtain ⟨R, hR'⟩ : ∃ R, mkR (boxL x0 y0 x1 y1) = R := ⟨_, rfl⟩
      have HM := Lib.hid hR'
      clear h1 h2 hR'
      have HF := Lib.hid (box_at w (.cells #[.slice none 0 0] 33) x0 y0 x1 y1)
      have HL := Lib.hid (show 4 = (boxL x0 y0 x1 y1).length from rfl)
      go_enter Try.func24, Try.ntmps24
      go_wp2_with (first | (go_at_call 45; with_reducible refine (l01In_is H1.out _).mono ?_; rintro e w1 ⟨rfl, rfl⟩) | (go_at_call 45; with_reducible refine (l01In_is H2.out _).mono ?_; rintro e w1 ⟨rfl, rfl⟩) | (go_at_call 45; with_reducible refine (l01In_is H3.out _).mono ?_; rintro e w1 ⟨rfl, rfl⟩) | (go_at_call 45; with_reducible refine (l01In_is H4.out _).mono ?_; rintro e w1 ⟨rfl, rfl⟩))
      go_at_call 46; (with_reducible refine (l05Make_to (n := 4) HM.out HL.out HF.out (by decide) HK.out).mono ?_); rintro e w2 ⟨Av, cv, rfl, hO, hb1⟩
      have dR := cell_keep hb1 (cell_under w _ _) (under_lt w _ _)
      have gR := frozen_keep hb1 (frozen_under w _ _) (under_lt w _ _)
      have hS1 : Below w.heap.size w w2 := S_below hb1 (below_under w _ _) (Nat.le_of_lt (under_lt w _ _))
      have hOf := Lib.hid ((hO.setFar (p := ⟨w.heap.size, 0, none⟩) (hO.near (under_lt w _ _)) (.slice Av R.length cv)).wide (B' := w.heap.size) (Nat.le_of_lt (under_lt w _ _)))
      have hz : w.heap.size < w2.heap.size := Nat.lt_of_lt_of_le (under_lt w _ _) hb1.size
      clear hb1 hO
      go_wp2_with fail
      exact bodyPost_ret (v := .tuple #[.agg #[.slice Av R.length cv], .bool true]) (by simp [results, Try.results24, go_sem, set_0 dR]) rfl ⟨Av, cv, by rw [HV.out.1, HV.out.2, HM.out], by rw [HV.out.1, HM.out]; exact hOf.out, (by repeat (first | exact Below.refl _ _ | assumption | refine below_drewN ?_ _ | refine Below.drew ?_ | refine Below.alloc ?_ (by first | omega | (simp <;> omega)) _ | refine Below.setCell ?_ (by first | omega | (simp <;> omega)) _))⟩

end Go.Proofs.Ythdaoadleeelnaa
