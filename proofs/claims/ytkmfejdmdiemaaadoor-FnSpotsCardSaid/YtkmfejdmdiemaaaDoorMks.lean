/- Makers of spots, with the bounds of what they make; the plain law of FnSpots. -/
import Derived.Test.YtkmfejdmdiemaaaDoorMake2
import Derived.Test.YtkmfejdmdiemaaaDoorSpot4
import Derived.Test.YtkmfejdmdiemaaaDoorPss
namespace Go.Proofs.YtkmfejdmdiemaaaDoor
open Go.ChangeShapes Go.WideShapes Go.ChangeAt Go.RowKit
attribute [local go_sem ↓] Go.wp_at_zero Go.wp_at_succ
set_option linter.unusedVariables false

def SpotPostS (w : World) (B g : Nat) (A : Option Addr) (n c : Nat) (e : Ending) (w' : World) : Prop :=
  ∃ p q r : Int, spotOkV p q r = true ∧ (r ≤ 10 ∧ (-200 ≤ p ∧ p ≤ 200) ∧ -200 ≤ q ∧ q ≤ 200) ∧ e = .returned (.agg #[.int .i64 p, .int .i64 q, .int .i64 r]) ∧ CurAt w' B g A n c ∧ w.grownBy w' (some g)

theorem spXY_le (x y d : Int) : (spX x y d).natAbs ≤ x.natAbs ∧ (spY x y d).natAbs ≤ y.natAbs := by
  unfold spX spY
  split
  · rw [natAbs_quoV, natAbs_quoV]; exact ⟨Nat.div_le_self _ _, Nat.div_le_self _ _⟩
  · simp

set_option maxHeartbeats 1000000 in
set_option maxRecDepth 100000 in
theorem l03Draw_sm (B g : Nat) (A : Option Addr) (n c : Nat) (w : World) (hC : CurAt w B g A n c) :
    Calls Tryd.prog 58 #[.pointer (some ⟨g, 0, none⟩)] w (SpotPostS w B g A n c) := by
  have HC := Lib.hid hC; clear hC
  have hgl := HC.out.lt
  go_enter Tryd.func58, Tryd.ntmps58
  go_wp2_with fail
  go_at_call 70; refine (l01Pick_any B g (w.heap.size + 1) A n c _ ((HC.out.alloc _).alloc _) (by omega) (heap_alloc_new' _ _ (by simp))).mono ?_; rintro e w0 ⟨d, hd1, hd2, rfl, hC0, hg0⟩
  have HK0 := Lib.hid (blk_grown hg0 (alloc_blk (heap_alloc_new w _) _) (by omega))
  have HG0 := Lib.hid (grown_trans (grown_alloc (grown_alloc (grown_refl w _) _) _) hg0); clear hg0
  have HC0 := Lib.hid hC0; clear hC0
  go_wp2_with fail
  go_at_call 67; refine (l01Below_any 400 B g A n c _ HC0.out (by omega) (by omega)).mono ?_; rintro e w1 ⟨x, hx1, hx2, rfl, hC1, hg1⟩
  have HK1 := Lib.hid (blk_grown hg1 HK0.out (by omega))
  have HG1 := Lib.hid (grown_trans HG0.out hg1); clear hg1
  have HC1 := Lib.hid hC1; clear hC1
  go_wp2_with fail
  go_at_call 67; refine (l01Below_any 400 B g A n c _ HC1.out (by omega) (by omega)).mono ?_; rintro e w2 ⟨y, hy1, hy2, rfl, hC2, hg2⟩
  have HK2 := Lib.hid (blk_grown hg2 HK1.out (by omega))
  have HG2 := Lib.hid (grown_trans HG1.out hg2); clear hg2
  have HC2 := Lib.hid hC2; clear hC2
  clear HK0 HK1 HG0 HG1 HC0 HC1
  go_wp2_with fail
  have ho : spOk (x - 200) (y - 200) d = true := spOk_small (by omega) (by omega) (by omega)
  have HV := Lib.hid (spOk_valid ho)
  have HL := Lib.hid (show spD (x - 200) (y - 200) d ≤ 10 ∧ (-200 ≤ spX (x - 200) (y - 200) d ∧ spX (x - 200) (y - 200) d ≤ 200) ∧ -200 ≤ spY (x - 200) (y - 200) d ∧ spY (x - 200) (y - 200) d ≤ 200 by
    have := spD_le (x := x - 200) (y := y - 200) (d := d) (by omega)
    obtain ⟨a1, a2⟩ := spXY_le (x - 200) (y - 200) d
    omega)
  go_at_call 47; refine (sSpotOf_lit ho _ (by omega) (by omega) (by omega) (by omega) (by omega) (by omega)).mono ?_; rintro e w4 ⟨rfl, hb4⟩
  have K4 := blk_below hb4 HK2.out
  have HG4 := Lib.hid (grown_trans HG2.out (below_grown hb4))
  have HC4 := Lib.hid (HC2.out.belowC hb4)
  clear hb4 HK2 HG2 HC2 ho
  have cc0 : w4.cell? ⟨w.heap.size, 0, none⟩ = some (.int .i64 0) := cell_of_row w4 _ 0 _ _ _ K4
  have cc1 : w4.cell? ⟨w.heap.size, 1, none⟩ = some (.int .i64 0) := cell_of_row w4 _ 1 _ _ _ K4
  have cc2 : w4.cell? ⟨w.heap.size, 2, none⟩ = some (.int .i64 0) := cell_of_row w4 _ 2 _ _ _ K4
  have cf0 := blk_frozen K4 0
  have cf1 := blk_frozen K4 1
  have cf2 := blk_frozen K4 2
  have hlt4 := heap_lt K4
  have HK4 := Lib.hid K4; clear K4
  go_wp2_with fail
  have K4 := HK4.out
  have HG := HG4.out
  have hl := HL.out
  refine bodyPost_ret (v := .agg #[.int .i64 (spX (x - 200) (y - 200) d), .int .i64 (spY (x - 200) (y - 200) d), .int .i64 (spD (x - 200) (y - 200) d)]) (by simp [results, Tryd.results58, go_sem, setal_0 K4, setal_1 K4, setal_2 K4]) rfl ⟨_, _, _, HV.out, hl, rfl, HC4.out.kept (by repeat (first | exact Below.refl _ _ | assumption | refine below_drewN ?_ _ | refine Below.drew ?_ | refine Below.alloc ?_ (by first | omega | (simp <;> omega)) _ | refine Below.setCell ?_ (by first | omega | (simp <;> omega)) _)), (by repeat (first | (with_reducible exact grown_refl _ _) | (with_reducible assumption) | (with_reducible refine grown_drewN ?_ _) | (with_reducible refine grown_drew ?_) | (with_reducible refine grown_alloc ?_ _) | (with_reducible refine grown_own ?_ (by first | omega | (simp <;> omega)) _)))⟩

def SpotMadeS (w : World) (e : Ending) (w' : World) : Prop :=
  ∃ p q r : Int, spotOkV p q r = true ∧ (r ≤ 10 ∧ (-200 ≤ p ∧ p ≤ 200) ∧ -200 ≤ q ∧ q ≤ 200) ∧ e = .returned (.agg #[.int .i64 p, .int .i64 q, .int .i64 r]) ∧ Below w.heap.size w w'

set_option maxHeartbeats 1000000 in
set_option maxRecDepth 100000 in
theorem MakeSpot_sm (m : Int) (A : Option Addr) (n c : Nat) (w : World) (hn : n ≤ 1048576) (hB : BytesAt w w.heap.size A n) (h1 : 0 ≤ m) (h2 : m ≤ 1000000) :
    Calls Tryd.prog 29 #[.slice A n c, .int .i64 m] w (SpotMadeS w) := by
  have HB := Lib.hid ((hB.below ((Below.refl _ _).alloc (Nat.le_refl _) _)).mono (by simp) : BytesAt (w.alloc (.cells #[.int .i64 0, .int .i64 0, .int .i64 0] 31)) (w.alloc (.cells #[.int .i64 0, .int .i64 0, .int .i64 0] 31)).heap.size A n)
  clear hB
  go_enter Tryd.func29, Tryd.ntmps29
  go_wp2_with fail
  go_at_call 51; refine (l26New_any m A n c _ hn HB.out h1 h2).mono ?_; rintro e w1 ⟨g, rfl, hC1, hb1⟩
  have K1 := Lib.hid (blk_below hb1 (heap_alloc_new w _))
  have HS1 := Lib.hid (S_below hb1 ((Below.refl _ _).alloc (Nat.le_refl _) _) (by simp))
  have HC1 := Lib.hid hC1; clear hC1
  have hgb := HC1.out.1
  simp only [World.size_alloc] at hgb
  clear hb1
  go_wp2_with fail
  go_at_call 58; refine (l03Draw_sm _ g A n c _ HC1.out).mono ?_; rintro e w2 ⟨p, q, r, hv, hr, rfl, hC2, hg2⟩
  have K2 := blk_grown hg2 K1.out (by omega)
  have HS2 := Lib.hid (HS1.out.trans (grown_below hg2 HS1.out.size (by intro k e; injection e with e; omega)))
  have HV := Lib.hid hv
  clear hg2 hC2 HC1 HS1 K1 hv
  have cc0 : w2.cell? ⟨w.heap.size, 0, none⟩ = some (.int .i64 0) := cell_of_row w2 _ 0 _ _ _ K2
  have cc1 : w2.cell? ⟨w.heap.size, 1, none⟩ = some (.int .i64 0) := cell_of_row w2 _ 1 _ _ _ K2
  have cc2 : w2.cell? ⟨w.heap.size, 2, none⟩ = some (.int .i64 0) := cell_of_row w2 _ 2 _ _ _ K2
  have cf0 := blk_frozen K2 0
  have cf1 := blk_frozen K2 1
  have cf2 := blk_frozen K2 2
  clear K2
  go_wp2_with fail
  have HS := HS2.out
  exact bodyPost_ret (v := .agg #[.int .i64 p, .int .i64 q, .int .i64 r]) (by simp [results, Tryd.results29, go_sem, set_0 cc0, set2_1 cc1, set3_2 cc2]) rfl ⟨_, _, _, HV.out, hr, rfl, (by repeat (first | exact Below.refl _ _ | assumption | refine below_drewN ?_ _ | refine Below.drew ?_ | refine Below.alloc ?_ (by first | omega | (simp <;> omega)) _ | refine Below.setCell ?_ (by first | omega | (simp <;> omega)) _))⟩

theorem spOk_of {x y d : Int} (hx : -1000 * d ≤ x ∧ x ≤ 1000 * d) (hy : -1000 * d ≤ y ∧ y ≤ 1000 * d) (hd : 1 ≤ d ∧ d ≤ 5000000000) : spOk x y d = true := by
  have hg : 0 < gcdL [x, y, d] := by
    rw [gcdL3_eq]; exact Nat.gcd_pos_of_pos_right _ (by omega)
  have hd1 : gcdL [x, y, d] ∣ x.natAbs := by rw [gcdL3_eq]; exact Nat.dvd_trans (Nat.gcd_dvd_left _ _) (Nat.gcd_dvd_left _ _)
  have hd2 : gcdL [x, y, d] ∣ y.natAbs := by rw [gcdL3_eq]; exact Nat.dvd_trans (Nat.gcd_dvd_left _ _) (Nat.gcd_dvd_right _ _)
  have hgd : gcdL [x, y, d] ∣ d.natAbs := by rw [gcdL3_eq]; exact Nat.gcd_dvd_right _ _
  have hr := gcdL3_reduced x y d hg
  have q1 : 1 ≤ d.natAbs / gcdL [x, y, d] := Nat.div_pos (Nat.le_of_dvd (by omega) hgd) hg
  have q2 : d.natAbs / gcdL [x, y, d] ≤ d.natAbs := Nat.div_le_self _ _
  have b1 : x.natAbs / gcdL [x, y, d] ≤ 1000 * (d.natAbs / gcdL [x, y, d]) := by
    rw [← Nat.mul_div_assoc _ hgd]; exact Nat.div_le_div_right (by omega)
  have b2 : y.natAbs / gcdL [x, y, d] ≤ 1000 * (d.natAbs / gcdL [x, y, d]) := by
    rw [← Nat.mul_div_assoc _ hgd]; exact Nat.div_le_div_right (by omega)
  have e3 : quoV d (gcdL [x, y, d]) = ((d.natAbs / gcdL [x, y, d] : Nat) : Int) := by unfold quoV; rw [if_pos (by omega)]
  have e1 := natAbs_quoV x (gcdL [x, y, d])
  have e2 := natAbs_quoV y (gcdL [x, y, d])
  unfold spOk leastB spotOkV
  rw [hr]
  unfold inB
  simp only [Bool.and_eq_true, Bool.not_eq_true', decide_eq_true_eq, decide_eq_false_iff_not, and_true]
  rw [e3]
  generalize d.natAbs / gcdL [x, y, d] = Q at *
  generalize quoV x (gcdL [x, y, d]) = X at *
  generalize quoV y (gcdL [x, y, d]) = Y at *
  generalize x.natAbs / gcdL [x, y, d] = U at *
  generalize y.natAbs / gcdL [x, y, d] = V at *
  omega

theorem spotOkV_gcd {x y d : Int} (h : spotOkV x y d = true) : gcdL [x, y, d] = 1 := by
  unfold spotOkV at h
  simp only [Bool.and_eq_true, decide_eq_true_eq] at h
  exact h.2.2.2

theorem spotOkV_mk {x y d : Int} (hd : 1 ≤ d ∧ d ≤ 5000000000) (hx : -1000 * d ≤ x ∧ x ≤ 1000 * d) (hy : -1000 * d ≤ y ∧ y ≤ 1000 * d) (hg : gcdL [x, y, d] = 1) : spotOkV x y d = true := by
  unfold spotOkV
  rw [(inB_iff _ _ _).2 hd, (inB_iff _ _ _).2 hx, (inB_iff _ _ _).2 hy, hg]; rfl

theorem dvd_natAbs {h : Nat} {x : Int} : h ∣ x.natAbs ↔ (h : Int) ∣ x := Int.ofNat_dvd_left.symm

theorem gcdL3_shift {x y d a b : Int} (h : gcdL [x, y, d] = 1) : gcdL [x + a * d, y + b * d, d] = 1 := by
  rw [gcdL3_eq] at h
  apply Nat.eq_one_of_dvd_one
  generalize hh : gcdL [x + a * d, y + b * d, d] = g
  rw [gcdL3_eq] at hh
  have d3 : (g : Int) ∣ d := dvd_natAbs.1 (by rw [← hh]; exact Nat.gcd_dvd_right _ _)
  have d1 : (g : Int) ∣ x + a * d := dvd_natAbs.1 (by rw [← hh]; exact Nat.dvd_trans (Nat.gcd_dvd_left _ _) (Nat.gcd_dvd_left _ _))
  have d2 : (g : Int) ∣ y + b * d := dvd_natAbs.1 (by rw [← hh]; exact Nat.dvd_trans (Nat.gcd_dvd_left _ _) (Nat.gcd_dvd_right _ _))
  have e1 : (g : Int) ∣ x := by
    have := Int.dvd_sub d1 (Int.dvd_mul_of_dvd_right (b := a) d3)
    rwa [Int.add_sub_cancel] at this
  have e2 : (g : Int) ∣ y := by
    have := Int.dvd_sub d2 (Int.dvd_mul_of_dvd_right (b := b) d3)
    rwa [Int.add_sub_cancel] at this
  rw [← h]
  exact Nat.dvd_gcd (Nat.dvd_gcd (dvd_natAbs.2 e1) (dvd_natAbs.2 e2)) (dvd_natAbs.2 d3)

/-- A small step of a small spot. -/
theorem shift_small {x y d dx dy : Int} (h : spotOkV x y d = true) (hd : d ≤ 10) (hx : -200 ≤ x ∧ x ≤ 200) (hy : -200 ≤ y ∧ y ≤ 200) (h1 : -50 ≤ dx ∧ dx ≤ 50) (h2 : -50 ≤ dy ∧ dy ≤ 50) :
    spotOkV (x + dx * d) (y + dy * d) d = true ∧ shOk x y d dx dy = true ∧ shX x y d dx dy = x + dx * d ∧ shY x y d dx dy = y + dy * d ∧ shD x y d dx dy = d := by
  obtain ⟨⟨d1, d2⟩, _⟩ := spotOkV_bounds h
  have m1 := mul_range dx d 50 10 (by omega) (by omega) (by omega) (by omega)
  have m2 := mul_range dy d 50 10 (by omega) (by omega) (by omega) (by omega)
  have hv : spotOkV (x + dx * d) (y + dy * d) d = true := spotOkV_mk ⟨d1, d2⟩ (by omega) (by omega) (gcdL3_shift (spotOkV_gcd h))
  obtain ⟨o1, o2, o3, o4⟩ := spOf_ok hv
  have hG : shG x y d dx dy = true := by
    unfold shG; rw [h, (inB_iff _ _ _).2 (by omega), (inB_iff _ _ _).2 (by omega)]; rfl
  unfold shOk shX shY shD
  rw [hG, o1, if_pos rfl, if_pos rfl, if_pos rfl, o2, o3, o4]
  exact ⟨hv, rfl, rfl, rfl, rfl⟩

theorem shift_back {x y d dx dy : Int} (h : spotOkV x y d = true) (h' : spotOkV (x + dx * d) (y + dy * d) d = true) (h1 : -50 ≤ dx ∧ dx ≤ 50) (h2 : -50 ≤ dy ∧ dy ≤ 50) :
    shOk (x + dx * d) (y + dy * d) d (-dx) (-dy) = true ∧ shX (x + dx * d) (y + dy * d) d (-dx) (-dy) = x ∧ shY (x + dx * d) (y + dy * d) d (-dx) (-dy) = y ∧ shD (x + dx * d) (y + dy * d) d (-dx) (-dy) = d := by
  obtain ⟨o1, o2, o3, o4⟩ := spOf_ok h
  have e1 : x + dx * d + -dx * d = x := by grind
  have e2 : y + dy * d + -dy * d = y := by grind
  have hG : shG (x + dx * d) (y + dy * d) d (-dx) (-dy) = true := by
    unfold shG; rw [h', (inB_iff _ _ _).2 (by omega), (inB_iff _ _ _).2 (by omega)]; rfl
  unfold shOk shX shY shD
  rw [hG, e1, e2, o1, if_pos rfl, if_pos rfl, if_pos rfl, o2, o3, o4]
  exact ⟨rfl, rfl, rfl, rfl⟩

theorem quo_back {n : Int} {g : Nat} (h : g ∣ n.natAbs) : quoV n g * g = n := by
  have e := Nat.div_mul_cancel h
  have e' : ((n.natAbs / g : Nat) : Int) * (g : Int) = (n.natAbs : Int) := by exact_mod_cast e
  unfold quoV
  split
  · rw [e']; omega
  · rw [Int.neg_mul, e']; omega

/-- The middle of two small spots. -/
theorem half_small {x y d x' y' d' : Int} (h : spotOkV x y d = true) (h' : spotOkV x' y' d' = true) (hd : d ≤ 10) (hd' : d' ≤ 10) :
    ∃ X Y D : Int, hwOk x y d x' y' d' = true ∧ hwX x y d x' y' d' = X ∧ hwY x y d x' y' d' = Y ∧ hwD x y d x' y' d' = D ∧ hwOk x' y' d' x y d = true ∧ hwX x' y' d' x y d = X ∧ hwY x' y' d' x y d = Y ∧ hwD x' y' d' x y d = D ∧
      spotOkV X Y D = true ∧ D ≤ 200 ∧ 2 * X * d * d' = (x * d' + x' * d) * D ∧ 2 * Y * d * d' = (y * d' + y' * d) * D := by
  obtain ⟨⟨d1, d2⟩, ⟨x1, x2⟩, y1, y2⟩ := spotOkV_bounds h
  obtain ⟨⟨d1', d2'⟩, ⟨x1', x2'⟩, y1', y2'⟩ := spotOkV_bounds h'
  have m0 : d * d' ≤ 10 * 10 := Int.mul_le_mul hd hd' (by omega) (by omega)
  have m0' : 0 < d * d' := Int.mul_pos (by omega) (by omega)
  have a1 : -1000 * d * d' ≤ x * d' := Int.mul_le_mul_of_nonneg_right x1 (by omega)
  have a2 : x * d' ≤ 1000 * d * d' := Int.mul_le_mul_of_nonneg_right x2 (by omega)
  have a3 : -1000 * d' * d ≤ x' * d := Int.mul_le_mul_of_nonneg_right x1' (by omega)
  have a4 : x' * d ≤ 1000 * d' * d := Int.mul_le_mul_of_nonneg_right x2' (by omega)
  have b1 : -1000 * d * d' ≤ y * d' := Int.mul_le_mul_of_nonneg_right y1 (by omega)
  have b2 : y * d' ≤ 1000 * d * d' := Int.mul_le_mul_of_nonneg_right y2 (by omega)
  have b3 : -1000 * d' * d ≤ y' * d := Int.mul_le_mul_of_nonneg_right y1' (by omega)
  have b4 : y' * d ≤ 1000 * d' * d := Int.mul_le_mul_of_nonneg_right y2' (by omega)
  rw [Int.mul_assoc] at a1 a2 a3 a4 b1 b2 b3 b4
  rw [Int.mul_comm d' d] at a3 a4 b3 b4
  have hG : hwG x y d x' y' d' = true := by unfold hwG; rw [h, h', decide_eq_true (by omega), decide_eq_true (by omega)]; rfl
  have hG' : hwG x' y' d' x y d = true := by unfold hwG; rw [h, h', decide_eq_true (by omega), decide_eq_true (by omega)]; rfl
  have c1 : x' * d + x * d' = x * d' + x' * d := by omega
  have c2 : y' * d + y * d' = y * d' + y' * d := by omega
  have c3 : 2 * d' * d = 2 * d * d' := by grind
  have c4 : 2 * d * d' = 2 * (d * d') := by grind
  obtain ⟨g1, g2, g3, g4⟩ := hwG_yes hG
  obtain ⟨k1, k2, k3, k4⟩ := hwG_yes hG'
  rw [c1, c2, c3] at k1 k2 k3 k4
  generalize hxx : x * d' + x' * d = P at *
  generalize hyy : y * d' + y' * d = Q at *
  generalize hdd : 2 * d * d' = R at *
  have ho : spOk P Q R = true := spOk_of ⟨by omega, by omega⟩ ⟨by omega, by omega⟩ ⟨by omega, by omega⟩
  have hv := spOk_valid ho
  have hl := spD_le (x := P) (y := Q) (d := R) (by omega)
  have t1 : gcdL [P, Q, R] ∣ P.natAbs := by rw [gcdL3_eq]; exact Nat.dvd_trans (Nat.gcd_dvd_left _ _) (Nat.gcd_dvd_left _ _)
  have t2 : gcdL [P, Q, R] ∣ Q.natAbs := by rw [gcdL3_eq]; exact Nat.dvd_trans (Nat.gcd_dvd_left _ _) (Nat.gcd_dvd_right _ _)
  have t3 : gcdL [P, Q, R] ∣ R.natAbs := by rw [gcdL3_eq]; exact Nat.gcd_dvd_right _ _
  have e1 : spX P Q R * (gcdL [P, Q, R] : Int) = P := by unfold spX; rw [if_pos ho]; exact quo_back t1
  have e2 : spY P Q R * (gcdL [P, Q, R] : Int) = Q := by unfold spY; rw [if_pos ho]; exact quo_back t2
  have e3 : spD P Q R * (gcdL [P, Q, R] : Int) = R := by unfold spD; rw [if_pos ho]; exact quo_back t3
  refine ⟨spX P Q R, spY P Q R, spD P Q R, g4.trans ho, g1, g2, g3, k4.trans ho, k1, k2, k3, hv, by omega, ?_, ?_⟩
  · have : 2 * spX P Q R * d * d' = spX P Q R * R := by rw [← hdd]; grind
    rw [this]
    generalize spX P Q R = U at *
    generalize spD P Q R = V at *
    generalize (gcdL [P, Q, R] : Int) = G at *
    rw [← e1, ← e3]; grind
  · have : 2 * spY P Q R * d * d' = spY P Q R * R := by rw [← hdd]; grind
    rw [this]
    generalize spY P Q R = U at *
    generalize spD P Q R = V at *
    generalize (gcdL [P, Q, R] : Int) = G at *
    rw [← e2, ← e3]; grind

/-- Five times the parts are the same spot. -/
theorem five {x y d : Int} (h : spotOkV x y d = true) : spOk (5 * x) (5 * y) (5 * d) = true ∧ spX (5 * x) (5 * y) (5 * d) = x ∧ spY (5 * x) (5 * y) (5 * d) = y ∧ spD (5 * x) (5 * y) (5 * d) = d := by
  obtain ⟨⟨d1, d2⟩, ⟨x1, x2⟩, y1, y2⟩ := spotOkV_bounds h
  have hg : gcdL [5 * x, 5 * y, 5 * d] = 5 := by
    have h1 := spotOkV_gcd h
    rw [gcdL3_eq] at *
    rw [Int.natAbs_mul, Int.natAbs_mul, Int.natAbs_mul, Nat.gcd_mul_left, Nat.gcd_mul_left, h1]; rfl
  have q : ∀ z : Int, quoV (5 * z) 5 = z := by
    intro z
    have e : (5 * z).natAbs / 5 = z.natAbs := by omega
    unfold quoV; rw [e]; split <;> omega
  have hl1 : leastB (5 * x) = false := by unfold leastB; simp; omega
  have hl2 : leastB (5 * y) = false := by unfold leastB; simp; omega
  have ho : spOk (5 * x) (5 * y) (5 * d) = true := by
    unfold spOk; rw [hg, q, q, q, h, hl1, hl2]; simp; omega
  unfold spX spY spD
  rw [ho, hg, if_pos rfl, if_pos rfl, if_pos rfl, q, q, q]
  exact ⟨rfl, rfl, rfl, rfl⟩

end Go.Proofs.YtkmfejdmdiemaaaDoor
