/- The maker of spots: it returns a valid one, for all byte slices. -/
import Derived.Test.YtkmfejdmdiemaaaDoorMake
namespace Go.Proofs.YtkmfejdmdiemaaaDoor
open Go.ChangeShapes Go.WideShapes Go.ChangeAt Go.RowKit
attribute [local go_sem ↓] Go.wp_at_zero Go.wp_at_succ
set_option linter.unusedVariables false

theorem gcdL3_eq (x y d : Int) : gcdL [x, y, d] = Nat.gcd (Nat.gcd x.natAbs y.natAbs) d.natAbs := by simp [gcdL]

theorem gcdL3_reduced (x y d : Int) (h : 0 < gcdL [x, y, d]) : gcdL [quoV x (gcdL [x, y, d]), quoV y (gcdL [x, y, d]), quoV d (gcdL [x, y, d])] = 1 := by
  rw [gcdL3_eq (quoV x _), natAbs_quoV, natAbs_quoV, natAbs_quoV]
  have e := gcdL3_eq x y d
  generalize gcdL [x, y, d] = g at *
  have d3 : g ∣ d.natAbs := by rw [e]; exact Nat.gcd_dvd_right _ _
  have d0 : g ∣ Nat.gcd x.natAbs y.natAbs := by rw [e]; exact Nat.gcd_dvd_left _ _
  have d1 : g ∣ x.natAbs := Nat.dvd_trans d0 (Nat.gcd_dvd_left _ _)
  have d2 : g ∣ y.natAbs := Nat.dvd_trans d0 (Nat.gcd_dvd_right _ _)
  rw [Nat.gcd_div d1 d2, Nat.gcd_div d0 d3, ← e, Nat.div_self h]

/-- A small spot is valid once it is reduced. -/
theorem spOk_small {x y d : Int} (hx : -1000 ≤ x ∧ x ≤ 1000) (hy : -1000 ≤ y ∧ y ≤ 1000) (hd : 1 ≤ d ∧ d ≤ 1000) : spOk x y d = true := by
  have hg : 0 < gcdL [x, y, d] := by
    rw [gcdL3_eq]; exact Nat.gcd_pos_of_pos_right _ (by omega)
  have hgd : gcdL [x, y, d] ∣ d.natAbs := by rw [gcdL3_eq]; exact Nat.gcd_dvd_right _ _
  have hr := gcdL3_reduced x y d hg
  have q1 : 1 ≤ d.natAbs / gcdL [x, y, d] := Nat.div_pos (Nat.le_of_dvd (by omega) hgd) hg
  have q2 : d.natAbs / gcdL [x, y, d] ≤ d.natAbs := Nat.div_le_self _ _
  have q3 : x.natAbs / gcdL [x, y, d] ≤ x.natAbs := Nat.div_le_self _ _
  have q4 : y.natAbs / gcdL [x, y, d] ≤ y.natAbs := Nat.div_le_self _ _
  have e3 : quoV d (gcdL [x, y, d]) = ((d.natAbs / gcdL [x, y, d] : Nat) : Int) := by unfold quoV; rw [if_pos (by omega)]
  have e1 : -1000 ≤ quoV x (gcdL [x, y, d]) ∧ quoV x (gcdL [x, y, d]) ≤ 1000 := by have := natAbs_quoV x (gcdL [x, y, d]); omega
  have e2 : -1000 ≤ quoV y (gcdL [x, y, d]) ∧ quoV y (gcdL [x, y, d]) ≤ 1000 := by have := natAbs_quoV y (gcdL [x, y, d]); omega
  unfold spOk leastB spotOkV
  rw [hr]
  unfold inB
  simp only [Bool.and_eq_true, Bool.not_eq_true', decide_eq_true_eq, decide_eq_false_iff_not, and_true]
  rw [e3]
  generalize d.natAbs / gcdL [x, y, d] = Q at *
  generalize quoV x (gcdL [x, y, d]) = X at *
  generalize quoV y (gcdL [x, y, d]) = Y at *
  omega

def PickPost (w : World) (B g : Nat) (A : Option Addr) (n c : Nat) (e : Ending) (w' : World) : Prop :=
  ∃ x : Int, 1 ≤ x ∧ x ≤ 10 ∧ e = .returned (.int .i64 x) ∧ CurAt w' B g A n c ∧ w.grownBy w' (some g)

set_option maxHeartbeats 1000000 in
set_option maxRecDepth 100000 in
theorem l01Pick_any (B g b : Nat) (A : Option Addr) (n c : Nat) (w : World) (hC : CurAt w B g A n c) (hne : b ≠ g)
    (K : w.heap[b]? = some (.cells #[.int .i64 1, .int .i64 1, .int .i64 2, .int .i64 3, .int .i64 4, .int .i64 10] 3 (0, 0))) :
    Calls Tryd.prog 70 #[.pointer (some ⟨g, 0, none⟩), .slice (some ⟨b, 0, none⟩) 6 6] w (PickPost w B g A n c) := by
  have HK := Lib.hid K; clear K
  go_enter Tryd.func70, Tryd.ntmps70
  go_wp2_with fail
  go_at_call 67; refine (l01Below_any 6 B g A n c w hC (by omega) (by omega)).mono ?_; rintro e w1 ⟨x, hx1, hx2, rfl, hC1, hg1⟩
  have K1 := blk_grown hg1 HK.out hne
  have cc0 : w1.cell? ⟨b, 0, none⟩ = some (.int .i64 1) := cell_of_row w1 _ 0 _ _ _ K1
  have cc1 : w1.cell? ⟨b, 1, none⟩ = some (.int .i64 1) := cell_of_row w1 _ 1 _ _ _ K1
  have cc2 : w1.cell? ⟨b, 2, none⟩ = some (.int .i64 2) := cell_of_row w1 _ 2 _ _ _ K1
  have cc3 : w1.cell? ⟨b, 3, none⟩ = some (.int .i64 3) := cell_of_row w1 _ 3 _ _ _ K1
  have cc4 : w1.cell? ⟨b, 4, none⟩ = some (.int .i64 4) := cell_of_row w1 _ 4 _ _ _ K1
  have cc5 : w1.cell? ⟨b, 5, none⟩ = some (.int .i64 10) := cell_of_row w1 _ 5 _ _ _ K1
  have HC1 := Lib.hid hC1; have HG1 := Lib.hid hg1
  clear K1 hC1 hg1 hC
  rcases (show x = 0 ∨ x = 1 ∨ x = 2 ∨ x = 3 ∨ x = 4 ∨ x = 5 by omega) with rfl | rfl | rfl | rfl | rfl | rfl
  all_goals
    go_wp2_with fail
    go_ret
    exact ⟨_, by omega, by omega, rfl, HC1.out, HG1.out⟩

def SpotPost (w : World) (B g : Nat) (A : Option Addr) (n c : Nat) (e : Ending) (w' : World) : Prop :=
  ∃ p q r : Int, spotOkV p q r = true ∧ r ≤ 10 ∧ e = .returned (.agg #[.int .i64 p, .int .i64 q, .int .i64 r]) ∧ CurAt w' B g A n c ∧ w.grownBy w' (some g)

theorem spD_le {x y d : Int} (h0 : 0 ≤ d) : spD x y d ≤ d := by
  unfold spD
  split
  · unfold quoV
    have := Nat.div_le_self d.natAbs (gcdL [x, y, d])
    split <;> omega
  · exact h0

theorem heap_alloc_new' (w : World) (o : Obj) {n : Nat} (h : n = w.heap.size) : (w.alloc o).heap[n]? = some o := by subst h; exact heap_alloc_new w o

set_option maxHeartbeats 1000000 in
set_option maxRecDepth 100000 in
theorem l03Draw_any (B g : Nat) (A : Option Addr) (n c : Nat) (w : World) (hC : CurAt w B g A n c) :
    Calls Tryd.prog 58 #[.pointer (some ⟨g, 0, none⟩)] w (SpotPost w B g A n c) := by
  have HC := Lib.hid hC; clear hC
  have hgl := HC.out.lt
  go_enter Tryd.func58, Tryd.ntmps58
  go_wp2_with fail
  go_at_call 70; refine (l01Pick_any B g (w.heap.size + 1) A n c _ ((HC.out.alloc _).alloc _) (by omega) (heap_alloc_new' _ _ (by simp))).mono ?_; rintro e w0 ⟨d, hd1, hd2, rfl, hC0, hg0⟩
  have HK0 := Lib.hid (blk_grown hg0 (alloc_blk (heap_alloc_new w _) _) (by omega))
  have HG0 := Lib.hid (grown_trans (grown_alloc (grown_alloc (grown_refl w _) _) _) hg0); clear hg0
  have HC0 := Lib.hid hC0; clear hC0
  go_wp2_with fail
  go_at_call 67; refine (l01Below_any 400 B g A n c _ HC0.out (by omega) (by omega)).mono ?_; rintro e w1 ⟨x, hx1, hx2, rfl, hC1, hg1⟩
  have HK1 := Lib.hid (blk_grown hg1 HK0.out (by omega))
  have HG1 := Lib.hid (grown_trans HG0.out hg1); clear hg1
  have HC1 := Lib.hid hC1; clear hC1
  go_wp2_with fail
  go_at_call 67; refine (l01Below_any 400 B g A n c _ HC1.out (by omega) (by omega)).mono ?_; rintro e w2 ⟨y, hy1, hy2, rfl, hC2, hg2⟩
  have HK2 := Lib.hid (blk_grown hg2 HK1.out (by omega))
  have HG2 := Lib.hid (grown_trans HG1.out hg2); clear hg2
  have HC2 := Lib.hid hC2; clear hC2
  clear HK0 HK1 HG0 HG1 HC0 HC1
  go_wp2_with fail
  have ho : spOk (x - 200) (y - 200) d = true := spOk_small (by omega) (by omega) (by omega)
  have HV := Lib.hid (spOk_valid ho)
  have HL := Lib.hid (spD_le (x := x - 200) (y := y - 200) (d := d) (by omega))
  go_at_call 47; refine (sSpotOf_lit ho _ (by omega) (by omega) (by omega) (by omega) (by omega) (by omega)).mono ?_; rintro e w4 ⟨rfl, hb4⟩
  have K4 := blk_below hb4 HK2.out
  have HG4 := Lib.hid (grown_trans HG2.out (below_grown hb4))
  have HC4 := Lib.hid (HC2.out.belowC hb4)
  clear hb4 HK2 HG2 HC2 ho
  have cc0 : w4.cell? ⟨w.heap.size, 0, none⟩ = some (.int .i64 0) := cell_of_row w4 _ 0 _ _ _ K4
  have cc1 : w4.cell? ⟨w.heap.size, 1, none⟩ = some (.int .i64 0) := cell_of_row w4 _ 1 _ _ _ K4
  have cc2 : w4.cell? ⟨w.heap.size, 2, none⟩ = some (.int .i64 0) := cell_of_row w4 _ 2 _ _ _ K4
  have cf0 := blk_frozen K4 0
  have cf1 := blk_frozen K4 1
  have cf2 := blk_frozen K4 2
  have hlt4 := heap_lt K4
  have HK4 := Lib.hid K4; clear K4
  go_wp2_with fail
  have K4 := HK4.out
  have HG := HG4.out
  have hl := HL.out
  refine bodyPost_ret (v := .agg #[.int .i64 (spX (x - 200) (y - 200) d), .int .i64 (spY (x - 200) (y - 200) d), .int .i64 (spD (x - 200) (y - 200) d)]) (by simp [results, Tryd.results58, go_sem, setal_0 K4, setal_1 K4, setal_2 K4]) rfl ⟨_, _, _, HV.out, by omega, rfl, HC4.out.kept (by repeat (first | exact Below.refl _ _ | assumption | refine below_drewN ?_ _ | refine Below.drew ?_ | refine Below.alloc ?_ (by first | omega | (simp <;> omega)) _ | refine Below.setCell ?_ (by first | omega | (simp <;> omega)) _)), (by repeat (first | (with_reducible exact grown_refl _ _) | (with_reducible assumption) | (with_reducible refine grown_drewN ?_ _) | (with_reducible refine grown_drew ?_) | (with_reducible refine grown_alloc ?_ _) | (with_reducible refine grown_own ?_ (by first | omega | (simp <;> omega)) _)))⟩

def SpotMade (w : World) (e : Ending) (w' : World) : Prop :=
  ∃ p q r : Int, spotOkV p q r = true ∧ r ≤ 10 ∧ e = .returned (.agg #[.int .i64 p, .int .i64 q, .int .i64 r]) ∧ Below w.heap.size w w'

set_option maxHeartbeats 1000000 in
set_option maxRecDepth 100000 in
theorem MakeSpot_any (m : Int) (A : Option Addr) (n c : Nat) (w : World) (hn : n ≤ 1048576) (hB : BytesAt w w.heap.size A n) (h1 : 0 ≤ m) (h2 : m ≤ 1000000) :
    Calls Tryd.prog 29 #[.slice A n c, .int .i64 m] w (SpotMade w) := by
  have HB := Lib.hid ((hB.below ((Below.refl _ _).alloc (Nat.le_refl _) _)).mono (by simp) : BytesAt (w.alloc (.cells #[.int .i64 0, .int .i64 0, .int .i64 0] 31)) (w.alloc (.cells #[.int .i64 0, .int .i64 0, .int .i64 0] 31)).heap.size A n)
  clear hB
  go_enter Tryd.func29, Tryd.ntmps29
  go_wp2_with fail
  go_at_call 51; refine (l26New_any m A n c _ hn HB.out h1 h2).mono ?_; rintro e w1 ⟨g, rfl, hC1, hb1⟩
  have K1 := Lib.hid (blk_below hb1 (heap_alloc_new w _))
  have HS1 := Lib.hid (S_below hb1 ((Below.refl _ _).alloc (Nat.le_refl _) _) (by simp))
  have HC1 := Lib.hid hC1; clear hC1
  have hgb := HC1.out.1
  simp only [World.size_alloc] at hgb
  clear hb1
  go_wp2_with fail
  go_at_call 58; refine (l03Draw_any _ g A n c _ HC1.out).mono ?_; rintro e w2 ⟨p, q, r, hv, hr, rfl, hC2, hg2⟩
  have K2 := blk_grown hg2 K1.out (by omega)
  have HS2 := Lib.hid (HS1.out.trans (grown_below hg2 HS1.out.size (by intro k e; injection e with e; omega)))
  have HV := Lib.hid hv
  clear hg2 hC2 HC1 HS1 K1 hv
  have cc0 : w2.cell? ⟨w.heap.size, 0, none⟩ = some (.int .i64 0) := cell_of_row w2 _ 0 _ _ _ K2
  have cc1 : w2.cell? ⟨w.heap.size, 1, none⟩ = some (.int .i64 0) := cell_of_row w2 _ 1 _ _ _ K2
  have cc2 : w2.cell? ⟨w.heap.size, 2, none⟩ = some (.int .i64 0) := cell_of_row w2 _ 2 _ _ _ K2
  have cf0 := blk_frozen K2 0
  have cf1 := blk_frozen K2 1
  have cf2 := blk_frozen K2 2
  clear K2
  go_wp2_with fail
  have HS := HS2.out
  exact bodyPost_ret (v := .agg #[.int .i64 p, .int .i64 q, .int .i64 r]) (by simp [results, Tryd.results29, go_sem, set_0 cc0, set2_1 cc1, set3_2 cc2]) rfl ⟨_, _, _, HV.out, hr, rfl, (by repeat (first | exact Below.refl _ _ | assumption | refine below_drewN ?_ _ | refine Below.drew ?_ | refine Below.alloc ?_ (by first | omega | (simp <;> omega)) _ | refine Below.setCell ?_ (by first | omega | (simp <;> omega)) _))⟩

end Go.Proofs.YtkmfejdmdiemaaaDoor
