/- The makers of half planes and spots: each returns a valid one, for all byte slices. -/
import Derived.Test.YthdaoadleeelnaaCur
import Derived.Test.YthdaoadleeelnaaHalf3
import Derived.Test.YthdaoadleeelnaaSpot3
namespace Go.Proofs.Ythdaoadleeelnaa
open Go.ChangeShapes Go.WideShapes Go.ChangeAt Go.RowKit
attribute [local go_sem ↓] Go.wp_at_zero Go.wp_at_succ
set_option linter.unusedVariables false

theorem hoOk_valid {a b c : Int} (h : hoOk a b c = true) : halfOkV (hoN a b c a) (hoN a b c b) (hoN a b c c) = true := by
  rw [hoN_yes h, hoN_yes h, hoN_yes h]
  unfold hoOk at h
  simp only [Bool.and_eq_true] at h
  exact h.2.2.2

theorem spOk_valid {x y d : Int} (h : spOk x y d = true) : spotOkV (spX x y d) (spY x y d) (spD x y d) = true := by
  unfold spX spY spD
  rw [if_pos h, if_pos h, if_pos h]
  unfold spOk at h
  simp only [Bool.and_eq_true] at h
  exact h.2

theorem blk_grown {w w1 : World} {g : Nat} (h : w.grownBy w1 (some g)) {b : Nat} {o : Obj} (hb : w.heap[b]? = some o) (hne : b ≠ g) : w1.heap[b]? = some o :=
  (h.block b (heap_lt hb) (by intro e; injection e with e; exact hne e)).trans hb

theorem blk_below {w w1 : World} (h : Below w.heap.size w w1) {b : Nat} {o : Obj} (hb : w.heap[b]? = some o) : w1.heap[b]? = some o := (h.block b (heap_lt hb)).trans hb

theorem blk_frozen {w : World} {b : Nat} {cs : Array Value} {t : TypeId} (h : w.heap[b]? = some (.cells cs t (0, 0))) (k : Nat) : w.frozen? ⟨b, k, none⟩ = false := by simp [World.frozen?, h]

theorem CurAt.alloc {w : World} {B g : Nat} {A : Option Addr} {n c : Nat} (h : CurAt w B g A n c) (o : Obj) : CurAt (w.alloc o) B g A n c := h.kept ((Below.refl _ _).alloc h.lt _)

theorem CurAt.belowC {w w1 : World} {B g : Nat} {A : Option Addr} {n c : Nat} (h : CurAt w B g A n c) (hb : Below w.heap.size w w1) : CurAt w1 B g A n c := h.kept (hb.mono h.lt)

theorem three_set {w : World} {b : Nat} {x y z : Value} {t : TypeId} (K : w.heap[b]? = some (.cells #[x, y, z] t (0, 0))) (u0 u1 u2 : Value) :
    (((w.setCell ⟨b, 0, none⟩ u0).setCell ⟨b, 1, none⟩ u1).setCell ⟨b, 2, none⟩ u2).heap[b]? = some (.cells #[u0, u1, u2] t (0, 0)) := blk_set (blk_set (blk_set K 0 u0) 1 u1) 2 u2

theorem alloc_blk {w : World} {b : Nat} {o' : Obj} (h : w.heap[b]? = some o') (o : Obj) : (w.alloc o).heap[b]? = some o' := (Below.heap_alloc w o b (heap_lt h)).trans h

theorem setal_0 {w : World} {b : Nat} {x y z : Value} {t : TypeId} (K : w.heap[b]? = some (.cells #[x, y, z] t (0, 0))) (u0 u1 u2 : Value) (o : Obj) :
    ((((w.setCell ⟨b, 0, none⟩ u0).setCell ⟨b, 1, none⟩ u1).setCell ⟨b, 2, none⟩ u2).alloc o).cell? ⟨b, 0, none⟩ = some u0 := cell_of_row _ _ 0 _ _ _ (alloc_blk (three_set K u0 u1 u2) o)

theorem setal_1 {w : World} {b : Nat} {x y z : Value} {t : TypeId} (K : w.heap[b]? = some (.cells #[x, y, z] t (0, 0))) (u0 u1 u2 : Value) (o : Obj) :
    ((((w.setCell ⟨b, 0, none⟩ u0).setCell ⟨b, 1, none⟩ u1).setCell ⟨b, 2, none⟩ u2).alloc o).cell? ⟨b, 1, none⟩ = some u1 := cell_of_row _ _ 1 _ _ _ (alloc_blk (three_set K u0 u1 u2) o)

theorem setal_2 {w : World} {b : Nat} {x y z : Value} {t : TypeId} (K : w.heap[b]? = some (.cells #[x, y, z] t (0, 0))) (u0 u1 u2 : Value) (o : Obj) :
    ((((w.setCell ⟨b, 0, none⟩ u0).setCell ⟨b, 1, none⟩ u1).setCell ⟨b, 2, none⟩ u2).alloc o).cell? ⟨b, 2, none⟩ = some u2 := cell_of_row _ _ 2 _ _ _ (alloc_blk (three_set K u0 u1 u2) o)

theorem natAbs_quoV (n : Int) (g : Nat) : (quoV n g).natAbs = n.natAbs / g := by unfold quoV; generalize n.natAbs / g = q; split <;> omega

theorem quoV_le (n : Int) (g : Nat) : (quoV n g).natAbs ≤ n.natAbs := by rw [natAbs_quoV]; exact Nat.div_le_self _ _

theorem hoN_le (a b c t : Int) : (hoN a b c t).natAbs ≤ t.natAbs := by
  unfold hoN; split
  · exact quoV_le _ _
  · exact Nat.zero_le _

def HalfPost (w : World) (B g : Nat) (A : Option Addr) (n c : Nat) (e : Ending) (w' : World) : Prop :=
  ∃ p q r : Int, halfOkV p q r = true ∧ (-1000 ≤ r ∧ r ≤ 1000) ∧ e = .returned (.agg #[.int .i64 p, .int .i64 q, .int .i64 r]) ∧ CurAt w' B g A n c ∧ w.grownBy w' (some g)

set_option maxHeartbeats 1000000 in
set_option maxRecDepth 100000 in
theorem l04Draw_any (B g : Nat) (A : Option Addr) (n c : Nat) (w : World) (hC : CurAt w B g A n c) :
    Calls Try.prog 61 #[.pointer (some ⟨g, 0, none⟩)] w (HalfPost w B g A n c) := by
  have HC := Lib.hid hC; clear hC
  have hgl := HC.out.lt
  go_enter Try.func61, Try.ntmps61
  go_wp2_with fail
  go_at_call 60; refine (l01Below_any 13 B g A n c _ (HC.out.alloc _) (by omega) (by omega)).mono ?_; rintro e w1 ⟨x, hx1, hx2, rfl, hC1, hg1⟩
  have HK1 := Lib.hid (blk_grown hg1 (heap_alloc_new w _) (by omega))
  have HG1 := Lib.hid (grown_trans (grown_alloc (grown_refl w _) _) hg1); clear hg1
  have HC1 := Lib.hid hC1; clear hC1
  go_wp2_with fail
  go_at_call 60; refine (l01Below_any 13 B g A n c _ HC1.out (by omega) (by omega)).mono ?_; rintro e w2 ⟨y, hy1, hy2, rfl, hC2, hg2⟩
  have HK2 := Lib.hid (blk_grown hg2 HK1.out (by omega))
  have HG2 := Lib.hid (grown_trans HG1.out hg2); clear hg2
  have HC2 := Lib.hid hC2; clear hC2
  go_wp2_with fail
  go_at_call 60; refine (l01Below_any 400 B g A n c _ HC2.out (by omega) (by omega)).mono ?_; rintro e w3 ⟨z, hz1, hz2, rfl, hC3, hg3⟩
  have HK3 := Lib.hid (blk_grown hg3 HK2.out (by omega))
  have HG3 := Lib.hid (grown_trans HG2.out hg3); clear hg3
  have HC3 := Lib.hid hC3; clear hC3
  clear HK1 HK2 HG1 HG2 HC1 HC2
  go_wp2_with fail
  cases ho : hoOk (x - 6) (y - 6) (z - 100)
  · go_at_call 77; refine (sHalfOf_lit ho _ (by omega) (by omega) (by omega) (by omega) (by omega) (by omega)).mono ?_; rintro e w4 ⟨rfl, hb4⟩
    have K4 := blk_below hb4 HK3.out
    have HG4 := Lib.hid (grown_trans HG3.out (below_grown hb4))
    have HC4 := Lib.hid (HC3.out.belowC hb4)
    clear hb4 HK3 HG3 HC3 ho
    have cc0 : w4.cell? ⟨w.heap.size, 0, none⟩ = some (.int .i64 0) := cell_of_row w4 _ 0 _ _ _ K4
    have cc1 : w4.cell? ⟨w.heap.size, 1, none⟩ = some (.int .i64 0) := cell_of_row w4 _ 1 _ _ _ K4
    have cc2 : w4.cell? ⟨w.heap.size, 2, none⟩ = some (.int .i64 0) := cell_of_row w4 _ 2 _ _ _ K4
    have cf0 := blk_frozen K4 0
    have cf1 := blk_frozen K4 1
    have cf2 := blk_frozen K4 2
    have hlt4 := heap_lt K4
    have HK4 := Lib.hid K4; clear K4
    go_wp2_with fail
    have K4 := HK4.out
    have HG := HG4.out
    exact bodyPost_ret (v := .agg #[.int .i64 1, .int .i64 0, .int .i64 5]) (by simp [results, Try.results61, go_sem, setal_0 K4, setal_1 K4, setal_2 K4]) rfl ⟨1, 0, 5, rfl, by omega, rfl, HC4.out.kept (by repeat (first | exact Below.refl _ _ | assumption | refine below_drewN ?_ _ | refine Below.drew ?_ | refine Below.alloc ?_ (by first | omega | (simp <;> omega)) _ | refine Below.setCell ?_ (by first | omega | (simp <;> omega)) _)), (by repeat (first | (with_reducible exact grown_refl _ _) | (with_reducible assumption) | (with_reducible refine grown_drewN ?_ _) | (with_reducible refine grown_drew ?_) | (with_reducible refine grown_alloc ?_ _) | (with_reducible refine grown_own ?_ (by first | omega | (simp <;> omega)) _)))⟩
  · have HV := Lib.hid (hoOk_valid ho)
    go_at_call 77; refine (sHalfOf_lit ho _ (by omega) (by omega) (by omega) (by omega) (by omega) (by omega)).mono ?_; rintro e w4 ⟨rfl, hb4⟩
    have K4 := blk_below hb4 HK3.out
    have HG4 := Lib.hid (grown_trans HG3.out (below_grown hb4))
    have HC4 := Lib.hid (HC3.out.belowC hb4)
    clear hb4 HK3 HG3 HC3 ho
    have cc0 : w4.cell? ⟨w.heap.size, 0, none⟩ = some (.int .i64 0) := cell_of_row w4 _ 0 _ _ _ K4
    have cc1 : w4.cell? ⟨w.heap.size, 1, none⟩ = some (.int .i64 0) := cell_of_row w4 _ 1 _ _ _ K4
    have cc2 : w4.cell? ⟨w.heap.size, 2, none⟩ = some (.int .i64 0) := cell_of_row w4 _ 2 _ _ _ K4
    have cf0 := blk_frozen K4 0
    have cf1 := blk_frozen K4 1
    have cf2 := blk_frozen K4 2
    have hlt4 := heap_lt K4
    have HK4 := Lib.hid K4; clear K4
    go_wp2_with fail
    have K4 := HK4.out
    have HG := HG4.out
    refine bodyPost_ret (v := .agg #[.int .i64 (hoN (x - 6) (y - 6) (z - 100) (x - 6)), .int .i64 (hoN (x - 6) (y - 6) (z - 100) (y - 6)), .int .i64 (hoN (x - 6) (y - 6) (z - 100) (z - 100))]) (by simp [results, Try.results61, go_sem, setal_0 K4, setal_1 K4, setal_2 K4]) rfl ⟨_, _, _, HV.out, by have := hoN_le (x - 6) (y - 6) (z - 100) (z - 100); omega, rfl, HC4.out.kept (by repeat (first | exact Below.refl _ _ | assumption | refine below_drewN ?_ _ | refine Below.drew ?_ | refine Below.alloc ?_ (by first | omega | (simp <;> omega)) _ | refine Below.setCell ?_ (by first | omega | (simp <;> omega)) _)), (by repeat (first | (with_reducible exact grown_refl _ _) | (with_reducible assumption) | (with_reducible refine grown_drewN ?_ _) | (with_reducible refine grown_drew ?_) | (with_reducible refine grown_alloc ?_ _) | (with_reducible refine grown_own ?_ (by first | omega | (simp <;> omega)) _)))⟩

def HalfMade (w : World) (e : Ending) (w' : World) : Prop :=
  ∃ p q r : Int, halfOkV p q r = true ∧ (-1000 ≤ r ∧ r ≤ 1000) ∧ e = .returned (.agg #[.int .i64 p, .int .i64 q, .int .i64 r]) ∧ Below w.heap.size w w'

def WholeMade (w : World) (e : Ending) (w' : World) : Prop :=
  ∃ p q : Int, -40 ≤ p ∧ p ≤ 39 ∧ -40 ≤ q ∧ q ≤ 39 ∧ e = .returned (.agg #[.int .i64 p, .int .i64 q, .int .i64 1]) ∧ Below w.heap.size w w'

set_option maxHeartbeats 1000000 in
set_option maxRecDepth 100000 in
theorem MakeWhole_any (m : Int) (A : Option Addr) (n c : Nat) (w : World) (hn : n ≤ 1048576) (hB : BytesAt w w.heap.size A n) (h1 : 0 ≤ m) (h2 : m ≤ 1000000) :
    Calls Try.prog 40 #[.slice A n c, .int .i64 m] w (WholeMade w) := by
  have HB := Lib.hid ((hB.below ((Below.refl _ _).alloc (Nat.le_refl _) _)).mono (by simp) : BytesAt (w.alloc (.cells #[.int .i64 0, .int .i64 0, .int .i64 0] 49)) (w.alloc (.cells #[.int .i64 0, .int .i64 0, .int .i64 0] 49)).heap.size A n)
  clear hB
  go_enter Try.func40, Try.ntmps40
  go_wp2_with fail
  go_at_call 62; refine (l26New_any m A n c _ hn HB.out h1 h2).mono ?_; rintro e w1 ⟨g, rfl, hC1, hb1⟩
  have K1 := Lib.hid (blk_below hb1 (heap_alloc_new w _))
  have HS1 := Lib.hid (S_below hb1 ((Below.refl _ _).alloc (Nat.le_refl _) _) (by simp))
  have HC1 := Lib.hid hC1; clear hC1
  have hgb := HC1.out.1
  simp only [World.size_alloc] at hgb
  clear hb1
  go_wp2_with fail
  go_at_call 60; refine (l01Below_any 80 _ g A n c _ HC1.out (by omega) (by omega)).mono ?_; rintro e w2 ⟨x, hx1, hx2, rfl, hC2, hg2⟩
  have K2 := Lib.hid (blk_grown hg2 K1.out (by omega))
  have HS2 := Lib.hid (HS1.out.trans (grown_below hg2 HS1.out.size (by intro k e; injection e with e; omega)))
  have HC2 := Lib.hid hC2
  clear hg2 hC2 HC1 HS1 K1
  go_wp2_with fail
  go_at_call 60; refine (l01Below_any 80 _ g A n c _ HC2.out (by omega) (by omega)).mono ?_; rintro e w3 ⟨y, hy1, hy2, rfl, hC3, hg3⟩
  have K3 := blk_grown hg3 K2.out (by omega)
  have HS3 := Lib.hid (HS2.out.trans (grown_below hg3 HS2.out.size (by intro k e; injection e with e; omega)))
  clear hg3 hC3 HC2 HS2 K2
  have cc0 : w3.cell? ⟨w.heap.size, 0, none⟩ = some (.int .i64 0) := cell_of_row w3 _ 0 _ _ _ K3
  have cc1 : w3.cell? ⟨w.heap.size, 1, none⟩ = some (.int .i64 0) := cell_of_row w3 _ 1 _ _ _ K3
  have cc2 : w3.cell? ⟨w.heap.size, 2, none⟩ = some (.int .i64 0) := cell_of_row w3 _ 2 _ _ _ K3
  have cf0 := blk_frozen K3 0
  have cf1 := blk_frozen K3 1
  have cf2 := blk_frozen K3 2
  clear K3
  go_wp2_with fail
  have HS := HS3.out
  exact bodyPost_ret (v := .agg #[.int .i64 (x - 40), .int .i64 (y - 40), .int .i64 1]) (by simp [results, Try.results40, go_sem, set_0 cc0, set2_1 cc1, set3_2 cc2]) rfl ⟨_, _, by omega, by omega, by omega, by omega, rfl, (by repeat (first | exact Below.refl _ _ | assumption | refine below_drewN ?_ _ | refine Below.drew ?_ | refine Below.alloc ?_ (by first | omega | (simp <;> omega)) _ | refine Below.setCell ?_ (by first | omega | (simp <;> omega)) _))⟩

end Go.Proofs.Ythdaoadleeelnaa
