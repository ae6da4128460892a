/- Makers of fractions. -/
import Derived.Test.YtkmfejdmdiemaaaDoorMake2
import Derived.Test.YtkmfejdmdiemaaaDoorFms
namespace Go.Proofs.YtkmfejdmdiemaaaDoor
open Go.ChangeShapes Go.WideShapes Go.ChangeAt Go.RowKit
attribute [local go_sem ↓] Go.wp_at_zero Go.wp_at_succ
set_option linter.unusedVariables false

def RatPost (w : World) (B g : Nat) (A : Option Addr) (n c : Nat) (e : Ending) (w' : World) : Prop :=
  ∃ p q : Int, ratioOkV p q = true ∧ (-200 ≤ p ∧ p ≤ 200) ∧ (1 ≤ q ∧ q ≤ 12) ∧ e = .returned (.agg #[.int .i64 p, .int .i64 q]) ∧ CurAt w' B g A n c ∧ w.grownBy w' (some g)

theorem ratSmall {x d : Int} (hd1 : 1 ≤ d) (hd2 : d ≤ 12) (hx1 : -200 ≤ x) (hx2 : x ≤ 200) : ratioOkV (ratN x d) (ratD x d) = true ∧ (-200 ≤ ratN x d ∧ ratN x d ≤ 200) ∧ (1 ≤ ratD x d ∧ ratD x d ≤ 12) := by
  obtain ⟨a, b, _, _, _, e1, e2⟩ := ratPart hd1 (by omega) (x := x) (by omega) (by omega)
  have gp : 0 < Int.gcd x d := Int.gcd_pos_of_ne_zero_right _ (by omega)
  generalize ratN x d = N at *
  generalize ratD x d = D at *
  generalize Int.gcd x d = g at *
  have h1 : (1 : Int) ≤ g := by omega
  refine ⟨a, ⟨?_, ?_⟩, b, ?_⟩
  · by_cases h : -200 ≤ N
    · exact h
    · exfalso
      have : N * (g : Int) ≤ N * 1 := Int.mul_le_mul_of_nonpos_left (by omega) h1
      omega
  · by_cases h : N ≤ 200
    · exact h
    · exfalso
      have : N * 1 ≤ N * (g : Int) := Int.mul_le_mul_of_nonneg_left h1 (by omega)
      omega
  · by_cases h : D ≤ 12
    · exact h
    · exfalso
      have : D * 1 ≤ D * (g : Int) := Int.mul_le_mul_of_nonneg_left h1 (by omega)
      omega

set_option maxHeartbeats 1000000 in
set_option maxRecDepth 100000 in
theorem l02Draw_any (B g : Nat) (A : Option Addr) (n c : Nat) (w : World) (hC : CurAt w B g A n c) :
    Calls Tryd.prog 50 #[.pointer (some ⟨g, 0, none⟩)] w (RatPost w B g A n c) := by
  have HC := Lib.hid hC; clear hC
  have hgl := HC.out.lt
  go_enter Tryd.func50, Tryd.ntmps50
  go_wp2_with fail
  go_at_call 67; refine (l01Below_any 400 B g A n c _ (HC.out.alloc _) (by omega) (by omega)).mono ?_; rintro e w1 ⟨x, hx1, hx2, rfl, hC1, hg1⟩
  have HK1 := Lib.hid (blk_grown hg1 (heap_alloc_new w _) (by omega))
  have HG1 := Lib.hid (grown_trans (grown_alloc (grown_refl w _) _) hg1); clear hg1
  have HC1 := Lib.hid hC1; clear hC1
  go_wp2_with fail
  go_at_call 67; refine (l01Below_any 12 B g A n c _ HC1.out (by omega) (by omega)).mono ?_; rintro e w2 ⟨y, hy1, hy2, rfl, hC2, hg2⟩
  have HK2 := Lib.hid (blk_grown hg2 HK1.out (by omega))
  have HG2 := Lib.hid (grown_trans HG1.out hg2); clear hg2
  have HC2 := Lib.hid hC2; clear hC2
  clear HK1 HG1 HC1
  go_wp2_with fail
  obtain ⟨ho, hN, hD⟩ := ratSmall (x := x - 200) (d := 1 + y) (by omega) (by omega) (by omega) (by omega)
  have HV := Lib.hid ho; clear ho
  go_at_call 40; refine (sRatioOf_any _ _ _ (by omega) (by omega) (by omega) (by omega)).mono ?_; rintro e w4 ⟨rfl, hb4⟩
  generalize ratN (x - 200) (1 + y) = N at *
  generalize ratD (x - 200) (1 + y) = D at *
  have K4 := blk_below hb4 HK2.out
  have HG4 := Lib.hid (grown_trans HG2.out (below_grown hb4))
  have HC4 := Lib.hid (HC2.out.belowC hb4)
  clear hb4 HK2 HG2 HC2
  have cc0 : w4.cell? ⟨w.heap.size, 0, none⟩ = some (.int .i64 0) := cell_of_row w4 _ 0 _ _ _ K4
  have cc1 : w4.cell? ⟨w.heap.size, 1, none⟩ = some (.int .i64 0) := cell_of_row w4 _ 1 _ _ _ K4
  have cf0 := blk_frozen K4 0
  have cf1 := blk_frozen K4 1
  have hlt4 := heap_lt K4
  clear K4
  go_wp2_with fail
  have HG := HG4.out
  refine bodyPost_ret (v := .agg #[.int .i64 N, .int .i64 D]) (by simp [results, Tryd.results50, go_sem, set_0 cc0, set2_1 cc1]) rfl ⟨_, _, HV.out, hN, hD, rfl, HC4.out.kept (by repeat (first | exact Below.refl _ _ | assumption | refine below_drewN ?_ _ | refine Below.drew ?_ | refine Below.alloc ?_ (by first | omega | (simp <;> omega)) _ | refine Below.setCell ?_ (by first | omega | (simp <;> omega)) _)), (by repeat (first | (with_reducible exact grown_refl _ _) | (with_reducible assumption) | (with_reducible refine grown_drewN ?_ _) | (with_reducible refine grown_drew ?_) | (with_reducible refine grown_alloc ?_ _) | (with_reducible refine grown_own ?_ (by first | omega | (simp <;> omega)) _)))⟩

def RatMade (w : World) (e : Ending) (w' : World) : Prop :=
  ∃ p q : Int, ratioOkV p q = true ∧ (-200 ≤ p ∧ p ≤ 200) ∧ (1 ≤ q ∧ q ≤ 12) ∧ e = .returned (.agg #[.int .i64 p, .int .i64 q]) ∧ Below w.heap.size w w'

set_option maxHeartbeats 1000000 in
set_option maxRecDepth 100000 in
theorem MakeRatio_any (m : Int) (A : Option Addr) (n c : Nat) (w : World) (hn : n ≤ 1048576) (hB : BytesAt w w.heap.size A n) (h1 : 0 ≤ m) (h2 : m ≤ 1000000) :
    Calls Tryd.prog 21 #[.slice A n c, .int .i64 m] w (RatMade w) := by
  have HB := Lib.hid ((hB.below ((Below.refl _ _).alloc (Nat.le_refl _) _)).mono (by simp) : BytesAt (w.alloc (.cells #[.int .i64 0, .int .i64 0] 25)) (w.alloc (.cells #[.int .i64 0, .int .i64 0] 25)).heap.size A n)
  clear hB
  go_enter Tryd.func21, Tryd.ntmps21
  go_wp2_with fail
  go_at_call 51; refine (l26New_any m A n c _ hn HB.out h1 h2).mono ?_; rintro e w1 ⟨g, rfl, hC1, hb1⟩
  have K1 := Lib.hid (blk_below hb1 (heap_alloc_new w _))
  have HS1 := Lib.hid (S_below hb1 ((Below.refl _ _).alloc (Nat.le_refl _) _) (by simp))
  have HC1 := Lib.hid hC1; clear hC1
  have hgb := HC1.out.1
  simp only [World.size_alloc] at hgb
  clear hb1
  go_wp2_with fail
  go_at_call 50; refine (l02Draw_any _ g A n c _ HC1.out).mono ?_; rintro e w2 ⟨p, q, hv, hp, hq, rfl, hC2, hg2⟩
  have K2 := blk_grown hg2 K1.out (by omega)
  have HS2 := Lib.hid (HS1.out.trans (grown_below hg2 HS1.out.size (by intro k e; injection e with e; omega)))
  have HV := Lib.hid hv
  clear hg2 hC2 HC1 HS1 K1 hv
  have cc0 : w2.cell? ⟨w.heap.size, 0, none⟩ = some (.int .i64 0) := cell_of_row w2 _ 0 _ _ _ K2
  have cc1 : w2.cell? ⟨w.heap.size, 1, none⟩ = some (.int .i64 0) := cell_of_row w2 _ 1 _ _ _ K2
  have cf0 := blk_frozen K2 0
  have cf1 := blk_frozen K2 1
  clear K2
  go_wp2_with fail
  have HS := HS2.out
  exact bodyPost_ret (v := .agg #[.int .i64 p, .int .i64 q]) (by simp [results, Tryd.results21, go_sem, set_0 cc0, set2_1 cc1]) rfl ⟨_, _, HV.out, hp, hq, rfl, (by repeat (first | exact Below.refl _ _ | assumption | refine below_drewN ?_ _ | refine Below.drew ?_ | refine Below.alloc ?_ (by first | omega | (simp <;> omega)) _ | refine Below.setCell ?_ (by first | omega | (simp <;> omega)) _))⟩

end Go.Proofs.YtkmfejdmdiemaaaDoor
