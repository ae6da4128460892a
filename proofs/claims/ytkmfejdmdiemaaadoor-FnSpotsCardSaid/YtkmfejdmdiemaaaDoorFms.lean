/- FormatSpot, of the program and of the reference. -/
import Derived.Test.YtkmfejdmdiemaaaDoorPrrS
import Derived.Test.YtkmfejdmdiemaaaDoorSpot3
namespace Go.Proofs.YtkmfejdmdiemaaaDoor
open Go.ChangeShapes Go.WideShapes Go.ChangeAt Go.RowKit
attribute [local go_sem ↓] Go.wp_at_zero Go.wp_at_succ
set_option linter.unusedVariables false

/-- The parts of a spot as fractions. -/
theorem ratPart {x d : Int} (hd1 : 1 ≤ d) (hd2 : d ≤ 5000000000) (hx1 : -1000 * d ≤ x) (hx2 : x ≤ 1000 * d) :
    ratioOkV (ratN x d) (ratD x d) = true ∧ 1 ≤ ratD x d ∧ ratD x d ≤ 5000000000 ∧ -5000000000000 ≤ ratN x d ∧ ratN x d ≤ 5000000000000 ∧ ratN x d * (Int.gcd x d : Int) = x ∧ ratD x d * (Int.gcd x d : Int) = d := by
  have gp : 0 < Int.gcd x d := Int.gcd_pos_of_ne_zero_right _ (by omega)
  have b1 : x.natAbs / Int.gcd x d ≤ x.natAbs := Nat.div_le_self _ _
  have b2 : d.natAbs / Int.gcd x d ≤ d.natAbs := Nat.div_le_self _ _
  have hl1 : leastB x = false := by unfold leastB; simp; omega
  have hl2 : leastB d = false := by unfold leastB; simp; omega
  have hr : ratOk x d = true := by unfold ratOk; rw [hl1, hl2]; simp; omega
  have hk := (ratioOkV_red x d (by omega) hl1 hl2 (by omega) (by omega) (by omega) (by omega)).trans hr
  rw [ratN_ok hr, ratD_ok hr]
  obtain ⟨⟨k1, k2⟩, _⟩ := ratioOkV_bounds hk
  have e1 := topV_abs x d
  have e2 : belV x d = ((d.natAbs / Int.gcd x d : Nat) : Int) := rfl
  have m1 : x.natAbs / Int.gcd x d * Int.gcd x d = x.natAbs := Nat.div_mul_cancel (by simpa using Int.natAbs_dvd_natAbs.2 (Int.gcd_dvd_left x d))
  have m2 : d.natAbs / Int.gcd x d * Int.gcd x d = d.natAbs := Nat.div_mul_cancel (by simpa using Int.natAbs_dvd_natAbs.2 (Int.gcd_dvd_right x d))
  refine ⟨hk, k1, by omega, by omega, by omega, ?_, ?_⟩
  · unfold topV
    split
    · rw [← Int.natCast_mul, m1]; omega
    · rw [Int.neg_mul, ← Int.natCast_mul, m1]; omega
  · rw [e2, ← Int.natCast_mul, m2]; omega

/-- A spot, written. -/
def fmtS (x y d : Int) : ByteArray := if spotOkV x y d = true then fmtR (ratN x d) (ratD x d) ++ ⟨#[44]⟩ ++ fmtR (ratN y d) (ratD y d) else ⟨#[]⟩

theorem fmtS_no {x y d : Int} (h : spotOkV x y d = false) : fmtS x y d = ⟨#[]⟩ := by unfold fmtS; rw [if_neg (by rw [h]; simp)]

theorem fmtS_yes {x y d : Int} (h : spotOkV x y d = true) : fmtS x y d = fmtR (ratN x d) (ratD x d) ++ ⟨#[44]⟩ ++ fmtR (ratN y d) (ratD y d) := by unfold fmtS; rw [if_pos h]

theorem fmtS_size (x y d : Int) : (fmtS x y d).size ≤ 130 := by
  unfold fmtS
  split
  · have h1 := fmtR_size (ratN x d) (ratD x d)
    have h2 := fmtR_size (ratN y d) (ratD y d)
    rw [size_add, size_add]
    have : (ByteArray.mk #[44]).size = 1 := rfl
    omega
  · exact Nat.zero_le _

theorem iRatioOf_lit {n d N D : Int} (h : ratN n d = N) (h' : ratD n d = D) (w : World) (hn1 : -9223372036854775808 ≤ n) (hn2 : n ≤ 9223372036854775807) (hd1 : -9223372036854775808 ≤ d) (hd2 : d ≤ 9223372036854775807) :
    Calls Tryd.prog 28 #[.int .i64 n, .int .i64 d] w fun e w' => e = .returned (.agg #[.int .i64 N, .int .i64 D]) ∧ Below w.heap.size w w' := by
  subst h; subst h'; exact iRatioOf_any n d w hn1 hn2 hd1 hd2

theorem sRatioOf_lit {n d N D : Int} (h : ratN n d = N) (h' : ratD n d = D) (w : World) (hn1 : -9223372036854775808 ≤ n) (hn2 : n ≤ 9223372036854775807) (hd1 : -9223372036854775808 ≤ d) (hd2 : d ≤ 9223372036854775807) :
    Calls Tryd.prog 40 #[.int .i64 n, .int .i64 d] w fun e w' => e = .returned (.agg #[.int .i64 N, .int .i64 D]) ∧ Below w.heap.size w w' := by
  subst h; subst h'; exact sRatioOf_any n d w hn1 hn2 hd1 hd2

set_option maxHeartbeats 1000000 in
set_option maxRecDepth 100000 in
theorem sFormatSpot_lit {x y d : Int} {s : ByteArray} (h : fmtS x y d = s) (w : World) (hx1 : -9223372036854775808 ≤ x) (hx2 : x ≤ 9223372036854775807) (hy1 : -9223372036854775808 ≤ y) (hy2 : y ≤ 9223372036854775807) :
    Calls Tryd.prog 12 #[.agg #[.int .i64 x, .int .i64 y, .int .i64 d]] w fun e w' => e = .returned (.string s) ∧ Below w.heap.size w w' := by
  have HS := Lib.hid h; clear h
  cases ho : spotOkV x y d
  · have HV := Lib.hid (fmtS_no ho)
    have HO := Lib.hid ho; clear ho
    go_enter Tryd.func12, Tryd.ntmps12
    go_wp2_with (first | (go_at_call 39; with_reducible refine (sSpotOk_lit HO.out _ hx1 hx2 hy1 hy2).mono ?_; rintro e w1 ⟨rfl, hb1⟩; have cc0 := cell_keep (p := ⟨w.heap.size, 0, none⟩) (v := .int .i64 x) hb1 (by first | assumption | (go_keep; done) | (go_simp; done) | (simp; done)) (by first | omega | (simp <;> omega)); have cc1 := cell_keep (p := ⟨w.heap.size, 1, none⟩) (v := .int .i64 y) hb1 (by first | assumption | (go_keep; done) | (go_simp; done) | (simp; done)) (by first | omega | (simp <;> omega)); have cc2 := cell_keep (p := ⟨w.heap.size, 2, none⟩) (v := .int .i64 d) hb1 (by first | assumption | (go_keep; done) | (go_simp; done) | (simp; done)) (by first | omega | (simp <;> omega)); have hS1 : Below w.heap.size w w1 := S_below hb1 (by repeat (first | exact Below.refl _ _ | assumption | refine below_drewN ?_ _ | refine Below.drew ?_ | refine Below.alloc ?_ (by first | omega | (simp <;> omega)) _ | refine Below.setCell ?_ (by first | omega | (simp <;> omega)) _)) (by first | omega | (simp <;> omega)); have hz1 : w.heap.size + 1 ≤ w1.heap.size := S_size hb1 (by first | omega | (simp <;> omega)); have hqb0 : w.heap.size < w1.heap.size := S_lt hb1 (by first | omega | (simp <;> omega)); clear hb1))
    go_ret
    exact ⟨ret_str (HV.out.symm.trans HS.out), (by repeat (first | exact Below.refl _ _ | assumption | refine below_drewN ?_ _ | refine Below.drew ?_ | refine Below.alloc ?_ (by first | omega | (simp <;> omega)) _ | refine Below.setCell ?_ (by first | omega | (simp <;> omega)) _))⟩
  · obtain ⟨⟨d1, d2⟩, ⟨x1, x2⟩, y1, y2⟩ := spotOkV_bounds ho
    obtain ⟨_, _, _, n1, n2, _⟩ := ratPart d1 d2 x1 x2
    obtain ⟨_, _, _, m1, m2, _⟩ := ratPart d1 d2 y1 y2
    have HVV := Lib.hid ((fmtS_yes ho).symm.trans HS.out)
    have HO := Lib.hid ho; clear ho
    clear HS
    obtain ⟨N1, hN1⟩ : ∃ N1, ratN x d = N1 := ⟨_, rfl⟩
    obtain ⟨D1, hD1⟩ : ∃ D1, ratD x d = D1 := ⟨_, rfl⟩
    obtain ⟨N2, hN2⟩ : ∃ N2, ratN y d = N2 := ⟨_, rfl⟩
    obtain ⟨D2, hD2⟩ : ∃ D2, ratD y d = D2 := ⟨_, rfl⟩
    rw [hN1] at n1 n2
    rw [hN2] at m1 m2
    have HF := Lib.hid (show fmtR N1 D1 ++ ⟨#[44]⟩ ++ fmtR N2 D2 = s by rw [← hN1, ← hD1, ← hN2, ← hD2]; exact HVV.out)
    clear HVV
    have A1 := Lib.hid hN1; clear hN1
    have A2 := Lib.hid hD1; clear hD1
    have A3 := Lib.hid hN2; clear hN2
    have A4 := Lib.hid hD2; clear hD2
    have hs1 := fmtR_size N1 D1
    have hs2 := fmtR_size N2 D2
    obtain ⟨sa, ha⟩ : ∃ sa, fmtR N1 D1 = sa := ⟨_, rfl⟩
    obtain ⟨sb, hb⟩ : ∃ sb, fmtR N2 D2 = sb := ⟨_, rfl⟩
    have HVV := Lib.hid (show sa ++ ⟨#[44]⟩ ++ sb = s by rw [← ha, ← hb]; exact HF.out)
    rw [ha] at hs1; rw [hb] at hs2
    have HA := Lib.hid ha; clear ha
    have HB := Lib.hid hb; clear hb
    clear HF
    have z1 := fits2 (a := sa) (b := ⟨#[44]⟩) hs1 (by decide) (by omega)
    have z2 := fits3 (a := sa) (b := ⟨#[44]⟩) (c := sb) hs1 (by decide) hs2 (by omega)
    go_enter Tryd.func12, Tryd.ntmps12
    go_wp2_with (first | (go_at_call 39; with_reducible refine (sSpotOk_lit HO.out _ hx1 hx2 hy1 hy2).mono ?_; rintro e w1 ⟨rfl, hb1⟩; have cc0 := cell_keep (p := ⟨w.heap.size, 0, none⟩) (v := .int .i64 x) hb1 (by first | assumption | (go_keep; done) | (go_simp; done) | (simp; done)) (by first | omega | (simp <;> omega)); have cc1 := cell_keep (p := ⟨w.heap.size, 1, none⟩) (v := .int .i64 y) hb1 (by first | assumption | (go_keep; done) | (go_simp; done) | (simp; done)) (by first | omega | (simp <;> omega)); have cc2 := cell_keep (p := ⟨w.heap.size, 2, none⟩) (v := .int .i64 d) hb1 (by first | assumption | (go_keep; done) | (go_simp; done) | (simp; done)) (by first | omega | (simp <;> omega)); have hS1 : Below w.heap.size w w1 := S_below hb1 (by repeat (first | exact Below.refl _ _ | assumption | refine below_drewN ?_ _ | refine Below.drew ?_ | refine Below.alloc ?_ (by first | omega | (simp <;> omega)) _ | refine Below.setCell ?_ (by first | omega | (simp <;> omega)) _)) (by first | omega | (simp <;> omega)); have hz1 : w.heap.size + 1 ≤ w1.heap.size := S_size hb1 (by first | omega | (simp <;> omega)); have hqb0 : w.heap.size < w1.heap.size := S_lt hb1 (by first | omega | (simp <;> omega)); clear hb1))
    refine wp_region_qb (by kernel_rfl) (by kernel_rfl) (fun W_q hW_q => ?_)
    have kq0 : ∀ d_ os_, (Sort.grow (redrawn W_q d_) os_).cell? ⟨w.heap.size, 0, none⟩ = some (.int .i64 x) := fun d_ os_ => cell_regrown (by rw [hW_q.out]; first | assumption | (go_keep; done) | (go_simp; done) | (simp; done)) d_ os_
    have kq1 : ∀ d_ os_, (Sort.grow (redrawn W_q d_) os_).cell? ⟨w.heap.size, 1, none⟩ = some (.int .i64 y) := fun d_ os_ => cell_regrown (by rw [hW_q.out]; first | assumption | (go_keep; done) | (go_simp; done) | (simp; done)) d_ os_
    have kq2 : ∀ d_ os_, (Sort.grow (redrawn W_q d_) os_).cell? ⟨w.heap.size, 2, none⟩ = some (.int .i64 d) := fun d_ os_ => cell_regrown (by rw [hW_q.out]; first | assumption | (go_keep; done) | (go_simp; done) | (simp; done)) d_ os_
    repeat (go_big_quiet_step (first | (go_at_call 40; with_reducible exact Calls.regrown_of (sRatioOf_lit A1.out A2.out _ hx1 hx2 (by omega) (by omega))) | (go_at_call 40; with_reducible exact Calls.regrown_of (sRatioOf_lit A3.out A4.out _ hy1 hy2 (by omega) (by omega))) | (go_at_call 9; with_reducible exact Calls.regrown_of (sFormatRatio_lit HA.out _ (by omega) (by omega))) | (go_at_call 9; with_reducible exact Calls.regrown_of (sFormatRatio_lit HB.out _ (by omega) (by omega)))))
    refine wpQuiet_nil ?_
    intro _ hw_q
    obtain ⟨⟨dq_, osq_⟩, hw_q⟩ := hw_q
    subst hw_q
    have hb1 := below_regrown W_q dq_ osq_
    clear kq0 kq1 kq2
    generalize Sort.grow (redrawn W_q dq_) osq_ = wi at *
    have hW_q := hW_q.out
    subst hW_q
    have cc_wi0 := cell_keep (p := ⟨w.heap.size, 0, none⟩) (v := .int .i64 x) hb1 (by first | assumption | (go_keep; done) | (go_simp; done) | (simp; done)) (by first | omega | (simp <;> omega))
    have cc_wi1 := cell_keep (p := ⟨w.heap.size, 1, none⟩) (v := .int .i64 y) hb1 (by first | assumption | (go_keep; done) | (go_simp; done) | (simp; done)) (by first | omega | (simp <;> omega))
    have cc_wi2 := cell_keep (p := ⟨w.heap.size, 2, none⟩) (v := .int .i64 d) hb1 (by first | assumption | (go_keep; done) | (go_simp; done) | (simp; done)) (by first | omega | (simp <;> omega))
    have hS1_wi : Below w.heap.size w wi := S_below hb1 (by repeat (first | exact Below.refl _ _ | assumption | refine below_drewN ?_ _ | refine Below.drew ?_ | refine Below.alloc ?_ (by first | omega | (simp <;> omega)) _ | refine Below.setCell ?_ (by first | omega | (simp <;> omega)) _)) (by first | omega | (simp <;> omega))
    have hz1_wi : w.heap.size + 1 ≤ wi.heap.size := S_size hb1 (by first | omega | (simp <;> omega))
    have hqb_wi0 : w.heap.size < wi.heap.size := S_lt hb1 (by first | omega | (simp <;> omega))
    clear hb1
    go_wp2_with fail
    go_ret
    exact ⟨ret_str HVV.out, (by repeat (first | exact Below.refl _ _ | assumption | refine below_drewN ?_ _ | refine Below.drew ?_ | refine Below.alloc ?_ (by first | omega | (simp <;> omega)) _ | refine Below.setCell ?_ (by first | omega | (simp <;> omega)) _))⟩

set_option maxHeartbeats 1000000 in
set_option maxRecDepth 100000 in
theorem iFormatSpot_lit {x y d : Int} {s : ByteArray} (h : fmtS x y d = s) (w : World) (ht : Tab10 w) (hx1 : -9223372036854775808 ≤ x) (hx2 : x ≤ 9223372036854775807) (hy1 : -9223372036854775808 ≤ y) (hy2 : y ≤ 9223372036854775807) :
    Calls Tryd.prog 14 #[.agg #[.int .i64 x, .int .i64 y, .int .i64 d]] w fun e w' => e = .returned (.string s) ∧ Below w.heap.size w w' := by
  have HS := Lib.hid h; clear h
  have HT := Lib.hid ht; clear ht
  cases ho : spotOkV x y d
  · have HV := Lib.hid (fmtS_no ho)
    have HO := Lib.hid ho; clear ho
    go_enter Tryd.func14, Tryd.ntmps14
    go_wp2_with (first | (go_at_call 35; with_reducible refine (iSpotOk_lit HO.out _ hx1 hx2 hy1 hy2).mono ?_; rintro e w1 ⟨rfl, hb1⟩; have cc0 := cell_keep (p := ⟨w.heap.size, 0, none⟩) (v := .int .i64 x) hb1 (by first | assumption | (go_keep; done) | (go_simp; done) | (simp; done)) (by first | omega | (simp <;> omega)); have cc1 := cell_keep (p := ⟨w.heap.size, 1, none⟩) (v := .int .i64 y) hb1 (by first | assumption | (go_keep; done) | (go_simp; done) | (simp; done)) (by first | omega | (simp <;> omega)); have cc2 := cell_keep (p := ⟨w.heap.size, 2, none⟩) (v := .int .i64 d) hb1 (by first | assumption | (go_keep; done) | (go_simp; done) | (simp; done)) (by first | omega | (simp <;> omega)); have hS1 : Below w.heap.size w w1 := S_below hb1 (by repeat (first | exact Below.refl _ _ | assumption | refine below_drewN ?_ _ | refine Below.drew ?_ | refine Below.alloc ?_ (by first | omega | (simp <;> omega)) _ | refine Below.setCell ?_ (by first | omega | (simp <;> omega)) _)) (by first | omega | (simp <;> omega)); have hz1 : w.heap.size + 1 ≤ w1.heap.size := S_size hb1 (by first | omega | (simp <;> omega)); have hqb0 : w.heap.size < w1.heap.size := S_lt hb1 (by first | omega | (simp <;> omega)); clear hb1))
    go_ret
    exact ⟨ret_str (HV.out.symm.trans HS.out), (by repeat (first | exact Below.refl _ _ | assumption | refine below_drewN ?_ _ | refine Below.drew ?_ | refine Below.alloc ?_ (by first | omega | (simp <;> omega)) _ | refine Below.setCell ?_ (by first | omega | (simp <;> omega)) _))⟩
  · obtain ⟨⟨d1, d2⟩, ⟨x1, x2⟩, y1, y2⟩ := spotOkV_bounds ho
    obtain ⟨_, _, _, n1, n2, _⟩ := ratPart d1 d2 x1 x2
    obtain ⟨_, _, _, m1, m2, _⟩ := ratPart d1 d2 y1 y2
    have HVV := Lib.hid ((fmtS_yes ho).symm.trans HS.out)
    have HO := Lib.hid ho; clear ho
    clear HS
    obtain ⟨N1, hN1⟩ : ∃ N1, ratN x d = N1 := ⟨_, rfl⟩
    obtain ⟨D1, hD1⟩ : ∃ D1, ratD x d = D1 := ⟨_, rfl⟩
    obtain ⟨N2, hN2⟩ : ∃ N2, ratN y d = N2 := ⟨_, rfl⟩
    obtain ⟨D2, hD2⟩ : ∃ D2, ratD y d = D2 := ⟨_, rfl⟩
    rw [hN1] at n1 n2
    rw [hN2] at m1 m2
    have HF := Lib.hid (show fmtR N1 D1 ++ ⟨#[44]⟩ ++ fmtR N2 D2 = s by rw [← hN1, ← hD1, ← hN2, ← hD2]; exact HVV.out)
    clear HVV
    have A1 := Lib.hid hN1; clear hN1
    have A2 := Lib.hid hD1; clear hD1
    have A3 := Lib.hid hN2; clear hN2
    have A4 := Lib.hid hD2; clear hD2
    have hs1 := fmtR_size N1 D1
    have hs2 := fmtR_size N2 D2
    obtain ⟨sa, ha⟩ : ∃ sa, fmtR N1 D1 = sa := ⟨_, rfl⟩
    obtain ⟨sb, hb⟩ : ∃ sb, fmtR N2 D2 = sb := ⟨_, rfl⟩
    have HVV := Lib.hid (show sa ++ ⟨#[44]⟩ ++ sb = s by rw [← ha, ← hb]; exact HF.out)
    rw [ha] at hs1; rw [hb] at hs2
    have HA := Lib.hid ha; clear ha
    have HB := Lib.hid hb; clear hb
    clear HF
    have z1 := fits2 (a := sa) (b := ⟨#[44]⟩) hs1 (by decide) (by omega)
    have z2 := fits3 (a := sa) (b := ⟨#[44]⟩) (c := sb) hs1 (by decide) hs2 (by omega)
    go_enter Tryd.func14, Tryd.ntmps14
    go_wp2_with (first | (go_at_call 35; with_reducible refine (iSpotOk_lit HO.out _ hx1 hx2 hy1 hy2).mono ?_; rintro e w1 ⟨rfl, hb1⟩; have cc0 := cell_keep (p := ⟨w.heap.size, 0, none⟩) (v := .int .i64 x) hb1 (by first | assumption | (go_keep; done) | (go_simp; done) | (simp; done)) (by first | omega | (simp <;> omega)); have cc1 := cell_keep (p := ⟨w.heap.size, 1, none⟩) (v := .int .i64 y) hb1 (by first | assumption | (go_keep; done) | (go_simp; done) | (simp; done)) (by first | omega | (simp <;> omega)); have cc2 := cell_keep (p := ⟨w.heap.size, 2, none⟩) (v := .int .i64 d) hb1 (by first | assumption | (go_keep; done) | (go_simp; done) | (simp; done)) (by first | omega | (simp <;> omega)); have hS1 : Below w.heap.size w w1 := S_below hb1 (by repeat (first | exact Below.refl _ _ | assumption | refine below_drewN ?_ _ | refine Below.drew ?_ | refine Below.alloc ?_ (by first | omega | (simp <;> omega)) _ | refine Below.setCell ?_ (by first | omega | (simp <;> omega)) _)) (by first | omega | (simp <;> omega)); have hz1 : w.heap.size + 1 ≤ w1.heap.size := S_size hb1 (by first | omega | (simp <;> omega)); have hqb0 : w.heap.size < w1.heap.size := S_lt hb1 (by first | omega | (simp <;> omega)); clear hb1))
    refine wp_region_qb (by kernel_rfl) (by kernel_rfl) (fun W_q hW_q => ?_)
    have kq0 : ∀ d_ os_, (Sort.grow (redrawn W_q d_) os_).cell? ⟨w.heap.size, 0, none⟩ = some (.int .i64 x) := fun d_ os_ => cell_regrown (by rw [hW_q.out]; first | assumption | (go_keep; done) | (go_simp; done) | (simp; done)) d_ os_
    have kq1 : ∀ d_ os_, (Sort.grow (redrawn W_q d_) os_).cell? ⟨w.heap.size, 1, none⟩ = some (.int .i64 y) := fun d_ os_ => cell_regrown (by rw [hW_q.out]; first | assumption | (go_keep; done) | (go_simp; done) | (simp; done)) d_ os_
    have kq2 : ∀ d_ os_, (Sort.grow (redrawn W_q d_) os_).cell? ⟨w.heap.size, 2, none⟩ = some (.int .i64 d) := fun d_ os_ => cell_regrown (by rw [hW_q.out]; first | assumption | (go_keep; done) | (go_simp; done) | (simp; done)) d_ os_
    repeat (go_big_quiet_step (first | (go_at_call 28; with_reducible exact Calls.regrown_of (iRatioOf_lit A1.out A2.out _ hx1 hx2 (by omega) (by omega))) | (go_at_call 28; with_reducible exact Calls.regrown_of (iRatioOf_lit A3.out A4.out _ hy1 hy2 (by omega) (by omega))) | (go_at_call 11; with_reducible exact Calls.regrown_of (iFormatRatio_lit HA.out _ (tab_q (by rw [hW_q.out]; exact HT.out.step (by repeat (first | exact Below.refl _ _ | assumption | refine below_drewN ?_ _ | refine Below.drew ?_ | refine Below.alloc ?_ (by first | omega | (simp <;> omega)) _ | refine Below.setCell ?_ (by first | omega | (simp <;> omega)) _)))) (by omega) (by omega))) | (go_at_call 11; with_reducible exact Calls.regrown_of (iFormatRatio_lit HB.out _ (tab_q (by rw [hW_q.out]; exact HT.out.step (by repeat (first | exact Below.refl _ _ | assumption | refine below_drewN ?_ _ | refine Below.drew ?_ | refine Below.alloc ?_ (by first | omega | (simp <;> omega)) _ | refine Below.setCell ?_ (by first | omega | (simp <;> omega)) _)))) (by omega) (by omega)))))
    refine wpQuiet_nil ?_
    intro _ hw_q
    obtain ⟨⟨dq_, osq_⟩, hw_q⟩ := hw_q
    subst hw_q
    have hb1 := below_regrown W_q dq_ osq_
    clear kq0 kq1 kq2
    generalize Sort.grow (redrawn W_q dq_) osq_ = wi at *
    have hW_q := hW_q.out
    subst hW_q
    have cc_wi0 := cell_keep (p := ⟨w.heap.size, 0, none⟩) (v := .int .i64 x) hb1 (by first | assumption | (go_keep; done) | (go_simp; done) | (simp; done)) (by first | omega | (simp <;> omega))
    have cc_wi1 := cell_keep (p := ⟨w.heap.size, 1, none⟩) (v := .int .i64 y) hb1 (by first | assumption | (go_keep; done) | (go_simp; done) | (simp; done)) (by first | omega | (simp <;> omega))
    have cc_wi2 := cell_keep (p := ⟨w.heap.size, 2, none⟩) (v := .int .i64 d) hb1 (by first | assumption | (go_keep; done) | (go_simp; done) | (simp; done)) (by first | omega | (simp <;> omega))
    have hS1_wi : Below w.heap.size w wi := S_below hb1 (by repeat (first | exact Below.refl _ _ | assumption | refine below_drewN ?_ _ | refine Below.drew ?_ | refine Below.alloc ?_ (by first | omega | (simp <;> omega)) _ | refine Below.setCell ?_ (by first | omega | (simp <;> omega)) _)) (by first | omega | (simp <;> omega))
    have hz1_wi : w.heap.size + 1 ≤ wi.heap.size := S_size hb1 (by first | omega | (simp <;> omega))
    have hqb_wi0 : w.heap.size < wi.heap.size := S_lt hb1 (by first | omega | (simp <;> omega))
    clear hb1
    go_wp2_with fail
    go_ret
    exact ⟨ret_str HVV.out, (by repeat (first | exact Below.refl _ _ | assumption | refine below_drewN ?_ _ | refine Below.drew ?_ | refine Below.alloc ?_ (by first | omega | (simp <;> omega)) _ | refine Below.setCell ?_ (by first | omega | (simp <;> omega)) _))⟩

end Go.Proofs.YtkmfejdmdiemaaaDoor
