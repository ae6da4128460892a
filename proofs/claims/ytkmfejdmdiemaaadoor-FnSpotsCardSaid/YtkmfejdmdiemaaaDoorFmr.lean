/- FormatRatio, of the program and of the reference. -/
import Derived.Test.YtkmfejdmdiemaaaDoorFmt
import Derived.Test.YtkmfejdmdiemaaaDoorRatio3
import Derived.Test.YtkmfejdmdiemaaaDoorQb
namespace Go.Proofs.YtkmfejdmdiemaaaDoor
open Go.ChangeShapes Go.WideShapes Go.ChangeAt Go.RowKit
attribute [local go_sem ↓] Go.wp_at_zero Go.wp_at_succ
set_option linter.unusedVariables false

/-- A fraction, written. -/
def fmtR (n d : Int) : ByteArray := if ratioOkV n d = true then (if d = 1 then fmtV n else fmtV n ++ ⟨#[47]⟩ ++ fmtV d) else ⟨#[]⟩

theorem size_add (a b : ByteArray) : (a ++ b).size = a.size + b.size := ByteArray.size_append

theorem fmtR_size (n d : Int) : (fmtR n d).size ≤ 60 := by
  unfold fmtR
  by_cases h : ratioOkV n d = true
  · obtain ⟨⟨d1, d2⟩, n1, n2⟩ := ratioOkV_bounds h
    have h1 := fmtV_size (n := n) (by omega) (by omega)
    have h2 := fmtV_size (n := d) (by omega) (by omega)
    rw [if_pos h]
    by_cases hd : d = 1
    · rw [if_pos hd]; omega
    · rw [if_neg hd, size_add, size_add]
      have : (ByteArray.mk #[47]).size = 1 := rfl
      omega
  · rw [if_neg h]; exact Nat.zero_le _

theorem fmtR_no {n d : Int} (h : ratioOkV n d = false) : fmtR n d = ⟨#[]⟩ := by unfold fmtR; rw [if_neg (by rw [h]; simp)]

theorem fmtR_one {n : Int} (h : ratioOkV n 1 = true) : fmtR n 1 = fmtV n := by unfold fmtR; rw [if_pos h, if_pos rfl]

theorem fmtR_two {n d : Int} (h : ratioOkV n d = true) (hd : d ≠ 1) : fmtR n d = fmtV n ++ ⟨#[47]⟩ ++ fmtV d := by unfold fmtR; rw [if_pos h, if_neg hd]

theorem fits2 {a b : ByteArray} {m : Nat} (h : a.size ≤ m) (h' : b.size ≤ m) (hm : m ≤ 1000000000) : ¬ 9223372036854775807 < a.size + b.size := by omega

theorem fits3 {a b c : ByteArray} {m : Nat} (h : a.size ≤ m) (h' : b.size ≤ m) (h2 : c.size ≤ m) (hm : m ≤ 1000000000) : ¬ 9223372036854775807 < (a ++ b).size + c.size := by rw [size_add]; omega

set_option maxHeartbeats 1000000 in
set_option maxRecDepth 100000 in
theorem sFormatRatio_lit {n d : Int} {s : ByteArray} (h : fmtR n d = s) (w : World) (hn1 : -9223372036854775808 ≤ n) (hn2 : n ≤ 9223372036854775807) :
    Calls Tryd.prog 9 #[.agg #[.int .i64 n, .int .i64 d]] w fun e w' => e = .returned (.string s) ∧ Below w.heap.size w w' := by
  have HS := Lib.hid h; clear h
  cases ho : ratioOkV n d
  · have HV := Lib.hid (fmtR_no ho)
    have HO := Lib.hid ho; clear ho
    go_enter Tryd.func9, Tryd.ntmps9
    go_wp2_with (first | (go_at_call 36; with_reducible refine (sRatioOk_lit HO.out _ hn1 hn2).mono ?_; rintro e w1 ⟨rfl, hb1⟩; have cc0 := cell_keep (p := ⟨w.heap.size, 0, none⟩) (v := .int .i64 n) hb1 (by first | assumption | (go_keep; done) | (go_simp; done) | (simp; done)) (by first | omega | (simp <;> omega)); have cc1 := cell_keep (p := ⟨w.heap.size, 1, none⟩) (v := .int .i64 d) hb1 (by first | assumption | (go_keep; done) | (go_simp; done) | (simp; done)) (by first | omega | (simp <;> omega)); have hS1 : Below w.heap.size w w1 := S_below hb1 (by repeat (first | exact Below.refl _ _ | assumption | refine below_drewN ?_ _ | refine Below.drew ?_ | refine Below.alloc ?_ (by first | omega | (simp <;> omega)) _ | refine Below.setCell ?_ (by first | omega | (simp <;> omega)) _)) (by first | omega | (simp <;> omega)); have hz1 : w.heap.size + 1 ≤ w1.heap.size := S_size hb1 (by first | omega | (simp <;> omega)); have hqb0 : w.heap.size < w1.heap.size := S_lt hb1 (by first | omega | (simp <;> omega)); clear hb1))
    go_ret
    exact ⟨ret_str (HV.out.symm.trans HS.out), (by repeat (first | exact Below.refl _ _ | assumption | refine below_drewN ?_ _ | refine Below.drew ?_ | refine Below.alloc ?_ (by first | omega | (simp <;> omega)) _ | refine Below.setCell ?_ (by first | omega | (simp <;> omega)) _))⟩
  · obtain ⟨⟨d1, d2⟩, n1, n2⟩ := ratioOkV_bounds ho
    by_cases hd : d = 1
    · subst hd
      have HV := Lib.hid (fmtR_one ho)
      have HO := Lib.hid ho; clear ho
      go_enter Tryd.func9, Tryd.ntmps9
      go_wp2_with (first | (go_at_call 36; with_reducible refine (sRatioOk_lit HO.out _ hn1 hn2).mono ?_; rintro e w1 ⟨rfl, hb1⟩; have cc0 := cell_keep (p := ⟨w.heap.size, 0, none⟩) (v := .int .i64 n) hb1 (by first | assumption | (go_keep; done) | (go_simp; done) | (simp; done)) (by first | omega | (simp <;> omega)); have cc1 := cell_keep (p := ⟨w.heap.size, 1, none⟩) (v := .int .i64 1) hb1 (by first | assumption | (go_keep; done) | (go_simp; done) | (simp; done)) (by first | omega | (simp <;> omega)); have hS1 : Below w.heap.size w w1 := S_below hb1 (by repeat (first | exact Below.refl _ _ | assumption | refine below_drewN ?_ _ | refine Below.drew ?_ | refine Below.alloc ?_ (by first | omega | (simp <;> omega)) _ | refine Below.setCell ?_ (by first | omega | (simp <;> omega)) _)) (by first | omega | (simp <;> omega)); have hz1 : w.heap.size + 1 ≤ w1.heap.size := S_size hb1 (by first | omega | (simp <;> omega)); have hqb0 : w.heap.size < w1.heap.size := S_lt hb1 (by first | omega | (simp <;> omega)); clear hb1) | (go_at_call 37; with_reducible refine (sFormatInt_lit (HV.out.symm.trans HS.out) _ hn1 hn2).mono ?_; rintro e w1 ⟨rfl, hb1⟩; have cc0 := cell_keep (p := ⟨w.heap.size, 0, none⟩) (v := .int .i64 n) hb1 (by first | assumption | (go_keep; done) | (go_simp; done) | (simp; done)) (by first | omega | (simp <;> omega)); have cc1 := cell_keep (p := ⟨w.heap.size, 1, none⟩) (v := .int .i64 1) hb1 (by first | assumption | (go_keep; done) | (go_simp; done) | (simp; done)) (by first | omega | (simp <;> omega)); have hS1 : Below w.heap.size w w1 := S_below hb1 (by repeat (first | exact Below.refl _ _ | assumption | refine below_drewN ?_ _ | refine Below.drew ?_ | refine Below.alloc ?_ (by first | omega | (simp <;> omega)) _ | refine Below.setCell ?_ (by first | omega | (simp <;> omega)) _)) (by first | omega | (simp <;> omega)); have hz1 : w.heap.size + 1 ≤ w1.heap.size := S_size hb1 (by first | omega | (simp <;> omega)); have hqb0 : w.heap.size < w1.heap.size := S_lt hb1 (by first | omega | (simp <;> omega)); clear hb1))
      go_ret
      exact ⟨rfl, (by repeat (first | exact Below.refl _ _ | assumption | refine below_drewN ?_ _ | refine Below.drew ?_ | refine Below.alloc ?_ (by first | omega | (simp <;> omega)) _ | refine Below.setCell ?_ (by first | omega | (simp <;> omega)) _))⟩
    · have hs1 := fmtV_size (n := n) (by omega) (by omega)
      have hs2 := fmtV_size (n := d) (by omega) (by omega)
      have HV := Lib.hid (fmtR_two ho hd)
      have HO := Lib.hid ho; clear ho
      obtain ⟨sa, ha⟩ : ∃ sa, fmtV n = sa := ⟨_, rfl⟩
      obtain ⟨sb, hb⟩ : ∃ sb, fmtV d = sb := ⟨_, rfl⟩
      have HVV := Lib.hid (show sa ++ ⟨#[47]⟩ ++ sb = s by rw [← ha, ← hb]; exact HV.out.symm.trans HS.out)
      rw [ha] at hs1; rw [hb] at hs2
      have HA := Lib.hid ha; clear ha
      have HB := Lib.hid hb; clear hb
      clear HV HS
      have z1 := fits2 (a := sa) (b := ⟨#[47]⟩) hs1 (by decide) (by omega)
      have z2 := fits3 (a := sa) (b := ⟨#[47]⟩) (c := sb) hs1 (by decide) hs2 (by omega)
      go_enter Tryd.func9, Tryd.ntmps9
      go_wp2_with (first | (go_at_call 36; with_reducible refine (sRatioOk_lit HO.out _ hn1 hn2).mono ?_; rintro e w1 ⟨rfl, hb1⟩; have cc0 := cell_keep (p := ⟨w.heap.size, 0, none⟩) (v := .int .i64 n) hb1 (by first | assumption | (go_keep; done) | (go_simp; done) | (simp; done)) (by first | omega | (simp <;> omega)); have cc1 := cell_keep (p := ⟨w.heap.size, 1, none⟩) (v := .int .i64 d) hb1 (by first | assumption | (go_keep; done) | (go_simp; done) | (simp; done)) (by first | omega | (simp <;> omega)); have hS1 : Below w.heap.size w w1 := S_below hb1 (by repeat (first | exact Below.refl _ _ | assumption | refine below_drewN ?_ _ | refine Below.drew ?_ | refine Below.alloc ?_ (by first | omega | (simp <;> omega)) _ | refine Below.setCell ?_ (by first | omega | (simp <;> omega)) _)) (by first | omega | (simp <;> omega)); have hz1 : w.heap.size + 1 ≤ w1.heap.size := S_size hb1 (by first | omega | (simp <;> omega)); have hqb0 : w.heap.size < w1.heap.size := S_lt hb1 (by first | omega | (simp <;> omega)); clear hb1))
      refine wp_region_qb (by kernel_rfl) (by kernel_rfl) (fun W_q hW_q => ?_)
      have kq0 : ∀ d_ os_, (Sort.grow (redrawn W_q d_) os_).cell? ⟨w.heap.size, 0, none⟩ = some (.int .i64 n) := fun d_ os_ => cell_regrown (by rw [hW_q.out]; first | assumption | (go_keep; done) | (go_simp; done) | (simp; done)) d_ os_
      have kq1 : ∀ d_ os_, (Sort.grow (redrawn W_q d_) os_).cell? ⟨w.heap.size, 1, none⟩ = some (.int .i64 d) := fun d_ os_ => cell_regrown (by rw [hW_q.out]; first | assumption | (go_keep; done) | (go_simp; done) | (simp; done)) d_ os_
      repeat (go_big_quiet_step (first | (go_at_call 37; with_reducible exact Calls.regrown_of (sFormatInt_lit HA.out _ hn1 hn2)) | (go_at_call 37; with_reducible exact Calls.regrown_of (sFormatInt_lit HB.out _ (by omega) (by omega)))))
      refine wpQuiet_nil ?_
      intro _ hw_q
      obtain ⟨⟨dq_, osq_⟩, hw_q⟩ := hw_q
      subst hw_q
      have hb1 := below_regrown W_q dq_ osq_
      clear kq0 kq1
      generalize Sort.grow (redrawn W_q dq_) osq_ = wi at *
      have hW_q := hW_q.out
      subst hW_q
      have cc_wi0 := cell_keep (p := ⟨w.heap.size, 0, none⟩) (v := .int .i64 n) hb1 (by first | assumption | (go_keep; done) | (go_simp; done) | (simp; done)) (by first | omega | (simp <;> omega))
      have cc_wi1 := cell_keep (p := ⟨w.heap.size, 1, none⟩) (v := .int .i64 d) hb1 (by first | assumption | (go_keep; done) | (go_simp; done) | (simp; done)) (by first | omega | (simp <;> omega))
      have hS1_wi : Below w.heap.size w wi := S_below hb1 (by repeat (first | exact Below.refl _ _ | assumption | refine below_drewN ?_ _ | refine Below.drew ?_ | refine Below.alloc ?_ (by first | omega | (simp <;> omega)) _ | refine Below.setCell ?_ (by first | omega | (simp <;> omega)) _)) (by first | omega | (simp <;> omega))
      have hz1_wi : w.heap.size + 1 ≤ wi.heap.size := S_size hb1 (by first | omega | (simp <;> omega))
      have hqb_wi0 : w.heap.size < wi.heap.size := S_lt hb1 (by first | omega | (simp <;> omega))
      clear hb1
      go_wp2_with fail
      go_ret
      exact ⟨ret_str HVV.out, (by repeat (first | exact Below.refl _ _ | assumption | refine below_drewN ?_ _ | refine Below.drew ?_ | refine Below.alloc ?_ (by first | omega | (simp <;> omega)) _ | refine Below.setCell ?_ (by first | omega | (simp <;> omega)) _))⟩

theorem tab_q {w : World} (h : Tab10 w) {d : Nat} {os : Array Obj} : Tab10 (Sort.grow (redrawn w d) os) := h.step (below_regrown w d os)

set_option maxHeartbeats 1000000 in
set_option maxRecDepth 100000 in
theorem iFormatRatio_lit {n d : Int} {s : ByteArray} (h : fmtR n d = s) (w : World) (ht : Tab10 w) (hn1 : -9223372036854775808 ≤ n) (hn2 : n ≤ 9223372036854775807) :
    Calls Tryd.prog 11 #[.agg #[.int .i64 n, .int .i64 d]] w fun e w' => e = .returned (.string s) ∧ Below w.heap.size w w' := by
  have HS := Lib.hid h; clear h
  have HT := Lib.hid ht; clear ht
  cases ho : ratioOkV n d
  · have HV := Lib.hid (fmtR_no ho)
    have HO := Lib.hid ho; clear ho
    go_enter Tryd.func11, Tryd.ntmps11
    go_wp2_with (first | (go_at_call 22; with_reducible refine (iRatioOk_lit HO.out _ hn1 hn2).mono ?_; rintro e w1 ⟨rfl, hb1⟩; have cc0 := cell_keep (p := ⟨w.heap.size, 0, none⟩) (v := .int .i64 n) hb1 (by first | assumption | (go_keep; done) | (go_simp; done) | (simp; done)) (by first | omega | (simp <;> omega)); have cc1 := cell_keep (p := ⟨w.heap.size, 1, none⟩) (v := .int .i64 d) hb1 (by first | assumption | (go_keep; done) | (go_simp; done) | (simp; done)) (by first | omega | (simp <;> omega)); have hS1 : Below w.heap.size w w1 := S_below hb1 (by repeat (first | exact Below.refl _ _ | assumption | refine below_drewN ?_ _ | refine Below.drew ?_ | refine Below.alloc ?_ (by first | omega | (simp <;> omega)) _ | refine Below.setCell ?_ (by first | omega | (simp <;> omega)) _)) (by first | omega | (simp <;> omega)); have hz1 : w.heap.size + 1 ≤ w1.heap.size := S_size hb1 (by first | omega | (simp <;> omega)); have hqb0 : w.heap.size < w1.heap.size := S_lt hb1 (by first | omega | (simp <;> omega)); clear hb1))
    go_ret
    exact ⟨ret_str (HV.out.symm.trans HS.out), (by repeat (first | exact Below.refl _ _ | assumption | refine below_drewN ?_ _ | refine Below.drew ?_ | refine Below.alloc ?_ (by first | omega | (simp <;> omega)) _ | refine Below.setCell ?_ (by first | omega | (simp <;> omega)) _))⟩
  · obtain ⟨⟨d1, d2⟩, n1, n2⟩ := ratioOkV_bounds ho
    by_cases hd : d = 1
    · subst hd
      have HV := Lib.hid (fmtR_one ho)
      have HO := Lib.hid ho; clear ho
      go_enter Tryd.func11, Tryd.ntmps11
      go_wp2_with (first | (go_at_call 22; with_reducible refine (iRatioOk_lit HO.out _ hn1 hn2).mono ?_; rintro e w1 ⟨rfl, hb1⟩; have cc0 := cell_keep (p := ⟨w.heap.size, 0, none⟩) (v := .int .i64 n) hb1 (by first | assumption | (go_keep; done) | (go_simp; done) | (simp; done)) (by first | omega | (simp <;> omega)); have cc1 := cell_keep (p := ⟨w.heap.size, 1, none⟩) (v := .int .i64 1) hb1 (by first | assumption | (go_keep; done) | (go_simp; done) | (simp; done)) (by first | omega | (simp <;> omega)); have hS1 : Below w.heap.size w w1 := S_below hb1 (by repeat (first | exact Below.refl _ _ | assumption | refine below_drewN ?_ _ | refine Below.drew ?_ | refine Below.alloc ?_ (by first | omega | (simp <;> omega)) _ | refine Below.setCell ?_ (by first | omega | (simp <;> omega)) _)) (by first | omega | (simp <;> omega)); have hz1 : w.heap.size + 1 ≤ w1.heap.size := S_size hb1 (by first | omega | (simp <;> omega)); have hqb0 : w.heap.size < w1.heap.size := S_lt hb1 (by first | omega | (simp <;> omega)); clear hb1) | (go_at_call 38; with_reducible refine (iFormatInt_lit (HV.out.symm.trans HS.out) _ (HT.out.step (by repeat (first | exact Below.refl _ _ | assumption | refine below_drewN ?_ _ | refine Below.drew ?_ | refine Below.alloc ?_ (by first | omega | (simp <;> omega)) _ | refine Below.setCell ?_ (by first | omega | (simp <;> omega)) _))) hn1 hn2).mono ?_; rintro e w1 ⟨rfl, hb1⟩; have cc0 := cell_keep (p := ⟨w.heap.size, 0, none⟩) (v := .int .i64 n) hb1 (by first | assumption | (go_keep; done) | (go_simp; done) | (simp; done)) (by first | omega | (simp <;> omega)); have cc1 := cell_keep (p := ⟨w.heap.size, 1, none⟩) (v := .int .i64 1) hb1 (by first | assumption | (go_keep; done) | (go_simp; done) | (simp; done)) (by first | omega | (simp <;> omega)); have hS1 : Below w.heap.size w w1 := S_below hb1 (by repeat (first | exact Below.refl _ _ | assumption | refine below_drewN ?_ _ | refine Below.drew ?_ | refine Below.alloc ?_ (by first | omega | (simp <;> omega)) _ | refine Below.setCell ?_ (by first | omega | (simp <;> omega)) _)) (by first | omega | (simp <;> omega)); have hz1 : w.heap.size + 1 ≤ w1.heap.size := S_size hb1 (by first | omega | (simp <;> omega)); have hqb0 : w.heap.size < w1.heap.size := S_lt hb1 (by first | omega | (simp <;> omega)); clear hb1))
      go_ret
      exact ⟨rfl, (by repeat (first | exact Below.refl _ _ | assumption | refine below_drewN ?_ _ | refine Below.drew ?_ | refine Below.alloc ?_ (by first | omega | (simp <;> omega)) _ | refine Below.setCell ?_ (by first | omega | (simp <;> omega)) _))⟩
    · have hs1 := fmtV_size (n := n) (by omega) (by omega)
      have hs2 := fmtV_size (n := d) (by omega) (by omega)
      have HV := Lib.hid (fmtR_two ho hd)
      have HO := Lib.hid ho; clear ho
      obtain ⟨sa, ha⟩ : ∃ sa, fmtV n = sa := ⟨_, rfl⟩
      obtain ⟨sb, hb⟩ : ∃ sb, fmtV d = sb := ⟨_, rfl⟩
      have HVV := Lib.hid (show sa ++ ⟨#[47]⟩ ++ sb = s by rw [← ha, ← hb]; exact HV.out.symm.trans HS.out)
      rw [ha] at hs1; rw [hb] at hs2
      have HA := Lib.hid ha; clear ha
      have HB := Lib.hid hb; clear hb
      clear HV HS
      have z1 := fits2 (a := sa) (b := ⟨#[47]⟩) hs1 (by decide) (by omega)
      have z2 := fits3 (a := sa) (b := ⟨#[47]⟩) (c := sb) hs1 (by decide) hs2 (by omega)
      go_enter Tryd.func11, Tryd.ntmps11
      go_wp2_with (first | (go_at_call 22; with_reducible refine (iRatioOk_lit HO.out _ hn1 hn2).mono ?_; rintro e w1 ⟨rfl, hb1⟩; have cc0 := cell_keep (p := ⟨w.heap.size, 0, none⟩) (v := .int .i64 n) hb1 (by first | assumption | (go_keep; done) | (go_simp; done) | (simp; done)) (by first | omega | (simp <;> omega)); have cc1 := cell_keep (p := ⟨w.heap.size, 1, none⟩) (v := .int .i64 d) hb1 (by first | assumption | (go_keep; done) | (go_simp; done) | (simp; done)) (by first | omega | (simp <;> omega)); have hS1 : Below w.heap.size w w1 := S_below hb1 (by repeat (first | exact Below.refl _ _ | assumption | refine below_drewN ?_ _ | refine Below.drew ?_ | refine Below.alloc ?_ (by first | omega | (simp <;> omega)) _ | refine Below.setCell ?_ (by first | omega | (simp <;> omega)) _)) (by first | omega | (simp <;> omega)); have hz1 : w.heap.size + 1 ≤ w1.heap.size := S_size hb1 (by first | omega | (simp <;> omega)); have hqb0 : w.heap.size < w1.heap.size := S_lt hb1 (by first | omega | (simp <;> omega)); clear hb1))
      refine wp_region_qb (by kernel_rfl) (by kernel_rfl) (fun W_q hW_q => ?_)
      have kq0 : ∀ d_ os_, (Sort.grow (redrawn W_q d_) os_).cell? ⟨w.heap.size, 0, none⟩ = some (.int .i64 n) := fun d_ os_ => cell_regrown (by rw [hW_q.out]; first | assumption | (go_keep; done) | (go_simp; done) | (simp; done)) d_ os_
      have kq1 : ∀ d_ os_, (Sort.grow (redrawn W_q d_) os_).cell? ⟨w.heap.size, 1, none⟩ = some (.int .i64 d) := fun d_ os_ => cell_regrown (by rw [hW_q.out]; first | assumption | (go_keep; done) | (go_simp; done) | (simp; done)) d_ os_
      repeat (go_big_quiet_step (first | (go_at_call 38; with_reducible exact Calls.regrown_of (iFormatInt_lit HA.out _ (tab_q (by rw [hW_q.out]; exact HT.out.step (by repeat (first | exact Below.refl _ _ | assumption | refine below_drewN ?_ _ | refine Below.drew ?_ | refine Below.alloc ?_ (by first | omega | (simp <;> omega)) _ | refine Below.setCell ?_ (by first | omega | (simp <;> omega)) _)))) hn1 hn2)) | (go_at_call 38; with_reducible exact Calls.regrown_of (iFormatInt_lit HB.out _ (tab_q (by rw [hW_q.out]; exact HT.out.step (by repeat (first | exact Below.refl _ _ | assumption | refine below_drewN ?_ _ | refine Below.drew ?_ | refine Below.alloc ?_ (by first | omega | (simp <;> omega)) _ | refine Below.setCell ?_ (by first | omega | (simp <;> omega)) _)))) (by omega) (by omega)))))
      refine wpQuiet_nil ?_
      intro _ hw_q
      obtain ⟨⟨dq_, osq_⟩, hw_q⟩ := hw_q
      subst hw_q
      have hb1 := below_regrown W_q dq_ osq_
      clear kq0 kq1
      generalize Sort.grow (redrawn W_q dq_) osq_ = wi at *
      have hW_q := hW_q.out
      subst hW_q
      have cc_wi0 := cell_keep (p := ⟨w.heap.size, 0, none⟩) (v := .int .i64 n) hb1 (by first | assumption | (go_keep; done) | (go_simp; done) | (simp; done)) (by first | omega | (simp <;> omega))
      have cc_wi1 := cell_keep (p := ⟨w.heap.size, 1, none⟩) (v := .int .i64 d) hb1 (by first | assumption | (go_keep; done) | (go_simp; done) | (simp; done)) (by first | omega | (simp <;> omega))
      have hS1_wi : Below w.heap.size w wi := S_below hb1 (by repeat (first | exact Below.refl _ _ | assumption | refine below_drewN ?_ _ | refine Below.drew ?_ | refine Below.alloc ?_ (by first | omega | (simp <;> omega)) _ | refine Below.setCell ?_ (by first | omega | (simp <;> omega)) _)) (by first | omega | (simp <;> omega))
      have hz1_wi : w.heap.size + 1 ≤ wi.heap.size := S_size hb1 (by first | omega | (simp <;> omega))
      have hqb_wi0 : w.heap.size < wi.heap.size := S_lt hb1 (by first | omega | (simp <;> omega))
      clear hb1
      go_wp2_with fail
      go_ret
      exact ⟨ret_str HVV.out, (by repeat (first | exact Below.refl _ _ | assumption | refine below_drewN ?_ _ | refine Below.drew ?_ | refine Below.alloc ?_ (by first | omega | (simp <;> omega)) _ | refine Below.setCell ?_ (by first | omega | (simp <;> omega)) _))⟩

end Go.Proofs.YtkmfejdmdiemaaaDoor
