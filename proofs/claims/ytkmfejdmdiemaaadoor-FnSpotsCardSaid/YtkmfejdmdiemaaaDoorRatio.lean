/- Contracts of RatioOk, RatioOf, of the program and of the reference. -/
import Derived.Test.YtkmfejdmdiemaaaDoorData
import Derived.Test.YtkmfejdmdiemaaaDoorPlain
namespace Go.Proofs.YtkmfejdmdiemaaaDoor
open Go.ChangeShapes Go.WideShapes Go.ChangeAt Go.RowKit
attribute [local go_sem ↓] Go.wp_at_zero Go.wp_at_succ
set_option linter.unusedVariables false

theorem inB_iff' (n lo hi : Int) : inB n lo hi = true ↔ lo ≤ n ∧ n ≤ hi := by unfold inB; simp

/-- RatioOk's result. -/
def ratioOkV (n d : Int) : Bool := inB d 1 1000000000000000 && (inB n (-1000000000000000000) 1000000000000000000 && decide (gcdV n d = 1))

set_option maxHeartbeats 1000000 in
set_option maxRecDepth 100000 in
theorem iRatioOk_any (n d : Int) (w : World) (hn1 : -9223372036854775808 ≤ n) (hn2 : n ≤ 9223372036854775807) :
    Calls Tryd.prog 22 #[.agg #[.int .i64 n, .int .i64 d]] w fun e w' => e = .returned (.bool (ratioOkV n d)) ∧ Below w.heap.size w w' := by
  cases h1 : inB d 1 1000000000000000
  · have Hv := Lib.hid (show ratioOkV n d = false by unfold ratioOkV; rw [h1]; rfl)
    go_enter Tryd.func22, Tryd.ntmps22
    go_wp2_with (first | (go_at_call 49; with_reducible refine (inRange_any _ _ _ _).mono ?_; rintro e w1 ⟨rfl, rfl⟩))
    go_ret
    exact ⟨ret_bool Hv.out.symm, (by repeat (first | exact Below.refl _ _ | assumption | refine below_drewN ?_ _ | refine Below.drew ?_ | refine Below.alloc ?_ (by first | omega | (simp <;> omega)) _ | refine Below.setCell ?_ (by first | omega | (simp <;> omega)) _))⟩
  · have hd := (inB_iff' _ _ _).1 h1
    cases h2 : inB n (-1000000000000000000) 1000000000000000000
    · have Hv := Lib.hid (show ratioOkV n d = false by unfold ratioOkV; rw [h1, h2]; rfl)
      go_enter Tryd.func22, Tryd.ntmps22
      go_wp2_with (first | (go_at_call 49; with_reducible refine (inRange_any _ _ _ _).mono ?_; rintro e w1 ⟨rfl, rfl⟩))
      go_ret
      exact ⟨ret_bool Hv.out.symm, (by repeat (first | exact Below.refl _ _ | assumption | refine below_drewN ?_ _ | refine Below.drew ?_ | refine Below.alloc ?_ (by first | omega | (simp <;> omega)) _ | refine Below.setCell ?_ (by first | omega | (simp <;> omega)) _))⟩
    · have Hv := Lib.hid (show ratioOkV n d = decide (gcdV n d = 1) by unfold ratioOkV; rw [h1, h2]; rfl)
      have hd1 := hd.1
      have hd2 := hd.2
      clear hd
      generalize hg : gcdV n d = g at *
      have Hg := Lib.hid hg; clear hg
      go_enter Tryd.func22, Tryd.ntmps22
      go_wp2_with (first | (go_at_call 49; with_reducible refine (inRange_any _ _ _ _).mono ?_; rintro e w1 ⟨rfl, rfl⟩) | (go_at_call 48; with_reducible refine (iGcdOf_any _ _ _ hn1 hn2 (by omega) (by omega)).mono ?_; rintro e w1 ⟨rfl, hb1⟩; have hS1 : Below w.heap.size w w1 := S_below hb1 (by repeat (first | exact Below.refl _ _ | assumption | refine below_drewN ?_ _ | refine Below.drew ?_ | refine Below.alloc ?_ (by first | omega | (simp <;> omega)) _ | refine Below.setCell ?_ (by first | omega | (simp <;> omega)) _)) (by first | omega | (simp <;> omega)); have hz1 : w.heap.size + 1 ≤ w1.heap.size := S_size hb1 (by first | omega | (simp <;> omega)); clear hb1))
      go_ret
      refine ⟨ret_bool ?_, by assumption⟩
      rw [Hv.out, Hg.out, Bool.eq_iff_iff]; simp

set_option maxHeartbeats 1000000 in
set_option maxRecDepth 100000 in
theorem sRatioOk_any (n d : Int) (w : World) (hn1 : -9223372036854775808 ≤ n) (hn2 : n ≤ 9223372036854775807) :
    Calls Tryd.prog 36 #[.agg #[.int .i64 n, .int .i64 d]] w fun e w' => e = .returned (.bool (ratioOkV n d)) ∧ Below w.heap.size w w' := by
  cases h1 : inB d 1 1000000000000000
  · have Hv := Lib.hid (show ratioOkV n d = false by unfold ratioOkV; rw [h1]; rfl)
    go_enter Tryd.func36, Tryd.ntmps36
    go_wp2_with (first | (go_at_call 46; with_reducible refine (l01In_any _ _ _ _).mono ?_; rintro e w1 ⟨rfl, rfl⟩))
    go_ret
    exact ⟨ret_bool Hv.out.symm, (by repeat (first | exact Below.refl _ _ | assumption | refine below_drewN ?_ _ | refine Below.drew ?_ | refine Below.alloc ?_ (by first | omega | (simp <;> omega)) _ | refine Below.setCell ?_ (by first | omega | (simp <;> omega)) _))⟩
  · have hd := (inB_iff' _ _ _).1 h1
    cases h2 : inB n (-1000000000000000000) 1000000000000000000
    · have Hv := Lib.hid (show ratioOkV n d = false by unfold ratioOkV; rw [h1, h2]; rfl)
      go_enter Tryd.func36, Tryd.ntmps36
      go_wp2_with (first | (go_at_call 46; with_reducible refine (l01In_any _ _ _ _).mono ?_; rintro e w1 ⟨rfl, rfl⟩))
      go_ret
      exact ⟨ret_bool Hv.out.symm, (by repeat (first | exact Below.refl _ _ | assumption | refine below_drewN ?_ _ | refine Below.drew ?_ | refine Below.alloc ?_ (by first | omega | (simp <;> omega)) _ | refine Below.setCell ?_ (by first | omega | (simp <;> omega)) _))⟩
    · have Hv := Lib.hid (show ratioOkV n d = decide (gcdV n d = 1) by unfold ratioOkV; rw [h1, h2]; rfl)
      have hd1 := hd.1
      have hd2 := hd.2
      clear hd
      generalize hg : gcdV n d = g at *
      have Hg := Lib.hid hg; clear hg
      go_enter Tryd.func36, Tryd.ntmps36
      go_wp2_with (first | (go_at_call 46; with_reducible refine (l01In_any _ _ _ _).mono ?_; rintro e w1 ⟨rfl, rfl⟩) | (go_at_call 45; with_reducible refine (sGcdOf_any _ _ _ hn1 hn2 (by omega) (by omega)).mono ?_; rintro e w1 ⟨rfl, nd, rfl⟩))
      go_ret
      refine ⟨ret_bool ?_, (by repeat (first | exact Below.refl _ _ | assumption | refine below_drewN ?_ _ | refine Below.drew ?_ | refine Below.alloc ?_ (by first | omega | (simp <;> omega)) _ | refine Below.setCell ?_ (by first | omega | (simp <;> omega)) _))⟩
      rw [Hv.out, Hg.out, Bool.eq_iff_iff]; simp

/-- RatioOf's result. -/
def topV (n d : Int) : Int := if 0 ≤ n ↔ 0 ≤ d then (n.natAbs / Int.gcd n d : Nat) else -(n.natAbs / Int.gcd n d : Nat)

def belV (n d : Int) : Int := (d.natAbs / Int.gcd n d : Nat)

def ratOk (n d : Int) : Bool := !leastB n && !leastB d && decide (d ≠ 0) && decide (n.natAbs / Int.gcd n d ≤ 1000000000000000000) && decide (d.natAbs / Int.gcd n d ≤ 1000000000000000)

def ratN (n d : Int) : Int := if ratOk n d then topV n d else 0

def ratD (n d : Int) : Int := if ratOk n d then belV n d else 0

theorem topV_abs (n d : Int) : (topV n d).natAbs = n.natAbs / Int.gcd n d := by
  unfold topV; split
  · exact Int.natAbs_natCast _
  · rw [Int.natAbs_neg]; exact Int.natAbs_natCast _

theorem belV_abs (n d : Int) : (belV n d).natAbs = d.natAbs / Int.gcd n d := by unfold belV; exact Int.natAbs_natCast _

theorem topV_of (n d G : Int) (hz : d ≠ 0) (hG : G = if d < 0 then -(Int.gcd n d : Int) else (Int.gcd n d : Int)) : n.tdiv G = topV n d ∧ d.tdiv G = belV n d := by
  have gp : 0 < Int.gcd n d := Int.gcd_pos_of_ne_zero_right _ hz
  unfold topV belV
  subst hG
  split
  · rw [Int.tdiv_neg, Int.tdiv_neg, tdiv_pos n _ gp, tdiv_pos d _ gp]
    constructor
    · by_cases h : 0 ≤ n <;> simp [h] <;> intro _ <;> omega
    · rw [if_neg (by omega)]; omega
  · rw [tdiv_pos n _ gp, tdiv_pos d _ gp]
    constructor
    · by_cases h : 0 ≤ n <;> simp [h] <;> intro _ <;> omega
    · rw [if_pos (by omega)]

/-- The reduced fraction is valid exactly if its two numbers are in range. -/
theorem ratioOkV_red (n d : Int) (hz : d ≠ 0) (hn : leastB n = false) (hd : leastB d = false) (hn1 : -9223372036854775808 ≤ n) (hn2 : n ≤ 9223372036854775807) (hd1 : -9223372036854775808 ≤ d) (hd2 : d ≤ 9223372036854775807) : ratioOkV (topV n d) (belV n d) = ratOk n d := by
  have gp : 0 < Int.gcd n d := Int.gcd_pos_of_ne_zero_right _ hz
  have hb0 : 0 < d.natAbs / Int.gcd n d := Nat.div_pos (Nat.le_of_dvd (by omega) (by have := Int.gcd_dvd_right n d; simpa using Int.natAbs_dvd_natAbs.2 this)) gp
  have e1 := topV_abs n d
  have e2 := belV_abs n d
  have e3 : belV n d = ((d.natAbs / Int.gcd n d : Nat) : Int) := rfl
  have b1 := tdiv_bound n (Int.gcd n d)
  have b2 := tdiv_bound d (Int.gcd n d)
  have hl1 : leastB (topV n d) = false := by unfold leastB at *; simp at *; omega
  have hl2 : leastB (belV n d) = false := by unfold leastB at *; simp at *; omega
  have hg : gcdV (topV n d) (belV n d) = 1 := by
    unfold gcdV; rw [hl1, hl2]; simp only [Bool.or_self, Bool.false_eq_true, if_false]
    unfold Int.gcd; rw [e1, e2]; unfold Int.gcd
    have := gcd_reduced n.natAbs d.natAbs (by simpa [Int.gcd] using gp)
    rw [this]; rfl
  unfold ratioOkV ratOk inB
  rw [hg, hn, hd, Bool.eq_iff_iff]
  simp [hz]
  omega

theorem ratN_not {n d : Int} (h : ratOk n d = false) : ratN n d = 0 := by unfold ratN; rw [h]; rfl

theorem ratD_not {n d : Int} (h : ratOk n d = false) : ratD n d = 0 := by unfold ratD; rw [h]; rfl

theorem ratN_ok {n d : Int} (h : ratOk n d = true) : ratN n d = topV n d := by unfold ratN; rw [h]; rfl

theorem ratD_ok {n d : Int} (h : ratOk n d = true) : ratD n d = belV n d := by unfold ratD; rw [h]; rfl

theorem ret_agg2 {k : IntKind} {a b c d : Int} (h : a = c) (h' : b = d) : Ending.returned (.agg #[.int k a, .int k b]) = .returned (.agg #[.int k c, .int k d]) := by rw [h, h']

theorem sRatioOk_lit {n d : Int} {v : Bool} (h : ratioOkV n d = v) (w : World) (hn1 : -9223372036854775808 ≤ n) (hn2 : n ≤ 9223372036854775807) :
    Calls Tryd.prog 36 #[.agg #[.int .i64 n, .int .i64 d]] w fun e w' => e = .returned (.bool v) ∧ Below w.heap.size w w' := by
  rw [← h]; exact sRatioOk_any n d w hn1 hn2

theorem iRatioOk_lit {n d : Int} {v : Bool} (h : ratioOkV n d = v) (w : World) (hn1 : -9223372036854775808 ≤ n) (hn2 : n ≤ 9223372036854775807) :
    Calls Tryd.prog 22 #[.agg #[.int .i64 n, .int .i64 d]] w fun e w' => e = .returned (.bool v) ∧ Below w.heap.size w w' := by
  rw [← h]; exact iRatioOk_any n d w hn1 hn2

set_option maxHeartbeats 1000000 in
set_option maxRecDepth 100000 in
theorem sRatioOf_any (n d : Int) (w : World) (hn1 : -9223372036854775808 ≤ n) (hn2 : n ≤ 9223372036854775807) (hd1 : -9223372036854775808 ≤ d) (hd2 : d ≤ 9223372036854775807) :
    Calls Tryd.prog 40 #[.int .i64 n, .int .i64 d] w fun e w' => e = .returned (.agg #[.int .i64 (ratN n d), .int .i64 (ratD n d)]) ∧ Below w.heap.size w w' := by
  cases hln : leastB n
  · cases hld : leastB d
    · by_cases hz : d = 0
      · have HR : ratOk n d = false := by unfold ratOk; simp [hz]
        have HE := Lib.hid (And.intro (ratN_not HR) (ratD_not HR))
        have hzb : (d == 0) = true := by simp; exact hz
        clear HR hz
        generalize hg : gcdV n d = g
        have Hg := Lib.hid hg; clear hg
        cases hg0 : (g == 0)
        · go_enter Tryd.func40, Tryd.ntmps40
          go_wp2_with fail
          refine (sGcdOf_any _ _ _ hn1 hn2 hd1 hd2).mono ?_
          rintro e w1 ⟨rfl, nd, rfl⟩
          rw [Hg.out]
          go_wp2_with fail
          exact bodyPost_ret (v := .agg #[.int .i64 0, .int .i64 0]) (by simp [results, Tryd.results40, go_sem]) rfl ⟨ret_agg2 HE.out.1.symm HE.out.2.symm, (by repeat (first | exact Below.refl _ _ | assumption | refine below_drewN ?_ _ | refine Below.drew ?_ | refine Below.alloc ?_ (by first | omega | (simp <;> omega)) _ | refine Below.setCell ?_ (by first | omega | (simp <;> omega)) _))⟩
        · go_enter Tryd.func40, Tryd.ntmps40
          go_wp2_with fail
          refine (sGcdOf_any _ _ _ hn1 hn2 hd1 hd2).mono ?_
          rintro e w1 ⟨rfl, nd, rfl⟩
          rw [Hg.out]
          go_wp2_with fail
          exact bodyPost_ret (v := .agg #[.int .i64 0, .int .i64 0]) (by simp [results, Tryd.results40, go_sem]) rfl ⟨ret_agg2 HE.out.1.symm HE.out.2.symm, (by repeat (first | exact Below.refl _ _ | assumption | refine below_drewN ?_ _ | refine Below.drew ?_ | refine Below.alloc ?_ (by first | omega | (simp <;> omega)) _ | refine Below.setCell ?_ (by first | omega | (simp <;> omega)) _))⟩
      · have eg : gcdV n d = (Int.gcd n d : Int) := by unfold gcdV; rw [hln, hld]; rfl
        have gp : 0 < Int.gcd n d := Int.gcd_pos_of_ne_zero_right _ hz
        have gl := gcd_lt n d hn1 hn2 hd1 hd2 hln hld
        have hzb : (d == 0) = false := by simp; exact hz
        have hgb : (((Int.gcd n d : Nat) : Int) == 0) = false := by simp; omega
        have hgb2 : (Int.gcd n d == 0) = false := by simp; omega
        have HOK := Lib.hid (ratioOkV_red n d hz hln hld hn1 hn2 hd1 hd2)
        have HT := Lib.hid (topV_of n d (if d < 0 then -(Int.gcd n d : Int) else (Int.gcd n d : Int)) hz rfl)
        have ht1 := topV_abs n d
        have ht2 := belV_abs n d
        have hb1 := tdiv_bound n (Int.gcd n d)
        have hb2 := tdiv_bound d (Int.gcd n d)
        have hr1 : -9223372036854775807 ≤ topV n d ∧ topV n d ≤ 9223372036854775807 := by unfold leastB at *; simp at *; omega
        have hr2 : -9223372036854775807 ≤ belV n d ∧ belV n d ≤ 9223372036854775807 := by unfold leastB at *; simp at *; omega
        clear ht1 ht2 hb1 hb2
        have Hg := Lib.hid eg; clear eg
        by_cases hneg : d < 0
        · rw [if_pos hneg] at HT
          have q1 : IntKind.i64.wrap (n.tdiv (-((Int.gcd n d : Nat) : Int))) = topV n d := by rw [HT.out.1]; exact IntWalk.i64_in _ (by omega)
          have q2 : IntKind.i64.wrap (d.tdiv (-((Int.gcd n d : Nat) : Int))) = belV n d := by rw [HT.out.2]; exact IntWalk.i64_in _ (by omega)
          have q0 : ¬ ((-((Int.gcd n d : Nat) : Int)) = 0) := by omega
          have Hq := Lib.hid (And.intro q0 (And.intro q1 q2)); clear q0 q1 q2 HT hz
          go_enter Tryd.func40, Tryd.ntmps40
          go_wp2_with fail
          refine (sGcdOf_any _ _ _ hn1 hn2 hd1 hd2).mono ?_
          rintro e w1 ⟨rfl, nd, rfl⟩
          rw [Hg.out]
          go_wp2_with fail
          obtain ⟨q0, q1, q2⟩ := Hq.out
          generalize (-((Int.gcd n d : Nat) : Int)) = G at q0 q1 q2 ⊢
          generalize hTV : topV n d = T at *
          generalize hBV : belV n d = B at *
          have HTV := Lib.hid hTV; clear hTV
          have HBV := Lib.hid hBV; clear hBV
          clear Hq
          go_region
          cases HR : ratOk n d
          · have HE := Lib.hid (And.intro (ratN_not HR) (ratD_not HR))
            have HO := Lib.hid (HOK.out.trans HR); clear HR
            go_wp2_with (first | (go_at_call 36; with_reducible refine (sRatioOk_lit HO.out _ (by omega) (by omega)).mono ?_; rintro e w1 ⟨rfl, hb1⟩; have cc0 := cell_keep (p := ⟨w.heap.size, 0, none⟩) (v := .int .i64 0) hb1 (by first | assumption | (go_keep; done) | (go_simp; done) | (simp; done)) (by first | omega | (simp <;> omega)); have cc1 := cell_keep (p := ⟨w.heap.size, 1, none⟩) (v := .int .i64 0) hb1 (by first | assumption | (go_keep; done) | (go_simp; done) | (simp; done)) (by first | omega | (simp <;> omega)); have cc2 := cell_keep (p := ⟨w.heap.size + 1, 0, none⟩) (v := .int .i64 T) hb1 (by first | assumption | (go_keep; done) | (go_simp; done) | (simp; done)) (by first | omega | (simp <;> omega)); have cc3 := cell_keep (p := ⟨w.heap.size + 1, 1, none⟩) (v := .int .i64 B) hb1 (by first | assumption | (go_keep; done) | (go_simp; done) | (simp; done)) (by first | omega | (simp <;> omega)); have cf0 := frozen_keep (p := ⟨w.heap.size, 0, none⟩) hb1 (by first | assumption | (go_keep; done) | (go_simp; done) | (simp; done)) (by first | omega | (simp <;> omega)); have cf1 := frozen_keep (p := ⟨w.heap.size, 1, none⟩) hb1 (by first | assumption | (go_keep; done) | (go_simp; done) | (simp; done)) (by first | omega | (simp <;> omega)); have hS1 : Below w.heap.size w w1 := S_below hb1 (by repeat (first | exact Below.refl _ _ | assumption | refine below_drewN ?_ _ | refine Below.drew ?_ | refine Below.alloc ?_ (by first | omega | (simp <;> omega)) _ | refine Below.setCell ?_ (by first | omega | (simp <;> omega)) _)) (by first | omega | (simp <;> omega)); have hz1 : w.heap.size + 1 + 1 ≤ w1.heap.size := S_size hb1 (by first | omega | (simp <;> omega)); have hqb0 : w.heap.size < w1.heap.size := S_lt hb1 (by first | omega | (simp <;> omega)); have hqb1 : w.heap.size + 1 < w1.heap.size := S_lt hb1 (by first | omega | (simp <;> omega)); clear hb1))
            exact bodyPost_ret (v := .agg #[.int .i64 0, .int .i64 0]) (by simp [results, Tryd.results40, go_sem, set_0 cc0, set2_1 cc1]) rfl ⟨ret_agg2 HE.out.1.symm HE.out.2.symm, (by repeat (first | exact Below.refl _ _ | assumption | refine below_drewN ?_ _ | refine Below.drew ?_ | refine Below.alloc ?_ (by first | omega | (simp <;> omega)) _ | refine Below.setCell ?_ (by first | omega | (simp <;> omega)) _))⟩
          · have HE := Lib.hid (And.intro (ratN_ok HR) (ratD_ok HR))
            have HO := Lib.hid (HOK.out.trans HR); clear HR
            go_wp2_with (first | (go_at_call 36; with_reducible refine (sRatioOk_lit HO.out _ (by omega) (by omega)).mono ?_; rintro e w1 ⟨rfl, hb1⟩; have cc0 := cell_keep (p := ⟨w.heap.size, 0, none⟩) (v := .int .i64 0) hb1 (by first | assumption | (go_keep; done) | (go_simp; done) | (simp; done)) (by first | omega | (simp <;> omega)); have cc1 := cell_keep (p := ⟨w.heap.size, 1, none⟩) (v := .int .i64 0) hb1 (by first | assumption | (go_keep; done) | (go_simp; done) | (simp; done)) (by first | omega | (simp <;> omega)); have cc2 := cell_keep (p := ⟨w.heap.size + 1, 0, none⟩) (v := .int .i64 T) hb1 (by first | assumption | (go_keep; done) | (go_simp; done) | (simp; done)) (by first | omega | (simp <;> omega)); have cc3 := cell_keep (p := ⟨w.heap.size + 1, 1, none⟩) (v := .int .i64 B) hb1 (by first | assumption | (go_keep; done) | (go_simp; done) | (simp; done)) (by first | omega | (simp <;> omega)); have cf0 := frozen_keep (p := ⟨w.heap.size, 0, none⟩) hb1 (by first | assumption | (go_keep; done) | (go_simp; done) | (simp; done)) (by first | omega | (simp <;> omega)); have cf1 := frozen_keep (p := ⟨w.heap.size, 1, none⟩) hb1 (by first | assumption | (go_keep; done) | (go_simp; done) | (simp; done)) (by first | omega | (simp <;> omega)); have hS1 : Below w.heap.size w w1 := S_below hb1 (by repeat (first | exact Below.refl _ _ | assumption | refine below_drewN ?_ _ | refine Below.drew ?_ | refine Below.alloc ?_ (by first | omega | (simp <;> omega)) _ | refine Below.setCell ?_ (by first | omega | (simp <;> omega)) _)) (by first | omega | (simp <;> omega)); have hz1 : w.heap.size + 1 + 1 ≤ w1.heap.size := S_size hb1 (by first | omega | (simp <;> omega)); have hqb0 : w.heap.size < w1.heap.size := S_lt hb1 (by first | omega | (simp <;> omega)); have hqb1 : w.heap.size + 1 < w1.heap.size := S_lt hb1 (by first | omega | (simp <;> omega)); clear hb1))
            exact bodyPost_ret (v := .agg #[.int .i64 T, .int .i64 B]) (by simp [results, Tryd.results40, go_sem, set_0 cc0, set2_1 cc1]) rfl ⟨ret_agg2 (HE.out.1.trans HTV.out).symm (HE.out.2.trans HBV.out).symm, (by repeat (first | exact Below.refl _ _ | assumption | refine below_drewN ?_ _ | refine Below.drew ?_ | refine Below.alloc ?_ (by first | omega | (simp <;> omega)) _ | refine Below.setCell ?_ (by first | omega | (simp <;> omega)) _))⟩
        · rw [if_neg hneg] at HT
          have q1 : IntKind.i64.wrap (n.tdiv ((Int.gcd n d : Nat) : Int)) = topV n d := by rw [HT.out.1]; exact IntWalk.i64_in _ (by omega)
          have q2 : IntKind.i64.wrap (d.tdiv ((Int.gcd n d : Nat) : Int)) = belV n d := by rw [HT.out.2]; exact IntWalk.i64_in _ (by omega)
          have q0 : ¬ (((Int.gcd n d : Nat) : Int) = 0) := by omega
          have Hq := Lib.hid (And.intro q0 (And.intro q1 q2)); clear q0 q1 q2 HT hz
          go_enter Tryd.func40, Tryd.ntmps40
          go_wp2_with fail
          refine (sGcdOf_any _ _ _ hn1 hn2 hd1 hd2).mono ?_
          rintro e w1 ⟨rfl, nd, rfl⟩
          rw [Hg.out]
          go_wp2_with fail
          obtain ⟨q0, q1, q2⟩ := Hq.out
          generalize ((Int.gcd n d : Nat) : Int) = G at q0 q1 q2 ⊢
          generalize hTV : topV n d = T at *
          generalize hBV : belV n d = B at *
          have HTV := Lib.hid hTV; clear hTV
          have HBV := Lib.hid hBV; clear hBV
          clear Hq
          go_region
          cases HR : ratOk n d
          · have HE := Lib.hid (And.intro (ratN_not HR) (ratD_not HR))
            have HO := Lib.hid (HOK.out.trans HR); clear HR
            go_wp2_with (first | (go_at_call 36; with_reducible refine (sRatioOk_lit HO.out _ (by omega) (by omega)).mono ?_; rintro e w1 ⟨rfl, hb1⟩; have cc0 := cell_keep (p := ⟨w.heap.size, 0, none⟩) (v := .int .i64 0) hb1 (by first | assumption | (go_keep; done) | (go_simp; done) | (simp; done)) (by first | omega | (simp <;> omega)); have cc1 := cell_keep (p := ⟨w.heap.size, 1, none⟩) (v := .int .i64 0) hb1 (by first | assumption | (go_keep; done) | (go_simp; done) | (simp; done)) (by first | omega | (simp <;> omega)); have cc2 := cell_keep (p := ⟨w.heap.size + 1, 0, none⟩) (v := .int .i64 T) hb1 (by first | assumption | (go_keep; done) | (go_simp; done) | (simp; done)) (by first | omega | (simp <;> omega)); have cc3 := cell_keep (p := ⟨w.heap.size + 1, 1, none⟩) (v := .int .i64 B) hb1 (by first | assumption | (go_keep; done) | (go_simp; done) | (simp; done)) (by first | omega | (simp <;> omega)); have cf0 := frozen_keep (p := ⟨w.heap.size, 0, none⟩) hb1 (by first | assumption | (go_keep; done) | (go_simp; done) | (simp; done)) (by first | omega | (simp <;> omega)); have cf1 := frozen_keep (p := ⟨w.heap.size, 1, none⟩) hb1 (by first | assumption | (go_keep; done) | (go_simp; done) | (simp; done)) (by first | omega | (simp <;> omega)); have hS1 : Below w.heap.size w w1 := S_below hb1 (by repeat (first | exact Below.refl _ _ | assumption | refine below_drewN ?_ _ | refine Below.drew ?_ | refine Below.alloc ?_ (by first | omega | (simp <;> omega)) _ | refine Below.setCell ?_ (by first | omega | (simp <;> omega)) _)) (by first | omega | (simp <;> omega)); have hz1 : w.heap.size + 1 + 1 ≤ w1.heap.size := S_size hb1 (by first | omega | (simp <;> omega)); have hqb0 : w.heap.size < w1.heap.size := S_lt hb1 (by first | omega | (simp <;> omega)); have hqb1 : w.heap.size + 1 < w1.heap.size := S_lt hb1 (by first | omega | (simp <;> omega)); clear hb1))
            exact bodyPost_ret (v := .agg #[.int .i64 0, .int .i64 0]) (by simp [results, Tryd.results40, go_sem, set_0 cc0, set2_1 cc1]) rfl ⟨ret_agg2 HE.out.1.symm HE.out.2.symm, (by repeat (first | exact Below.refl _ _ | assumption | refine below_drewN ?_ _ | refine Below.drew ?_ | refine Below.alloc ?_ (by first | omega | (simp <;> omega)) _ | refine Below.setCell ?_ (by first | omega | (simp <;> omega)) _))⟩
          · have HE := Lib.hid (And.intro (ratN_ok HR) (ratD_ok HR))
            have HO := Lib.hid (HOK.out.trans HR); clear HR
            go_wp2_with (first | (go_at_call 36; with_reducible refine (sRatioOk_lit HO.out _ (by omega) (by omega)).mono ?_; rintro e w1 ⟨rfl, hb1⟩; have cc0 := cell_keep (p := ⟨w.heap.size, 0, none⟩) (v := .int .i64 0) hb1 (by first | assumption | (go_keep; done) | (go_simp; done) | (simp; done)) (by first | omega | (simp <;> omega)); have cc1 := cell_keep (p := ⟨w.heap.size, 1, none⟩) (v := .int .i64 0) hb1 (by first | assumption | (go_keep; done) | (go_simp; done) | (simp; done)) (by first | omega | (simp <;> omega)); have cc2 := cell_keep (p := ⟨w.heap.size + 1, 0, none⟩) (v := .int .i64 T) hb1 (by first | assumption | (go_keep; done) | (go_simp; done) | (simp; done)) (by first | omega | (simp <;> omega)); have cc3 := cell_keep (p := ⟨w.heap.size + 1, 1, none⟩) (v := .int .i64 B) hb1 (by first | assumption | (go_keep; done) | (go_simp; done) | (simp; done)) (by first | omega | (simp <;> omega)); have cf0 := frozen_keep (p := ⟨w.heap.size, 0, none⟩) hb1 (by first | assumption | (go_keep; done) | (go_simp; done) | (simp; done)) (by first | omega | (simp <;> omega)); have cf1 := frozen_keep (p := ⟨w.heap.size, 1, none⟩) hb1 (by first | assumption | (go_keep; done) | (go_simp; done) | (simp; done)) (by first | omega | (simp <;> omega)); have hS1 : Below w.heap.size w w1 := S_below hb1 (by repeat (first | exact Below.refl _ _ | assumption | refine below_drewN ?_ _ | refine Below.drew ?_ | refine Below.alloc ?_ (by first | omega | (simp <;> omega)) _ | refine Below.setCell ?_ (by first | omega | (simp <;> omega)) _)) (by first | omega | (simp <;> omega)); have hz1 : w.heap.size + 1 + 1 ≤ w1.heap.size := S_size hb1 (by first | omega | (simp <;> omega)); have hqb0 : w.heap.size < w1.heap.size := S_lt hb1 (by first | omega | (simp <;> omega)); have hqb1 : w.heap.size + 1 < w1.heap.size := S_lt hb1 (by first | omega | (simp <;> omega)); clear hb1))
            exact bodyPost_ret (v := .agg #[.int .i64 T, .int .i64 B]) (by simp [results, Tryd.results40, go_sem, set_0 cc0, set2_1 cc1]) rfl ⟨ret_agg2 (HE.out.1.trans HTV.out).symm (HE.out.2.trans HBV.out).symm, (by repeat (first | exact Below.refl _ _ | assumption | refine below_drewN ?_ _ | refine Below.drew ?_ | refine Below.alloc ?_ (by first | omega | (simp <;> omega)) _ | refine Below.setCell ?_ (by first | omega | (simp <;> omega)) _))⟩
    · have HR : ratOk n d = false := by unfold ratOk; rw [hld]; simp
      have HE := Lib.hid (And.intro (ratN_not HR) (ratD_not HR))
      have Hg := Lib.hid (show gcdV n d = 0 by unfold gcdV; rw [hld]; simp)
      clear HR hld
      go_enter Tryd.func40, Tryd.ntmps40
      go_wp2_with fail
      refine (sGcdOf_any _ _ _ hn1 hn2 hd1 hd2).mono ?_
      rintro e w1 ⟨rfl, nd, rfl⟩
      rw [Hg.out]
      go_wp2_with fail
      exact bodyPost_ret (v := .agg #[.int .i64 0, .int .i64 0]) (by simp [results, Tryd.results40, go_sem]) rfl ⟨ret_agg2 HE.out.1.symm HE.out.2.symm, (by repeat (first | exact Below.refl _ _ | assumption | refine below_drewN ?_ _ | refine Below.drew ?_ | refine Below.alloc ?_ (by first | omega | (simp <;> omega)) _ | refine Below.setCell ?_ (by first | omega | (simp <;> omega)) _))⟩
  · have HR : ratOk n d = false := by unfold ratOk; rw [hln]; simp
    have HE := Lib.hid (And.intro (ratN_not HR) (ratD_not HR))
    have Hg := Lib.hid (show gcdV n d = 0 by unfold gcdV; rw [hln]; simp)
    clear HR hln
    go_enter Tryd.func40, Tryd.ntmps40
    go_wp2_with fail
    refine (sGcdOf_any _ _ _ hn1 hn2 hd1 hd2).mono ?_
    rintro e w1 ⟨rfl, nd, rfl⟩
    rw [Hg.out]
    go_wp2_with fail
    exact bodyPost_ret (v := .agg #[.int .i64 0, .int .i64 0]) (by simp [results, Tryd.results40, go_sem]) rfl ⟨ret_agg2 HE.out.1.symm HE.out.2.symm, (by repeat (first | exact Below.refl _ _ | assumption | refine below_drewN ?_ _ | refine Below.drew ?_ | refine Below.alloc ?_ (by first | omega | (simp <;> omega)) _ | refine Below.setCell ?_ (by first | omega | (simp <;> omega)) _))⟩

set_option maxHeartbeats 1000000 in
set_option maxRecDepth 100000 in
theorem iRatioOf_any (n d : Int) (w : World) (hn1 : -9223372036854775808 ≤ n) (hn2 : n ≤ 9223372036854775807) (hd1 : -9223372036854775808 ≤ d) (hd2 : d ≤ 9223372036854775807) :
    Calls Tryd.prog 28 #[.int .i64 n, .int .i64 d] w fun e w' => e = .returned (.agg #[.int .i64 (ratN n d), .int .i64 (ratD n d)]) ∧ Below w.heap.size w w' := by
  by_cases hz : d = 0
  · have HR : ratOk n d = false := by unfold ratOk; simp [hz]
    have HE := Lib.hid (And.intro (ratN_not HR) (ratD_not HR))
    have hzb : (d == 0) = true := by simp; exact hz
    clear HR hz
    go_enter Tryd.func28, Tryd.ntmps28
    go_wp2_with fail
    exact bodyPost_ret (v := .agg #[.int .i64 0, .int .i64 0]) (by simp [results, Tryd.results28, go_sem]) rfl ⟨ret_agg2 HE.out.1.symm HE.out.2.symm, (by repeat (first | exact Below.refl _ _ | assumption | refine below_drewN ?_ _ | refine Below.drew ?_ | refine Below.alloc ?_ (by first | omega | (simp <;> omega)) _ | refine Below.setCell ?_ (by first | omega | (simp <;> omega)) _))⟩
  · have hzb : (d == 0) = false := by simp; exact hz
    cases hln : leastB n
    · cases hld : leastB d
      · have gp : 0 < Int.gcd n d := Int.gcd_pos_of_ne_zero_right _ hz
        have gl := gcd_lt n d hn1 hn2 hd1 hd2 hln hld
        have HL := Lib.hid (gcdL_two n d)
        have Hz := Lib.hid (show ∀ z ∈ [n, d], -9223372036854775808 ≤ z ∧ z ≤ 9223372036854775807 by intro z hz; simp at hz; omega)
        have bA := tdiv_bound n (Int.gcd n d)
        have bB := tdiv_bound d (Int.gcd n d)
        have hg0 : ¬ (((Int.gcd n d : Nat) : Int) = 0) := by omega
        have HA := Lib.hid (u64_quo_nat n.natAbs (Int.gcd n d) (by omega))
        have HB := Lib.hid (u64_quo_nat d.natAbs (Int.gcd n d) (by omega))
        by_cases cA : 1000000000000000000 < n.natAbs / Int.gcd n d
        · have HR : ratOk n d = false := by unfold ratOk; rw [show decide (n.natAbs / Int.gcd n d ≤ 1000000000000000000) = false from decide_eq_false (by omega)]; simp
          have HE := Lib.hid (And.intro (ratN_not HR) (ratD_not HR)); clear HR hz
          go_enter Tryd.func28, Tryd.ntmps28
          go_wp2_with (first | (go_at_call 55; with_reducible refine (isLeast_any _ _ (by omega) (by omega)).mono ?_; rintro e w1 ⟨rfl, rfl⟩))
          refine (gcdAll_any [n, d] _ 2 _ (by simp) Hz.out ?_).mono ?_
          · intro k h
            match k, h with
            | 0, _ => simp
            | 1, _ => simp
          rintro e w' ⟨rfl, nd, rfl⟩
          rw [HL.out]
          go_wp2_with fail
          generalize Int.gcd n d = g at *
          have hA := HA.out
          have hB := HB.out
          generalize hAA : n.natAbs / g = A at *
          generalize hBB : d.natAbs / g = B at *
          have HAA := Lib.hid hAA; clear hAA
          have HBB := Lib.hid hBB; clear hBB
          clear HA HB
          go_quiet ((go_at_call 57; first | (with_reducible exact Calls.quiet_of_same (magnitude_q n _ hn1 hn2)) | (with_reducible exact quiet_add_same (magnitude_q n _ hn1 hn2)) | (with_reducible exact Calls.quiet_of_same (magnitude_q d _ hd1 hd2)) | (with_reducible exact quiet_add_same (magnitude_q d _ hd1 hd2))))
          go_wp2_with fail
          exact bodyPost_ret (v := .agg #[.int .i64 0, .int .i64 0]) (by simp [results, Tryd.results28, go_sem]) rfl ⟨ret_agg2 HE.out.1.symm HE.out.2.symm, (by repeat (first | exact Below.refl _ _ | assumption | refine below_drewN ?_ _ | refine Below.drew ?_ | refine Below.alloc ?_ (by first | omega | (simp <;> omega)) _ | refine Below.setCell ?_ (by first | omega | (simp <;> omega)) _))⟩
        · by_cases cB : 1000000000000000 < d.natAbs / Int.gcd n d
          · have HR : ratOk n d = false := by unfold ratOk; rw [show decide (d.natAbs / Int.gcd n d ≤ 1000000000000000) = false from decide_eq_false (by omega)]; simp
            have HE := Lib.hid (And.intro (ratN_not HR) (ratD_not HR)); clear HR hz
            go_enter Tryd.func28, Tryd.ntmps28
            go_wp2_with (first | (go_at_call 55; with_reducible refine (isLeast_any _ _ (by omega) (by omega)).mono ?_; rintro e w1 ⟨rfl, rfl⟩))
            refine (gcdAll_any [n, d] _ 2 _ (by simp) Hz.out ?_).mono ?_
            · intro k h
              match k, h with
              | 0, _ => simp
              | 1, _ => simp
            rintro e w' ⟨rfl, nd, rfl⟩
            rw [HL.out]
            go_wp2_with fail
            generalize Int.gcd n d = g at *
            have hA := HA.out
            have hB := HB.out
            generalize hAA : n.natAbs / g = A at *
            generalize hBB : d.natAbs / g = B at *
            have HAA := Lib.hid hAA; clear hAA
            have HBB := Lib.hid hBB; clear hBB
            clear HA HB
            go_quiet ((go_at_call 57; first | (with_reducible exact Calls.quiet_of_same (magnitude_q n _ hn1 hn2)) | (with_reducible exact quiet_add_same (magnitude_q n _ hn1 hn2)) | (with_reducible exact Calls.quiet_of_same (magnitude_q d _ hd1 hd2)) | (with_reducible exact quiet_add_same (magnitude_q d _ hd1 hd2))))
            go_wp2_with fail
            exact bodyPost_ret (v := .agg #[.int .i64 0, .int .i64 0]) (by simp [results, Tryd.results28, go_sem]) rfl ⟨ret_agg2 HE.out.1.symm HE.out.2.symm, (by repeat (first | exact Below.refl _ _ | assumption | refine below_drewN ?_ _ | refine Below.drew ?_ | refine Below.alloc ?_ (by first | omega | (simp <;> omega)) _ | refine Below.setCell ?_ (by first | omega | (simp <;> omega)) _))⟩
          · have HR : ratOk n d = true := by
              unfold ratOk; rw [hln, hld]; simp
              exact ⟨⟨hz, by omega⟩, by omega⟩
            have HE := Lib.hid (And.intro (ratN_ok HR) (ratD_ok HR)); clear HR hz
            by_cases cn : n < 0
            · by_cases cd : d < 0
              · have hdn := dec_lt n cn
                have hdd := dec_lt d cd
                have HT := Lib.hid (show topV n d = ((n.natAbs / Int.gcd n d : Nat) : Int) by unfold topV; rw [if_pos (by omega)])
                have HU := Lib.hid (show belV n d = ((d.natAbs / Int.gcd n d : Nat) : Int) from rfl)
                go_enter Tryd.func28, Tryd.ntmps28
                go_wp2_with (first | (go_at_call 55; with_reducible refine (isLeast_any _ _ (by omega) (by omega)).mono ?_; rintro e w1 ⟨rfl, rfl⟩))
                refine (gcdAll_any [n, d] _ 2 _ (by simp) Hz.out ?_).mono ?_
                · intro k h
                  match k, h with
                  | 0, _ => simp
                  | 1, _ => simp
                rintro e w' ⟨rfl, nd, rfl⟩
                rw [HL.out]
                go_wp2_with fail
                generalize Int.gcd n d = g at *
                have hA := HA.out
                have hB := HB.out
                generalize hAA : n.natAbs / g = A at *
                generalize hBB : d.natAbs / g = B at *
                have HAA := Lib.hid hAA; clear hAA
                have HBB := Lib.hid hBB; clear hBB
                clear HA HB
                go_quiet ((go_at_call 57; first | (with_reducible exact Calls.quiet_of_same (magnitude_q n _ hn1 hn2)) | (with_reducible exact quiet_add_same (magnitude_q n _ hn1 hn2)) | (with_reducible exact Calls.quiet_of_same (magnitude_q d _ hd1 hd2)) | (with_reducible exact quiet_add_same (magnitude_q d _ hd1 hd2))))
                go_wp2_with fail
                exact bodyPost_ret (v := .agg #[.int .i64 (A : Int), .int .i64 (B : Int)]) (by simp [results, Tryd.results28, go_sem]) rfl ⟨ret_agg2 (HE.out.1.trans HT.out).symm (HE.out.2.trans HU.out).symm, (by repeat (first | exact Below.refl _ _ | assumption | refine below_drewN ?_ _ | refine Below.drew ?_ | refine Below.alloc ?_ (by first | omega | (simp <;> omega)) _ | refine Below.setCell ?_ (by first | omega | (simp <;> omega)) _))⟩
              · have hdn := dec_lt n cn
                have hdd := dec_ge d cd
                have HT := Lib.hid (show topV n d = -((n.natAbs / Int.gcd n d : Nat) : Int) by unfold topV; rw [if_neg (by omega)])
                have HU := Lib.hid (show belV n d = ((d.natAbs / Int.gcd n d : Nat) : Int) from rfl)
                go_enter Tryd.func28, Tryd.ntmps28
                go_wp2_with (first | (go_at_call 55; with_reducible refine (isLeast_any _ _ (by omega) (by omega)).mono ?_; rintro e w1 ⟨rfl, rfl⟩))
                refine (gcdAll_any [n, d] _ 2 _ (by simp) Hz.out ?_).mono ?_
                · intro k h
                  match k, h with
                  | 0, _ => simp
                  | 1, _ => simp
                rintro e w' ⟨rfl, nd, rfl⟩
                rw [HL.out]
                go_wp2_with fail
                generalize Int.gcd n d = g at *
                have hA := HA.out
                have hB := HB.out
                generalize hAA : n.natAbs / g = A at *
                generalize hBB : d.natAbs / g = B at *
                have HAA := Lib.hid hAA; clear hAA
                have HBB := Lib.hid hBB; clear hBB
                clear HA HB
                go_quiet ((go_at_call 57; first | (with_reducible exact Calls.quiet_of_same (magnitude_q n _ hn1 hn2)) | (with_reducible exact quiet_add_same (magnitude_q n _ hn1 hn2)) | (with_reducible exact Calls.quiet_of_same (magnitude_q d _ hd1 hd2)) | (with_reducible exact quiet_add_same (magnitude_q d _ hd1 hd2))))
                go_wp2_with fail
                exact bodyPost_ret (v := .agg #[.int .i64 (-(A : Int)), .int .i64 (B : Int)]) (by simp [results, Tryd.results28, go_sem]) rfl ⟨ret_agg2 (HE.out.1.trans HT.out).symm (HE.out.2.trans HU.out).symm, (by repeat (first | exact Below.refl _ _ | assumption | refine below_drewN ?_ _ | refine Below.drew ?_ | refine Below.alloc ?_ (by first | omega | (simp <;> omega)) _ | refine Below.setCell ?_ (by first | omega | (simp <;> omega)) _))⟩
            · by_cases cd : d < 0
              · have hdn := dec_ge n cn
                have hdd := dec_lt d cd
                have HT := Lib.hid (show topV n d = -((n.natAbs / Int.gcd n d : Nat) : Int) by unfold topV; rw [if_neg (by omega)])
                have HU := Lib.hid (show belV n d = ((d.natAbs / Int.gcd n d : Nat) : Int) from rfl)
                go_enter Tryd.func28, Tryd.ntmps28
                go_wp2_with (first | (go_at_call 55; with_reducible refine (isLeast_any _ _ (by omega) (by omega)).mono ?_; rintro e w1 ⟨rfl, rfl⟩))
                refine (gcdAll_any [n, d] _ 2 _ (by simp) Hz.out ?_).mono ?_
                · intro k h
                  match k, h with
                  | 0, _ => simp
                  | 1, _ => simp
                rintro e w' ⟨rfl, nd, rfl⟩
                rw [HL.out]
                go_wp2_with fail
                generalize Int.gcd n d = g at *
                have hA := HA.out
                have hB := HB.out
                generalize hAA : n.natAbs / g = A at *
                generalize hBB : d.natAbs / g = B at *
                have HAA := Lib.hid hAA; clear hAA
                have HBB := Lib.hid hBB; clear hBB
                clear HA HB
                go_quiet ((go_at_call 57; first | (with_reducible exact Calls.quiet_of_same (magnitude_q n _ hn1 hn2)) | (with_reducible exact quiet_add_same (magnitude_q n _ hn1 hn2)) | (with_reducible exact Calls.quiet_of_same (magnitude_q d _ hd1 hd2)) | (with_reducible exact quiet_add_same (magnitude_q d _ hd1 hd2))))
                go_wp2_with fail
                exact bodyPost_ret (v := .agg #[.int .i64 (-(A : Int)), .int .i64 (B : Int)]) (by simp [results, Tryd.results28, go_sem]) rfl ⟨ret_agg2 (HE.out.1.trans HT.out).symm (HE.out.2.trans HU.out).symm, (by repeat (first | exact Below.refl _ _ | assumption | refine below_drewN ?_ _ | refine Below.drew ?_ | refine Below.alloc ?_ (by first | omega | (simp <;> omega)) _ | refine Below.setCell ?_ (by first | omega | (simp <;> omega)) _))⟩
              · have hdn := dec_ge n cn
                have hdd := dec_ge d cd
                have HT := Lib.hid (show topV n d = ((n.natAbs / Int.gcd n d : Nat) : Int) by unfold topV; rw [if_pos (by omega)])
                have HU := Lib.hid (show belV n d = ((d.natAbs / Int.gcd n d : Nat) : Int) from rfl)
                go_enter Tryd.func28, Tryd.ntmps28
                go_wp2_with (first | (go_at_call 55; with_reducible refine (isLeast_any _ _ (by omega) (by omega)).mono ?_; rintro e w1 ⟨rfl, rfl⟩))
                refine (gcdAll_any [n, d] _ 2 _ (by simp) Hz.out ?_).mono ?_
                · intro k h
                  match k, h with
                  | 0, _ => simp
                  | 1, _ => simp
                rintro e w' ⟨rfl, nd, rfl⟩
                rw [HL.out]
                go_wp2_with fail
                generalize Int.gcd n d = g at *
                have hA := HA.out
                have hB := HB.out
                generalize hAA : n.natAbs / g = A at *
                generalize hBB : d.natAbs / g = B at *
                have HAA := Lib.hid hAA; clear hAA
                have HBB := Lib.hid hBB; clear hBB
                clear HA HB
                go_quiet ((go_at_call 57; first | (with_reducible exact Calls.quiet_of_same (magnitude_q n _ hn1 hn2)) | (with_reducible exact quiet_add_same (magnitude_q n _ hn1 hn2)) | (with_reducible exact Calls.quiet_of_same (magnitude_q d _ hd1 hd2)) | (with_reducible exact quiet_add_same (magnitude_q d _ hd1 hd2))))
                go_wp2_with fail
                exact bodyPost_ret (v := .agg #[.int .i64 (A : Int), .int .i64 (B : Int)]) (by simp [results, Tryd.results28, go_sem]) rfl ⟨ret_agg2 (HE.out.1.trans HT.out).symm (HE.out.2.trans HU.out).symm, (by repeat (first | exact Below.refl _ _ | assumption | refine below_drewN ?_ _ | refine Below.drew ?_ | refine Below.alloc ?_ (by first | omega | (simp <;> omega)) _ | refine Below.setCell ?_ (by first | omega | (simp <;> omega)) _))⟩
      · have HR : ratOk n d = false := by unfold ratOk; rw [hld]; simp
        have HE := Lib.hid (And.intro (ratN_not HR) (ratD_not HR)); clear HR hz
        go_enter Tryd.func28, Tryd.ntmps28
        go_wp2_with (first | (go_at_call 55; with_reducible refine (isLeast_any _ _ (by omega) (by omega)).mono ?_; rintro e w1 ⟨rfl, rfl⟩))
        exact bodyPost_ret (v := .agg #[.int .i64 0, .int .i64 0]) (by simp [results, Tryd.results28, go_sem]) rfl ⟨ret_agg2 HE.out.1.symm HE.out.2.symm, (by repeat (first | exact Below.refl _ _ | assumption | refine below_drewN ?_ _ | refine Below.drew ?_ | refine Below.alloc ?_ (by first | omega | (simp <;> omega)) _ | refine Below.setCell ?_ (by first | omega | (simp <;> omega)) _))⟩
    · have HR : ratOk n d = false := by unfold ratOk; rw [hln]; simp
      have HE := Lib.hid (And.intro (ratN_not HR) (ratD_not HR)); clear HR hz
      go_enter Tryd.func28, Tryd.ntmps28
      go_wp2_with (first | (go_at_call 55; with_reducible refine (isLeast_any _ _ (by omega) (by omega)).mono ?_; rintro e w1 ⟨rfl, rfl⟩))
      exact bodyPost_ret (v := .agg #[.int .i64 0, .int .i64 0]) (by simp [results, Tryd.results28, go_sem]) rfl ⟨ret_agg2 HE.out.1.symm HE.out.2.symm, (by repeat (first | exact Below.refl _ _ | assumption | refine below_drewN ?_ _ | refine Below.drew ?_ | refine Below.alloc ?_ (by first | omega | (simp <;> omega)) _ | refine Below.setCell ?_ (by first | omega | (simp <;> omega)) _))⟩

end Go.Proofs.YtkmfejdmdiemaaaDoor
