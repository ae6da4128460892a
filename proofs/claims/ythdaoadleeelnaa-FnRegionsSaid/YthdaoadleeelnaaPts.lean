/- Points of the plane and their reduced spots (plain). -/
import Derived.Test.YthdaoadleeelnaaRn5
import Derived.Test.YthdaoadleeelnaaRn9
namespace Go.Proofs.Ythdaoadleeelnaa
open Go.ChangeShapes Go.WideShapes Go.ChangeAt Go.RowKit
attribute [local go_sem ↓] Go.wp_at_zero Go.wp_at_succ
set_option linter.unusedVariables false

theorem natAbs_quoV (n : Int) (g : Nat) : (quoV n g).natAbs = n.natAbs / g := by unfold quoV; generalize n.natAbs / g = q; split <;> omega

theorem gcdL3_eq (x y d : Int) : gcdL [x, y, d] = Nat.gcd (Nat.gcd x.natAbs y.natAbs) d.natAbs := by simp [gcdL]

theorem gcdL3_reduced (x y d : Int) (h : 0 < gcdL [x, y, d]) : gcdL [quoV x (gcdL [x, y, d]), quoV y (gcdL [x, y, d]), quoV d (gcdL [x, y, d])] = 1 := by
  rw [gcdL3_eq (quoV x _), natAbs_quoV, natAbs_quoV, natAbs_quoV]
  have e := gcdL3_eq x y d
  generalize gcdL [x, y, d] = g at *
  have d3 : g ∣ d.natAbs := by rw [e]; exact Nat.gcd_dvd_right _ _
  have d0 : g ∣ Nat.gcd x.natAbs y.natAbs := by rw [e]; exact Nat.gcd_dvd_left _ _
  have d1 : g ∣ x.natAbs := Nat.dvd_trans d0 (Nat.gcd_dvd_left _ _)
  have d2 : g ∣ y.natAbs := Nat.dvd_trans d0 (Nat.gcd_dvd_right _ _)
  rw [Nat.gcd_div d1 d2, Nat.gcd_div d0 d3, ← e, Nat.div_self h]

theorem spOk_of {x y d : Int} (hx : -1000 * d ≤ x ∧ x ≤ 1000 * d) (hy : -1000 * d ≤ y ∧ y ≤ 1000 * d) (hd : 1 ≤ d ∧ d ≤ 5000000000) : spOk x y d = true := by
  have hg : 0 < gcdL [x, y, d] := by
    rw [gcdL3_eq]; exact Nat.gcd_pos_of_pos_right _ (by omega)
  have hd1 : gcdL [x, y, d] ∣ x.natAbs := by rw [gcdL3_eq]; exact Nat.dvd_trans (Nat.gcd_dvd_left _ _) (Nat.gcd_dvd_left _ _)
  have hd2 : gcdL [x, y, d] ∣ y.natAbs := by rw [gcdL3_eq]; exact Nat.dvd_trans (Nat.gcd_dvd_left _ _) (Nat.gcd_dvd_right _ _)
  have hgd : gcdL [x, y, d] ∣ d.natAbs := by rw [gcdL3_eq]; exact Nat.gcd_dvd_right _ _
  have hr := gcdL3_reduced x y d hg
  have q1 : 1 ≤ d.natAbs / gcdL [x, y, d] := Nat.div_pos (Nat.le_of_dvd (by omega) hgd) hg
  have q2 : d.natAbs / gcdL [x, y, d] ≤ d.natAbs := Nat.div_le_self _ _
  have b1 : x.natAbs / gcdL [x, y, d] ≤ 1000 * (d.natAbs / gcdL [x, y, d]) := by
    rw [← Nat.mul_div_assoc _ hgd]; exact Nat.div_le_div_right (by omega)
  have b2 : y.natAbs / gcdL [x, y, d] ≤ 1000 * (d.natAbs / gcdL [x, y, d]) := by
    rw [← Nat.mul_div_assoc _ hgd]; exact Nat.div_le_div_right (by omega)
  have e3 : quoV d (gcdL [x, y, d]) = ((d.natAbs / gcdL [x, y, d] : Nat) : Int) := by unfold quoV; rw [if_pos (by omega)]
  have e1 := natAbs_quoV x (gcdL [x, y, d])
  have e2 := natAbs_quoV y (gcdL [x, y, d])
  unfold spOk leastB spotOkV
  rw [hr]
  unfold inB
  simp only [Bool.and_eq_true, Bool.not_eq_true', decide_eq_true_eq, decide_eq_false_iff_not, and_true]
  rw [e3]
  generalize d.natAbs / gcdL [x, y, d] = Q at *
  generalize quoV x (gcdL [x, y, d]) = X at *
  generalize quoV y (gcdL [x, y, d]) = Y at *
  generalize x.natAbs / gcdL [x, y, d] = U at *
  generalize y.natAbs / gcdL [x, y, d] = V at *
  omega

theorem quoV_mul {x : Int} {g : Nat} (h : g ∣ x.natAbs) : x = quoV x g * (g : Int) := by
  obtain ⟨q, hq⟩ := h
  unfold quoV
  rcases Nat.eq_zero_or_pos g with e | e
  · subst e; have : x = 0 := by omega
    subst this; simp
  · rw [hq, Nat.mul_div_cancel_left _ e]
    have : ((g * q : Nat) : Int) = (q : Int) * (g : Int) := by rw [Int.natCast_mul, Int.mul_comm]
    split
    · omega
    · rw [Int.neg_mul]; omega

theorem spOk_out {x y d : Int} (h : spOk x y d = true) : 1 ≤ d ∧ spotOkV (spX x y d) (spY x y d) (spD x y d) = true ∧ gcdL [spX x y d, spY x y d, spD x y d] = 1 ∧ 1 ≤ spD x y d ∧ ∃ g : Int, 1 ≤ g ∧ x = spX x y d * g ∧ y = spY x y d * g ∧ d = spD x y d * g := by
  unfold spX spY spD
  rw [h]
  simp only [if_true]
  unfold spOk at h
  simp only [Bool.and_eq_true, decide_eq_true_eq] at h
  have h3 := h.2
  have h1 := h.1.1.1
  have hg : 0 < gcdL [x, y, d] := by rw [gcdL3_eq]; exact Nat.gcd_pos_of_pos_right _ (by omega)
  unfold spotOkV at h3
  simp only [Bool.and_eq_true, decide_eq_true_eq] at h3
  have hD := ((inB_iff _ _ _).1 h3.1).1
  exact ⟨h1, h.2, h3.2.2.2, hD, (gcdL [x, y, d] : Nat), by omega,
    quoV_mul (by rw [gcdL3_eq]; exact Nat.dvd_trans (Nat.gcd_dvd_left _ _) (Nat.gcd_dvd_left _ _)),
    quoV_mul (by rw [gcdL3_eq]; exact Nat.dvd_trans (Nat.gcd_dvd_left _ _) (Nat.gcd_dvd_right _ _)),
    quoV_mul (by rw [gcdL3_eq]; exact Nat.gcd_dvd_right _ _)⟩
/-- Two points have the same reduced spot iff they are the same place. -/
theorem spot_same {x y d x' y' d' : Int} (h : spOk x y d = true) (h' : spOk x' y' d' = true) : same3 (spX x y d) (spY x y d) (spD x y d) (spX x' y' d') (spY x' y' d') (spD x' y' d') = true ↔ (x * d' = x' * d ∧ y * d' = y' * d) := by
  obtain ⟨_, _, a1, a2, g, a3, a4, a5, a6⟩ := spOk_out h
  obtain ⟨_, _, b1, b2, g', b3, b4, b5, b6⟩ := spOk_out h'
  exact same3_iff a3 b3 a2 b2 a1 b1 a4 a5 a6 b4 b5 b6

/-! Which points of a border lie inside. -/
def ptIn (L : List Hp) (h g : Hp) : Bool := insV L (pX h g) (pY h g) (pD h g)

def samePt (h g g' : Hp) : Prop := pX h g * pD h g' = pX h g' * pD h g ∧ pY h g * pD h g' = pY h g' * pD h g
instance (h g g' : Hp) : Decidable (samePt h g g') := by unfold samePt; infer_instance
/-- What l05IsEdge asks. -/
def EdgeI (L : List Hp) (h : Hp) : Prop := ∃ g ∈ L, ∃ g' ∈ L, ptIn L h g = true ∧ ptIn L h g' = true ∧ ¬ samePt h g g'

theorem pt_bounds {h g : Hp} (hh : okH h = true) (hg : okH g = true) : (-20000000000000 ≤ pX h g ∧ pX h g ≤ 20000000000000) ∧ (-20000000000000 ≤ pY h g ∧ pY h g ≤ 20000000000000) ∧ (0 ≤ pD h g ∧ pD h g ≤ 5000000000) := by
  obtain ⟨⟨a1, a2⟩, ⟨b1, b2⟩, c1, c2⟩ := okH_bounds hh
  obtain ⟨⟨a1', a2'⟩, ⟨b1', b2'⟩, c1', c2'⟩ := okH_bounds hg
  have m1 := mul_range h.2.2 g.2.1 100000000 50000 (by omega) (by omega) (by omega) (by omega)
  have m2 := mul_range g.2.2 h.2.1 100000000 50000 (by omega) (by omega) (by omega) (by omega)
  have m3 := mul_range h.1 g.2.2 50000 100000000 (by omega) (by omega) (by omega) (by omega)
  have m4 := mul_range g.1 h.2.2 50000 100000000 (by omega) (by omega) (by omega) (by omega)
  have m5 := mul_range h.1 g.2.1 50000 50000 (by omega) (by omega) (by omega) (by omega)
  have m6 := mul_range h.2.1 g.1 50000 50000 (by omega) (by omega) (by omega) (by omega)
  have e : crH h g = h.1 * g.2.1 - h.2.1 * g.1 := rfl
  unfold pX pY pD pS
  split <;> omega

theorem pt_spot {L : List Hp} {h g : Hp} (hh : okH h = true) (hg : okH g = true) (hi : ptIn L h g = true) : 1 ≤ pD h g ∧ spOk (pX h g) (pY h g) (pD h g) = true := by
  obtain ⟨_, _, b1, b2⟩ := pt_bounds hh hg
  unfold ptIn insV at hi
  simp only [Bool.and_eq_true, decide_eq_true_eq] at hi
  obtain ⟨f0, f1, f2, f3, f4⟩ := hi.1
  have : 1 ≤ pD h g := by omega
  exact ⟨this, spOk_of ⟨f2, f1⟩ ⟨f4, f3⟩ ⟨this, b2⟩⟩

theorem pt_self (L : List Hp) (h : Hp) : ptIn L h h = false := by
  have e : pD h h = 0 := by unfold pD pS; rw [show crH h h = 0 by unfold crH; grind]; rfl
  unfold ptIn; exact insV_out (by unfold frmV; rw [e]; simp)

theorem samePt_refl (h g : Hp) : samePt h g g := ⟨rfl, rfl⟩

theorem samePt_symm {h g g' : Hp} (h1 : samePt h g g') : samePt h g' g := ⟨h1.1.symm, h1.2.symm⟩

theorem samePt_trans {h g g' g'' : Hp} (hd : 1 ≤ pD h g') (h1 : samePt h g g') (h2 : samePt h g' g'') : samePt h g g'' := by
  obtain ⟨a, b⟩ := h1
  obtain ⟨c, d⟩ := h2
  constructor
  · exact Int.eq_of_mul_eq_mul_right (a := pD h g') (by omega) (by grind)
  · exact Int.eq_of_mul_eq_mul_right (a := pD h g') (by omega) (by grind)

/-- How far l05IsEdge has come: no point yet, or one that all points so far are the same as. -/
def Seen (L : List Hp) (h : Hp) (k : Nat) (f : Option Hp) : Prop :=
  match f with
  | none => ∀ g ∈ L.take k, ptIn L h g = false
  | some p => p ∈ L.take k ∧ ptIn L h p = true ∧ ∀ g ∈ L.take k, ptIn L h g = true → samePt h p g

theorem seen_out {L : List Hp} {h : Hp} {k : Nat} {f : Option Hp} (hs : Seen L h k f) (hk : k < L.length) (hi : ptIn L h L[k] = false) : Seen L h (k + 1) f := by
  have e := List.take_succ_eq_append_getElem hk
  cases f with
  | none =>
    intro g hg
    rw [e, List.mem_append, List.mem_singleton] at hg
    rcases hg with hg | rfl
    · exact hs g hg
    · exact hi
  | some p =>
    refine ⟨by rw [e]; exact List.mem_append_left _ hs.1, hs.2.1, fun g hg hgi => ?_⟩
    rw [e, List.mem_append, List.mem_singleton] at hg
    rcases hg with hg | rfl
    · exact hs.2.2 g hg hgi
    · rw [hi] at hgi; cases hgi

theorem seen_first {L : List Hp} {h : Hp} {k : Nat} (hs : Seen L h k none) (hk : k < L.length) (hi : ptIn L h L[k] = true) : Seen L h (k + 1) (some L[k]) := by
  have e := List.take_succ_eq_append_getElem hk
  refine ⟨by rw [e]; exact List.mem_append_right _ (List.mem_singleton_self _), hi, fun g hg hgi => ?_⟩
  rw [e, List.mem_append, List.mem_singleton] at hg
  rcases hg with hg | rfl
  · rw [hs g hg] at hgi; cases hgi
  · exact samePt_refl _ _

theorem seen_same {L : List Hp} {h p : Hp} {k : Nat} (hs : Seen L h k (some p)) (hk : k < L.length) (hi : samePt h p L[k]) : Seen L h (k + 1) (some p) := by
  have e := List.take_succ_eq_append_getElem hk
  refine ⟨by rw [e]; exact List.mem_append_left _ hs.1, hs.2.1, fun g hg hgi => ?_⟩
  rw [e, List.mem_append, List.mem_singleton] at hg
  rcases hg with hg | rfl
  · exact hs.2.2 g hg hgi
  · exact hi

theorem seen_diff {L : List Hp} {h p : Hp} {k : Nat} (hs : Seen L h k (some p)) (hk : k < L.length) (hi : ptIn L h L[k] = true) (hd : ¬ samePt h p L[k]) : EdgeI L h :=
  ⟨p, List.mem_of_mem_take hs.1, L[k], List.getElem_mem hk, hs.2.1, hi, hd⟩

theorem seen_end {L : List Hp} {h : Hp} {k : Nat} {f : Option Hp} (hs : Seen L h k f) (hk : ¬ k < L.length) (hh : okH h = true) (hL : ∀ g ∈ L, okH g = true) : ¬ EdgeI L h := by
  have e : L.take k = L := List.take_of_length_le (by omega)
  rintro ⟨g, hg, g', hg', h1, h2, h3⟩
  cases f with
  | none => unfold Seen at hs; rw [e] at hs; rw [hs g hg] at h1; cases h1
  | some p =>
    unfold Seen at hs
    rw [e] at hs
    exact h3 (samePt_trans (pt_spot hh (hL p hs.1) hs.2.1).1 (samePt_symm (hs.2.2 g hg h1)) (hs.2.2 g' hg' h2))

theorem seen_zero (L : List Hp) (h : Hp) : Seen L h 0 none := fun g hg => by simp at hg

end Go.Proofs.Ythdaoadleeelnaa
