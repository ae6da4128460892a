/- l05Cross of the reference: the crossing of two borders, not reduced. -/
import Derived.Test.YthdaoadleeelnaaRn1
import Derived.Test.YthdaoadleeelnaaPlane
namespace Go.Proofs.Ythdaoadleeelnaa
open Go.ChangeShapes Go.WideShapes Go.ChangeAt Go.RowKit
attribute [local go_sem ↓] Go.wp_at_zero Go.wp_at_succ
set_option linter.unusedVariables false

theorem okH_bounds {h : Hp} (ho : okH h = true) : (-50000 ≤ h.1 ∧ h.1 ≤ 50000) ∧ (-50000 ≤ h.2.1 ∧ h.2.1 ≤ 50000) ∧ (-100000000 ≤ h.2.2 ∧ h.2.2 ≤ 100000000) := halfOkV_bounds ho

def PtV (g h : Hp) : Value := .agg #[.int .i64 (pX g h), .int .i64 (pY g h), .int .i64 (pD g h)]

set_option maxHeartbeats 1000000 in
set_option maxRecDepth 100000 in
theorem l05Cross_any (g h : Hp) (hg : okH g = true) (hh : okH h = true) (w : World) :
    Calls Try.prog 82 #[.agg #[.int .i64 g.1, .int .i64 g.2.1, .int .i64 g.2.2], .agg #[.int .i64 h.1, .int .i64 h.2.1, .int .i64 h.2.2]] w fun e w' => e = .returned (PtV g h) ∧ Below w.heap.size w w' := by
  obtain ⟨a, b, c⟩ := g
  obtain ⟨a', b', c'⟩ := h
  obtain ⟨⟨a1, a2⟩, ⟨b1, b2⟩, c1, c2⟩ := okH_bounds hg
  obtain ⟨⟨a1', a2'⟩, ⟨b1', b2'⟩, c1', c2'⟩ := okH_bounds hh
  clear hg hh
  simp only at a1 a2 b1 b2 c1 c2 a1' a2' b1' b2' c1' c2'
  simp only
  have m1 := mul_range c b' 100000000 50000 (by omega) (by omega) (by omega) (by omega)
  have m2 := mul_range c' b 100000000 50000 (by omega) (by omega) (by omega) (by omega)
  have m3 := mul_range a c' 50000 100000000 (by omega) (by omega) (by omega) (by omega)
  have m4 := mul_range a' c 50000 100000000 (by omega) (by omega) (by omega) (by omega)
  have m5 := mul_range a b' 50000 50000 (by omega) (by omega) (by omega) (by omega)
  have m6 := mul_range a' b 50000 50000 (by omega) (by omega) (by omega) (by omega)
  by_cases hd : a * b' - a' * b < 0
  · have HV := Lib.hid (show PtV (a, b, c) (a', b', c') = .agg #[.int .i64 (-(c * b' - c' * b)), .int .i64 (-(a * c' - a' * c)), .int .i64 (-(a * b' - a' * b))] by
      have e : crH (a, b, c) (a', b', c') = a * b' - a' * b := by unfold crH; simp only; rw [Int.mul_comm b a']
      unfold PtV pX pY pD pS
      rw [e, if_pos hd, if_pos hd, if_pos hd])
    go_enter Try.func82, Try.ntmps82
    go_wp2_with fail
    exact bodyPost_ret (v := .agg #[.int .i64 (-(c * b' - c' * b)), .int .i64 (-(a * c' - a' * c)), .int .i64 (-(a * b' - a' * b))]) (by simp [results, Try.results82, go_sem]) rfl ⟨by rw [HV.out], (by repeat (first | exact Below.refl _ _ | assumption | refine below_drewN ?_ _ | refine Below.drew ?_ | refine Below.alloc ?_ (by first | omega | (simp <;> omega)) _ | refine Below.setCell ?_ (by first | omega | (simp <;> omega)) _))⟩
  · have HV := Lib.hid (show PtV (a, b, c) (a', b', c') = .agg #[.int .i64 (c * b' - c' * b), .int .i64 (a * c' - a' * c), .int .i64 (a * b' - a' * b)] by
      have e : crH (a, b, c) (a', b', c') = a * b' - a' * b := by unfold crH; simp only; rw [Int.mul_comm b a']
      unfold PtV pX pY pD pS
      rw [e, if_neg hd, if_neg hd, if_neg hd])
    go_enter Try.func82, Try.ntmps82
    go_wp2_with fail
    exact bodyPost_ret (v := .agg #[.int .i64 (c * b' - c' * b), .int .i64 (a * c' - a' * c), .int .i64 (a * b' - a' * b)]) (by simp [results, Try.results82, go_sem]) rfl ⟨by rw [HV.out], (by repeat (first | exact Below.refl _ _ | assumption | refine below_drewN ?_ _ | refine Below.drew ?_ | refine Below.alloc ?_ (by first | omega | (simp <;> omega)) _ | refine Below.setCell ?_ (by first | omega | (simp <;> omega)) _))⟩

end Go.Proofs.Ythdaoadleeelnaa
