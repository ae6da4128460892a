/- The walks of the laws on integers: each law, called with whatever integers, returns true. -/
import Derived.Test.YtimeppeabokgeaaGcd
namespace Go.Proofs.Ytimeppeabokgeaa
open Go.ChangeShapes Go.WideShapes Go.ChangeAt Go.RowKit
attribute [local go_sem ↓] Go.wp_at_zero Go.wp_at_succ
set_option linter.unusedVariables false

set_option maxHeartbeats 400000 in
theorem exGcdOf_walk (a : Int) (ha : I64 a) (b : Int) (hb : I64 b) (w : World) :
    Calls Try.prog 7 #[.int .i64 a, .int .i64 b] w fun e w' => e = .returned (.bool true) ∧ Below w.heap.size w w' := by
  obtain ⟨ha1, ha2⟩ := ha
  obtain ⟨hb1, hb2⟩ := hb
  go_enter Try.func7, Try.ntmps7
  go_wp2_with (first | (go_at_call 16; refine (sGcdOf_any _ _ _ ha1 ha2 hb1 hb2).mono ?_; rintro e w1 ⟨rfl, nd, rfl⟩) | (go_at_call 17; refine (iGcdOf_any _ _ _ ha1 ha2 hb1 hb2).mono ?_; rintro e w1 ⟨rfl, hbel⟩))
  go_ret
  exact ⟨rfl, (below_drewN (Below.refl _ _) _).trans hbel⟩

end Go.Proofs.Ytimeppeabokgeaa
