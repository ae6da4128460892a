/- Contracts of CrossingOf and ThroughSpots, of the program and of the reference. -/
import Derived.Test.YthdaoadleeelnaaHalf4
import Derived.Test.YthdaoadleeelnaaSpot2
import Derived.Test.YthdaoadleeelnaaNew
namespace Go.Proofs.Ythdaoadleeelnaa
open Go.ChangeShapes Go.WideShapes Go.ChangeAt Go.RowKit
attribute [local go_sem ↓] Go.wp_at_zero Go.wp_at_succ
set_option linter.unusedVariables false

/-- The crossing of two borders: the determinants, with the sign of the first taken out. -/
def cxD (a b c a' b' c' : Int) : Int := a * b' - a' * b

def cxX (a b c a' b' c' : Int) : Int := c * b' - c' * b

def cxY (a b c a' b' c' : Int) : Int := a * c' - a' * c

def cxS (a b c a' b' c' n : Int) : Int := if cxD a b c a' b' c' < 0 then -n else n
/-- CrossingOf's results. -/
def coG (a b c a' b' c' : Int) : Bool := halfOkV a b c && halfOkV a' b' c'

def coOk (a b c a' b' c' : Int) : Bool := coG a b c a' b' c' && spOk (cxS a b c a' b' c' (cxX a b c a' b' c')) (cxS a b c a' b' c' (cxY a b c a' b' c')) (cxS a b c a' b' c' (cxD a b c a' b' c'))

def coX (a b c a' b' c' : Int) : Int := if coG a b c a' b' c' then spX (cxS a b c a' b' c' (cxX a b c a' b' c')) (cxS a b c a' b' c' (cxY a b c a' b' c')) (cxS a b c a' b' c' (cxD a b c a' b' c')) else 0

def coY (a b c a' b' c' : Int) : Int := if coG a b c a' b' c' then spY (cxS a b c a' b' c' (cxX a b c a' b' c')) (cxS a b c a' b' c' (cxY a b c a' b' c')) (cxS a b c a' b' c' (cxD a b c a' b' c')) else 0

def coD (a b c a' b' c' : Int) : Int := if coG a b c a' b' c' then spD (cxS a b c a' b' c' (cxX a b c a' b' c')) (cxS a b c a' b' c' (cxY a b c a' b' c')) (cxS a b c a' b' c' (cxD a b c a' b' c')) else 0

theorem coG_no {a b c a' b' c' : Int} (h : coG a b c a' b' c' = false) : coX a b c a' b' c' = 0 ∧ coY a b c a' b' c' = 0 ∧ coD a b c a' b' c' = 0 ∧ coOk a b c a' b' c' = false := by
  unfold coX coY coD coOk; rw [h]; exact ⟨rfl, rfl, rfl, rfl⟩

theorem coG_yes {a b c a' b' c' : Int} (h : coG a b c a' b' c' = true) {s t u : Int} (hs : cxS a b c a' b' c' (cxX a b c a' b' c') = s) (ht : cxS a b c a' b' c' (cxY a b c a' b' c') = t) (hu : cxS a b c a' b' c' (cxD a b c a' b' c') = u) : spX s t u = coX a b c a' b' c' ∧ spY s t u = coY a b c a' b' c' ∧ spD s t u = coD a b c a' b' c' ∧ spOk s t u = coOk a b c a' b' c' := by
  unfold coX coY coD coOk; rw [h, hs, ht, hu]; exact ⟨rfl, rfl, rfl, by simp⟩

theorem coG_flat {a b c a' b' c' : Int} (h : cxD a b c a' b' c' = 0) : coX a b c a' b' c' = 0 ∧ coY a b c a' b' c' = 0 ∧ coD a b c a' b' c' = 0 ∧ coOk a b c a' b' c' = false := by
  have e : ∀ x y : Int, spOk x y 0 = false := by intro x y; unfold spOk; rfl
  have k : cxS a b c a' b' c' (cxD a b c a' b' c') = 0 := by unfold cxS; rw [h]; rfl
  unfold coX coY coD coOk spX spY spD
  rw [k, e]
  simp

theorem cx_bounds {a b c a' b' c' : Int} (h : halfOkV a b c = true) (h' : halfOkV a' b' c' = true) :
    (-5000000000000 ≤ c * b' ∧ c * b' ≤ 5000000000000) ∧ (-5000000000000 ≤ c' * b ∧ c' * b ≤ 5000000000000) ∧ (-5000000000000 ≤ a * c' ∧ a * c' ≤ 5000000000000) ∧ (-5000000000000 ≤ a' * c ∧ a' * c ≤ 5000000000000) ∧ (-2500000000 ≤ a * b' ∧ a * b' ≤ 2500000000) ∧ (-2500000000 ≤ a' * b ∧ a' * b ≤ 2500000000) := by
  have b1 := halfOkV_bounds h
  have b2 := halfOkV_bounds h'
  have m1 := mul_range c b' 100000000 50000 (by omega) (by omega) (by omega) (by omega)
  have m2 := mul_range c' b 100000000 50000 (by omega) (by omega) (by omega) (by omega)
  have m3 := mul_range a c' 50000 100000000 (by omega) (by omega) (by omega) (by omega)
  have m4 := mul_range a' c 50000 100000000 (by omega) (by omega) (by omega) (by omega)
  have m5 := mul_range a b' 50000 50000 (by omega) (by omega) (by omega) (by omega)
  have m6 := mul_range a' b 50000 50000 (by omega) (by omega) (by omega) (by omega)
  refine ⟨⟨?_, ?_⟩, ⟨?_, ?_⟩, ⟨?_, ?_⟩, ⟨?_, ?_⟩, ⟨?_, ?_⟩, ⟨?_, ?_⟩⟩ <;> omega

end Go.Proofs.Ythdaoadleeelnaa
