/- The walk of the law FnExactParseInt. -/
import Derived.Test.YtkcalnahiabejaaDoorPrs2
namespace Go.Proofs.YtkcalnahiabejaaDoor
open Go.ChangeShapes Go.WideShapes Go.ChangeAt Go.RowKit
attribute [local go_sem ↓] Go.wp_at_zero Go.wp_at_succ
set_option linter.unusedVariables false

theorem sParseInt_lit {s : ByteArray} {o : Option Int} (h : pI s.data.toList = o) (w : World) (hs : s.size ≤ 1048576) :
    Calls Tryd.prog 14 #[.string s] w fun e w' => e = .returned (PRes o) ∧ Below w.heap.size w w' := by
  subst h; exact sParseInt_any s w hs

theorem iParseInt_lit {s : ByteArray} {o : Option Int} (h : pI s.data.toList = o) (w : World) (ht : Tab10 w) (he : Errs w) (hs : s.size ≤ 281474976710656) :
    Calls Tryd.prog 15 #[.string s] w fun e w' => e = .returned (PRes o) ∧ Below w.heap.size w w' := by
  subst h; exact iParseInt_any s w ht he hs

set_option maxHeartbeats 1000000 in
theorem exParseInt_walk (s : ByteArray) (hs : s.size ≤ maxLen) (w : World) (ht : Tab10 w) (he : Errs w) :
    Calls Tryd.prog 5 #[.string s] w fun e w' => e = .returned (.bool true) ∧ Below w.heap.size w w' := by
  have HT := Lib.hid ht; clear ht
  have HE := Lib.hid he; clear he
  unfold maxLen at hs
  by_cases hz : 1048576 < s.size
  · go_enter Tryd.func5, Tryd.ntmps5
    go_wp2
    go_ret
    exact ⟨rfl, (by repeat (first | exact Below.refl _ _ | assumption | refine below_drewN ?_ _ | refine Below.drew ?_ | refine Below.alloc ?_ (by first | omega | (simp <;> omega)) _ | refine Below.setCell ?_ (by first | omega | (simp <;> omega)) _))⟩
  · obtain ⟨o, ho⟩ : ∃ o, pI s.data.toList = o := ⟨_, rfl⟩
    have HO := Lib.hid ho; clear ho
    cases o
    all_goals
      go_enter Tryd.func5, Tryd.ntmps5
      go_wp2_with fail
      go_at_call 14; refine (sParseInt_lit HO.out _ (by omega)).mono ?_; rintro e w1 ⟨rfl, hb1⟩
      have HT1 := Lib.hid (HT.out.step hb1)
      have HE1 := Lib.hid (HE.out.step hb1)
      simp only [PRes]
      go_wp2_with fail
      go_at_call 15; refine (iParseInt_lit HO.out _ HT1.out HE1.out (by omega)).mono ?_; rintro e w2 ⟨rfl, hb2⟩
      simp only [PRes]
      go_wp2_with fail
      go_ret
      exact ⟨rfl, hb1.trans (hb2.mono hb1.size)⟩

end Go.Proofs.YtkcalnahiabejaaDoor
