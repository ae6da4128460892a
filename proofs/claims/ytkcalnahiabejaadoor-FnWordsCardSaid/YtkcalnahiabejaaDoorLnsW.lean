/- The walk of the law FnExactSplitLines. -/
import Derived.Test.YtkcalnahiabejaaDoorLns2
namespace Go.Proofs.YtkcalnahiabejaaDoor
open Go.ChangeShapes Go.WideShapes Go.ChangeAt Go.RowKit
attribute [local go_sem ↓] Go.wp_at_zero Go.wp_at_succ
set_option linter.unusedVariables false

theorem linesB_len (s : ByteArray) : (linesB s).length ≤ s.size + 1 := by
  have := pcsB_len s nlB
  unfold linesB linesL
  split
  · rw [List.length_dropLast]; omega
  · exact this

theorem iSplitLines_lit {ls : List ByteArray} {s : ByteArray} (h : linesB s = ls) (w : World) (hm : MaxI w) (hs : s.size ≤ 1048576) : Calls Tryd.prog 8 #[.string s] w (MadeS ls w) := by
  subst h; exact iSplitLines_any s w hm hs

theorem sSplitLines_lit {ls : List ByteArray} {s : ByteArray} (h : linesB s = ls) (w : World) (hs : s.size ≤ 1048576) : Calls Tryd.prog 7 #[.string s] w (MadeS ls w) := by
  subst h; exact sSplitLines_any s w hs

set_option maxHeartbeats 1000000 in
set_option maxRecDepth 100000 in
theorem exSplitLines_walk (s : ByteArray) (hs : s.size ≤ maxLen) (w : World) (hm : MaxI w) :
    Calls Tryd.prog 3 #[.string s] w fun e w' => e = .returned (.bool true) ∧ Below w.heap.size w w' := by
  unfold maxLen at hs
  have HM := Lib.hid hm; clear hm
  by_cases hz : 1048576 < s.size
  · go_enter Tryd.func3, Tryd.ntmps3
    go_wp2
    go_ret
    exact ⟨rfl, (by repeat (first | exact Below.refl _ _ | assumption | refine below_drewN ?_ _ | refine Below.drew ?_ | refine Below.alloc ?_ (by first | omega | (simp <;> omega)) _ | refine Below.setCell ?_ (by first | omega | (simp <;> omega)) _))⟩
  · have hl := linesB_len s
    obtain ⟨ls, hls⟩ : ∃ ls, linesB s = ls := ⟨_, rfl⟩
    rw [hls] at hl
    have HLS := Lib.hid hls
    clear hls
    go_enter Tryd.func3, Tryd.ntmps3
    go_wp2_with fail
    go_at_call 7; refine (sSplitLines_lit HLS.out w (by omega)).mono ?_; rintro e wa ⟨g0, c0, rfl, hO0, hg0, hb0⟩
    have SA := Lib.hid hO0.reads.2
    have B0 := Lib.hid hb0
    clear hO0 hb0
    go_wp2_with fail
    go_at_call 8; refine (iSplitLines_lit HLS.out wa (HM.out.step B0.out) (by omega)).mono ?_; rintro e wb ⟨g1, c1, rfl, hO1, hg1, hb1⟩
    have O1 := Lib.hid hO1
    have B1 := Lib.hid hb1
    have hsz1 := hb1.size
    clear hO1 hb1
    go_wp2_with fail
    go_at_call 9; refine (eqStringS_same _ _ _ _ _ _ ls wb rfl rfl O1.out.reads.2 (SA.out.step B1.out) (by omega)).mono ?_; rintro e wc ⟨rfl, hb2⟩
    have O2 := Lib.hid (O1.out.kept hb2)
    have B2 := Lib.hid (B1.out.trans (hb2.mono hsz1))
    have hsz2 := B2.out.size
    clear O1 B1 hb2 hsz1
    go_wp2_with fail
    go_at_call 10; refine (markStringS_any g1 c1 ls.length wa.heap.size 1 ls wc O2.out (by omega) (by decide) (by decide)).mono ?_; rintro e wd ⟨ls', hl', rfl, hO3, hM3, hG3⟩
    have O3 := Lib.hid hO3
    have M3 := Lib.hid hM3
    have B3 := Lib.hid (B2.out.trans (grown_belowS hG3 hsz2 hg1))
    have hsz3 := B3.out.size
    have L3 := Lib.hid hl'
    clear hO3 hM3 hG3 O2 B2 hl' hsz2
    go_wp2_with fail
    go_at_call 11; refine (heldStringS_any _ ls.length _ 1 ls' wd L3.out.symm O3.out.of_len M3.out (by omega) (by decide) (by decide)).mono ?_; rintro e we ⟨rfl, hb4⟩
    have O4 := Lib.hid (O3.out.kept hb4)
    have B4 := Lib.hid (B3.out.trans (hb4.mono hsz3))
    have hsz4 := B4.out.size
    clear O3 B3 hb4 hsz3
    go_wp2_with fail
    go_at_call 8; refine (iSplitLines_lit HLS.out we (HM.out.step (B0.out.trans (B4.out.mono B0.out.size))) (by omega)).mono ?_; rintro e wf ⟨g2, c2, rfl, hO5, hg5, hb5⟩
    have R5 := Lib.hid hO5.of_len
    have Rv := Lib.hid (O4.out.of_len.step hb5)
    have B5 := Lib.hid (B4.out.trans (hb5.mono hsz4))
    have hsz5 := B5.out.size
    clear hO5 hb5 O4 B4 hsz4
    go_wp2_with fail
    go_at_call 9; refine (eqStringS_same _ _ _ _ _ _ ls wf rfl rfl R5.out (SA.out.step B5.out) (by omega)).mono ?_; rintro e wg ⟨rfl, hb6⟩
    have Rw := Lib.hid (Rv.out.step hb6)
    have B6 := Lib.hid (B5.out.trans (hb6.mono hsz5))
    have hsz6 := B6.out.size
    clear hb6 R5 Rv B5 hsz5
    go_wp2_with fail
    go_at_call 11; refine (heldStringS_any _ ls.length _ 1 ls' wg L3.out.symm Rw.out M3.out (by omega) (by decide) (by decide)).mono ?_; rintro e wh ⟨rfl, hb7⟩
    go_wp2_with fail
    go_ret
    exact ⟨rfl, B0.out.trans ((B6.out.trans (hb7.mono hsz6)).mono B0.out.size)⟩

end Go.Proofs.YtkcalnahiabejaaDoor
