/- The walk of the law FnExactSplitAny. -/
import Derived.Test.YtkcalnahiabejaaSplB
namespace Go.Proofs.Ytkcalnahiabejaa
open Go.ChangeShapes Go.WideShapes Go.ChangeAt Go.RowKit
attribute [local go_sem ↓] Go.wp_at_zero Go.wp_at_succ
set_option linter.unusedVariables false

theorem eqStringS_same (A A' : Option Addr) (n n' c c' : Nat) (ls : List ByteArray) (w : World) (hn : n = ls.length) (hn' : n' = ls.length) (hA : SsAt w w.heap.size A ls) (hA' : SsAt w w.heap.size A' ls) (hm : n ≤ 4611686018427387904) :
    Calls Try.prog 8 #[.slice A n c, .slice A' n' c'] w fun e w' => e = .returned (.bool true) ∧ Below w.heap.size w w' :=
  (eqStringS_any A A' n n' c c' ls ls w hn hn' hA hA' hm (by omega)).mono fun e w' ⟨he, hb⟩ => ⟨by rw [he]; simp, hb⟩

theorem OwnS.of_len {w : World} {B n c : Nat} {A : Option Addr} {ls : List ByteArray} (h : OwnS w B (.slice A n c) ls) : SsAt w w.heap.size A ls := h.reads.2

theorem grown_belowS {w w1 : World} {B g : Nat} (h : w.grownBy w1 (some g)) (hB : B ≤ w.heap.size) (hg : B ≤ g) : Below B w w1 :=
  (Below.refl B w).grown h hB (by intro k e; injection e with e; omega)

theorem pcsB_len (s by_ : ByteArray) : (pcsB s by_).length ≤ s.size + 1 := by
  unfold pcsB
  rw [List.length_map]
  have := pcs_length (amg by_) s.data.toList []
  simpa using this

theorem iSplitAny_lit {ls : List ByteArray} {s by_ : ByteArray} (h : pcsB s by_ = ls) (w : World) (hs : s.size ≤ 1048576) (hb : by_.size ≤ 1048576) : Calls Try.prog 7 #[.string s, .string by_] w (MadeS ls w) := by
  subst h; exact iSplitAny_any s by_ w hs hb

theorem sSplitAny_lit {ls : List ByteArray} {s by_ : ByteArray} (h : pcsB s by_ = ls) (w : World) (hs : s.size ≤ 1048576) (hb : by_.size ≤ 1048576) : Calls Try.prog 6 #[.string s, .string by_] w (MadeS ls w) := by
  subst h; exact sSplitAny_any s by_ w hs hb

set_option maxHeartbeats 1000000 in
theorem exSplitAny_walk (s : ByteArray) (hs : s.size ≤ maxLen) (by_ : ByteArray) (hb : by_.size ≤ maxLen) (w : World) :
    Calls Try.prog 3 #[.string s, .string by_] w fun e w' => e = .returned (.bool true) ∧ Below w.heap.size w w' := by
  unfold maxLen at hs hb
  by_cases hz : 1048576 < s.size
  · go_enter Try.func3, Try.ntmps3
    go_wp2
    go_ret
    exact ⟨rfl, (by repeat (first | exact Below.refl _ _ | assumption | refine below_drewN ?_ _ | refine Below.drew ?_ | refine Below.alloc ?_ (by first | omega | (simp <;> omega)) _ | refine Below.setCell ?_ (by first | omega | (simp <;> omega)) _))⟩
  · by_cases hy : 1048576 < by_.size
    · go_enter Try.func3, Try.ntmps3
      go_wp2
      go_ret
      exact ⟨rfl, (by repeat (first | exact Below.refl _ _ | assumption | refine below_drewN ?_ _ | refine Below.drew ?_ | refine Below.alloc ?_ (by first | omega | (simp <;> omega)) _ | refine Below.setCell ?_ (by first | omega | (simp <;> omega)) _))⟩
    · have hl := pcsB_len s by_
      obtain ⟨ls, hls⟩ : ∃ ls, pcsB s by_ = ls := ⟨_, rfl⟩
      rw [hls] at hl
      have HLS := Lib.hid hls
      clear hls
      go_enter Try.func3, Try.ntmps3
      go_wp2_with fail
      go_at_call 6; refine (sSplitAny_lit HLS.out w (by omega) (by omega)).mono ?_; rintro e wa ⟨g0, c0, rfl, hO0, hg0, hb0⟩
      have SA := Lib.hid hO0.reads.2
      have B0 := Lib.hid hb0
      clear hO0 hb0
      go_wp2_with fail
      go_at_call 7; refine (iSplitAny_lit HLS.out wa (by omega) (by omega)).mono ?_; rintro e wb ⟨g1, c1, rfl, hO1, hg1, hb1⟩
      have O1 := Lib.hid hO1
      have B1 := Lib.hid hb1
      have hsz1 := hb1.size
      clear hO1 hb1
      go_wp2_with fail
      go_at_call 8; refine (eqStringS_same _ _ _ _ _ _ ls wb rfl rfl O1.out.reads.2 (SA.out.step B1.out) (by omega)).mono ?_; rintro e wc ⟨rfl, hb2⟩
      have O2 := Lib.hid (O1.out.kept hb2)
      have B2 := Lib.hid (B1.out.trans (hb2.mono hsz1))
      have hsz2 := B2.out.size
      clear O1 B1 hb2 hsz1
      go_wp2_with fail
      go_at_call 9; refine (markStringS_any g1 c1 ls.length wa.heap.size 1 ls wc O2.out (by omega) (by decide) (by decide)).mono ?_; rintro e wd ⟨ls', hl', rfl, hO3, hM3, hG3⟩
      have O3 := Lib.hid hO3
      have M3 := Lib.hid hM3
      have B3 := Lib.hid (B2.out.trans (grown_belowS hG3 hsz2 hg1))
      have hsz3 := B3.out.size
      have L3 := Lib.hid hl'
      clear hO3 hM3 hG3 O2 B2 hl' hsz2
      go_wp2_with fail
      go_at_call 10; refine (heldStringS_any _ ls.length _ 1 ls' wd L3.out.symm O3.out.of_len M3.out (by omega) (by decide) (by decide)).mono ?_; rintro e we ⟨rfl, hb4⟩
      have O4 := Lib.hid (O3.out.kept hb4)
      have B4 := Lib.hid (B3.out.trans (hb4.mono hsz3))
      have hsz4 := B4.out.size
      clear O3 B3 hb4 hsz3
      go_wp2_with fail
      go_at_call 7; refine (iSplitAny_lit HLS.out we (by omega) (by omega)).mono ?_; rintro e wf ⟨g2, c2, rfl, hO5, hg5, hb5⟩
      have R5 := Lib.hid hO5.of_len
      have Rv := Lib.hid (O4.out.of_len.step hb5)
      have B5 := Lib.hid (B4.out.trans (hb5.mono hsz4))
      have hsz5 := B5.out.size
      clear hO5 hb5 O4 B4 hsz4
      go_wp2_with fail
      go_at_call 8; refine (eqStringS_same _ _ _ _ _ _ ls wf rfl rfl R5.out (SA.out.step B5.out) (by omega)).mono ?_; rintro e wg ⟨rfl, hb6⟩
      have Rw := Lib.hid (Rv.out.step hb6)
      have B6 := Lib.hid (B5.out.trans (hb6.mono hsz5))
      have hsz6 := B6.out.size
      clear hb6 R5 Rv B5 hsz5
      go_wp2_with fail
      go_at_call 10; refine (heldStringS_any _ ls.length _ 1 ls' wg L3.out.symm Rw.out M3.out (by omega) (by decide) (by decide)).mono ?_; rintro e wh ⟨rfl, hb7⟩
      go_wp2_with fail
      go_ret
      exact ⟨rfl, B0.out.trans ((B6.out.trans (hb7.mono hsz6)).mono B0.out.size)⟩

end Go.Proofs.Ytkcalnahiabejaa
