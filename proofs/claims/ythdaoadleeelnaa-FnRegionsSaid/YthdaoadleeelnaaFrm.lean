/- The walk of the law FnExactFrameHalves. -/
import Derived.Test.YthdaoadleeelnaaHs
namespace Go.Proofs.Ythdaoadleeelnaa
open Go.ChangeShapes Go.WideShapes Go.ChangeAt Go.RowKit
attribute [local go_sem ↓] Go.wp_at_zero Go.wp_at_succ
set_option linter.unusedVariables false

theorem eqHalfS_same (A A' : Option Addr) (n n' c c' : Nat) (hs : List Hp) (w : World) (hn : n = hs.length) (hn' : n' = hs.length) (hA : HsAt w w.heap.size A hs) (hA' : HsAt w w.heap.size A' hs) (hm : n ≤ 4611686018427387904) :
    Calls Try.prog 14 #[.slice A n c, .slice A' n' c'] w fun e w' => e = .returned (.bool true) ∧ Below w.heap.size w w' :=
  (eqHalfS_any A A' n n' c c' hs hs w hn hn' hA hA' hm (by omega)).mono fun e w' ⟨he, hb⟩ => ⟨by rw [he]; simp, hb⟩

theorem HsAt.step {w w' : World} {A : Option Addr} {hs : List Hp} (h : HsAt w w.heap.size A hs) (hb : Below w.heap.size w w') : HsAt w' w'.heap.size A hs := (h.below hb).more hb.size

theorem grown_belowH {w w1 : World} {B g : Nat} (h : w.grownBy w1 (some g)) (hB : B ≤ w.heap.size) (hg : B ≤ g) : Below B w w1 :=
  (Below.refl B w).grown h hB (by intro k e; injection e with e; omega)

theorem held_lit {q : Int} (A : Option Addr) (n c : Nat) (hs : List Hp) (m : Int) (w : World) (hn : n = hs.length) (hA : HsAt w w.heap.size A hs) (hm : MarkedTo hs m n) (hl : n ≤ 1000000000) (h1 : 0 ≤ m) (h2 : m ≤ 1000000000) (hq : m + 3 * n = q) :
    Calls Try.prog 16 #[.slice A n c, .int .i64 m] w fun e w' => e = .returned (.int .i64 q) ∧ w = w' := by
  subst hq; exact heldHalfS_any A n c hs m w hn hA hm hl h1 h2

theorem OwnH.of_len {w : World} {B n c : Nat} {A : Option Addr} {hs : List Hp} (h : OwnH w B (.slice A n c) hs) : HsAt w w.heap.size A hs := h.reads.2

set_option maxHeartbeats 1000000 in
set_option maxRecDepth 100000 in
theorem exFrameHalves_walk (w : World) :
    Calls Try.prog 3 #[] w fun e w' => e = .returned (.bool true) ∧ Below w.heap.size w w' := by
  go_enter Try.func3, Try.ntmps3
  go_wp2_with fail
  go_at_call 12; refine (sFrameHalves_any w).mono ?_; rintro e wa ⟨g0, c0, rfl, hO0, hg0, hb0⟩
  have SA := Lib.hid hO0.reads.2
  have B0 := Lib.hid hb0
  clear hO0 hb0
  go_wp2_with fail
  go_at_call 13; refine (iFrameHalves_any wa).mono ?_; rintro e wb ⟨g1, c1, rfl, hO1, hg1, hb1⟩
  have O1 := Lib.hid hO1
  have B1 := Lib.hid hb1
  have hsz1 := hb1.size
  clear hO1 hb1
  go_wp2_with fail
  go_at_call 14; refine (eqHalfS_same _ _ _ _ _ _ frameL wb rfl rfl O1.out.reads.2 (SA.out.step B1.out) (by decide)).mono ?_; rintro e wc ⟨rfl, hb2⟩
  have O2 := Lib.hid (O1.out.kept hb2)
  have B2 := Lib.hid (B1.out.trans (hb2.mono hsz1))
  have hsz2 := B2.out.size
  clear O1 B1 hb2 hsz1
  go_wp2_with fail
  go_at_call 15; refine (markHalfS_any g1 c1 frameL.length wa.heap.size frameL 1 wc O2.out (by decide) (by decide) (by decide)).mono ?_; rintro e wd ⟨hs', hl', he, hO3, hM3, hG3⟩
  rw [show (1 : Int) + 3 * (frameL.length : Int) = 13 from rfl] at he
  subst he
  have O3 := Lib.hid hO3
  have M3 := Lib.hid hM3
  have B3 := Lib.hid (B2.out.trans (grown_belowH hG3 hsz2 hg1))
  have hsz3 := B3.out.size
  have L3 := Lib.hid hl'
  clear hO3 hM3 hG3 O2 B2 hl' hsz2
  go_wp2_with fail
  go_at_call 16; refine (held_lit (q := 13) _ frameL.length _ hs' 1 wd L3.out.symm O3.out.of_len M3.out (by decide) (by decide) (by decide) (by decide)).mono ?_; rintro e w' ⟨rfl, rfl⟩
  go_wp2_with fail
  go_at_call 13; refine (iFrameHalves_any wd).mono ?_; rintro e we ⟨g2, c2, rfl, hO4, hg4, hb4⟩
  have R4 := Lib.hid hO4.of_len
  have Rv := Lib.hid (O3.out.of_len.step hb4)
  have B4 := Lib.hid (B3.out.trans (hb4.mono hsz3))
  have hsz4 := B4.out.size
  clear hO4 hb4 O3 B3 hsz3
  go_wp2_with fail
  go_at_call 14; refine (eqHalfS_same _ _ _ _ _ _ frameL we rfl rfl R4.out (SA.out.step B4.out) (by decide)).mono ?_; rintro e wf ⟨rfl, hb5⟩
  have Rw := Lib.hid (Rv.out.step hb5)
  have B5 := Lib.hid (B4.out.trans (hb5.mono hsz4))
  clear hb5 R4 Rv B4 hsz4
  go_wp2_with fail
  go_at_call 16; refine (held_lit (q := 13) _ frameL.length _ hs' 1 wf L3.out.symm Rw.out M3.out (by decide) (by decide) (by decide) (by decide)).mono ?_; rintro e w' ⟨rfl, rfl⟩
  go_wp2_with fail
  go_ret
  exact ⟨rfl, B0.out.trans (B5.out.mono B0.out.size)⟩

end Go.Proofs.Ythdaoadleeelnaa
