/- The walk of the law FnWords. -/
import Derived.Test.YtkcalnahiabejaaDoorMkt
import Derived.Test.YtkcalnahiabejaaDoorJsp
import Derived.Test.YtkcalnahiabejaaDoorJoinW
import Derived.Test.YtkcalnahiabejaaDoorLnsW
import Derived.Test.YtkcalnahiabejaaDoorPrsW
namespace Go.Proofs.YtkcalnahiabejaaDoor
open Go.ChangeShapes Go.WideShapes Go.ChangeAt Go.RowKit
attribute [local go_sem ↓] Go.wp_at_zero Go.wp_at_succ
set_option linter.unusedVariables false

theorem bytes_stepW {w w' : World} {A : Option Addr} {n : Nat} (h : BytesAt w w.heap.size A n) (hb : Below w.heap.size w w') : BytesAt w' w'.heap.size A n := (h.below hb).mono hb.size

theorem x1_name : nameV ⟨#[120, 49]⟩ = true := by decide +kernel

theorem two_lines : (linesB ⟨#[97, 10, 98, 10]⟩).length = 2 := by decide +kernel

theorem iIsName_lit {s : ByteArray} {v : Bool} (h : nameV s = v) (w : World) (hs : s.size ≤ maxLen) :
    Calls Tryd.prog 20 #[.string s] w fun e w' => e = .returned (.bool v) ∧ w = w' := by
  rw [← h]; exact iIsName_any s w hs

set_option maxHeartbeats 1000000 in
set_option maxRecDepth 100000 in
theorem exWords_walk (A : Option Addr) (n0 c0 : Nat) (w : World) (hn : n0 ≤ maxLen) (hB : BytesAt w w.heap.size A n0) (ht : Tab10 w) (he : Errs w) (hm : MaxI w) :
    Calls Tryd.prog 6 #[.slice A n0 c0] w fun e w' => e = .returned (.bool true) ∧ Below w.heap.size w w' := by
  unfold maxLen at hn
  have HB := Lib.hid hB; clear hB
  have HT := Lib.hid ht; clear ht
  have HE := Lib.hid he; clear he
  have HM := Lib.hid hm; clear hm
  by_cases hz : 1048576 < n0
  · go_enter Tryd.func6, Tryd.ntmps6
    go_wp2
    go_ret
    exact ⟨rfl, (by repeat (first | exact Below.refl _ _ | assumption | refine below_drewN ?_ _ | refine Below.drew ?_ | refine Below.alloc ?_ (by first | omega | (simp <;> omega)) _ | refine Below.setCell ?_ (by first | omega | (simp <;> omega)) _))⟩
  · go_enter Tryd.func6, Tryd.ntmps6
    go_wp2_with fail
    go_at_call 16; refine (MakeNum_any 1 A n0 c0 w (by omega) HB.out (by omega) (by omega)).mono ?_; rintro e w1 ⟨x, hx1, hx2, rfl, hb1⟩
    have B1 := Lib.hid hb1
    have hz1 := hb1.size
    clear hb1
    go_wp2_with fail
    go_at_call 13; refine (iFormatInt_lit rfl _ (HT.out.step B1.out) (by omega) (by omega)).mono ?_; rintro e w2 ⟨rfl, hb2⟩
    have B2 := Lib.hid (B1.out.trans (hb2.mono hz1))
    have hz2 := B2.out.size
    clear hb2 B1 hz1
    have HP := Lib.hid (show pI (fmtV (x - 30000)).data.toList = some (x - 30000) by unfold fmtV; rw [bs_toList]; exact pI_itoa (by omega) (by omega))
    have hfs := fmtV_size (n := x - 30000) (by omega) (by omega)
    go_wp2_with fail
    go_at_call 15; refine (iParseInt_lit HP.out _ (HT.out.step B2.out) (HE.out.step B2.out) (by omega)).mono ?_; rintro e w3 ⟨rfl, hb3⟩
    have B3 := Lib.hid (B2.out.trans (hb3.mono hz2))
    have hz3 := B3.out.size
    clear hb3 B2 hz2 hfs
    simp only [PRes]
    generalize fmtV (x - 30000) = f at *
    go_wp2_with fail
    go_at_call 17; refine (MakeText_any A n0 c0 _ (by omega) (bytes_stepW HB.out B3.out)).mono ?_; rintro e w4 ⟨s, hs, rfl, hb4⟩
    have B4 := Lib.hid (B3.out.trans (hb4.mono hz3))
    have hz4 := B4.out.size
    clear hb4 B3 hz3
    obtain ⟨ls, hls⟩ : ∃ ls, pcsB s (bs [32]) = ls := ⟨_, rfl⟩
    have HLS := Lib.hid hls
    have HJ := Lib.hid (show joinB ls (bs [32]) = s by rw [← hls]; exact join_split s 32)
    have hll : ls.length ≤ 15 := by rw [← hls]; have := pcsB_len s (bs [32]); omega
    have hsz : sizes ls ≤ 14 := by rw [← hls]; have := pcsB_sizes s (bs [32]); omega
    clear hls
    go_wp2_with fail
    go_at_call 19; refine (iSplitAny_lit (by_ := bs [32]) HLS.out _ (by omega) (by rw [bs_size]; decide)).mono ?_; rintro e w5 ⟨g5, c5, rfl, hO5, hg5, hb5⟩
    have O5 := Lib.hid hO5
    have B5 := Lib.hid (B4.out.trans (hb5.mono hz4))
    have hz5 := B5.out.size
    clear hb5 B4 hz4 hO5
    go_wp2_with fail
    go_at_call 18; refine (iJoin_lit g5 ls.length c5 ls (bs [32]) _ (O5.out.less (Nat.zero_le _)) (by omega) (by omega) (by rw [bs_size]; decide) HJ.out).mono ?_; rintro e w6 ⟨rfl, hb6⟩
    have B6 := Lib.hid (B5.out.trans (hb6.mono hz5))
    have hz6 := B6.out.size
    clear hb6 B5 hz5 O5
    go_wp2_with fail
    go_at_call 20; refine (iIsName_lit x1_name _ (by decide +kernel)).mono ?_; rintro e w7 ⟨rfl, rfl⟩
    go_wp2_with fail
    go_at_call 8; refine (iSplitLines_lit rfl _ (HM.out.step B6.out) (by decide)).mono ?_; rintro e w8 ⟨g8, c8, rfl, hO8, hg8, hb8⟩
    rw [two_lines]
    go_wp2_with fail
    go_ret
    exact ⟨rfl, B6.out.trans (hb8.mono hz6)⟩

end Go.Proofs.YtkcalnahiabejaaDoor
