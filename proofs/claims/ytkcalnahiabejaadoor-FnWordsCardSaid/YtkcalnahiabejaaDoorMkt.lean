/- Makers of numbers and of texts. -/
import Derived.Test.YtkcalnahiabejaaDoorCur2
import Derived.Test.YtkcalnahiabejaaDoorSplP
namespace Go.Proofs.YtkcalnahiabejaaDoor
open Go.ChangeShapes Go.WideShapes Go.ChangeAt Go.RowKit
attribute [local go_sem ↓] Go.wp_at_zero Go.wp_at_succ
set_option linter.unusedVariables false

theorem blkG {w w1 : World} {g : Nat} (h : w.grownBy w1 (some g)) {b : Nat} {o : Obj} (hb : w.heap[b]? = some o) (hne : b ≠ g) : w1.heap[b]? = some o :=
  (h.block b (heap_lt hb) (by intro e; injection e with e; exact hne e)).trans hb

def NumMade (w : World) (e : Ending) (w' : World) : Prop := ∃ x : Int, 0 ≤ x ∧ x ≤ 65535 ∧ e = .returned (.int .i64 x) ∧ Below w.heap.size w w'

set_option maxHeartbeats 1000000 in
set_option maxRecDepth 100000 in
theorem MakeNum_any (m : Int) (A : Option Addr) (n c : Nat) (w : World) (hn : n ≤ 1048576) (hB : BytesAt w w.heap.size A n) (h1 : 0 ≤ m) (h2 : m ≤ 1000000) :
    Calls Tryd.prog 16 #[.slice A n c, .int .i64 m] w (NumMade w) := by
  have HB := Lib.hid hB; clear hB
  go_enter Tryd.func16, Tryd.ntmps16
  go_wp2_with fail
  go_at_call 27; refine (l26New_any m A n c _ hn HB.out h1 h2).mono ?_; rintro e w1 ⟨g, rfl, hC1, hb1⟩
  have HC1 := Lib.hid hC1
  have HS1 := Lib.hid hb1
  clear hC1 hb1
  go_wp2_with fail
  go_at_call 28; refine (l01Byte_any _ g A n c _ HC1.out).mono ?_; rintro e w2 ⟨x, hx1, hx2, rfl, hC2, hg2⟩
  have HS2 := Lib.hid (HS1.out.trans (grown_below hg2 HS1.out.size (by intro k e; injection e with e; rw [← e]; exact HC1.out.1)))
  have HC2 := Lib.hid hC2
  clear hC2 hg2 HS1 HC1
  go_wp2_with fail
  go_at_call 28; refine (l01Byte_any _ g A n c _ HC2.out).mono ?_; rintro e w3 ⟨y, hy1, hy2, rfl, hC3, hg3⟩
  have HS3 := Lib.hid (HS2.out.trans (grown_below hg3 HS2.out.size (by intro k e; injection e with e; rw [← e]; exact HC2.out.1)))
  clear hC3 hg3 HS2 HC2
  go_wp2_with fail
  go_ret
  exact ⟨x * 256 + y, by omega, by omega, rfl, HS3.out⟩

def StrPost (w : World) (B g : Nat) (A : Option Addr) (n c : Nat) (e : Ending) (w' : World) : Prop :=
  ∃ s : ByteArray, s.size ≤ 2 ∧ e = .returned (.string s) ∧ CurAt w' B g A n c ∧ w.grownBy w' (some g)

def fiveL : Array Value := #[.string ⟨#[97]⟩, .string ⟨#[98, 99]⟩, .string ⟨#[32]⟩, .string ⟨#[44]⟩, .string ⟨#[120, 49]⟩]

set_option maxHeartbeats 1000000 in
set_option maxRecDepth 100000 in
theorem l01Str_any (B g b : Nat) (A : Option Addr) (n c : Nat) (w : World) (hC : CurAt w B g A n c) (hne : b ≠ g)
    (K : w.heap[b]? = some (.cells #[.string ⟨#[97]⟩, .string ⟨#[98, 99]⟩, .string ⟨#[32]⟩, .string ⟨#[44]⟩, .string ⟨#[120, 49]⟩] 9 (0, 0))) :
    Calls Tryd.prog 31 #[.pointer (some ⟨g, 0, none⟩), .slice (some ⟨b, 0, none⟩) 5 5] w (StrPost w B g A n c) := by
  have HK := Lib.hid K; clear K
  go_enter Tryd.func31, Tryd.ntmps31
  go_wp2_with fail
  go_at_call 30; refine (l01Below_any 5 B g A n c w hC (by omega) (by omega)).mono ?_; rintro e w1 ⟨x, hx1, hx2, rfl, hC1, hg1⟩
  have K1 := blkG hg1 HK.out hne
  have cc0 : w1.cell? ⟨b, 0, none⟩ = some (.string ⟨#[97]⟩) := cell_of_row w1 _ 0 _ _ _ K1
  have cc1 : w1.cell? ⟨b, 1, none⟩ = some (.string ⟨#[98, 99]⟩) := cell_of_row w1 _ 1 _ _ _ K1
  have cc2 : w1.cell? ⟨b, 2, none⟩ = some (.string ⟨#[32]⟩) := cell_of_row w1 _ 2 _ _ _ K1
  have cc3 : w1.cell? ⟨b, 3, none⟩ = some (.string ⟨#[44]⟩) := cell_of_row w1 _ 3 _ _ _ K1
  have cc4 : w1.cell? ⟨b, 4, none⟩ = some (.string ⟨#[120, 49]⟩) := cell_of_row w1 _ 4 _ _ _ K1
  have HC1 := Lib.hid hC1; have HG1 := Lib.hid hg1
  clear K1 hC1 hg1 hC
  rcases (show x = 0 ∨ x = 1 ∨ x = 2 ∨ x = 3 ∨ x = 4 by omega) with rfl | rfl | rfl | rfl | rfl
  all_goals
    go_wp2_with fail
    go_ret
    exact ⟨_, by decide, rfl, HC1.out, HG1.out⟩

def TextMade (w : World) (e : Ending) (w' : World) : Prop := ∃ s : ByteArray, s.size ≤ 14 ∧ e = .returned (.string s) ∧ Below w.heap.size w w'

set_option maxHeartbeats 1000000 in
set_option maxRecDepth 100000 in
theorem MakeText_any (A : Option Addr) (n c : Nat) (w : World) (hn : n ≤ 1048576) (hB : BytesAt w w.heap.size A n) :
    Calls Tryd.prog 17 #[.slice A n c] w (TextMade w) := by
  have HB := Lib.hid hB; clear hB
  go_enter Tryd.func17, Tryd.ntmps17
  go_wp2_with fail
  go_at_call 29; refine (l01New_any A n c _ hn HB.out).mono ?_; rintro e w1 ⟨g, rfl, hC1, hb1⟩
  have HC1 := Lib.hid hC1
  have HS1 := Lib.hid hb1
  clear hC1 hb1
  go_wp2_with fail
  go_at_call 30; refine (l01Below_any 8 _ g A n c _ HC1.out (by omega) (by omega)).mono ?_; rintro e w2 ⟨x, hx1, hx2, rfl, hC2, hg2⟩
  have HS2 := Lib.hid (HS1.out.trans (grown_below hg2 HS1.out.size (by intro k e; injection e with e; rw [← e]; exact HC1.out.1)))
  have HC2 := Lib.hid hC2
  clear hC2 hg2 HS1 HC1
  obtain ⟨u, rfl⟩ : ∃ u : Nat, x = u := ⟨x.toNat, by omega⟩
  go_wp2_with fail
  go_loopw [4, 5] (fun s i wr => ∃ (k : Nat) (q : ByteArray), i = .int .i64 k ∧ s = .string q ∧ k ≤ u ∧ q.size + 2 * k ≤ 14 ∧ RowKit.Hid (CurAt wr w.heap.size g A n c) ∧ Below w.heap.size w wr) (fun _ i _ => (intOf i).toNat)
  case atStart => exact ⟨u, ByteArray.empty, rfl, rfl, Nat.le_refl _, by simp; omega, HC2.out, HS2.out⟩
  case round =>
    obtain ⟨k, q, rfl, rfl, hk, hq, HC, hb⟩ := hrel
    have hsz := hb.size
    by_cases hlt : 0 < k
    · have hgl := HC.out.lt
      have HC' := Lib.hid (HC.out.kept ((Below.refl _ _).alloc HC.out.lt (.cells #[.string ⟨#[97]⟩, .string ⟨#[98, 99]⟩, .string ⟨#[32]⟩, .string ⟨#[44]⟩, .string ⟨#[120, 49]⟩] 9)))
      go_wp2_with fail
      go_at_call 31; refine (l01Str_any _ g wr.heap.size A n c _ HC'.out (by omega) (heap_alloc_new wr _)).mono ?_; rintro e w3 ⟨x, hx, rfl, hC3, hg3⟩
      have HC3 := Lib.hid hC3
      have HS3 := Lib.hid ((hb.alloc hsz _).trans (grown_below hg3 (by simp; omega) (by intro k e; injection e with e; rw [← e]; exact HC.out.1)))
      clear hC3 hg3
      have hz : ¬ 9223372036854775807 < q.size + x.size := by omega
      go_wp2_with fail
      go_roundw
      case rel => exact ⟨k - 1, q ++ x, by go_num, rfl, by omega, by rw [ByteArray.size_append]; omega, HC3, HS3.out⟩
      case measure => simp [intOf]; omega
    · go_wp2_with fail
      go_ret
      exact ⟨q, by omega, rfl, hb⟩

end Go.Proofs.YtkcalnahiabejaaDoor
