/- Makers of numbers and of texts. -/
import Derived.Test.YtkmfejdmdiemaaaDoorCur2
import Derived.Test.YtkmfejdmdiemaaaDoorSplP
namespace Go.Proofs.YtkmfejdmdiemaaaDoor
open Go.ChangeShapes Go.WideShapes Go.ChangeAt Go.RowKit
attribute [local go_sem ↓] Go.wp_at_zero Go.wp_at_succ
set_option linter.unusedVariables false

theorem blkG {w w1 : World} {g : Nat} (h : w.grownBy w1 (some g)) {b : Nat} {o : Obj} (hb : w.heap[b]? = some o) (hne : b ≠ g) : w1.heap[b]? = some o :=
  (h.block b (heap_lt hb) (by intro e; injection e with e; exact hne e)).trans hb

def NumMade (w : World) (e : Ending) (w' : World) : Prop := ∃ x : Int, 0 ≤ x ∧ x ≤ 65535 ∧ e = .returned (.int .i64 x) ∧ Below w.heap.size w w'

set_option maxHeartbeats 1000000 in
set_option maxRecDepth 100000 in
theorem MakeNum_any (m : Int) (A : Option Addr) (n c : Nat) (w : World) (hn : n ≤ 1048576) (hB : BytesAt w w.heap.size A n) (h1 : 0 ≤ m) (h2 : m ≤ 1000000) :
    Calls Tryd.prog 30 #[.slice A n c, .int .i64 m] w (NumMade w) := by
  have HB := Lib.hid hB; clear hB
  go_enter Tryd.func30, Tryd.ntmps30
  go_wp2_with fail
  go_at_call 51; refine (l26New_any m A n c _ hn HB.out h1 h2).mono ?_; rintro e w1 ⟨g, rfl, hC1, hb1⟩
  have HC1 := Lib.hid hC1
  have HS1 := Lib.hid hb1
  clear hC1 hb1
  go_wp2_with fail
  go_at_call 59; refine (l01Byte_any _ g A n c _ HC1.out).mono ?_; rintro e w2 ⟨x, hx1, hx2, rfl, hC2, hg2⟩
  have HS2 := Lib.hid (HS1.out.trans (grown_below hg2 HS1.out.size (by intro k e; injection e with e; rw [← e]; exact HC1.out.1)))
  have HC2 := Lib.hid hC2
  clear hC2 hg2 HS1 HC1
  go_wp2_with fail
  go_at_call 59; refine (l01Byte_any _ g A n c _ HC2.out).mono ?_; rintro e w3 ⟨y, hy1, hy2, rfl, hC3, hg3⟩
  have HS3 := Lib.hid (HS2.out.trans (grown_below hg3 HS2.out.size (by intro k e; injection e with e; rw [← e]; exact HC2.out.1)))
  clear hC3 hg3 HS2 HC2
  go_wp2_with fail
  go_ret
  exact ⟨x * 256 + y, by omega, by omega, rfl, HS3.out⟩

def StrPost (w : World) (B g : Nat) (A : Option Addr) (n c : Nat) (e : Ending) (w' : World) : Prop :=
  ∃ s : ByteArray, s.size ≤ 2 ∧ e = .returned (.string s) ∧ CurAt w' B g A n c ∧ w.grownBy w' (some g)

def fiveL : Array Value := #[.string ⟨#[97]⟩, .string ⟨#[98, 99]⟩, .string ⟨#[32]⟩, .string ⟨#[44]⟩, .string ⟨#[120, 49]⟩]

def TextMade (w : World) (e : Ending) (w' : World) : Prop := ∃ s : ByteArray, s.size ≤ 14 ∧ e = .returned (.string s) ∧ Below w.heap.size w w'

end Go.Proofs.YtkmfejdmdiemaaaDoor
