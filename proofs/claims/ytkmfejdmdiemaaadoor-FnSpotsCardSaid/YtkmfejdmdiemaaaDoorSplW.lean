/- The walk of the law FnExactSplitAny. -/
import Derived.Test.YtkmfejdmdiemaaaDoorSplB
namespace Go.Proofs.YtkmfejdmdiemaaaDoor
open Go.ChangeShapes Go.WideShapes Go.ChangeAt Go.RowKit
attribute [local go_sem ↓] Go.wp_at_zero Go.wp_at_succ
set_option linter.unusedVariables false

theorem OwnS.of_len {w : World} {B n c : Nat} {A : Option Addr} {ls : List ByteArray} (h : OwnS w B (.slice A n c) ls) : SsAt w w.heap.size A ls := h.reads.2

theorem grown_belowS {w w1 : World} {B g : Nat} (h : w.grownBy w1 (some g)) (hB : B ≤ w.heap.size) (hg : B ≤ g) : Below B w w1 :=
  (Below.refl B w).grown h hB (by intro k e; injection e with e; omega)

theorem pcsB_len (s by_ : ByteArray) : (pcsB s by_).length ≤ s.size + 1 := by
  unfold pcsB
  rw [List.length_map]
  have := pcs_length (amg by_) s.data.toList []
  simpa using this

theorem iSplitAny_lit {ls : List ByteArray} {s by_ : ByteArray} (h : pcsB s by_ = ls) (w : World) (hs : s.size ≤ 1048576) (hb : by_.size ≤ 1048576) : Calls Tryd.prog 43 #[.string s, .string by_] w (MadeS ls w) := by
  subst h; exact iSplitAny_any s by_ w hs hb

theorem sSplitAny_lit {ls : List ByteArray} {s by_ : ByteArray} (h : pcsB s by_ = ls) (w : World) (hs : s.size ≤ 1048576) (hb : by_.size ≤ 1048576) : Calls Tryd.prog 41 #[.string s, .string by_] w (MadeS ls w) := by
  subst h; exact sSplitAny_any s by_ w hs hb

end Go.Proofs.YtkmfejdmdiemaaaDoor
