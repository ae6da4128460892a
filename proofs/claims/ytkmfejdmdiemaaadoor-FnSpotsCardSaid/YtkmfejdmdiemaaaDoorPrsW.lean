/- The walk of the law FnExactParseInt. -/
import Derived.Test.YtkmfejdmdiemaaaDoorPrs2
namespace Go.Proofs.YtkmfejdmdiemaaaDoor
open Go.ChangeShapes Go.WideShapes Go.ChangeAt Go.RowKit
attribute [local go_sem ↓] Go.wp_at_zero Go.wp_at_succ
set_option linter.unusedVariables false

theorem sParseInt_lit {s : ByteArray} {o : Option Int} (h : pI s.data.toList = o) (w : World) (hs : s.size ≤ 1048576) :
    Calls Tryd.prog 42 #[.string s] w fun e w' => e = .returned (PRes o) ∧ Below w.heap.size w w' := by
  subst h; exact sParseInt_any s w hs

theorem iParseInt_lit {s : ByteArray} {o : Option Int} (h : pI s.data.toList = o) (w : World) (ht : Tab10 w) (he : Errs w) (hs : s.size ≤ 281474976710656) :
    Calls Tryd.prog 44 #[.string s] w fun e w' => e = .returned (PRes o) ∧ Below w.heap.size w w' := by
  subst h; exact iParseInt_any s w ht he hs

end Go.Proofs.YtkmfejdmdiemaaaDoor
