/- A region that draws its order, whose operations only read and whose callees make memory: walked once. -/
import Derived.Test.YthdaoadleeelnaaNum
import Derived.Lib.QuietBelow
namespace Go.Proofs.Ythdaoadleeelnaa
open Go.RowKit Go.Sort

theorem wp_region_qb {P : Program} {id : Nat} {Q : Exit → Act → World → Prop} {a : Act} {w : World} {l : List Oper} (hm : P.follows .mixedOrders = true) (hB : Region.lexB .any l.toArray = true)
    (h : ∀ W : World, Hid (W = w) → wpQuiet P l.toArray (fun w' => ∃ p : Regrown, w' = grow (redrawn W p.d) p.os) (fun a' => ∀ w', (∃ p : Regrown, w' = grow (redrawn W p.d) p.os) → Q .normal a' w') l a) : (Code.region id l.toArray true).wp P Q a w :=
  wp_region_quiet_below hm hB (h w rfl)

end Go.Proofs.Ythdaoadleeelnaa
