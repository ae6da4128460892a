/-
  No cell of these rows narrows 'for every input' (looked for: loops, veiled, ifaces, maps, wideKeys, modest, calm, conditions, laid).
  DERIVED. THE GIVEN ROWS OF THIS SEAT. 9 by the template 'for every input the law returns true; each argument reads behind the call as it read before'; 0 by the template 'total and deterministic' (their statements: YthdaoadleeelnaaTotals.lean).
  GIVEN WITH THE SEED: the statements are not yours to turn. If you find one false, say at which input.
  Laid BY PROGRAM, IN A SANDBOX (cutbox-rows.mjs): the forced cells as the released guide's own fill.sh prints them over the translation b988233e31244b18… (all of the seat's roots in one cut). By AI agents, Wed Nov 11 2026. No macro, syntax, notation, axiom, sorry.
-/
import Derived.Test.YthdaoadleeelnaaChecked
import GoSem.Claim
import GoSem.ClaimJoined
import GoSem.ClaimMapViews
import Derived.JoinedTies
import Derived.KernelRfl
namespace Go.Proofs.Ythdaoadleeelnaa
/- THE CELL 'sum', in the pinned program and in every row, IS THE sha256 OF THE DUMP (.gsa) THAT YthdaoadleeelnaaProg.lean LOADS. Nothing in Lean hashes anything: it is a label: what it is worth is what the hold of that sum in a sandbox is worth. -/
noncomputable def Try.pinned : Pinned := { name := "ythdaoadleeelnaa", sum := "b988233e31244b188e05d038e4a84cc8e543d20cb9ab888934255d8746e4ebc5", checked := Try.checked }
namespace Rows
def none {H : Type} : Left H := { results := [], args := [] }

/-- 'laws.FnExactFrameHalves': WHATEVER THE INPUT: true; the input reads as it did. -/
def fnExactFrameHalvesSpec : ChangeSpec := { name := "fnExactFrameHalves", fn := fun _ => fun
  | [] => { results := [.lit (.bool true)], args := [] }
  | _ => none }
def fnExactFrameHalvesRow : OpenClaim := { program := "ythdaoadleeelnaa", sum := "b988233e31244b188e05d038e4a84cc8e543d20cb9ab888934255d8746e4ebc5", func := "loop.example/g00832/laws.FnExactFrameHalves", spec := "fnExactFrameHalves", apart := false }
def FnExactFrameHalvesSaid : Prop := fnExactFrameHalvesRow.holds Try.pinned (OpenSpec.ofChange fnExactFrameHalvesSpec)

/-- ITS FALSE NEIGHBOUR: 'it returns false'. Refute it at one input. -/
def fnExactFrameHalvesWrong : ChangeSpec := { name := "fnExactFrameHalves", fn := fun _ => fun
  | [] => { results := [.lit (.bool false)], args := [] }
  | _ => none }
def FnExactFrameHalvesWrongFalsely : Prop := fnExactFrameHalvesRow.holds Try.pinned (OpenSpec.ofChange fnExactFrameHalvesWrong)

/-- 'laws.FnExactIsVoid': WHATEVER THE INPUT: true; the input reads as it did. -/
def fnExactIsVoidSpec : ChangeSpec := { name := "fnExactIsVoid", fn := fun _ => fun
  | [d] => { results := [.lit (.bool true)], args := [d] }
  | _ => none }
def fnExactIsVoidRow : OpenClaim := { program := "ythdaoadleeelnaa", sum := "b988233e31244b188e05d038e4a84cc8e543d20cb9ab888934255d8746e4ebc5", func := "loop.example/g00832/laws.FnExactIsVoid", spec := "fnExactIsVoid", apart := false }
def FnExactIsVoidSaid : Prop := fnExactIsVoidRow.holds Try.pinned (OpenSpec.ofChange fnExactIsVoidSpec)

/-- ITS FALSE NEIGHBOUR: 'it returns false'. Refute it at one input. -/
def fnExactIsVoidWrong : ChangeSpec := { name := "fnExactIsVoid", fn := fun _ => fun
  | [d] => { results := [.lit (.bool false)], args := [d] }
  | _ => none }
def FnExactIsVoidWrongFalsely : Prop := fnExactIsVoidRow.holds Try.pinned (OpenSpec.ofChange fnExactIsVoidWrong)

/-- 'laws.FnExactSameRegion': WHATEVER THE INPUT: true; the input reads as it did. -/
def fnExactSameRegionSpec : ChangeSpec := { name := "fnExactSameRegion", fn := fun _ => fun
  | [d1, d2] => { results := [.lit (.bool true)], args := [d1, d2] }
  | _ => none }
def fnExactSameRegionRow : OpenClaim := { program := "ythdaoadleeelnaa", sum := "b988233e31244b188e05d038e4a84cc8e543d20cb9ab888934255d8746e4ebc5", func := "loop.example/g00832/laws.FnExactSameRegion", spec := "fnExactSameRegion", apart := false }
def FnExactSameRegionSaid : Prop := fnExactSameRegionRow.holds Try.pinned (OpenSpec.ofChange fnExactSameRegionSpec)

/-- ITS FALSE NEIGHBOUR: 'it returns false'. Refute it at one input. -/
def fnExactSameRegionWrong : ChangeSpec := { name := "fnExactSameRegion", fn := fun _ => fun
  | [d1, d2] => { results := [.lit (.bool false)], args := [d1, d2] }
  | _ => none }
def FnExactSameRegionWrongFalsely : Prop := fnExactSameRegionRow.holds Try.pinned (OpenSpec.ofChange fnExactSameRegionWrong)

/-- 'laws.FnExactBoxRegion': WHATEVER THE INPUT: true; the input reads as it did. -/
def fnExactBoxRegionSpec : ChangeSpec := { name := "fnExactBoxRegion", fn := fun _ => fun
  | [d1, d2, d3, d4] => { results := [.lit (.bool true)], args := [d1, d2, d3, d4] }
  | _ => none }
def fnExactBoxRegionRow : OpenClaim := { program := "ythdaoadleeelnaa", sum := "b988233e31244b188e05d038e4a84cc8e543d20cb9ab888934255d8746e4ebc5", func := "loop.example/g00832/laws.FnExactBoxRegion", spec := "fnExactBoxRegion", inPlace := ["slices.overlaps[loop.example/g00832/impl.Half]"], apart := false }
def FnExactBoxRegionSaid : Prop := fnExactBoxRegionRow.holds Try.pinned (OpenSpec.ofChange fnExactBoxRegionSpec)

/-- ITS FALSE NEIGHBOUR: 'it returns false'. Refute it at one input. -/
def fnExactBoxRegionWrong : ChangeSpec := { name := "fnExactBoxRegion", fn := fun _ => fun
  | [d1, d2, d3, d4] => { results := [.lit (.bool false)], args := [d1, d2, d3, d4] }
  | _ => none }
def FnExactBoxRegionWrongFalsely : Prop := fnExactBoxRegionRow.holds Try.pinned (OpenSpec.ofChange fnExactBoxRegionWrong)

/-- 'laws.FnExactRegionFrom': WHATEVER THE INPUT: true; the input reads as it did. -/
def fnExactRegionFromSpec : ChangeSpec := { name := "fnExactRegionFrom", fn := fun _ => fun
  | [d] => { results := [.lit (.bool true)], args := [d] }
  | _ => none }
def fnExactRegionFromRow : OpenClaim := { program := "ythdaoadleeelnaa", sum := "b988233e31244b188e05d038e4a84cc8e543d20cb9ab888934255d8746e4ebc5", func := "loop.example/g00832/laws.FnExactRegionFrom", spec := "fnExactRegionFrom", inPlace := ["slices.overlaps[loop.example/g00832/impl.Half]"], apart := false }
def FnExactRegionFromSaid : Prop := fnExactRegionFromRow.holds Try.pinned (OpenSpec.ofChange fnExactRegionFromSpec)

/-- ITS FALSE NEIGHBOUR: 'it returns false'. Refute it at one input. -/
def fnExactRegionFromWrong : ChangeSpec := { name := "fnExactRegionFrom", fn := fun _ => fun
  | [d] => { results := [.lit (.bool false)], args := [d] }
  | _ => none }
def FnExactRegionFromWrongFalsely : Prop := fnExactRegionFromRow.holds Try.pinned (OpenSpec.ofChange fnExactRegionFromWrong)

/-- 'laws.FnExactRegionOk': WHATEVER THE INPUT: true; the input reads as it did. -/
def fnExactRegionOkSpec : ChangeSpec := { name := "fnExactRegionOk", fn := fun _ => fun
  | [d] => { results := [.lit (.bool true)], args := [d] }
  | _ => none }
def fnExactRegionOkRow : OpenClaim := { program := "ythdaoadleeelnaa", sum := "b988233e31244b188e05d038e4a84cc8e543d20cb9ab888934255d8746e4ebc5", func := "loop.example/g00832/laws.FnExactRegionOk", spec := "fnExactRegionOk", inPlace := ["slices.overlaps[loop.example/g00832/impl.Half]"], apart := false }
def FnExactRegionOkSaid : Prop := fnExactRegionOkRow.holds Try.pinned (OpenSpec.ofChange fnExactRegionOkSpec)

/-- ITS FALSE NEIGHBOUR: 'it returns false'. Refute it at one input. -/
def fnExactRegionOkWrong : ChangeSpec := { name := "fnExactRegionOk", fn := fun _ => fun
  | [d] => { results := [.lit (.bool false)], args := [d] }
  | _ => none }
def FnExactRegionOkWrongFalsely : Prop := fnExactRegionOkRow.holds Try.pinned (OpenSpec.ofChange fnExactRegionOkWrong)

/-- 'laws.FnExactHasSpot': WHATEVER THE INPUT: true; the input reads as it did. -/
def fnExactHasSpotSpec : ChangeSpec := { name := "fnExactHasSpot", fn := fun _ => fun
  | [d1, d2] => { results := [.lit (.bool true)], args := [d1, d2] }
  | _ => none }
def fnExactHasSpotRow : OpenClaim := { program := "ythdaoadleeelnaa", sum := "b988233e31244b188e05d038e4a84cc8e543d20cb9ab888934255d8746e4ebc5", func := "loop.example/g00832/laws.FnExactHasSpot", spec := "fnExactHasSpot", inPlace := ["slices.overlaps[loop.example/g00832/impl.Half]"], apart := false }
def FnExactHasSpotSaid : Prop := fnExactHasSpotRow.holds Try.pinned (OpenSpec.ofChange fnExactHasSpotSpec)

/-- ITS FALSE NEIGHBOUR: 'it returns false'. Refute it at one input. -/
def fnExactHasSpotWrong : ChangeSpec := { name := "fnExactHasSpot", fn := fun _ => fun
  | [d1, d2] => { results := [.lit (.bool false)], args := [d1, d2] }
  | _ => none }
def FnExactHasSpotWrongFalsely : Prop := fnExactHasSpotRow.holds Try.pinned (OpenSpec.ofChange fnExactHasSpotWrong)

/-- 'laws.FnExactWholeSpots': WHATEVER THE INPUT: true; the input reads as it did. -/
def fnExactWholeSpotsSpec : ChangeSpec := { name := "fnExactWholeSpots", fn := fun _ => fun
  | [d] => { results := [.lit (.bool true)], args := [d] }
  | _ => none }
def fnExactWholeSpotsRow : OpenClaim := { program := "ythdaoadleeelnaa", sum := "b988233e31244b188e05d038e4a84cc8e543d20cb9ab888934255d8746e4ebc5", func := "loop.example/g00832/laws.FnExactWholeSpots", spec := "fnExactWholeSpots", inPlace := ["slices.overlaps[loop.example/g00832/impl.Half]"], apart := false }
def FnExactWholeSpotsSaid : Prop := fnExactWholeSpotsRow.holds Try.pinned (OpenSpec.ofChange fnExactWholeSpotsSpec)

/-- ITS FALSE NEIGHBOUR: 'it returns false'. Refute it at one input. -/
def fnExactWholeSpotsWrong : ChangeSpec := { name := "fnExactWholeSpots", fn := fun _ => fun
  | [d] => { results := [.lit (.bool false)], args := [d] }
  | _ => none }
def FnExactWholeSpotsWrongFalsely : Prop := fnExactWholeSpotsRow.holds Try.pinned (OpenSpec.ofChange fnExactWholeSpotsWrong)

/-- 'laws.FnRegions': WHATEVER THE INPUT: true; the input reads as it did. -/
def fnRegionsSpec : ChangeSpec := { name := "fnRegions", fn := fun _ => fun
  | [d] => { results := [.lit (.bool true)], args := [d] }
  | _ => none }
def fnRegionsRow : OpenClaim := { program := "ythdaoadleeelnaa", sum := "b988233e31244b188e05d038e4a84cc8e543d20cb9ab888934255d8746e4ebc5", func := "loop.example/g00832/laws.FnRegions", spec := "fnRegions", inPlace := ["slices.overlaps[loop.example/g00832/impl.Half]"], apart := false }
def FnRegionsSaid : Prop := fnRegionsRow.holds Try.pinned (OpenSpec.ofChange fnRegionsSpec)

/-- ITS FALSE NEIGHBOUR: 'it returns false'. Refute it at one input. -/
def fnRegionsWrong : ChangeSpec := { name := "fnRegions", fn := fun _ => fun
  | [d] => { results := [.lit (.bool false)], args := [d] }
  | _ => none }
def FnRegionsWrongFalsely : Prop := fnRegionsRow.holds Try.pinned (OpenSpec.ofChange fnRegionsWrong)

/- THE SECOND FORM. 'bulk': how many values and letters a reading holds, each counted each time it is reached (what is shared counts as often as it is met; a slice's spare places count too). A statement '..UptoSaid' is the law's where the arguments, and the package variables that the reading takes, are together of bulk at most 1048576: NARROWER than '..Said'. Prove '..Said' where nothing that the law and all that it calls make is longer than what came in: it says more and counts as full. Else prove '..UptoSaid'. A law counts once. -/
mutual
def uptoBulk {H : Type} : DataW H → Nat
  | .lit (.string bytes) => bytes.length + 1
  | .lit _ => 1
  | .nil => 1
  | .ptr d => uptoBulk d + 1
  | .slice elems spare => uptoBulkAll elems + uptoBulkAll spare + 1
  | .agg parts => uptoBulkAll parts + 1
  | .iface _ d => uptoBulk d + 1
  | .map entries => uptoBulkEntries entries + 1
  | .held _ => 1
def uptoBulkAll {H : Type} : List (DataW H) → Nat
  | [] => 0
  | d :: r => uptoBulk d + uptoBulkAll r
def uptoBulkEntries {H : Type} : List (Lit × DataW H) → Nat
  | [] => 0
  | x :: r => uptoBulkEntry x + uptoBulkEntries r
def uptoBulkEntry {H : Type} : Lit × DataW H → Nat
  | (.string bytes, d) => bytes.length + uptoBulk d + 1
  | (_, d) => uptoBulk d + 1
 end
def uptoSmall : (H : Type) → List (DataW H) → Bool := fun _ ds => decide (uptoBulkAll ds ≤ 1048576)
def OpenSpec.upto (s : _root_.Go.ChangeSpec) : _root_.Go.OpenSpec := { _root_.Go.OpenSpec.ofChange s with cond := some uptoSmall }

/-- 'laws.FnExactFrameHalves', WHERE WHAT IT READS IS OF BULK AT MOST 1048576: true; the input reads as it did. -/
def fnExactFrameHalvesUptoRow : OpenClaim := { program := "ythdaoadleeelnaa", sum := "b988233e31244b188e05d038e4a84cc8e543d20cb9ab888934255d8746e4ebc5", func := "loop.example/g00832/laws.FnExactFrameHalves", spec := "fnExactFrameHalves", apart := false, narrowed := true }
def FnExactFrameHalvesUptoSaid : Prop := fnExactFrameHalvesUptoRow.holds Try.pinned (OpenSpec.upto fnExactFrameHalvesSpec)

/-- 'laws.FnExactIsVoid', WHERE WHAT IT READS IS OF BULK AT MOST 1048576: true; the input reads as it did. -/
def fnExactIsVoidUptoRow : OpenClaim := { program := "ythdaoadleeelnaa", sum := "b988233e31244b188e05d038e4a84cc8e543d20cb9ab888934255d8746e4ebc5", func := "loop.example/g00832/laws.FnExactIsVoid", spec := "fnExactIsVoid", apart := false, narrowed := true }
def FnExactIsVoidUptoSaid : Prop := fnExactIsVoidUptoRow.holds Try.pinned (OpenSpec.upto fnExactIsVoidSpec)

/-- 'laws.FnExactSameRegion', WHERE WHAT IT READS IS OF BULK AT MOST 1048576: true; the input reads as it did. -/
def fnExactSameRegionUptoRow : OpenClaim := { program := "ythdaoadleeelnaa", sum := "b988233e31244b188e05d038e4a84cc8e543d20cb9ab888934255d8746e4ebc5", func := "loop.example/g00832/laws.FnExactSameRegion", spec := "fnExactSameRegion", apart := false, narrowed := true }
def FnExactSameRegionUptoSaid : Prop := fnExactSameRegionUptoRow.holds Try.pinned (OpenSpec.upto fnExactSameRegionSpec)

/-- 'laws.FnExactBoxRegion', WHERE WHAT IT READS IS OF BULK AT MOST 1048576: true; the input reads as it did. -/
def fnExactBoxRegionUptoRow : OpenClaim := { program := "ythdaoadleeelnaa", sum := "b988233e31244b188e05d038e4a84cc8e543d20cb9ab888934255d8746e4ebc5", func := "loop.example/g00832/laws.FnExactBoxRegion", spec := "fnExactBoxRegion", inPlace := ["slices.overlaps[loop.example/g00832/impl.Half]"], apart := false, narrowed := true }
def FnExactBoxRegionUptoSaid : Prop := fnExactBoxRegionUptoRow.holds Try.pinned (OpenSpec.upto fnExactBoxRegionSpec)

/-- 'laws.FnExactRegionFrom', WHERE WHAT IT READS IS OF BULK AT MOST 1048576: true; the input reads as it did. -/
def fnExactRegionFromUptoRow : OpenClaim := { program := "ythdaoadleeelnaa", sum := "b988233e31244b188e05d038e4a84cc8e543d20cb9ab888934255d8746e4ebc5", func := "loop.example/g00832/laws.FnExactRegionFrom", spec := "fnExactRegionFrom", inPlace := ["slices.overlaps[loop.example/g00832/impl.Half]"], apart := false, narrowed := true }
def FnExactRegionFromUptoSaid : Prop := fnExactRegionFromUptoRow.holds Try.pinned (OpenSpec.upto fnExactRegionFromSpec)

/-- 'laws.FnExactRegionOk', WHERE WHAT IT READS IS OF BULK AT MOST 1048576: true; the input reads as it did. -/
def fnExactRegionOkUptoRow : OpenClaim := { program := "ythdaoadleeelnaa", sum := "b988233e31244b188e05d038e4a84cc8e543d20cb9ab888934255d8746e4ebc5", func := "loop.example/g00832/laws.FnExactRegionOk", spec := "fnExactRegionOk", inPlace := ["slices.overlaps[loop.example/g00832/impl.Half]"], apart := false, narrowed := true }
def FnExactRegionOkUptoSaid : Prop := fnExactRegionOkUptoRow.holds Try.pinned (OpenSpec.upto fnExactRegionOkSpec)

/-- 'laws.FnExactHasSpot', WHERE WHAT IT READS IS OF BULK AT MOST 1048576: true; the input reads as it did. -/
def fnExactHasSpotUptoRow : OpenClaim := { program := "ythdaoadleeelnaa", sum := "b988233e31244b188e05d038e4a84cc8e543d20cb9ab888934255d8746e4ebc5", func := "loop.example/g00832/laws.FnExactHasSpot", spec := "fnExactHasSpot", inPlace := ["slices.overlaps[loop.example/g00832/impl.Half]"], apart := false, narrowed := true }
def FnExactHasSpotUptoSaid : Prop := fnExactHasSpotUptoRow.holds Try.pinned (OpenSpec.upto fnExactHasSpotSpec)

/-- 'laws.FnExactWholeSpots', WHERE WHAT IT READS IS OF BULK AT MOST 1048576: true; the input reads as it did. -/
def fnExactWholeSpotsUptoRow : OpenClaim := { program := "ythdaoadleeelnaa", sum := "b988233e31244b188e05d038e4a84cc8e543d20cb9ab888934255d8746e4ebc5", func := "loop.example/g00832/laws.FnExactWholeSpots", spec := "fnExactWholeSpots", inPlace := ["slices.overlaps[loop.example/g00832/impl.Half]"], apart := false, narrowed := true }
def FnExactWholeSpotsUptoSaid : Prop := fnExactWholeSpotsUptoRow.holds Try.pinned (OpenSpec.upto fnExactWholeSpotsSpec)

/-- 'laws.FnRegions', WHERE WHAT IT READS IS OF BULK AT MOST 1048576: true; the input reads as it did. -/
def fnRegionsUptoRow : OpenClaim := { program := "ythdaoadleeelnaa", sum := "b988233e31244b188e05d038e4a84cc8e543d20cb9ab888934255d8746e4ebc5", func := "loop.example/g00832/laws.FnRegions", spec := "fnRegions", inPlace := ["slices.overlaps[loop.example/g00832/impl.Half]"], apart := false, narrowed := true }
def FnRegionsUptoSaid : Prop := fnRegionsUptoRow.holds Try.pinned (OpenSpec.upto fnRegionsSpec)

end Rows
end Go.Proofs.Ythdaoadleeelnaa
