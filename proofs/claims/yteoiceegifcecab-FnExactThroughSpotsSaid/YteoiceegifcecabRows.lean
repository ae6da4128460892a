/-
  No cell of these rows narrows 'for every input' (looked for: loops, veiled, ifaces, maps, wideKeys, modest, calm, conditions, laid).
  DERIVED. THE GIVEN ROWS OF THIS SEAT. 12 by the template 'for every input the law returns true; each argument reads behind the call as it read before'; 0 by the template 'total and deterministic' (their statements: YteoiceegifcecabTotals.lean).
  GIVEN WITH THE SEED: the statements are not yours to turn. If you find one false, say at which input.
  Laid BY PROGRAM, IN A SANDBOX (cutbox-rows.mjs): the forced cells as the released guide's own fill.sh prints them over the translation fecad461438e4f57… (all of the seat's roots in one cut). By AI agents, Wed Nov 11 2026. No macro, syntax, notation, axiom, sorry.
-/
import Derived.Test.YteoiceegifcecabChecked
import GoSem.Claim
import GoSem.ClaimJoined
import GoSem.ClaimMapViews
import Derived.JoinedTies
import Derived.KernelRfl
namespace Go.Proofs.Yteoiceegifcecab
/- THE CELL 'sum', in the pinned program and in every row, IS THE sha256 OF THE DUMP (.gsa) THAT YteoiceegifcecabProg.lean LOADS. Nothing in Lean hashes anything: it is a label: what it is worth is what the hold of that sum in a sandbox is worth. -/
noncomputable def Try.pinned : Pinned := { name := "yteoiceegifcecab", sum := "fecad461438e4f573d4e7bc530906d51ce2f980f52aff446275577f394804cc5", checked := Try.checked }
namespace Rows
def none {H : Type} : Left H := { results := [], args := [] }

/-- 'laws.FnExactHalfOf': WHATEVER THE INPUT: true; the input reads as it did. -/
def fnExactHalfOfSpec : ChangeSpec := { name := "fnExactHalfOf", fn := fun _ => fun
  | [d1, d2, d3] => { results := [.lit (.bool true)], args := [d1, d2, d3] }
  | _ => none }
def fnExactHalfOfRow : OpenClaim := { program := "yteoiceegifcecab", sum := "fecad461438e4f573d4e7bc530906d51ce2f980f52aff446275577f394804cc5", func := "loop.example/g00832/laws.FnExactHalfOf", spec := "fnExactHalfOf", apart := false }
def FnExactHalfOfSaid : Prop := fnExactHalfOfRow.holds Try.pinned (OpenSpec.ofChange fnExactHalfOfSpec)

/-- ITS FALSE NEIGHBOUR: 'it returns false'. Refute it at one input. -/
def fnExactHalfOfWrong : ChangeSpec := { name := "fnExactHalfOf", fn := fun _ => fun
  | [d1, d2, d3] => { results := [.lit (.bool false)], args := [d1, d2, d3] }
  | _ => none }
def FnExactHalfOfWrongFalsely : Prop := fnExactHalfOfRow.holds Try.pinned (OpenSpec.ofChange fnExactHalfOfWrong)

/-- 'laws.FnExactSideOf': WHATEVER THE INPUT: true; the input reads as it did. -/
def fnExactSideOfSpec : ChangeSpec := { name := "fnExactSideOf", fn := fun _ => fun
  | [d1, d2] => { results := [.lit (.bool true)], args := [d1, d2] }
  | _ => none }
def fnExactSideOfRow : OpenClaim := { program := "yteoiceegifcecab", sum := "fecad461438e4f573d4e7bc530906d51ce2f980f52aff446275577f394804cc5", func := "loop.example/g00832/laws.FnExactSideOf", spec := "fnExactSideOf", apart := false }
def FnExactSideOfSaid : Prop := fnExactSideOfRow.holds Try.pinned (OpenSpec.ofChange fnExactSideOfSpec)

/-- ITS FALSE NEIGHBOUR: 'it returns false'. Refute it at one input. -/
def fnExactSideOfWrong : ChangeSpec := { name := "fnExactSideOf", fn := fun _ => fun
  | [d1, d2] => { results := [.lit (.bool false)], args := [d1, d2] }
  | _ => none }
def FnExactSideOfWrongFalsely : Prop := fnExactSideOfRow.holds Try.pinned (OpenSpec.ofChange fnExactSideOfWrong)

/-- 'laws.FnExactHoldsAt': WHATEVER THE INPUT: true; the input reads as it did. -/
def fnExactHoldsAtSpec : ChangeSpec := { name := "fnExactHoldsAt", fn := fun _ => fun
  | [d1, d2] => { results := [.lit (.bool true)], args := [d1, d2] }
  | _ => none }
def fnExactHoldsAtRow : OpenClaim := { program := "yteoiceegifcecab", sum := "fecad461438e4f573d4e7bc530906d51ce2f980f52aff446275577f394804cc5", func := "loop.example/g00832/laws.FnExactHoldsAt", spec := "fnExactHoldsAt", apart := false }
def FnExactHoldsAtSaid : Prop := fnExactHoldsAtRow.holds Try.pinned (OpenSpec.ofChange fnExactHoldsAtSpec)

/-- ITS FALSE NEIGHBOUR: 'it returns false'. Refute it at one input. -/
def fnExactHoldsAtWrong : ChangeSpec := { name := "fnExactHoldsAt", fn := fun _ => fun
  | [d1, d2] => { results := [.lit (.bool false)], args := [d1, d2] }
  | _ => none }
def FnExactHoldsAtWrongFalsely : Prop := fnExactHoldsAtRow.holds Try.pinned (OpenSpec.ofChange fnExactHoldsAtWrong)

/-- 'laws.FnExactOtherSide': WHATEVER THE INPUT: true; the input reads as it did. -/
def fnExactOtherSideSpec : ChangeSpec := { name := "fnExactOtherSide", fn := fun _ => fun
  | [d] => { results := [.lit (.bool true)], args := [d] }
  | _ => none }
def fnExactOtherSideRow : OpenClaim := { program := "yteoiceegifcecab", sum := "fecad461438e4f573d4e7bc530906d51ce2f980f52aff446275577f394804cc5", func := "loop.example/g00832/laws.FnExactOtherSide", spec := "fnExactOtherSide", apart := false }
def FnExactOtherSideSaid : Prop := fnExactOtherSideRow.holds Try.pinned (OpenSpec.ofChange fnExactOtherSideSpec)

/-- ITS FALSE NEIGHBOUR: 'it returns false'. Refute it at one input. -/
def fnExactOtherSideWrong : ChangeSpec := { name := "fnExactOtherSide", fn := fun _ => fun
  | [d] => { results := [.lit (.bool false)], args := [d] }
  | _ => none }
def FnExactOtherSideWrongFalsely : Prop := fnExactOtherSideRow.holds Try.pinned (OpenSpec.ofChange fnExactOtherSideWrong)

/-- 'laws.FnExactCrossingOf': WHATEVER THE INPUT: true; the input reads as it did. -/
def fnExactCrossingOfSpec : ChangeSpec := { name := "fnExactCrossingOf", fn := fun _ => fun
  | [d1, d2] => { results := [.lit (.bool true)], args := [d1, d2] }
  | _ => none }
def fnExactCrossingOfRow : OpenClaim := { program := "yteoiceegifcecab", sum := "fecad461438e4f573d4e7bc530906d51ce2f980f52aff446275577f394804cc5", func := "loop.example/g00832/laws.FnExactCrossingOf", spec := "fnExactCrossingOf", apart := false }
def FnExactCrossingOfSaid : Prop := fnExactCrossingOfRow.holds Try.pinned (OpenSpec.ofChange fnExactCrossingOfSpec)

/-- ITS FALSE NEIGHBOUR: 'it returns false'. Refute it at one input. -/
def fnExactCrossingOfWrong : ChangeSpec := { name := "fnExactCrossingOf", fn := fun _ => fun
  | [d1, d2] => { results := [.lit (.bool false)], args := [d1, d2] }
  | _ => none }
def FnExactCrossingOfWrongFalsely : Prop := fnExactCrossingOfRow.holds Try.pinned (OpenSpec.ofChange fnExactCrossingOfWrong)

/-- 'laws.FnExactBeforeAngle': WHATEVER THE INPUT: true; the input reads as it did. -/
def fnExactBeforeAngleSpec : ChangeSpec := { name := "fnExactBeforeAngle", fn := fun _ => fun
  | [d1, d2] => { results := [.lit (.bool true)], args := [d1, d2] }
  | _ => none }
def fnExactBeforeAngleRow : OpenClaim := { program := "yteoiceegifcecab", sum := "fecad461438e4f573d4e7bc530906d51ce2f980f52aff446275577f394804cc5", func := "loop.example/g00832/laws.FnExactBeforeAngle", spec := "fnExactBeforeAngle", apart := false }
def FnExactBeforeAngleSaid : Prop := fnExactBeforeAngleRow.holds Try.pinned (OpenSpec.ofChange fnExactBeforeAngleSpec)

/-- ITS FALSE NEIGHBOUR: 'it returns false'. Refute it at one input. -/
def fnExactBeforeAngleWrong : ChangeSpec := { name := "fnExactBeforeAngle", fn := fun _ => fun
  | [d1, d2] => { results := [.lit (.bool false)], args := [d1, d2] }
  | _ => none }
def FnExactBeforeAngleWrongFalsely : Prop := fnExactBeforeAngleRow.holds Try.pinned (OpenSpec.ofChange fnExactBeforeAngleWrong)

/-- 'laws.FnExactSameDirection': WHATEVER THE INPUT: true; the input reads as it did. -/
def fnExactSameDirectionSpec : ChangeSpec := { name := "fnExactSameDirection", fn := fun _ => fun
  | [d1, d2] => { results := [.lit (.bool true)], args := [d1, d2] }
  | _ => none }
def fnExactSameDirectionRow : OpenClaim := { program := "yteoiceegifcecab", sum := "fecad461438e4f573d4e7bc530906d51ce2f980f52aff446275577f394804cc5", func := "loop.example/g00832/laws.FnExactSameDirection", spec := "fnExactSameDirection", apart := false }
def FnExactSameDirectionSaid : Prop := fnExactSameDirectionRow.holds Try.pinned (OpenSpec.ofChange fnExactSameDirectionSpec)

/-- ITS FALSE NEIGHBOUR: 'it returns false'. Refute it at one input. -/
def fnExactSameDirectionWrong : ChangeSpec := { name := "fnExactSameDirection", fn := fun _ => fun
  | [d1, d2] => { results := [.lit (.bool false)], args := [d1, d2] }
  | _ => none }
def FnExactSameDirectionWrongFalsely : Prop := fnExactSameDirectionRow.holds Try.pinned (OpenSpec.ofChange fnExactSameDirectionWrong)

/-- 'laws.FnExactTighterHalf': WHATEVER THE INPUT: true; the input reads as it did. -/
def fnExactTighterHalfSpec : ChangeSpec := { name := "fnExactTighterHalf", fn := fun _ => fun
  | [d1, d2] => { results := [.lit (.bool true)], args := [d1, d2] }
  | _ => none }
def fnExactTighterHalfRow : OpenClaim := { program := "yteoiceegifcecab", sum := "fecad461438e4f573d4e7bc530906d51ce2f980f52aff446275577f394804cc5", func := "loop.example/g00832/laws.FnExactTighterHalf", spec := "fnExactTighterHalf", apart := false }
def FnExactTighterHalfSaid : Prop := fnExactTighterHalfRow.holds Try.pinned (OpenSpec.ofChange fnExactTighterHalfSpec)

/-- ITS FALSE NEIGHBOUR: 'it returns false'. Refute it at one input. -/
def fnExactTighterHalfWrong : ChangeSpec := { name := "fnExactTighterHalf", fn := fun _ => fun
  | [d1, d2] => { results := [.lit (.bool false)], args := [d1, d2] }
  | _ => none }
def FnExactTighterHalfWrongFalsely : Prop := fnExactTighterHalfRow.holds Try.pinned (OpenSpec.ofChange fnExactTighterHalfWrong)

/-- 'laws.FnExactThroughSpots': WHATEVER THE INPUT: true; the input reads as it did. -/
def fnExactThroughSpotsSpec : ChangeSpec := { name := "fnExactThroughSpots", fn := fun _ => fun
  | [d1, d2] => { results := [.lit (.bool true)], args := [d1, d2] }
  | _ => none }
def fnExactThroughSpotsRow : OpenClaim := { program := "yteoiceegifcecab", sum := "fecad461438e4f573d4e7bc530906d51ce2f980f52aff446275577f394804cc5", func := "loop.example/g00832/laws.FnExactThroughSpots", spec := "fnExactThroughSpots", apart := false }
def FnExactThroughSpotsSaid : Prop := fnExactThroughSpotsRow.holds Try.pinned (OpenSpec.ofChange fnExactThroughSpotsSpec)

/-- ITS FALSE NEIGHBOUR: 'it returns false'. Refute it at one input. -/
def fnExactThroughSpotsWrong : ChangeSpec := { name := "fnExactThroughSpots", fn := fun _ => fun
  | [d1, d2] => { results := [.lit (.bool false)], args := [d1, d2] }
  | _ => none }
def FnExactThroughSpotsWrongFalsely : Prop := fnExactThroughSpotsRow.holds Try.pinned (OpenSpec.ofChange fnExactThroughSpotsWrong)

/-- 'laws.FnThrough': WHATEVER THE INPUT: true; the input reads as it did. -/
def fnThroughSpec : ChangeSpec := { name := "fnThrough", fn := fun _ => fun
  | [d] => { results := [.lit (.bool true)], args := [d] }
  | _ => none }
def fnThroughRow : OpenClaim := { program := "yteoiceegifcecab", sum := "fecad461438e4f573d4e7bc530906d51ce2f980f52aff446275577f394804cc5", func := "loop.example/g00832/laws.FnThrough", spec := "fnThrough", apart := false }
def FnThroughSaid : Prop := fnThroughRow.holds Try.pinned (OpenSpec.ofChange fnThroughSpec)

/-- ITS FALSE NEIGHBOUR: 'it returns false'. Refute it at one input. -/
def fnThroughWrong : ChangeSpec := { name := "fnThrough", fn := fun _ => fun
  | [d] => { results := [.lit (.bool false)], args := [d] }
  | _ => none }
def FnThroughWrongFalsely : Prop := fnThroughRow.holds Try.pinned (OpenSpec.ofChange fnThroughWrong)

/-- 'laws.FnAngles': WHATEVER THE INPUT: true; the input reads as it did. -/
def fnAnglesSpec : ChangeSpec := { name := "fnAngles", fn := fun _ => fun
  | [d] => { results := [.lit (.bool true)], args := [d] }
  | _ => none }
def fnAnglesRow : OpenClaim := { program := "yteoiceegifcecab", sum := "fecad461438e4f573d4e7bc530906d51ce2f980f52aff446275577f394804cc5", func := "loop.example/g00832/laws.FnAngles", spec := "fnAngles", apart := false }
def FnAnglesSaid : Prop := fnAnglesRow.holds Try.pinned (OpenSpec.ofChange fnAnglesSpec)

/-- ITS FALSE NEIGHBOUR: 'it returns false'. Refute it at one input. -/
def fnAnglesWrong : ChangeSpec := { name := "fnAngles", fn := fun _ => fun
  | [d] => { results := [.lit (.bool false)], args := [d] }
  | _ => none }
def FnAnglesWrongFalsely : Prop := fnAnglesRow.holds Try.pinned (OpenSpec.ofChange fnAnglesWrong)

/-- 'laws.FnHalves': WHATEVER THE INPUT: true; the input reads as it did. -/
def fnHalvesSpec : ChangeSpec := { name := "fnHalves", fn := fun _ => fun
  | [d] => { results := [.lit (.bool true)], args := [d] }
  | _ => none }
def fnHalvesRow : OpenClaim := { program := "yteoiceegifcecab", sum := "fecad461438e4f573d4e7bc530906d51ce2f980f52aff446275577f394804cc5", func := "loop.example/g00832/laws.FnHalves", spec := "fnHalves", apart := false }
def FnHalvesSaid : Prop := fnHalvesRow.holds Try.pinned (OpenSpec.ofChange fnHalvesSpec)

/-- ITS FALSE NEIGHBOUR: 'it returns false'. Refute it at one input. -/
def fnHalvesWrong : ChangeSpec := { name := "fnHalves", fn := fun _ => fun
  | [d] => { results := [.lit (.bool false)], args := [d] }
  | _ => none }
def FnHalvesWrongFalsely : Prop := fnHalvesRow.holds Try.pinned (OpenSpec.ofChange fnHalvesWrong)

/- THE SECOND FORM. 'bulk': how many values and letters a reading holds, each counted each time it is reached (what is shared counts as often as it is met; a slice's spare places count too). A statement '..UptoSaid' is the law's where the arguments, and the package variables that the reading takes, are together of bulk at most 1048576: NARROWER than '..Said'. Prove '..Said' where nothing that the law and all that it calls make is longer than what came in: it says more and counts as full. Else prove '..UptoSaid'. A law counts once. -/
mutual
def uptoBulk {H : Type} : DataW H → Nat
  | .lit (.string bytes) => bytes.length + 1
  | .lit _ => 1
  | .nil => 1
  | .ptr d => uptoBulk d + 1
  | .slice elems spare => uptoBulkAll elems + uptoBulkAll spare + 1
  | .agg parts => uptoBulkAll parts + 1
  | .iface _ d => uptoBulk d + 1
  | .map entries => uptoBulkEntries entries + 1
  | .held _ => 1
def uptoBulkAll {H : Type} : List (DataW H) → Nat
  | [] => 0
  | d :: r => uptoBulk d + uptoBulkAll r
def uptoBulkEntries {H : Type} : List (Lit × DataW H) → Nat
  | [] => 0
  | x :: r => uptoBulkEntry x + uptoBulkEntries r
def uptoBulkEntry {H : Type} : Lit × DataW H → Nat
  | (.string bytes, d) => bytes.length + uptoBulk d + 1
  | (_, d) => uptoBulk d + 1
 end
def uptoSmall : (H : Type) → List (DataW H) → Bool := fun _ ds => decide (uptoBulkAll ds ≤ 1048576)
def OpenSpec.upto (s : _root_.Go.ChangeSpec) : _root_.Go.OpenSpec := { _root_.Go.OpenSpec.ofChange s with cond := some uptoSmall }

/-- 'laws.FnExactHalfOf', WHERE WHAT IT READS IS OF BULK AT MOST 1048576: true; the input reads as it did. -/
def fnExactHalfOfUptoRow : OpenClaim := { program := "yteoiceegifcecab", sum := "fecad461438e4f573d4e7bc530906d51ce2f980f52aff446275577f394804cc5", func := "loop.example/g00832/laws.FnExactHalfOf", spec := "fnExactHalfOf", apart := false, narrowed := true }
def FnExactHalfOfUptoSaid : Prop := fnExactHalfOfUptoRow.holds Try.pinned (OpenSpec.upto fnExactHalfOfSpec)

/-- 'laws.FnExactSideOf', WHERE WHAT IT READS IS OF BULK AT MOST 1048576: true; the input reads as it did. -/
def fnExactSideOfUptoRow : OpenClaim := { program := "yteoiceegifcecab", sum := "fecad461438e4f573d4e7bc530906d51ce2f980f52aff446275577f394804cc5", func := "loop.example/g00832/laws.FnExactSideOf", spec := "fnExactSideOf", apart := false, narrowed := true }
def FnExactSideOfUptoSaid : Prop := fnExactSideOfUptoRow.holds Try.pinned (OpenSpec.upto fnExactSideOfSpec)

/-- 'laws.FnExactHoldsAt', WHERE WHAT IT READS IS OF BULK AT MOST 1048576: true; the input reads as it did. -/
def fnExactHoldsAtUptoRow : OpenClaim := { program := "yteoiceegifcecab", sum := "fecad461438e4f573d4e7bc530906d51ce2f980f52aff446275577f394804cc5", func := "loop.example/g00832/laws.FnExactHoldsAt", spec := "fnExactHoldsAt", apart := false, narrowed := true }
def FnExactHoldsAtUptoSaid : Prop := fnExactHoldsAtUptoRow.holds Try.pinned (OpenSpec.upto fnExactHoldsAtSpec)

/-- 'laws.FnExactOtherSide', WHERE WHAT IT READS IS OF BULK AT MOST 1048576: true; the input reads as it did. -/
def fnExactOtherSideUptoRow : OpenClaim := { program := "yteoiceegifcecab", sum := "fecad461438e4f573d4e7bc530906d51ce2f980f52aff446275577f394804cc5", func := "loop.example/g00832/laws.FnExactOtherSide", spec := "fnExactOtherSide", apart := false, narrowed := true }
def FnExactOtherSideUptoSaid : Prop := fnExactOtherSideUptoRow.holds Try.pinned (OpenSpec.upto fnExactOtherSideSpec)

/-- 'laws.FnExactCrossingOf', WHERE WHAT IT READS IS OF BULK AT MOST 1048576: true; the input reads as it did. -/
def fnExactCrossingOfUptoRow : OpenClaim := { program := "yteoiceegifcecab", sum := "fecad461438e4f573d4e7bc530906d51ce2f980f52aff446275577f394804cc5", func := "loop.example/g00832/laws.FnExactCrossingOf", spec := "fnExactCrossingOf", apart := false, narrowed := true }
def FnExactCrossingOfUptoSaid : Prop := fnExactCrossingOfUptoRow.holds Try.pinned (OpenSpec.upto fnExactCrossingOfSpec)

/-- 'laws.FnExactBeforeAngle', WHERE WHAT IT READS IS OF BULK AT MOST 1048576: true; the input reads as it did. -/
def fnExactBeforeAngleUptoRow : OpenClaim := { program := "yteoiceegifcecab", sum := "fecad461438e4f573d4e7bc530906d51ce2f980f52aff446275577f394804cc5", func := "loop.example/g00832/laws.FnExactBeforeAngle", spec := "fnExactBeforeAngle", apart := false, narrowed := true }
def FnExactBeforeAngleUptoSaid : Prop := fnExactBeforeAngleUptoRow.holds Try.pinned (OpenSpec.upto fnExactBeforeAngleSpec)

/-- 'laws.FnExactSameDirection', WHERE WHAT IT READS IS OF BULK AT MOST 1048576: true; the input reads as it did. -/
def fnExactSameDirectionUptoRow : OpenClaim := { program := "yteoiceegifcecab", sum := "fecad461438e4f573d4e7bc530906d51ce2f980f52aff446275577f394804cc5", func := "loop.example/g00832/laws.FnExactSameDirection", spec := "fnExactSameDirection", apart := false, narrowed := true }
def FnExactSameDirectionUptoSaid : Prop := fnExactSameDirectionUptoRow.holds Try.pinned (OpenSpec.upto fnExactSameDirectionSpec)

/-- 'laws.FnExactTighterHalf', WHERE WHAT IT READS IS OF BULK AT MOST 1048576: true; the input reads as it did. -/
def fnExactTighterHalfUptoRow : OpenClaim := { program := "yteoiceegifcecab", sum := "fecad461438e4f573d4e7bc530906d51ce2f980f52aff446275577f394804cc5", func := "loop.example/g00832/laws.FnExactTighterHalf", spec := "fnExactTighterHalf", apart := false, narrowed := true }
def FnExactTighterHalfUptoSaid : Prop := fnExactTighterHalfUptoRow.holds Try.pinned (OpenSpec.upto fnExactTighterHalfSpec)

/-- 'laws.FnExactThroughSpots', WHERE WHAT IT READS IS OF BULK AT MOST 1048576: true; the input reads as it did. -/
def fnExactThroughSpotsUptoRow : OpenClaim := { program := "yteoiceegifcecab", sum := "fecad461438e4f573d4e7bc530906d51ce2f980f52aff446275577f394804cc5", func := "loop.example/g00832/laws.FnExactThroughSpots", spec := "fnExactThroughSpots", apart := false, narrowed := true }
def FnExactThroughSpotsUptoSaid : Prop := fnExactThroughSpotsUptoRow.holds Try.pinned (OpenSpec.upto fnExactThroughSpotsSpec)

/-- 'laws.FnThrough', WHERE WHAT IT READS IS OF BULK AT MOST 1048576: true; the input reads as it did. -/
def fnThroughUptoRow : OpenClaim := { program := "yteoiceegifcecab", sum := "fecad461438e4f573d4e7bc530906d51ce2f980f52aff446275577f394804cc5", func := "loop.example/g00832/laws.FnThrough", spec := "fnThrough", apart := false, narrowed := true }
def FnThroughUptoSaid : Prop := fnThroughUptoRow.holds Try.pinned (OpenSpec.upto fnThroughSpec)

/-- 'laws.FnAngles', WHERE WHAT IT READS IS OF BULK AT MOST 1048576: true; the input reads as it did. -/
def fnAnglesUptoRow : OpenClaim := { program := "yteoiceegifcecab", sum := "fecad461438e4f573d4e7bc530906d51ce2f980f52aff446275577f394804cc5", func := "loop.example/g00832/laws.FnAngles", spec := "fnAngles", apart := false, narrowed := true }
def FnAnglesUptoSaid : Prop := fnAnglesUptoRow.holds Try.pinned (OpenSpec.upto fnAnglesSpec)

/-- 'laws.FnHalves', WHERE WHAT IT READS IS OF BULK AT MOST 1048576: true; the input reads as it did. -/
def fnHalvesUptoRow : OpenClaim := { program := "yteoiceegifcecab", sum := "fecad461438e4f573d4e7bc530906d51ce2f980f52aff446275577f394804cc5", func := "loop.example/g00832/laws.FnHalves", spec := "fnHalves", apart := false, narrowed := true }
def FnHalvesUptoSaid : Prop := fnHalvesUptoRow.holds Try.pinned (OpenSpec.upto fnHalvesSpec)

end Rows
end Go.Proofs.Yteoiceegifcecab
