/-
  No cell of these rows narrows 'for every input' (looked for: loops, veiled, ifaces, maps, wideKeys, modest, calm, conditions, laid).
  DERIVED. THE GIVEN ROWS OF THIS SEAT. 12 by the template 'for every input the law returns true; each argument reads behind the call as it read before'; 0 by the template 'total and deterministic' (their statements: YteoiceegifcecaaTotals.lean).
  GIVEN WITH THE SEED: the statements are not yours to turn. If you find one false, say at which input.
  Laid BY PROGRAM, IN A SANDBOX (cutbox-rows.mjs): the forced cells as the released guide's own fill.sh prints them over the translation e1ab6751be98cf18… (all of the seat's roots in one cut). By AI agents, Wed Nov 11 2026. No macro, syntax, notation, axiom, sorry.
-/
import Derived.Test.YteoiceegifcecaaChecked
import GoSem.Claim
import GoSem.ClaimJoined
import GoSem.ClaimMapViews
import Derived.JoinedTies
import Derived.KernelRfl
namespace Go.Proofs.Yteoiceegifcecaa
/- THE CELL 'sum', in the pinned program and in every row, IS THE sha256 OF THE DUMP (.gsa) THAT YteoiceegifcecaaProg.lean LOADS. Nothing in Lean hashes anything: it is a label: what it is worth is what the hold of that sum in a sandbox is worth. -/
noncomputable def Try.pinned : Pinned := { name := "yteoiceegifcecaa", sum := "e1ab6751be98cf189fdbbbc183cf3a3f7bc5a431bc191af5c83a55358becf91f", checked := Try.checked }
namespace Rows
def none {H : Type} : Left H := { results := [], args := [] }

/-- 'laws.FnExactRatioOk': WHATEVER THE INPUT: true; the input reads as it did. -/
def fnExactRatioOkSpec : ChangeSpec := { name := "fnExactRatioOk", fn := fun _ => fun
  | [d] => { results := [.lit (.bool true)], args := [d] }
  | _ => none }
def fnExactRatioOkRow : OpenClaim := { program := "yteoiceegifcecaa", sum := "e1ab6751be98cf189fdbbbc183cf3a3f7bc5a431bc191af5c83a55358becf91f", func := "loop.example/g00832/laws.FnExactRatioOk", spec := "fnExactRatioOk", apart := false }
def FnExactRatioOkSaid : Prop := fnExactRatioOkRow.holds Try.pinned (OpenSpec.ofChange fnExactRatioOkSpec)

/-- ITS FALSE NEIGHBOUR: 'it returns false'. Refute it at one input. -/
def fnExactRatioOkWrong : ChangeSpec := { name := "fnExactRatioOk", fn := fun _ => fun
  | [d] => { results := [.lit (.bool false)], args := [d] }
  | _ => none }
def FnExactRatioOkWrongFalsely : Prop := fnExactRatioOkRow.holds Try.pinned (OpenSpec.ofChange fnExactRatioOkWrong)

/-- 'laws.FnExactRatioOf': WHATEVER THE INPUT: true; the input reads as it did. -/
def fnExactRatioOfSpec : ChangeSpec := { name := "fnExactRatioOf", fn := fun _ => fun
  | [d1, d2] => { results := [.lit (.bool true)], args := [d1, d2] }
  | _ => none }
def fnExactRatioOfRow : OpenClaim := { program := "yteoiceegifcecaa", sum := "e1ab6751be98cf189fdbbbc183cf3a3f7bc5a431bc191af5c83a55358becf91f", func := "loop.example/g00832/laws.FnExactRatioOf", spec := "fnExactRatioOf", apart := false }
def FnExactRatioOfSaid : Prop := fnExactRatioOfRow.holds Try.pinned (OpenSpec.ofChange fnExactRatioOfSpec)

/-- ITS FALSE NEIGHBOUR: 'it returns false'. Refute it at one input. -/
def fnExactRatioOfWrong : ChangeSpec := { name := "fnExactRatioOf", fn := fun _ => fun
  | [d1, d2] => { results := [.lit (.bool false)], args := [d1, d2] }
  | _ => none }
def FnExactRatioOfWrongFalsely : Prop := fnExactRatioOfRow.holds Try.pinned (OpenSpec.ofChange fnExactRatioOfWrong)

/-- 'laws.FnExactRatioFloor': WHATEVER THE INPUT: true; the input reads as it did. -/
def fnExactRatioFloorSpec : ChangeSpec := { name := "fnExactRatioFloor", fn := fun _ => fun
  | [d] => { results := [.lit (.bool true)], args := [d] }
  | _ => none }
def fnExactRatioFloorRow : OpenClaim := { program := "yteoiceegifcecaa", sum := "e1ab6751be98cf189fdbbbc183cf3a3f7bc5a431bc191af5c83a55358becf91f", func := "loop.example/g00832/laws.FnExactRatioFloor", spec := "fnExactRatioFloor", apart := false }
def FnExactRatioFloorSaid : Prop := fnExactRatioFloorRow.holds Try.pinned (OpenSpec.ofChange fnExactRatioFloorSpec)

/-- ITS FALSE NEIGHBOUR: 'it returns false'. Refute it at one input. -/
def fnExactRatioFloorWrong : ChangeSpec := { name := "fnExactRatioFloor", fn := fun _ => fun
  | [d] => { results := [.lit (.bool false)], args := [d] }
  | _ => none }
def FnExactRatioFloorWrongFalsely : Prop := fnExactRatioFloorRow.holds Try.pinned (OpenSpec.ofChange fnExactRatioFloorWrong)

/-- 'laws.FnExactRatioCeil': WHATEVER THE INPUT: true; the input reads as it did. -/
def fnExactRatioCeilSpec : ChangeSpec := { name := "fnExactRatioCeil", fn := fun _ => fun
  | [d] => { results := [.lit (.bool true)], args := [d] }
  | _ => none }
def fnExactRatioCeilRow : OpenClaim := { program := "yteoiceegifcecaa", sum := "e1ab6751be98cf189fdbbbc183cf3a3f7bc5a431bc191af5c83a55358becf91f", func := "loop.example/g00832/laws.FnExactRatioCeil", spec := "fnExactRatioCeil", apart := false }
def FnExactRatioCeilSaid : Prop := fnExactRatioCeilRow.holds Try.pinned (OpenSpec.ofChange fnExactRatioCeilSpec)

/-- ITS FALSE NEIGHBOUR: 'it returns false'. Refute it at one input. -/
def fnExactRatioCeilWrong : ChangeSpec := { name := "fnExactRatioCeil", fn := fun _ => fun
  | [d] => { results := [.lit (.bool false)], args := [d] }
  | _ => none }
def FnExactRatioCeilWrongFalsely : Prop := fnExactRatioCeilRow.holds Try.pinned (OpenSpec.ofChange fnExactRatioCeilWrong)

/-- 'laws.FnExactRatioCmp': WHATEVER THE INPUT: true; the input reads as it did. -/
def fnExactRatioCmpSpec : ChangeSpec := { name := "fnExactRatioCmp", fn := fun _ => fun
  | [d1, d2] => { results := [.lit (.bool true)], args := [d1, d2] }
  | _ => none }
def fnExactRatioCmpRow : OpenClaim := { program := "yteoiceegifcecaa", sum := "e1ab6751be98cf189fdbbbc183cf3a3f7bc5a431bc191af5c83a55358becf91f", func := "loop.example/g00832/laws.FnExactRatioCmp", spec := "fnExactRatioCmp", apart := false }
def FnExactRatioCmpSaid : Prop := fnExactRatioCmpRow.holds Try.pinned (OpenSpec.ofChange fnExactRatioCmpSpec)

/-- ITS FALSE NEIGHBOUR: 'it returns false'. Refute it at one input. -/
def fnExactRatioCmpWrong : ChangeSpec := { name := "fnExactRatioCmp", fn := fun _ => fun
  | [d1, d2] => { results := [.lit (.bool false)], args := [d1, d2] }
  | _ => none }
def FnExactRatioCmpWrongFalsely : Prop := fnExactRatioCmpRow.holds Try.pinned (OpenSpec.ofChange fnExactRatioCmpWrong)

/-- 'laws.FnExactRatioMin': WHATEVER THE INPUT: true; the input reads as it did. -/
def fnExactRatioMinSpec : ChangeSpec := { name := "fnExactRatioMin", fn := fun _ => fun
  | [d1, d2] => { results := [.lit (.bool true)], args := [d1, d2] }
  | _ => none }
def fnExactRatioMinRow : OpenClaim := { program := "yteoiceegifcecaa", sum := "e1ab6751be98cf189fdbbbc183cf3a3f7bc5a431bc191af5c83a55358becf91f", func := "loop.example/g00832/laws.FnExactRatioMin", spec := "fnExactRatioMin", apart := false }
def FnExactRatioMinSaid : Prop := fnExactRatioMinRow.holds Try.pinned (OpenSpec.ofChange fnExactRatioMinSpec)

/-- ITS FALSE NEIGHBOUR: 'it returns false'. Refute it at one input. -/
def fnExactRatioMinWrong : ChangeSpec := { name := "fnExactRatioMin", fn := fun _ => fun
  | [d1, d2] => { results := [.lit (.bool false)], args := [d1, d2] }
  | _ => none }
def FnExactRatioMinWrongFalsely : Prop := fnExactRatioMinRow.holds Try.pinned (OpenSpec.ofChange fnExactRatioMinWrong)

/-- 'laws.FnExactRatioMax': WHATEVER THE INPUT: true; the input reads as it did. -/
def fnExactRatioMaxSpec : ChangeSpec := { name := "fnExactRatioMax", fn := fun _ => fun
  | [d1, d2] => { results := [.lit (.bool true)], args := [d1, d2] }
  | _ => none }
def fnExactRatioMaxRow : OpenClaim := { program := "yteoiceegifcecaa", sum := "e1ab6751be98cf189fdbbbc183cf3a3f7bc5a431bc191af5c83a55358becf91f", func := "loop.example/g00832/laws.FnExactRatioMax", spec := "fnExactRatioMax", apart := false }
def FnExactRatioMaxSaid : Prop := fnExactRatioMaxRow.holds Try.pinned (OpenSpec.ofChange fnExactRatioMaxSpec)

/-- ITS FALSE NEIGHBOUR: 'it returns false'. Refute it at one input. -/
def fnExactRatioMaxWrong : ChangeSpec := { name := "fnExactRatioMax", fn := fun _ => fun
  | [d1, d2] => { results := [.lit (.bool false)], args := [d1, d2] }
  | _ => none }
def FnExactRatioMaxWrongFalsely : Prop := fnExactRatioMaxRow.holds Try.pinned (OpenSpec.ofChange fnExactRatioMaxWrong)

/-- 'laws.FnExactSpotOf': WHATEVER THE INPUT: true; the input reads as it did. -/
def fnExactSpotOfSpec : ChangeSpec := { name := "fnExactSpotOf", fn := fun _ => fun
  | [d1, d2, d3] => { results := [.lit (.bool true)], args := [d1, d2, d3] }
  | _ => none }
def fnExactSpotOfRow : OpenClaim := { program := "yteoiceegifcecaa", sum := "e1ab6751be98cf189fdbbbc183cf3a3f7bc5a431bc191af5c83a55358becf91f", func := "loop.example/g00832/laws.FnExactSpotOf", spec := "fnExactSpotOf", apart := false }
def FnExactSpotOfSaid : Prop := fnExactSpotOfRow.holds Try.pinned (OpenSpec.ofChange fnExactSpotOfSpec)

/-- ITS FALSE NEIGHBOUR: 'it returns false'. Refute it at one input. -/
def fnExactSpotOfWrong : ChangeSpec := { name := "fnExactSpotOf", fn := fun _ => fun
  | [d1, d2, d3] => { results := [.lit (.bool false)], args := [d1, d2, d3] }
  | _ => none }
def FnExactSpotOfWrongFalsely : Prop := fnExactSpotOfRow.holds Try.pinned (OpenSpec.ofChange fnExactSpotOfWrong)

/-- 'laws.FnExactIsWhole': WHATEVER THE INPUT: true; the input reads as it did. -/
def fnExactIsWholeSpec : ChangeSpec := { name := "fnExactIsWhole", fn := fun _ => fun
  | [d] => { results := [.lit (.bool true)], args := [d] }
  | _ => none }
def fnExactIsWholeRow : OpenClaim := { program := "yteoiceegifcecaa", sum := "e1ab6751be98cf189fdbbbc183cf3a3f7bc5a431bc191af5c83a55358becf91f", func := "loop.example/g00832/laws.FnExactIsWhole", spec := "fnExactIsWhole", apart := false }
def FnExactIsWholeSaid : Prop := fnExactIsWholeRow.holds Try.pinned (OpenSpec.ofChange fnExactIsWholeSpec)

/-- ITS FALSE NEIGHBOUR: 'it returns false'. Refute it at one input. -/
def fnExactIsWholeWrong : ChangeSpec := { name := "fnExactIsWhole", fn := fun _ => fun
  | [d] => { results := [.lit (.bool false)], args := [d] }
  | _ => none }
def FnExactIsWholeWrongFalsely : Prop := fnExactIsWholeRow.holds Try.pinned (OpenSpec.ofChange fnExactIsWholeWrong)

/-- 'laws.FnExactShiftSpot': WHATEVER THE INPUT: true; the input reads as it did. -/
def fnExactShiftSpotSpec : ChangeSpec := { name := "fnExactShiftSpot", fn := fun _ => fun
  | [d1, d2, d3] => { results := [.lit (.bool true)], args := [d1, d2, d3] }
  | _ => none }
def fnExactShiftSpotRow : OpenClaim := { program := "yteoiceegifcecaa", sum := "e1ab6751be98cf189fdbbbc183cf3a3f7bc5a431bc191af5c83a55358becf91f", func := "loop.example/g00832/laws.FnExactShiftSpot", spec := "fnExactShiftSpot", apart := false }
def FnExactShiftSpotSaid : Prop := fnExactShiftSpotRow.holds Try.pinned (OpenSpec.ofChange fnExactShiftSpotSpec)

/-- ITS FALSE NEIGHBOUR: 'it returns false'. Refute it at one input. -/
def fnExactShiftSpotWrong : ChangeSpec := { name := "fnExactShiftSpot", fn := fun _ => fun
  | [d1, d2, d3] => { results := [.lit (.bool false)], args := [d1, d2, d3] }
  | _ => none }
def FnExactShiftSpotWrongFalsely : Prop := fnExactShiftSpotRow.holds Try.pinned (OpenSpec.ofChange fnExactShiftSpotWrong)

/-- 'laws.FnExactHalfWay': WHATEVER THE INPUT: true; the input reads as it did. -/
def fnExactHalfWaySpec : ChangeSpec := { name := "fnExactHalfWay", fn := fun _ => fun
  | [d1, d2] => { results := [.lit (.bool true)], args := [d1, d2] }
  | _ => none }
def fnExactHalfWayRow : OpenClaim := { program := "yteoiceegifcecaa", sum := "e1ab6751be98cf189fdbbbc183cf3a3f7bc5a431bc191af5c83a55358becf91f", func := "loop.example/g00832/laws.FnExactHalfWay", spec := "fnExactHalfWay", apart := false }
def FnExactHalfWaySaid : Prop := fnExactHalfWayRow.holds Try.pinned (OpenSpec.ofChange fnExactHalfWaySpec)

/-- ITS FALSE NEIGHBOUR: 'it returns false'. Refute it at one input. -/
def fnExactHalfWayWrong : ChangeSpec := { name := "fnExactHalfWay", fn := fun _ => fun
  | [d1, d2] => { results := [.lit (.bool false)], args := [d1, d2] }
  | _ => none }
def FnExactHalfWayWrongFalsely : Prop := fnExactHalfWayRow.holds Try.pinned (OpenSpec.ofChange fnExactHalfWayWrong)

/-- 'laws.FnExactHalfOk': WHATEVER THE INPUT: true; the input reads as it did. -/
def fnExactHalfOkSpec : ChangeSpec := { name := "fnExactHalfOk", fn := fun _ => fun
  | [d] => { results := [.lit (.bool true)], args := [d] }
  | _ => none }
def fnExactHalfOkRow : OpenClaim := { program := "yteoiceegifcecaa", sum := "e1ab6751be98cf189fdbbbc183cf3a3f7bc5a431bc191af5c83a55358becf91f", func := "loop.example/g00832/laws.FnExactHalfOk", spec := "fnExactHalfOk", apart := false }
def FnExactHalfOkSaid : Prop := fnExactHalfOkRow.holds Try.pinned (OpenSpec.ofChange fnExactHalfOkSpec)

/-- ITS FALSE NEIGHBOUR: 'it returns false'. Refute it at one input. -/
def fnExactHalfOkWrong : ChangeSpec := { name := "fnExactHalfOk", fn := fun _ => fun
  | [d] => { results := [.lit (.bool false)], args := [d] }
  | _ => none }
def FnExactHalfOkWrongFalsely : Prop := fnExactHalfOkRow.holds Try.pinned (OpenSpec.ofChange fnExactHalfOkWrong)

/- THE SECOND FORM. 'bulk': how many values and letters a reading holds, each counted each time it is reached (what is shared counts as often as it is met; a slice's spare places count too). A statement '..UptoSaid' is the law's where the arguments, and the package variables that the reading takes, are together of bulk at most 1048576: NARROWER than '..Said'. Prove '..Said' where nothing that the law and all that it calls make is longer than what came in: it says more and counts as full. Else prove '..UptoSaid'. A law counts once. -/
mutual
def uptoBulk {H : Type} : DataW H → Nat
  | .lit (.string bytes) => bytes.length + 1
  | .lit _ => 1
  | .nil => 1
  | .ptr d => uptoBulk d + 1
  | .slice elems spare => uptoBulkAll elems + uptoBulkAll spare + 1
  | .agg parts => uptoBulkAll parts + 1
  | .iface _ d => uptoBulk d + 1
  | .map entries => uptoBulkEntries entries + 1
  | .held _ => 1
def uptoBulkAll {H : Type} : List (DataW H) → Nat
  | [] => 0
  | d :: r => uptoBulk d + uptoBulkAll r
def uptoBulkEntries {H : Type} : List (Lit × DataW H) → Nat
  | [] => 0
  | x :: r => uptoBulkEntry x + uptoBulkEntries r
def uptoBulkEntry {H : Type} : Lit × DataW H → Nat
  | (.string bytes, d) => bytes.length + uptoBulk d + 1
  | (_, d) => uptoBulk d + 1
 end
def uptoSmall : (H : Type) → List (DataW H) → Bool := fun _ ds => decide (uptoBulkAll ds ≤ 1048576)
def OpenSpec.upto (s : _root_.Go.ChangeSpec) : _root_.Go.OpenSpec := { _root_.Go.OpenSpec.ofChange s with cond := some uptoSmall }

/-- 'laws.FnExactRatioOk', WHERE WHAT IT READS IS OF BULK AT MOST 1048576: true; the input reads as it did. -/
def fnExactRatioOkUptoRow : OpenClaim := { program := "yteoiceegifcecaa", sum := "e1ab6751be98cf189fdbbbc183cf3a3f7bc5a431bc191af5c83a55358becf91f", func := "loop.example/g00832/laws.FnExactRatioOk", spec := "fnExactRatioOk", apart := false, narrowed := true }
def FnExactRatioOkUptoSaid : Prop := fnExactRatioOkUptoRow.holds Try.pinned (OpenSpec.upto fnExactRatioOkSpec)

/-- 'laws.FnExactRatioOf', WHERE WHAT IT READS IS OF BULK AT MOST 1048576: true; the input reads as it did. -/
def fnExactRatioOfUptoRow : OpenClaim := { program := "yteoiceegifcecaa", sum := "e1ab6751be98cf189fdbbbc183cf3a3f7bc5a431bc191af5c83a55358becf91f", func := "loop.example/g00832/laws.FnExactRatioOf", spec := "fnExactRatioOf", apart := false, narrowed := true }
def FnExactRatioOfUptoSaid : Prop := fnExactRatioOfUptoRow.holds Try.pinned (OpenSpec.upto fnExactRatioOfSpec)

/-- 'laws.FnExactRatioFloor', WHERE WHAT IT READS IS OF BULK AT MOST 1048576: true; the input reads as it did. -/
def fnExactRatioFloorUptoRow : OpenClaim := { program := "yteoiceegifcecaa", sum := "e1ab6751be98cf189fdbbbc183cf3a3f7bc5a431bc191af5c83a55358becf91f", func := "loop.example/g00832/laws.FnExactRatioFloor", spec := "fnExactRatioFloor", apart := false, narrowed := true }
def FnExactRatioFloorUptoSaid : Prop := fnExactRatioFloorUptoRow.holds Try.pinned (OpenSpec.upto fnExactRatioFloorSpec)

/-- 'laws.FnExactRatioCeil', WHERE WHAT IT READS IS OF BULK AT MOST 1048576: true; the input reads as it did. -/
def fnExactRatioCeilUptoRow : OpenClaim := { program := "yteoiceegifcecaa", sum := "e1ab6751be98cf189fdbbbc183cf3a3f7bc5a431bc191af5c83a55358becf91f", func := "loop.example/g00832/laws.FnExactRatioCeil", spec := "fnExactRatioCeil", apart := false, narrowed := true }
def FnExactRatioCeilUptoSaid : Prop := fnExactRatioCeilUptoRow.holds Try.pinned (OpenSpec.upto fnExactRatioCeilSpec)

/-- 'laws.FnExactRatioCmp', WHERE WHAT IT READS IS OF BULK AT MOST 1048576: true; the input reads as it did. -/
def fnExactRatioCmpUptoRow : OpenClaim := { program := "yteoiceegifcecaa", sum := "e1ab6751be98cf189fdbbbc183cf3a3f7bc5a431bc191af5c83a55358becf91f", func := "loop.example/g00832/laws.FnExactRatioCmp", spec := "fnExactRatioCmp", apart := false, narrowed := true }
def FnExactRatioCmpUptoSaid : Prop := fnExactRatioCmpUptoRow.holds Try.pinned (OpenSpec.upto fnExactRatioCmpSpec)

/-- 'laws.FnExactRatioMin', WHERE WHAT IT READS IS OF BULK AT MOST 1048576: true; the input reads as it did. -/
def fnExactRatioMinUptoRow : OpenClaim := { program := "yteoiceegifcecaa", sum := "e1ab6751be98cf189fdbbbc183cf3a3f7bc5a431bc191af5c83a55358becf91f", func := "loop.example/g00832/laws.FnExactRatioMin", spec := "fnExactRatioMin", apart := false, narrowed := true }
def FnExactRatioMinUptoSaid : Prop := fnExactRatioMinUptoRow.holds Try.pinned (OpenSpec.upto fnExactRatioMinSpec)

/-- 'laws.FnExactRatioMax', WHERE WHAT IT READS IS OF BULK AT MOST 1048576: true; the input reads as it did. -/
def fnExactRatioMaxUptoRow : OpenClaim := { program := "yteoiceegifcecaa", sum := "e1ab6751be98cf189fdbbbc183cf3a3f7bc5a431bc191af5c83a55358becf91f", func := "loop.example/g00832/laws.FnExactRatioMax", spec := "fnExactRatioMax", apart := false, narrowed := true }
def FnExactRatioMaxUptoSaid : Prop := fnExactRatioMaxUptoRow.holds Try.pinned (OpenSpec.upto fnExactRatioMaxSpec)

/-- 'laws.FnExactSpotOf', WHERE WHAT IT READS IS OF BULK AT MOST 1048576: true; the input reads as it did. -/
def fnExactSpotOfUptoRow : OpenClaim := { program := "yteoiceegifcecaa", sum := "e1ab6751be98cf189fdbbbc183cf3a3f7bc5a431bc191af5c83a55358becf91f", func := "loop.example/g00832/laws.FnExactSpotOf", spec := "fnExactSpotOf", apart := false, narrowed := true }
def FnExactSpotOfUptoSaid : Prop := fnExactSpotOfUptoRow.holds Try.pinned (OpenSpec.upto fnExactSpotOfSpec)

/-- 'laws.FnExactIsWhole', WHERE WHAT IT READS IS OF BULK AT MOST 1048576: true; the input reads as it did. -/
def fnExactIsWholeUptoRow : OpenClaim := { program := "yteoiceegifcecaa", sum := "e1ab6751be98cf189fdbbbc183cf3a3f7bc5a431bc191af5c83a55358becf91f", func := "loop.example/g00832/laws.FnExactIsWhole", spec := "fnExactIsWhole", apart := false, narrowed := true }
def FnExactIsWholeUptoSaid : Prop := fnExactIsWholeUptoRow.holds Try.pinned (OpenSpec.upto fnExactIsWholeSpec)

/-- 'laws.FnExactShiftSpot', WHERE WHAT IT READS IS OF BULK AT MOST 1048576: true; the input reads as it did. -/
def fnExactShiftSpotUptoRow : OpenClaim := { program := "yteoiceegifcecaa", sum := "e1ab6751be98cf189fdbbbc183cf3a3f7bc5a431bc191af5c83a55358becf91f", func := "loop.example/g00832/laws.FnExactShiftSpot", spec := "fnExactShiftSpot", apart := false, narrowed := true }
def FnExactShiftSpotUptoSaid : Prop := fnExactShiftSpotUptoRow.holds Try.pinned (OpenSpec.upto fnExactShiftSpotSpec)

/-- 'laws.FnExactHalfWay', WHERE WHAT IT READS IS OF BULK AT MOST 1048576: true; the input reads as it did. -/
def fnExactHalfWayUptoRow : OpenClaim := { program := "yteoiceegifcecaa", sum := "e1ab6751be98cf189fdbbbc183cf3a3f7bc5a431bc191af5c83a55358becf91f", func := "loop.example/g00832/laws.FnExactHalfWay", spec := "fnExactHalfWay", apart := false, narrowed := true }
def FnExactHalfWayUptoSaid : Prop := fnExactHalfWayUptoRow.holds Try.pinned (OpenSpec.upto fnExactHalfWaySpec)

/-- 'laws.FnExactHalfOk', WHERE WHAT IT READS IS OF BULK AT MOST 1048576: true; the input reads as it did. -/
def fnExactHalfOkUptoRow : OpenClaim := { program := "yteoiceegifcecaa", sum := "e1ab6751be98cf189fdbbbc183cf3a3f7bc5a431bc191af5c83a55358becf91f", func := "loop.example/g00832/laws.FnExactHalfOk", spec := "fnExactHalfOk", apart := false, narrowed := true }
def FnExactHalfOkUptoSaid : Prop := fnExactHalfOkUptoRow.holds Try.pinned (OpenSpec.upto fnExactHalfOkSpec)

end Rows
end Go.Proofs.Yteoiceegifcecaa
