/-
  DERIVED. GIVEN WITH THE SEED: THE CARDS: each row of YtkmfejdmdiemaaaDoorRows.lean that lists a variable, with what it lists TIED to the program's text (the seventh form; the later family's looks); each row that meets fmt, with fmt's text TOLD by the authors' own Lean function (tested against real Go, not proved from fmt's source: count such statements apart). THE CARD IS WHAT COUNTS. Prove the row's statement (the work); the ties are given (YtkmfejdmdiemaaaDoorTie.lean); close each card by the builder's one call (the guide's Derived/Test/ToyasCard.lean, 'card_holds'). Laid BY PROGRAM, IN A SANDBOX (cutbox-door.mjs). By AI agents, Wed Nov 11 2026. No macro, syntax, notation, axiom, sorry.
-/
import Derived.Test.YtkmfejdmdiemaaaDoorRows
import GoSem.ClaimSeven
namespace Go.Proofs.YtkmfejdmdiemaaaDoor
namespace Rows

/-- THE TIED CARD OF 'laws.FnExactFormatRatio'. -/
def fnExactFormatRatioCard : Claim7 := { stood := { row := fnExactFormatRatioRow, standIns := [], harness := (true, "18ab7a220984cf45a2f9fe5e7e2c57dce86fea67512f97d1dae23217881d10e6"), looks := true }, kinds := [], alts := [], laidByText := true, laidKinds := [.data, .data, .data], laidTests := true, laidLooks := .later }
def FnExactFormatRatioCardSaid : Prop := Claim7.holds Tryd.pinned (.plain (OpenSpec.ofChange fnExactFormatRatioSpec)) fnExactFormatRatioCard

/-- THE TIED CARD OF 'laws.FnExactFormatSpot'. -/
def fnExactFormatSpotCard : Claim7 := { stood := { row := fnExactFormatSpotRow, standIns := [], harness := (true, "18ab7a220984cf45a2f9fe5e7e2c57dce86fea67512f97d1dae23217881d10e6"), looks := true }, kinds := [], alts := [], laidByText := true, laidKinds := [.data, .data, .data], laidTests := true, laidLooks := .later }
def FnExactFormatSpotCardSaid : Prop := Claim7.holds Tryd.pinned (.plain (OpenSpec.ofChange fnExactFormatSpotSpec)) fnExactFormatSpotCard

/-- THE TIED CARD OF 'laws.FnExactParseRatio'. -/
def fnExactParseRatioCard : Claim7 := { stood := { row := fnExactParseRatioRow, standIns := [], harness := (true, "18ab7a220984cf45a2f9fe5e7e2c57dce86fea67512f97d1dae23217881d10e6"), looks := true }, kinds := [], alts := [], laidByText := true, laidKinds := [.data, .data, .data, .sentinel, .sentinel], laidTests := true, laidLooks := .later }
def FnExactParseRatioCardSaid : Prop := Claim7.holds Tryd.pinned (.plain (OpenSpec.ofChange fnExactParseRatioSpec)) fnExactParseRatioCard

/-- THE TIED CARD OF 'laws.FnExactParseSpot'. -/
def fnExactParseSpotCard : Claim7 := { stood := { row := fnExactParseSpotRow, standIns := [], harness := (true, "18ab7a220984cf45a2f9fe5e7e2c57dce86fea67512f97d1dae23217881d10e6"), looks := true }, kinds := [], alts := [], laidByText := true, laidKinds := [.data, .data, .data, .sentinel, .sentinel], laidTests := true, laidLooks := .later }
def FnExactParseSpotCardSaid : Prop := Claim7.holds Tryd.pinned (.plain (OpenSpec.ofChange fnExactParseSpotSpec)) fnExactParseSpotCard

/-- THE TIED CARD OF 'laws.FnRatios'. -/
def fnRatiosCard : Claim7 := { stood := { row := fnRatiosRow, standIns := [], harness := (true, "18ab7a220984cf45a2f9fe5e7e2c57dce86fea67512f97d1dae23217881d10e6"), looks := true }, kinds := [], alts := [], laidByText := true, laidKinds := [.data, .data, .data, .sentinel, .sentinel], laidTests := true, laidLooks := .later }
def FnRatiosCardSaid : Prop := Claim7.holds Tryd.pinned (.plain (OpenSpec.ofChange fnRatiosSpec)) fnRatiosCard

/-- THE TIED CARD OF 'laws.FnSpots'. -/
def fnSpotsCard : Claim7 := { stood := { row := fnSpotsRow, standIns := [], harness := (true, "18ab7a220984cf45a2f9fe5e7e2c57dce86fea67512f97d1dae23217881d10e6"), looks := true }, kinds := [], alts := [], laidByText := true, laidKinds := [.data, .data, .data, .sentinel, .sentinel], laidTests := true, laidLooks := .later }
def FnSpotsCardSaid : Prop := Claim7.holds Tryd.pinned (.plain (OpenSpec.ofChange fnSpotsSpec)) fnSpotsCard

/-- THE SECOND FORM's CARD OF 'laws.FnExactFormatRatio'. -/
def fnExactFormatRatioUptoCard : Claim7 := { stood := { row := fnExactFormatRatioUptoRow, standIns := [], harness := (true, "18ab7a220984cf45a2f9fe5e7e2c57dce86fea67512f97d1dae23217881d10e6"), looks := true }, kinds := [], alts := [], laidByText := true, laidKinds := [.data, .data, .data], laidTests := true, laidLooks := .later }
def FnExactFormatRatioUptoCardSaid : Prop := Claim7.holds Tryd.pinned (.plain (OpenSpec.upto fnExactFormatRatioSpec)) fnExactFormatRatioUptoCard

/-- THE SECOND FORM's CARD OF 'laws.FnExactFormatSpot'. -/
def fnExactFormatSpotUptoCard : Claim7 := { stood := { row := fnExactFormatSpotUptoRow, standIns := [], harness := (true, "18ab7a220984cf45a2f9fe5e7e2c57dce86fea67512f97d1dae23217881d10e6"), looks := true }, kinds := [], alts := [], laidByText := true, laidKinds := [.data, .data, .data], laidTests := true, laidLooks := .later }
def FnExactFormatSpotUptoCardSaid : Prop := Claim7.holds Tryd.pinned (.plain (OpenSpec.upto fnExactFormatSpotSpec)) fnExactFormatSpotUptoCard

/-- THE SECOND FORM's CARD OF 'laws.FnExactParseRatio'. -/
def fnExactParseRatioUptoCard : Claim7 := { stood := { row := fnExactParseRatioUptoRow, standIns := [], harness := (true, "18ab7a220984cf45a2f9fe5e7e2c57dce86fea67512f97d1dae23217881d10e6"), looks := true }, kinds := [], alts := [], laidByText := true, laidKinds := [.data, .data, .data, .sentinel, .sentinel], laidTests := true, laidLooks := .later }
def FnExactParseRatioUptoCardSaid : Prop := Claim7.holds Tryd.pinned (.plain (OpenSpec.upto fnExactParseRatioSpec)) fnExactParseRatioUptoCard

/-- THE SECOND FORM's CARD OF 'laws.FnExactParseSpot'. -/
def fnExactParseSpotUptoCard : Claim7 := { stood := { row := fnExactParseSpotUptoRow, standIns := [], harness := (true, "18ab7a220984cf45a2f9fe5e7e2c57dce86fea67512f97d1dae23217881d10e6"), looks := true }, kinds := [], alts := [], laidByText := true, laidKinds := [.data, .data, .data, .sentinel, .sentinel], laidTests := true, laidLooks := .later }
def FnExactParseSpotUptoCardSaid : Prop := Claim7.holds Tryd.pinned (.plain (OpenSpec.upto fnExactParseSpotSpec)) fnExactParseSpotUptoCard

/-- THE SECOND FORM's CARD OF 'laws.FnRatios'. -/
def fnRatiosUptoCard : Claim7 := { stood := { row := fnRatiosUptoRow, standIns := [], harness := (true, "18ab7a220984cf45a2f9fe5e7e2c57dce86fea67512f97d1dae23217881d10e6"), looks := true }, kinds := [], alts := [], laidByText := true, laidKinds := [.data, .data, .data, .sentinel, .sentinel], laidTests := true, laidLooks := .later }
def FnRatiosUptoCardSaid : Prop := Claim7.holds Tryd.pinned (.plain (OpenSpec.upto fnRatiosSpec)) fnRatiosUptoCard

/-- THE SECOND FORM's CARD OF 'laws.FnSpots'. -/
def fnSpotsUptoCard : Claim7 := { stood := { row := fnSpotsUptoRow, standIns := [], harness := (true, "18ab7a220984cf45a2f9fe5e7e2c57dce86fea67512f97d1dae23217881d10e6"), looks := true }, kinds := [], alts := [], laidByText := true, laidKinds := [.data, .data, .data, .sentinel, .sentinel], laidTests := true, laidLooks := .later }
def FnSpotsUptoCardSaid : Prop := Claim7.holds Tryd.pinned (.plain (OpenSpec.upto fnSpotsSpec)) fnSpotsUptoCard
end Rows
end Go.Proofs.YtkmfejdmdiemaaaDoor
