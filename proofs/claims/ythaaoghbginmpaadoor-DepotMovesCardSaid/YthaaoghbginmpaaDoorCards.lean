/-
  DERIVED. GIVEN WITH THE SEED: THE CARDS: each row of YthaaoghbginmpaaDoorRows.lean that lists a variable, with what it lists TIED to the program's text (the seventh form; the later family's looks); each row that meets fmt, with fmt's text TOLD by the authors' own Lean function (tested against real Go, not proved from fmt's source: count such statements apart). THE CARD IS WHAT COUNTS. Prove the row's statement (the work); the ties are given (YthaaoghbginmpaaDoorTie.lean); close each card by the builder's one call (the guide's Derived/Test/ToyasCard.lean, 'card_holds'). Laid BY PROGRAM, IN A SANDBOX (cutbox-door.mjs). By AI agents, Wed Nov 11 2026. No macro, syntax, notation, axiom, sorry.
-/
import Derived.Test.YthaaoghbginmpaaDoorRows
import GoSem.ClaimSeven
namespace Go.Proofs.YthaaoghbginmpaaDoor
namespace Rows

/-- THE TIED CARD OF 'bulkheadlaw08.PrintsFills'. -/
def printsFillsCard : Claim7 := { stood := { row := printsFillsRow, standIns := [], harness := (true, "1d068f4eefb04d78be3a024ca2db7ec01f6045fe4f66575a666619ad57cdb383"), looks := true }, kinds := [], alts := [], laidByText := true, laidKinds := [.handle], laidTests := true, laidLooks := .later }
def PrintsFillsCardSaid : Prop := Claim7.holds Tryd.pinned (.plain (OpenSpec.ofChange printsFillsSpec)) printsFillsCard

/-- THE TIED CARD OF 'bulkheadlaw08.PrintsRuns'. -/
def printsRunsCard : Claim7 := { stood := { row := printsRunsRow, standIns := [], harness := (true, "1d068f4eefb04d78be3a024ca2db7ec01f6045fe4f66575a666619ad57cdb383"), looks := true }, kinds := [], alts := [], laidByText := true, laidKinds := [.handle], laidTests := true, laidLooks := .later }
def PrintsRunsCardSaid : Prop := Claim7.holds Tryd.pinned (.plain (OpenSpec.ofChange printsRunsSpec)) printsRunsCard

/-- THE TIED CARD OF 'bulkheadlaw08.PrintsNone'. -/
def printsNoneCard : Claim7 := { stood := { row := printsNoneRow, standIns := [], harness := (true, "1d068f4eefb04d78be3a024ca2db7ec01f6045fe4f66575a666619ad57cdb383"), looks := true }, kinds := [], alts := [], laidByText := true, laidKinds := [.handle], laidTests := true, laidLooks := .later }
def PrintsNoneCardSaid : Prop := Claim7.holds Tryd.pinned (.plain (OpenSpec.ofChange printsNoneSpec)) printsNoneCard

/-- THE TIED CARD OF 'bulkheadlaw08.PrintsGoes'. -/
def printsGoesCard : Claim7 := { stood := { row := printsGoesRow, standIns := [], harness := (true, "1d068f4eefb04d78be3a024ca2db7ec01f6045fe4f66575a666619ad57cdb383"), looks := true }, kinds := [], alts := [], laidByText := true, laidKinds := [.handle], laidTests := true, laidLooks := .later }
def PrintsGoesCardSaid : Prop := Claim7.holds Tryd.pinned (.plain (OpenSpec.ofChange printsGoesSpec)) printsGoesCard

/-- THE TIED CARD OF 'bulkheadlaw07.DepotMoves'. -/
def depotMovesCard : Claim7 := { stood := { row := depotMovesRow, standIns := [], harness := (true, "1d068f4eefb04d78be3a024ca2db7ec01f6045fe4f66575a666619ad57cdb383"), looks := true }, kinds := [], alts := [], laidByText := true, laidKinds := [.handle], laidTests := true, laidLooks := .later }
def DepotMovesCardSaid : Prop := Claim7.holds Tryd.pinned (.plain (OpenSpec.ofChange depotMovesSpec)) depotMovesCard

/-- THE TIED CARD OF 'bulkheadlaw09.RadixNone'. -/
def radixNoneCard : Claim7 := { stood := { row := radixNoneRow, standIns := [], harness := (true, "1d068f4eefb04d78be3a024ca2db7ec01f6045fe4f66575a666619ad57cdb383"), looks := true }, kinds := [], alts := [], laidByText := true, laidKinds := [.handle], laidTests := true, laidLooks := .later }
def RadixNoneCardSaid : Prop := Claim7.holds Tryd.pinned (.plain (OpenSpec.ofChange radixNoneSpec)) radixNoneCard

/-- THE TIED CARD OF 'bulkheadlaw07.DepotNone'. -/
def depotNoneCard : Claim7 := { stood := { row := depotNoneRow, standIns := [], harness := (true, "1d068f4eefb04d78be3a024ca2db7ec01f6045fe4f66575a666619ad57cdb383"), looks := true }, kinds := [], alts := [], laidByText := true, laidKinds := [.handle], laidTests := true, laidLooks := .later }
def DepotNoneCardSaid : Prop := Claim7.holds Tryd.pinned (.plain (OpenSpec.ofChange depotNoneSpec)) depotNoneCard

/-- THE SECOND FORM's CARD OF 'bulkheadlaw08.PrintsFills'. -/
def printsFillsUptoCard : Claim7 := { stood := { row := printsFillsUptoRow, standIns := [], harness := (true, "1d068f4eefb04d78be3a024ca2db7ec01f6045fe4f66575a666619ad57cdb383"), looks := true }, kinds := [], alts := [], laidByText := true, laidKinds := [.handle], laidTests := true, laidLooks := .later }
def PrintsFillsUptoCardSaid : Prop := Claim7.holds Tryd.pinned (.plain (OpenSpec.upto printsFillsSpec)) printsFillsUptoCard

/-- THE SECOND FORM's CARD OF 'bulkheadlaw08.PrintsRuns'. -/
def printsRunsUptoCard : Claim7 := { stood := { row := printsRunsUptoRow, standIns := [], harness := (true, "1d068f4eefb04d78be3a024ca2db7ec01f6045fe4f66575a666619ad57cdb383"), looks := true }, kinds := [], alts := [], laidByText := true, laidKinds := [.handle], laidTests := true, laidLooks := .later }
def PrintsRunsUptoCardSaid : Prop := Claim7.holds Tryd.pinned (.plain (OpenSpec.upto printsRunsSpec)) printsRunsUptoCard

/-- THE SECOND FORM's CARD OF 'bulkheadlaw08.PrintsNone'. -/
def printsNoneUptoCard : Claim7 := { stood := { row := printsNoneUptoRow, standIns := [], harness := (true, "1d068f4eefb04d78be3a024ca2db7ec01f6045fe4f66575a666619ad57cdb383"), looks := true }, kinds := [], alts := [], laidByText := true, laidKinds := [.handle], laidTests := true, laidLooks := .later }
def PrintsNoneUptoCardSaid : Prop := Claim7.holds Tryd.pinned (.plain (OpenSpec.upto printsNoneSpec)) printsNoneUptoCard

/-- THE SECOND FORM's CARD OF 'bulkheadlaw08.PrintsGoes'. -/
def printsGoesUptoCard : Claim7 := { stood := { row := printsGoesUptoRow, standIns := [], harness := (true, "1d068f4eefb04d78be3a024ca2db7ec01f6045fe4f66575a666619ad57cdb383"), looks := true }, kinds := [], alts := [], laidByText := true, laidKinds := [.handle], laidTests := true, laidLooks := .later }
def PrintsGoesUptoCardSaid : Prop := Claim7.holds Tryd.pinned (.plain (OpenSpec.upto printsGoesSpec)) printsGoesUptoCard

/-- THE SECOND FORM's CARD OF 'bulkheadlaw07.DepotMoves'. -/
def depotMovesUptoCard : Claim7 := { stood := { row := depotMovesUptoRow, standIns := [], harness := (true, "1d068f4eefb04d78be3a024ca2db7ec01f6045fe4f66575a666619ad57cdb383"), looks := true }, kinds := [], alts := [], laidByText := true, laidKinds := [.handle], laidTests := true, laidLooks := .later }
def DepotMovesUptoCardSaid : Prop := Claim7.holds Tryd.pinned (.plain (OpenSpec.upto depotMovesSpec)) depotMovesUptoCard

/-- THE SECOND FORM's CARD OF 'bulkheadlaw09.RadixNone'. -/
def radixNoneUptoCard : Claim7 := { stood := { row := radixNoneUptoRow, standIns := [], harness := (true, "1d068f4eefb04d78be3a024ca2db7ec01f6045fe4f66575a666619ad57cdb383"), looks := true }, kinds := [], alts := [], laidByText := true, laidKinds := [.handle], laidTests := true, laidLooks := .later }
def RadixNoneUptoCardSaid : Prop := Claim7.holds Tryd.pinned (.plain (OpenSpec.upto radixNoneSpec)) radixNoneUptoCard

/-- THE SECOND FORM's CARD OF 'bulkheadlaw07.DepotNone'. -/
def depotNoneUptoCard : Claim7 := { stood := { row := depotNoneUptoRow, standIns := [], harness := (true, "1d068f4eefb04d78be3a024ca2db7ec01f6045fe4f66575a666619ad57cdb383"), looks := true }, kinds := [], alts := [], laidByText := true, laidKinds := [.handle], laidTests := true, laidLooks := .later }
def DepotNoneUptoCardSaid : Prop := Claim7.holds Tryd.pinned (.plain (OpenSpec.upto depotNoneSpec)) depotNoneUptoCard
end Rows
end Go.Proofs.YthaaoghbginmpaaDoor
