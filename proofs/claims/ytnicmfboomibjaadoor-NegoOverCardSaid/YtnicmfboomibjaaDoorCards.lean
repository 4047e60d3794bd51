/-
  DERIVED. GIVEN WITH THE SEED: THE CARDS: each row of YtnicmfboomibjaaDoorRows.lean that lists a variable, with what it lists TIED to the program's text (the seventh form; the later family's looks); each row that meets fmt, with fmt's text TOLD by the authors' own Lean function (tested against real Go, not proved from fmt's source: count such statements apart). THE CARD IS WHAT COUNTS. Prove the row's statement (the work); the ties are given (YtnicmfboomibjaaDoorTie.lean); close each card by the builder's one call (the guide's Derived/Test/ToyasCard.lean, 'card_holds'). Laid BY PROGRAM, IN A SANDBOX (cutbox-door.mjs). By AI agents, Wed Nov 11 2026. No macro, syntax, notation, axiom, sorry.
-/
import Derived.Test.YtnicmfboomibjaaDoorRows
import GoSem.ClaimSeven
namespace Go.Proofs.YtnicmfboomibjaaDoor
namespace Rows

/-- THE TIED CARD OF 'bulkheadlaw15.KeysParse'. -/
def keysParseCard : Claim7 := { stood := { row := keysParseRow, standIns := [], harness := (true, "9c217f7217985c3ebe9017a47c453b0cb6ec36f460b2902a5708fe32822ab517"), looks := true }, kinds := [], alts := [], laidByText := true, laidKinds := [.data, .data, .data, .data, .sentinel, .sentinel, .pinned], laidTests := true, laidLooks := .later }
def KeysParseCardSaid : Prop := Claim7.holds Tryd.pinned (.plain (OpenSpec.ofChange keysParseSpec)) keysParseCard

/-- THE TIED CARD OF 'bulkheadlaw15.KeysNumbers'. -/
def keysNumbersCard : Claim7 := { stood := { row := keysNumbersRow, standIns := [], harness := (true, "9c217f7217985c3ebe9017a47c453b0cb6ec36f460b2902a5708fe32822ab517"), looks := true }, kinds := [], alts := [], laidByText := true, laidKinds := [.data, .data, .data, .data, .sentinel, .sentinel, .pinned], laidTests := true, laidLooks := .later }
def KeysNumbersCardSaid : Prop := Claim7.holds Tryd.pinned (.plain (OpenSpec.ofChange keysNumbersSpec)) keysNumbersCard

/-- THE TIED CARD OF 'bulkheadlaw15.KeysChooses'. -/
def keysChoosesCard : Claim7 := { stood := { row := keysChoosesRow, standIns := [], harness := (true, "9c217f7217985c3ebe9017a47c453b0cb6ec36f460b2902a5708fe32822ab517"), looks := true }, kinds := [], alts := [], laidByText := true, laidKinds := [.data, .data, .data, .data, .sentinel, .sentinel, .pinned], laidTests := true, laidLooks := .later }
def KeysChoosesCardSaid : Prop := Claim7.holds Tryd.pinned (.plain (OpenSpec.ofChange keysChoosesSpec)) keysChoosesCard

/-- THE TIED CARD OF 'bulkheadlaw15.KeysFirst'. -/
def keysFirstCard : Claim7 := { stood := { row := keysFirstRow, standIns := [], harness := (true, "9c217f7217985c3ebe9017a47c453b0cb6ec36f460b2902a5708fe32822ab517"), looks := true }, kinds := [], alts := [], laidByText := true, laidKinds := [.data, .data, .data, .data, .sentinel, .sentinel, .pinned], laidTests := true, laidLooks := .later }
def KeysFirstCardSaid : Prop := Claim7.holds Tryd.pinned (.plain (OpenSpec.ofChange keysFirstSpec)) keysFirstCard

/-- THE TIED CARD OF 'bulkheadlaw15.KeysBack'. -/
def keysBackCard : Claim7 := { stood := { row := keysBackRow, standIns := [], harness := (true, "9c217f7217985c3ebe9017a47c453b0cb6ec36f460b2902a5708fe32822ab517"), looks := true }, kinds := [], alts := [], laidByText := true, laidKinds := [.data, .data, .data, .data, .sentinel, .sentinel, .pinned], laidTests := true, laidLooks := .later }
def KeysBackCardSaid : Prop := Claim7.holds Tryd.pinned (.plain (OpenSpec.ofChange keysBackSpec)) keysBackCard

/-- THE TIED CARD OF 'bulkheadlaw16.NegoDeals'. -/
def negoDealsCard : Claim7 := { stood := { row := negoDealsRow, standIns := [], harness := (true, "9c217f7217985c3ebe9017a47c453b0cb6ec36f460b2902a5708fe32822ab517"), looks := true }, kinds := [], alts := [], laidByText := true, laidKinds := [.data, .data, .data, .data, .sentinel, .sentinel, .pinned], laidTests := true, laidLooks := .later }
def NegoDealsCardSaid : Prop := Claim7.holds Tryd.pinned (.plain (OpenSpec.ofChange negoDealsSpec)) negoDealsCard

/-- THE TIED CARD OF 'bulkheadlaw16.NegoOver'. -/
def negoOverCard : Claim7 := { stood := { row := negoOverRow, standIns := [], harness := (true, "9c217f7217985c3ebe9017a47c453b0cb6ec36f460b2902a5708fe32822ab517"), looks := true }, kinds := [], alts := [], laidByText := true, laidKinds := [.data, .data, .data, .data, .sentinel, .sentinel, .pinned], laidTests := true, laidLooks := .later }
def NegoOverCardSaid : Prop := Claim7.holds Tryd.pinned (.plain (OpenSpec.ofChange negoOverSpec)) negoOverCard

/-- THE TIED CARD OF 'bulkheadlaw16.NegoParts'. -/
def negoPartsCard : Claim7 := { stood := { row := negoPartsRow, standIns := [], harness := (true, "9c217f7217985c3ebe9017a47c453b0cb6ec36f460b2902a5708fe32822ab517"), looks := true }, kinds := [], alts := [], laidByText := true, laidKinds := [.data, .data, .data, .data, .sentinel, .sentinel, .pinned], laidTests := true, laidLooks := .later }
def NegoPartsCardSaid : Prop := Claim7.holds Tryd.pinned (.plain (OpenSpec.ofChange negoPartsSpec)) negoPartsCard

/-- THE TIED CARD OF 'bulkheadlaw16.NegoNames'. -/
def negoNamesCard : Claim7 := { stood := { row := negoNamesRow, standIns := [], harness := (true, "9c217f7217985c3ebe9017a47c453b0cb6ec36f460b2902a5708fe32822ab517"), looks := true }, kinds := [], alts := [], laidByText := true, laidKinds := [.data, .data, .data, .data, .sentinel, .sentinel, .pinned], laidTests := true, laidLooks := .later }
def NegoNamesCardSaid : Prop := Claim7.holds Tryd.pinned (.plain (OpenSpec.ofChange negoNamesSpec)) negoNamesCard

/-- THE SECOND FORM's CARD OF 'bulkheadlaw15.KeysParse'. -/
def keysParseUptoCard : Claim7 := { stood := { row := keysParseUptoRow, standIns := [], harness := (true, "9c217f7217985c3ebe9017a47c453b0cb6ec36f460b2902a5708fe32822ab517"), looks := true }, kinds := [], alts := [], laidByText := true, laidKinds := [.data, .data, .data, .data, .sentinel, .sentinel, .pinned], laidTests := true, laidLooks := .later }
def KeysParseUptoCardSaid : Prop := Claim7.holds Tryd.pinned (.plain (OpenSpec.upto keysParseSpec)) keysParseUptoCard

/-- THE SECOND FORM's CARD OF 'bulkheadlaw15.KeysNumbers'. -/
def keysNumbersUptoCard : Claim7 := { stood := { row := keysNumbersUptoRow, standIns := [], harness := (true, "9c217f7217985c3ebe9017a47c453b0cb6ec36f460b2902a5708fe32822ab517"), looks := true }, kinds := [], alts := [], laidByText := true, laidKinds := [.data, .data, .data, .data, .sentinel, .sentinel, .pinned], laidTests := true, laidLooks := .later }
def KeysNumbersUptoCardSaid : Prop := Claim7.holds Tryd.pinned (.plain (OpenSpec.upto keysNumbersSpec)) keysNumbersUptoCard

/-- THE SECOND FORM's CARD OF 'bulkheadlaw15.KeysChooses'. -/
def keysChoosesUptoCard : Claim7 := { stood := { row := keysChoosesUptoRow, standIns := [], harness := (true, "9c217f7217985c3ebe9017a47c453b0cb6ec36f460b2902a5708fe32822ab517"), looks := true }, kinds := [], alts := [], laidByText := true, laidKinds := [.data, .data, .data, .data, .sentinel, .sentinel, .pinned], laidTests := true, laidLooks := .later }
def KeysChoosesUptoCardSaid : Prop := Claim7.holds Tryd.pinned (.plain (OpenSpec.upto keysChoosesSpec)) keysChoosesUptoCard

/-- THE SECOND FORM's CARD OF 'bulkheadlaw15.KeysFirst'. -/
def keysFirstUptoCard : Claim7 := { stood := { row := keysFirstUptoRow, standIns := [], harness := (true, "9c217f7217985c3ebe9017a47c453b0cb6ec36f460b2902a5708fe32822ab517"), looks := true }, kinds := [], alts := [], laidByText := true, laidKinds := [.data, .data, .data, .data, .sentinel, .sentinel, .pinned], laidTests := true, laidLooks := .later }
def KeysFirstUptoCardSaid : Prop := Claim7.holds Tryd.pinned (.plain (OpenSpec.upto keysFirstSpec)) keysFirstUptoCard

/-- THE SECOND FORM's CARD OF 'bulkheadlaw15.KeysBack'. -/
def keysBackUptoCard : Claim7 := { stood := { row := keysBackUptoRow, standIns := [], harness := (true, "9c217f7217985c3ebe9017a47c453b0cb6ec36f460b2902a5708fe32822ab517"), looks := true }, kinds := [], alts := [], laidByText := true, laidKinds := [.data, .data, .data, .data, .sentinel, .sentinel, .pinned], laidTests := true, laidLooks := .later }
def KeysBackUptoCardSaid : Prop := Claim7.holds Tryd.pinned (.plain (OpenSpec.upto keysBackSpec)) keysBackUptoCard

/-- THE SECOND FORM's CARD OF 'bulkheadlaw16.NegoDeals'. -/
def negoDealsUptoCard : Claim7 := { stood := { row := negoDealsUptoRow, standIns := [], harness := (true, "9c217f7217985c3ebe9017a47c453b0cb6ec36f460b2902a5708fe32822ab517"), looks := true }, kinds := [], alts := [], laidByText := true, laidKinds := [.data, .data, .data, .data, .sentinel, .sentinel, .pinned], laidTests := true, laidLooks := .later }
def NegoDealsUptoCardSaid : Prop := Claim7.holds Tryd.pinned (.plain (OpenSpec.upto negoDealsSpec)) negoDealsUptoCard

/-- THE SECOND FORM's CARD OF 'bulkheadlaw16.NegoOver'. -/
def negoOverUptoCard : Claim7 := { stood := { row := negoOverUptoRow, standIns := [], harness := (true, "9c217f7217985c3ebe9017a47c453b0cb6ec36f460b2902a5708fe32822ab517"), looks := true }, kinds := [], alts := [], laidByText := true, laidKinds := [.data, .data, .data, .data, .sentinel, .sentinel, .pinned], laidTests := true, laidLooks := .later }
def NegoOverUptoCardSaid : Prop := Claim7.holds Tryd.pinned (.plain (OpenSpec.upto negoOverSpec)) negoOverUptoCard

/-- THE SECOND FORM's CARD OF 'bulkheadlaw16.NegoParts'. -/
def negoPartsUptoCard : Claim7 := { stood := { row := negoPartsUptoRow, standIns := [], harness := (true, "9c217f7217985c3ebe9017a47c453b0cb6ec36f460b2902a5708fe32822ab517"), looks := true }, kinds := [], alts := [], laidByText := true, laidKinds := [.data, .data, .data, .data, .sentinel, .sentinel, .pinned], laidTests := true, laidLooks := .later }
def NegoPartsUptoCardSaid : Prop := Claim7.holds Tryd.pinned (.plain (OpenSpec.upto negoPartsSpec)) negoPartsUptoCard

/-- THE SECOND FORM's CARD OF 'bulkheadlaw16.NegoNames'. -/
def negoNamesUptoCard : Claim7 := { stood := { row := negoNamesUptoRow, standIns := [], harness := (true, "9c217f7217985c3ebe9017a47c453b0cb6ec36f460b2902a5708fe32822ab517"), looks := true }, kinds := [], alts := [], laidByText := true, laidKinds := [.data, .data, .data, .data, .sentinel, .sentinel, .pinned], laidTests := true, laidLooks := .later }
def NegoNamesUptoCardSaid : Prop := Claim7.holds Tryd.pinned (.plain (OpenSpec.upto negoNamesSpec)) negoNamesUptoCard
end Rows
end Go.Proofs.YtnicmfboomibjaaDoor
