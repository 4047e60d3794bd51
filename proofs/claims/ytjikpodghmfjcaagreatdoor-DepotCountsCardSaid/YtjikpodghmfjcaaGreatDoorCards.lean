/-
  DERIVED. GIVEN WITH THE SEED: THE CARDS: each row of YtjikpodghmfjcaaGreatDoorRows.lean that lists a variable, with what it lists TIED to the program's text (the seventh form; the later family's looks); each row that meets fmt, with fmt's text TOLD by the authors' own Lean function (tested against real Go, not proved from fmt's source: count such statements apart). THE CARD IS WHAT COUNTS. Prove the row's statement (the work); the ties are given (YtjikpodghmfjcaaGreatDoorTie.lean); close each card by the builder's one call (the guide's Derived/Test/ToyasCard.lean, 'card_holds'). Laid BY PROGRAM, IN A SANDBOX (cutbox-door.mjs). By AI agents, Wed Nov 11 2026. No macro, syntax, notation, axiom, sorry.
-/
import Derived.Test.YtjikpodghmfjcaaGreatDoorRows
import GoSem.ClaimSeven
namespace Go.Proofs.YtjikpodghmfjcaaGreatDoor
namespace Rows

/-- THE TIED CARD OF 'bulkheadlaw07.DepotFills'. -/
def depotFillsCard : Claim7 := { stood := { row := depotFillsRow, standIns := [], harness := (true, "e989c35bec9240c4640b13e1f520e0142668909c735ec49f8c9233dbaac48665"), looks := true }, kinds := [], alts := [], laidByText := true, laidKinds := [.handle], laidTests := true, laidLooks := .later }
def DepotFillsCardSaid : Prop := Claim7.holds Tryz.pinned (.plain (OpenSpec.ofChange depotFillsSpec)) depotFillsCard

/-- THE TIED CARD OF 'bulkheadlaw09.RadixApart'. -/
def radixApartCard : Claim7 := { stood := { row := radixApartRow, standIns := [], harness := (true, "e989c35bec9240c4640b13e1f520e0142668909c735ec49f8c9233dbaac48665"), looks := true }, kinds := [], alts := [], laidByText := true, laidKinds := [.handle], laidTests := true, laidLooks := .later }
def RadixApartCardSaid : Prop := Claim7.holds Tryz.pinned (.plain (OpenSpec.ofChange radixApartSpec)) radixApartCard

/-- THE TIED CARD OF 'bulkheadlaw09.RadixRuns'. -/
def radixRunsCard : Claim7 := { stood := { row := radixRunsRow, standIns := [], harness := (true, "e989c35bec9240c4640b13e1f520e0142668909c735ec49f8c9233dbaac48665"), looks := true }, kinds := [], alts := [], laidByText := true, laidKinds := [.handle], laidTests := true, laidLooks := .later }
def RadixRunsCardSaid : Prop := Claim7.holds Tryz.pinned (.plain (OpenSpec.ofChange radixRunsSpec)) radixRunsCard

/-- THE TIED CARD OF 'bulkheadlaw09.RadixEmpties'. -/
def radixEmptiesCard : Claim7 := { stood := { row := radixEmptiesRow, standIns := [], harness := (true, "e989c35bec9240c4640b13e1f520e0142668909c735ec49f8c9233dbaac48665"), looks := true }, kinds := [], alts := [], laidByText := true, laidKinds := [.handle], laidTests := true, laidLooks := .later }
def RadixEmptiesCardSaid : Prop := Claim7.holds Tryz.pinned (.plain (OpenSpec.ofChange radixEmptiesSpec)) radixEmptiesCard

/-- THE TIED CARD OF 'bulkheadlaw09.RadixFull'. -/
def radixFullCard : Claim7 := { stood := { row := radixFullRow, standIns := [], harness := (true, "e989c35bec9240c4640b13e1f520e0142668909c735ec49f8c9233dbaac48665"), looks := true }, kinds := [], alts := [], laidByText := true, laidKinds := [.handle], laidTests := true, laidLooks := .later }
def RadixFullCardSaid : Prop := Claim7.holds Tryz.pinned (.plain (OpenSpec.ofChange radixFullSpec)) radixFullCard

/-- THE TIED CARD OF 'bulkheadlaw07.DepotRuns'. -/
def depotRunsCard : Claim7 := { stood := { row := depotRunsRow, standIns := [], harness := (true, "e989c35bec9240c4640b13e1f520e0142668909c735ec49f8c9233dbaac48665"), looks := true }, kinds := [], alts := [], laidByText := true, laidKinds := [.handle], laidTests := true, laidLooks := .later }
def DepotRunsCardSaid : Prop := Claim7.holds Tryz.pinned (.plain (OpenSpec.ofChange depotRunsSpec)) depotRunsCard

/-- THE TIED CARD OF 'bulkheadlaw07.DepotCounts'. -/
def depotCountsCard : Claim7 := { stood := { row := depotCountsRow, standIns := [], harness := (true, "e989c35bec9240c4640b13e1f520e0142668909c735ec49f8c9233dbaac48665"), looks := true }, kinds := [], alts := [], laidByText := true, laidKinds := [.handle], laidTests := true, laidLooks := .later }
def DepotCountsCardSaid : Prop := Claim7.holds Tryz.pinned (.plain (OpenSpec.ofChange depotCountsSpec)) depotCountsCard

/-- THE SECOND FORM's CARD OF 'bulkheadlaw07.DepotFills'. -/
def depotFillsUptoCard : Claim7 := { stood := { row := depotFillsUptoRow, standIns := [], harness := (true, "e989c35bec9240c4640b13e1f520e0142668909c735ec49f8c9233dbaac48665"), looks := true }, kinds := [], alts := [], laidByText := true, laidKinds := [.handle], laidTests := true, laidLooks := .later }
def DepotFillsUptoCardSaid : Prop := Claim7.holds Tryz.pinned (.plain (OpenSpec.upto depotFillsSpec)) depotFillsUptoCard

/-- THE SECOND FORM's CARD OF 'bulkheadlaw09.RadixApart'. -/
def radixApartUptoCard : Claim7 := { stood := { row := radixApartUptoRow, standIns := [], harness := (true, "e989c35bec9240c4640b13e1f520e0142668909c735ec49f8c9233dbaac48665"), looks := true }, kinds := [], alts := [], laidByText := true, laidKinds := [.handle], laidTests := true, laidLooks := .later }
def RadixApartUptoCardSaid : Prop := Claim7.holds Tryz.pinned (.plain (OpenSpec.upto radixApartSpec)) radixApartUptoCard

/-- THE SECOND FORM's CARD OF 'bulkheadlaw09.RadixRuns'. -/
def radixRunsUptoCard : Claim7 := { stood := { row := radixRunsUptoRow, standIns := [], harness := (true, "e989c35bec9240c4640b13e1f520e0142668909c735ec49f8c9233dbaac48665"), looks := true }, kinds := [], alts := [], laidByText := true, laidKinds := [.handle], laidTests := true, laidLooks := .later }
def RadixRunsUptoCardSaid : Prop := Claim7.holds Tryz.pinned (.plain (OpenSpec.upto radixRunsSpec)) radixRunsUptoCard

/-- THE SECOND FORM's CARD OF 'bulkheadlaw09.RadixEmpties'. -/
def radixEmptiesUptoCard : Claim7 := { stood := { row := radixEmptiesUptoRow, standIns := [], harness := (true, "e989c35bec9240c4640b13e1f520e0142668909c735ec49f8c9233dbaac48665"), looks := true }, kinds := [], alts := [], laidByText := true, laidKinds := [.handle], laidTests := true, laidLooks := .later }
def RadixEmptiesUptoCardSaid : Prop := Claim7.holds Tryz.pinned (.plain (OpenSpec.upto radixEmptiesSpec)) radixEmptiesUptoCard

/-- THE SECOND FORM's CARD OF 'bulkheadlaw09.RadixFull'. -/
def radixFullUptoCard : Claim7 := { stood := { row := radixFullUptoRow, standIns := [], harness := (true, "e989c35bec9240c4640b13e1f520e0142668909c735ec49f8c9233dbaac48665"), looks := true }, kinds := [], alts := [], laidByText := true, laidKinds := [.handle], laidTests := true, laidLooks := .later }
def RadixFullUptoCardSaid : Prop := Claim7.holds Tryz.pinned (.plain (OpenSpec.upto radixFullSpec)) radixFullUptoCard

/-- THE SECOND FORM's CARD OF 'bulkheadlaw07.DepotRuns'. -/
def depotRunsUptoCard : Claim7 := { stood := { row := depotRunsUptoRow, standIns := [], harness := (true, "e989c35bec9240c4640b13e1f520e0142668909c735ec49f8c9233dbaac48665"), looks := true }, kinds := [], alts := [], laidByText := true, laidKinds := [.handle], laidTests := true, laidLooks := .later }
def DepotRunsUptoCardSaid : Prop := Claim7.holds Tryz.pinned (.plain (OpenSpec.upto depotRunsSpec)) depotRunsUptoCard

/-- THE SECOND FORM's CARD OF 'bulkheadlaw07.DepotCounts'. -/
def depotCountsUptoCard : Claim7 := { stood := { row := depotCountsUptoRow, standIns := [], harness := (true, "e989c35bec9240c4640b13e1f520e0142668909c735ec49f8c9233dbaac48665"), looks := true }, kinds := [], alts := [], laidByText := true, laidKinds := [.handle], laidTests := true, laidLooks := .later }
def DepotCountsUptoCardSaid : Prop := Claim7.holds Tryz.pinned (.plain (OpenSpec.upto depotCountsSpec)) depotCountsUptoCard
end Rows
end Go.Proofs.YtjikpodghmfjcaaGreatDoor
