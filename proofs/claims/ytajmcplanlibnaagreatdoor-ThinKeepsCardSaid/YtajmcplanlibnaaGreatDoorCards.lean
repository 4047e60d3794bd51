/-
  DERIVED. GIVEN WITH THE SEED: THE CARDS: each row of YtajmcplanlibnaaGreatDoorRows.lean that lists a variable, with what it lists TIED to the program's text (the seventh form; the later family's looks); each row that meets fmt, with fmt's text TOLD by the authors' own Lean function (tested against real Go, not proved from fmt's source: count such statements apart). THE CARD IS WHAT COUNTS. Prove the row's statement (the work); the ties are given (YtajmcplanlibnaaGreatDoorTie.lean); close each card by the builder's one call (the guide's Derived/Test/ToyasCard.lean, 'card_holds'). Laid BY PROGRAM, IN A SANDBOX (cutbox-door.mjs). By AI agents, Wed Nov 11 2026. No macro, syntax, notation, axiom, sorry.
-/
import Derived.Test.YtajmcplanlibnaaGreatDoorRows
import GoSem.ClaimSeven
namespace Go.Proofs.YtajmcplanlibnaaGreatDoor
namespace Rows

/-- THE TIED CARD OF 'bulkheadlaw06.PagesUndone'. -/
def pagesUndoneCard : Claim7 := { stood := { row := pagesUndoneRow, standIns := [], harness := (true, "84e21bd42c43b31bd5a19c2e2cdb57f4965d0e2c23da87b763eb40edd69e37d0"), looks := true }, kinds := [], alts := [], laidByText := true, laidKinds := [.handle], laidTests := true, laidLooks := .later }
def PagesUndoneCardSaid : Prop := Claim7.holds Tryz.pinned (.plain (OpenSpec.ofChange pagesUndoneSpec)) pagesUndoneCard

/-- THE TIED CARD OF 'bulkheadlaw06.PagesRuns'. -/
def pagesRunsCard : Claim7 := { stood := { row := pagesRunsRow, standIns := [], harness := (true, "84e21bd42c43b31bd5a19c2e2cdb57f4965d0e2c23da87b763eb40edd69e37d0"), looks := true }, kinds := [], alts := [], laidByText := true, laidKinds := [.handle], laidTests := true, laidLooks := .later }
def PagesRunsCardSaid : Prop := Claim7.holds Tryz.pinned (.plain (OpenSpec.ofChange pagesRunsSpec)) pagesRunsCard

/-- THE TIED CARD OF 'bulkheadlaw08.PrintsUndone'. -/
def printsUndoneCard : Claim7 := { stood := { row := printsUndoneRow, standIns := [], harness := (true, "84e21bd42c43b31bd5a19c2e2cdb57f4965d0e2c23da87b763eb40edd69e37d0"), looks := true }, kinds := [], alts := [], laidByText := true, laidKinds := [.handle], laidTests := true, laidLooks := .later }
def PrintsUndoneCardSaid : Prop := Claim7.holds Tryz.pinned (.plain (OpenSpec.ofChange printsUndoneSpec)) printsUndoneCard

/-- THE TIED CARD OF 'bulkheadlaw09.RadixUndone'. -/
def radixUndoneCard : Claim7 := { stood := { row := radixUndoneRow, standIns := [], harness := (true, "84e21bd42c43b31bd5a19c2e2cdb57f4965d0e2c23da87b763eb40edd69e37d0"), looks := true }, kinds := [], alts := [], laidByText := true, laidKinds := [.handle], laidTests := true, laidLooks := .later }
def RadixUndoneCardSaid : Prop := Claim7.holds Tryz.pinned (.plain (OpenSpec.ofChange radixUndoneSpec)) radixUndoneCard

/-- THE TIED CARD OF 'bulkheadlaw07.DepotUndone'. -/
def depotUndoneCard : Claim7 := { stood := { row := depotUndoneRow, standIns := [], harness := (true, "84e21bd42c43b31bd5a19c2e2cdb57f4965d0e2c23da87b763eb40edd69e37d0"), looks := true }, kinds := [], alts := [], laidByText := true, laidKinds := [.handle], laidTests := true, laidLooks := .later }
def DepotUndoneCardSaid : Prop := Claim7.holds Tryz.pinned (.plain (OpenSpec.ofChange depotUndoneSpec)) depotUndoneCard

/-- THE TIED CARD OF 'bulkheadlaw11.ThinKeeps'. -/
def thinKeepsCard : Claim7 := { stood := { row := thinKeepsRow, standIns := [], harness := (true, "84e21bd42c43b31bd5a19c2e2cdb57f4965d0e2c23da87b763eb40edd69e37d0"), looks := true }, kinds := [], alts := [], laidByText := true, laidKinds := [.handle], laidTests := true, laidLooks := .later }
def ThinKeepsCardSaid : Prop := Claim7.holds Tryz.pinned (.plain (OpenSpec.ofChange thinKeepsSpec)) thinKeepsCard

/-- THE TIED CARD OF 'bulkheadlaw11.ThinOnce'. -/
def thinOnceCard : Claim7 := { stood := { row := thinOnceRow, standIns := [], harness := (true, "84e21bd42c43b31bd5a19c2e2cdb57f4965d0e2c23da87b763eb40edd69e37d0"), looks := true }, kinds := [], alts := [], laidByText := true, laidKinds := [.handle], laidTests := true, laidLooks := .later }
def ThinOnceCardSaid : Prop := Claim7.holds Tryz.pinned (.plain (OpenSpec.ofChange thinOnceSpec)) thinOnceCard

/-- THE SECOND FORM's CARD OF 'bulkheadlaw06.PagesUndone'. -/
def pagesUndoneUptoCard : Claim7 := { stood := { row := pagesUndoneUptoRow, standIns := [], harness := (true, "84e21bd42c43b31bd5a19c2e2cdb57f4965d0e2c23da87b763eb40edd69e37d0"), looks := true }, kinds := [], alts := [], laidByText := true, laidKinds := [.handle], laidTests := true, laidLooks := .later }
def PagesUndoneUptoCardSaid : Prop := Claim7.holds Tryz.pinned (.plain (OpenSpec.upto pagesUndoneSpec)) pagesUndoneUptoCard

/-- THE SECOND FORM's CARD OF 'bulkheadlaw06.PagesRuns'. -/
def pagesRunsUptoCard : Claim7 := { stood := { row := pagesRunsUptoRow, standIns := [], harness := (true, "84e21bd42c43b31bd5a19c2e2cdb57f4965d0e2c23da87b763eb40edd69e37d0"), looks := true }, kinds := [], alts := [], laidByText := true, laidKinds := [.handle], laidTests := true, laidLooks := .later }
def PagesRunsUptoCardSaid : Prop := Claim7.holds Tryz.pinned (.plain (OpenSpec.upto pagesRunsSpec)) pagesRunsUptoCard

/-- THE SECOND FORM's CARD OF 'bulkheadlaw08.PrintsUndone'. -/
def printsUndoneUptoCard : Claim7 := { stood := { row := printsUndoneUptoRow, standIns := [], harness := (true, "84e21bd42c43b31bd5a19c2e2cdb57f4965d0e2c23da87b763eb40edd69e37d0"), looks := true }, kinds := [], alts := [], laidByText := true, laidKinds := [.handle], laidTests := true, laidLooks := .later }
def PrintsUndoneUptoCardSaid : Prop := Claim7.holds Tryz.pinned (.plain (OpenSpec.upto printsUndoneSpec)) printsUndoneUptoCard

/-- THE SECOND FORM's CARD OF 'bulkheadlaw09.RadixUndone'. -/
def radixUndoneUptoCard : Claim7 := { stood := { row := radixUndoneUptoRow, standIns := [], harness := (true, "84e21bd42c43b31bd5a19c2e2cdb57f4965d0e2c23da87b763eb40edd69e37d0"), looks := true }, kinds := [], alts := [], laidByText := true, laidKinds := [.handle], laidTests := true, laidLooks := .later }
def RadixUndoneUptoCardSaid : Prop := Claim7.holds Tryz.pinned (.plain (OpenSpec.upto radixUndoneSpec)) radixUndoneUptoCard

/-- THE SECOND FORM's CARD OF 'bulkheadlaw07.DepotUndone'. -/
def depotUndoneUptoCard : Claim7 := { stood := { row := depotUndoneUptoRow, standIns := [], harness := (true, "84e21bd42c43b31bd5a19c2e2cdb57f4965d0e2c23da87b763eb40edd69e37d0"), looks := true }, kinds := [], alts := [], laidByText := true, laidKinds := [.handle], laidTests := true, laidLooks := .later }
def DepotUndoneUptoCardSaid : Prop := Claim7.holds Tryz.pinned (.plain (OpenSpec.upto depotUndoneSpec)) depotUndoneUptoCard

/-- THE SECOND FORM's CARD OF 'bulkheadlaw11.ThinKeeps'. -/
def thinKeepsUptoCard : Claim7 := { stood := { row := thinKeepsUptoRow, standIns := [], harness := (true, "84e21bd42c43b31bd5a19c2e2cdb57f4965d0e2c23da87b763eb40edd69e37d0"), looks := true }, kinds := [], alts := [], laidByText := true, laidKinds := [.handle], laidTests := true, laidLooks := .later }
def ThinKeepsUptoCardSaid : Prop := Claim7.holds Tryz.pinned (.plain (OpenSpec.upto thinKeepsSpec)) thinKeepsUptoCard

/-- THE SECOND FORM's CARD OF 'bulkheadlaw11.ThinOnce'. -/
def thinOnceUptoCard : Claim7 := { stood := { row := thinOnceUptoRow, standIns := [], harness := (true, "84e21bd42c43b31bd5a19c2e2cdb57f4965d0e2c23da87b763eb40edd69e37d0"), looks := true }, kinds := [], alts := [], laidByText := true, laidKinds := [.handle], laidTests := true, laidLooks := .later }
def ThinOnceUptoCardSaid : Prop := Claim7.holds Tryz.pinned (.plain (OpenSpec.upto thinOnceSpec)) thinOnceUptoCard
end Rows
end Go.Proofs.YtajmcplanlibnaaGreatDoor
