/-
  DERIVED. GIVEN WITH THE SEED: THE CARDS: each row of YtbbpfeghoikjlaaGreatDoorRows.lean that lists a variable, with what it lists TIED to the program's text (the seventh form; the later family's looks); each row that meets fmt, with fmt's text TOLD by the authors' own Lean function (tested against real Go, not proved from fmt's source: count such statements apart). THE CARD IS WHAT COUNTS. Prove the row's statement (the work); the ties are given (YtbbpfeghoikjlaaGreatDoorTie.lean); close each card by the builder's one call (the guide's Derived/Test/ToyasCard.lean, 'card_holds'). Laid BY PROGRAM, IN A SANDBOX (cutbox-door.mjs). By AI agents, Wed Nov 11 2026. No macro, syntax, notation, axiom, sorry.
-/
import Derived.Test.YtbbpfeghoikjlaaGreatDoorRows
import GoSem.ClaimSeven
namespace Go.Proofs.YtbbpfeghoikjlaaGreatDoor
namespace Rows

/-- THE TIED CARD OF 'bulkheadlaw06.PagesMany'. -/
def pagesManyCard : Claim7 := { stood := { row := pagesManyRow, standIns := [], harness := (true, "5c22f234bcf6e4ef8a84ab75459dd259ebdb9f3dfd5e3cc7c37a4d363620a6df"), looks := true }, kinds := [], alts := [], laidByText := true, laidKinds := [.handle], laidTests := true, laidLooks := .later }
def PagesManyCardSaid : Prop := Claim7.holds Tryz.pinned (.plain (OpenSpec.ofChange pagesManySpec)) pagesManyCard

/-- THE TIED CARD OF 'bulkheadlaw06.PagesNone'. -/
def pagesNoneCard : Claim7 := { stood := { row := pagesNoneRow, standIns := [], harness := (true, "5c22f234bcf6e4ef8a84ab75459dd259ebdb9f3dfd5e3cc7c37a4d363620a6df"), looks := true }, kinds := [], alts := [], laidByText := true, laidKinds := [.handle], laidTests := true, laidLooks := .later }
def PagesNoneCardSaid : Prop := Claim7.holds Tryz.pinned (.plain (OpenSpec.ofChange pagesNoneSpec)) pagesNoneCard

/-- THE TIED CARD OF 'bulkheadlaw06.PagesUndone'. -/
def pagesUndoneCard : Claim7 := { stood := { row := pagesUndoneRow, standIns := [], harness := (true, "5c22f234bcf6e4ef8a84ab75459dd259ebdb9f3dfd5e3cc7c37a4d363620a6df"), looks := true }, kinds := [], alts := [], laidByText := true, laidKinds := [.handle], laidTests := true, laidLooks := .later }
def PagesUndoneCardSaid : Prop := Claim7.holds Tryz.pinned (.plain (OpenSpec.ofChange pagesUndoneSpec)) pagesUndoneCard

/-- THE TIED CARD OF 'bulkheadlaw06.PagesRuns'. -/
def pagesRunsCard : Claim7 := { stood := { row := pagesRunsRow, standIns := [], harness := (true, "5c22f234bcf6e4ef8a84ab75459dd259ebdb9f3dfd5e3cc7c37a4d363620a6df"), looks := true }, kinds := [], alts := [], laidByText := true, laidKinds := [.handle], laidTests := true, laidLooks := .later }
def PagesRunsCardSaid : Prop := Claim7.holds Tryz.pinned (.plain (OpenSpec.ofChange pagesRunsSpec)) pagesRunsCard

/-- THE TIED CARD OF 'bulkheadlaw08.PrintsUndone'. -/
def printsUndoneCard : Claim7 := { stood := { row := printsUndoneRow, standIns := [], harness := (true, "5c22f234bcf6e4ef8a84ab75459dd259ebdb9f3dfd5e3cc7c37a4d363620a6df"), looks := true }, kinds := [], alts := [], laidByText := true, laidKinds := [.handle], laidTests := true, laidLooks := .later }
def PrintsUndoneCardSaid : Prop := Claim7.holds Tryz.pinned (.plain (OpenSpec.ofChange printsUndoneSpec)) printsUndoneCard

/-- THE TIED CARD OF 'bulkheadlaw07.DepotUndone'. -/
def depotUndoneCard : Claim7 := { stood := { row := depotUndoneRow, standIns := [], harness := (true, "5c22f234bcf6e4ef8a84ab75459dd259ebdb9f3dfd5e3cc7c37a4d363620a6df"), looks := true }, kinds := [], alts := [], laidByText := true, laidKinds := [.handle], laidTests := true, laidLooks := .later }
def DepotUndoneCardSaid : Prop := Claim7.holds Tryz.pinned (.plain (OpenSpec.ofChange depotUndoneSpec)) depotUndoneCard

/-- THE SECOND FORM's CARD OF 'bulkheadlaw06.PagesMany'. -/
def pagesManyUptoCard : Claim7 := { stood := { row := pagesManyUptoRow, standIns := [], harness := (true, "5c22f234bcf6e4ef8a84ab75459dd259ebdb9f3dfd5e3cc7c37a4d363620a6df"), looks := true }, kinds := [], alts := [], laidByText := true, laidKinds := [.handle], laidTests := true, laidLooks := .later }
def PagesManyUptoCardSaid : Prop := Claim7.holds Tryz.pinned (.plain (OpenSpec.upto pagesManySpec)) pagesManyUptoCard

/-- THE SECOND FORM's CARD OF 'bulkheadlaw06.PagesNone'. -/
def pagesNoneUptoCard : Claim7 := { stood := { row := pagesNoneUptoRow, standIns := [], harness := (true, "5c22f234bcf6e4ef8a84ab75459dd259ebdb9f3dfd5e3cc7c37a4d363620a6df"), looks := true }, kinds := [], alts := [], laidByText := true, laidKinds := [.handle], laidTests := true, laidLooks := .later }
def PagesNoneUptoCardSaid : Prop := Claim7.holds Tryz.pinned (.plain (OpenSpec.upto pagesNoneSpec)) pagesNoneUptoCard

/-- THE SECOND FORM's CARD OF 'bulkheadlaw06.PagesUndone'. -/
def pagesUndoneUptoCard : Claim7 := { stood := { row := pagesUndoneUptoRow, standIns := [], harness := (true, "5c22f234bcf6e4ef8a84ab75459dd259ebdb9f3dfd5e3cc7c37a4d363620a6df"), looks := true }, kinds := [], alts := [], laidByText := true, laidKinds := [.handle], laidTests := true, laidLooks := .later }
def PagesUndoneUptoCardSaid : Prop := Claim7.holds Tryz.pinned (.plain (OpenSpec.upto pagesUndoneSpec)) pagesUndoneUptoCard

/-- THE SECOND FORM's CARD OF 'bulkheadlaw06.PagesRuns'. -/
def pagesRunsUptoCard : Claim7 := { stood := { row := pagesRunsUptoRow, standIns := [], harness := (true, "5c22f234bcf6e4ef8a84ab75459dd259ebdb9f3dfd5e3cc7c37a4d363620a6df"), looks := true }, kinds := [], alts := [], laidByText := true, laidKinds := [.handle], laidTests := true, laidLooks := .later }
def PagesRunsUptoCardSaid : Prop := Claim7.holds Tryz.pinned (.plain (OpenSpec.upto pagesRunsSpec)) pagesRunsUptoCard

/-- THE SECOND FORM's CARD OF 'bulkheadlaw08.PrintsUndone'. -/
def printsUndoneUptoCard : Claim7 := { stood := { row := printsUndoneUptoRow, standIns := [], harness := (true, "5c22f234bcf6e4ef8a84ab75459dd259ebdb9f3dfd5e3cc7c37a4d363620a6df"), looks := true }, kinds := [], alts := [], laidByText := true, laidKinds := [.handle], laidTests := true, laidLooks := .later }
def PrintsUndoneUptoCardSaid : Prop := Claim7.holds Tryz.pinned (.plain (OpenSpec.upto printsUndoneSpec)) printsUndoneUptoCard

/-- THE SECOND FORM's CARD OF 'bulkheadlaw07.DepotUndone'. -/
def depotUndoneUptoCard : Claim7 := { stood := { row := depotUndoneUptoRow, standIns := [], harness := (true, "5c22f234bcf6e4ef8a84ab75459dd259ebdb9f3dfd5e3cc7c37a4d363620a6df"), looks := true }, kinds := [], alts := [], laidByText := true, laidKinds := [.handle], laidTests := true, laidLooks := .later }
def DepotUndoneUptoCardSaid : Prop := Claim7.holds Tryz.pinned (.plain (OpenSpec.upto depotUndoneSpec)) depotUndoneUptoCard
end Rows
end Go.Proofs.YtbbpfeghoikjlaaGreatDoor
