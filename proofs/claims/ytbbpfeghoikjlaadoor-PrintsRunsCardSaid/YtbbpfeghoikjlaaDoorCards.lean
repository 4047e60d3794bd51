/-
  DERIVED. GIVEN WITH THE SEED: THE CARDS: each row of YtbbpfeghoikjlaaDoorRows.lean that lists a variable, with what it lists TIED to the program's text (the seventh form; the later family's looks); each row that meets fmt, with fmt's text TOLD by the authors' own Lean function (tested against real Go, not proved from fmt's source: count such statements apart). THE CARD IS WHAT COUNTS. Prove the row's statement (the work); the ties are given (YtbbpfeghoikjlaaDoorTie.lean); close each card by the builder's one call (the guide's Derived/Test/ToyasCard.lean, 'card_holds'). Laid BY PROGRAM, IN A SANDBOX (cutbox-door.mjs). By AI agents, Wed Nov 11 2026. No macro, syntax, notation, axiom, sorry.
-/
import Derived.Test.YtbbpfeghoikjlaaDoorRows
import GoSem.ClaimSeven
namespace Go.Proofs.YtbbpfeghoikjlaaDoor
namespace Rows

/-- THE TIED CARD OF 'bulkheadlaw08.PrintsRuns'. -/
def printsRunsCard : Claim7 := { stood := { row := printsRunsRow, standIns := [], harness := (true, "a473397e28aa7a97d4262a8e7165513143f55b90b1955e1c5f7fd5b728fe91f8"), looks := true }, kinds := [], alts := [], laidByText := true, laidKinds := [.handle], laidTests := true, laidLooks := .later }
def PrintsRunsCardSaid : Prop := Claim7.holds Tryd.pinned (.plain (OpenSpec.ofChange printsRunsSpec)) printsRunsCard

/-- THE SECOND FORM's CARD OF 'bulkheadlaw08.PrintsRuns'. -/
def printsRunsUptoCard : Claim7 := { stood := { row := printsRunsUptoRow, standIns := [], harness := (true, "a473397e28aa7a97d4262a8e7165513143f55b90b1955e1c5f7fd5b728fe91f8"), looks := true }, kinds := [], alts := [], laidByText := true, laidKinds := [.handle], laidTests := true, laidLooks := .later }
def PrintsRunsUptoCardSaid : Prop := Claim7.holds Tryd.pinned (.plain (OpenSpec.upto printsRunsSpec)) printsRunsUptoCard
end Rows
end Go.Proofs.YtbbpfeghoikjlaaDoor
