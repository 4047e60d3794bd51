/-
  NARROWER THAN 'FOR EVERY INPUT', by the rows' own cells (each row's printed sentence says how): PagesUndone: laid · PagesRuns: laid · PrintsUndone: laid · RadixUndone: laid · DepotUndone: laid · ThinKeeps: laid · ThinOnce: laid.
  DERIVED. THE GIVEN ROWS OF THIS SEAT. 7 by the template 'for every input the law returns true; each argument reads behind the call as it read before'; 0 by the template 'total and deterministic' (their statements: YtajmcplanlibnaaGreatDoorTotals.lean).
  GIVEN WITH THE SEED: the statements are not yours to turn. If you find one false, say at which input.
  Laid BY PROGRAM, IN A SANDBOX (cutbox-rows.mjs): the forced cells as the released guide's own fill.sh prints them over the translation 004894a0c38bef15… (all of the seat's roots in one cut). By AI agents, Wed Nov 11 2026. No macro, syntax, notation, axiom, sorry.
-/
import Derived.Test.YtajmcplanlibnaaGreatDoorChecked
import GoSem.Claim
import GoSem.ClaimJoined
import GoSem.ClaimMapViews
import Derived.JoinedTies
import Derived.KernelRfl
namespace Go.Proofs.YtajmcplanlibnaaGreatDoor
/- THE CELL 'sum', in the pinned program and in every row, IS THE sha256 OF THE DUMP (.gsa) THAT YtajmcplanlibnaaGreatDoorProg.lean LOADS. Nothing in Lean hashes anything: it is a label: what it is worth is what the hold of that sum in a sandbox is worth. -/
noncomputable def Tryz.pinned : Pinned := { name := "ytajmcplanlibnaagreatdoor", sum := "004894a0c38bef158cc9f36201cd4aef1513b2d4fda154309c802e399b4a88ec", checked := Tryz.checked }
namespace Rows
def none {H : Type} : Left H := { results := [], args := [] }

/- WHAT THE LISTED PACKAGE-LEVEL VARIABLES READ AS WHEN THE CALL BEGINS. Each datum BY PROGRAM (the guide's laid-datum.mjs) off the statement by which the dump's own 'gosem.cut.vars' lays the variable. In a bare row this is a premise. The card (YtajmcplanlibnaaGreatDoorCards.lean) ties it to the program's text. -/
def laid_errors_errorType {H : Type} : DataW H := .iface "internal/reflectlite.rtype" (.agg [.ptr (.lit (.string [101, 114, 114, 111, 114]))])

/-- 'bulkheadlaw06.PagesUndone': WHATEVER THE INPUT: true; the input reads as it did. -/
def pagesUndoneSpec : ChangeSpec := { name := "pagesUndone", fn := fun _ => fun
  | [d] => { results := [.lit (.bool true)], args := [d] }
  | _ => none }
def pagesUndoneRow : OpenClaim := { program := "ytajmcplanlibnaagreatdoor", sum := "004894a0c38bef158cc9f36201cd4aef1513b2d4fda154309c802e399b4a88ec", func := "bulkhead/bulkheadlaw06.PagesUndone", spec := "pagesUndone", inPlace := ["internal/reflectlite.ValueOf", "internal/reflectlite.Swapper", "(internal/reflectlite.Value).Len", "(internal/reflectlite.Value).Type", "(internal/reflectlite.Value).IsNil", "internal/reflectlite.TypeOf", "(internal/reflectlite.Value).Elem", "(internal/reflectlite.Value).Set"], unfollowed := true, recurses := true, named := ["errors.errorType"], plainKeys := false, apart := false, laid := [("errors.errorType", laid_errors_errorType)] }
def PagesUndoneSaid : Prop := pagesUndoneRow.holds Tryz.pinned (OpenSpec.ofChange pagesUndoneSpec)

/-- ITS FALSE NEIGHBOUR: 'it returns false'. Refute it at one input. -/
def pagesUndoneWrong : ChangeSpec := { name := "pagesUndone", fn := fun _ => fun
  | [d] => { results := [.lit (.bool false)], args := [d] }
  | _ => none }
def PagesUndoneWrongFalsely : Prop := pagesUndoneRow.holds Tryz.pinned (OpenSpec.ofChange pagesUndoneWrong)

/-- 'bulkheadlaw06.PagesRuns': WHATEVER THE INPUT: true; the input reads as it did. -/
def pagesRunsSpec : ChangeSpec := { name := "pagesRuns", fn := fun _ => fun
  | [d] => { results := [.lit (.bool true)], args := [d] }
  | _ => none }
def pagesRunsRow : OpenClaim := { program := "ytajmcplanlibnaagreatdoor", sum := "004894a0c38bef158cc9f36201cd4aef1513b2d4fda154309c802e399b4a88ec", func := "bulkhead/bulkheadlaw06.PagesRuns", spec := "pagesRuns", inPlace := ["internal/reflectlite.ValueOf", "internal/reflectlite.Swapper", "(internal/reflectlite.Value).Len", "(internal/reflectlite.Value).Type", "(internal/reflectlite.Value).IsNil", "internal/reflectlite.TypeOf", "(internal/reflectlite.Value).Elem", "(internal/reflectlite.Value).Set"], unfollowed := true, recurses := true, named := ["errors.errorType"], plainKeys := false, apart := false, laid := [("errors.errorType", laid_errors_errorType)] }
def PagesRunsSaid : Prop := pagesRunsRow.holds Tryz.pinned (OpenSpec.ofChange pagesRunsSpec)

/-- ITS FALSE NEIGHBOUR: 'it returns false'. Refute it at one input. -/
def pagesRunsWrong : ChangeSpec := { name := "pagesRuns", fn := fun _ => fun
  | [d] => { results := [.lit (.bool false)], args := [d] }
  | _ => none }
def PagesRunsWrongFalsely : Prop := pagesRunsRow.holds Tryz.pinned (OpenSpec.ofChange pagesRunsWrong)

/-- 'bulkheadlaw08.PrintsUndone': WHATEVER THE INPUT: true; the input reads as it did. -/
def printsUndoneSpec : ChangeSpec := { name := "printsUndone", fn := fun _ => fun
  | [d1, d2] => { results := [.lit (.bool true)], args := [d1, d2] }
  | _ => none }
def printsUndoneRow : OpenClaim := { program := "ytajmcplanlibnaagreatdoor", sum := "004894a0c38bef158cc9f36201cd4aef1513b2d4fda154309c802e399b4a88ec", func := "bulkhead/bulkheadlaw08.PrintsUndone", spec := "printsUndone", inPlace := ["internal/reflectlite.ValueOf", "(internal/reflectlite.Value).Type", "(internal/reflectlite.Value).IsNil", "internal/reflectlite.TypeOf", "(internal/reflectlite.Value).Elem", "(internal/reflectlite.Value).Set", "internal/reflectlite.Swapper", "(internal/reflectlite.Value).Len"], unfollowed := true, recurses := true, named := ["errors.errorType"], plainKeys := false, apart := false, laid := [("errors.errorType", laid_errors_errorType)] }
def PrintsUndoneSaid : Prop := printsUndoneRow.holds Tryz.pinned (OpenSpec.ofChange printsUndoneSpec)

/-- ITS FALSE NEIGHBOUR: 'it returns false'. Refute it at one input. -/
def printsUndoneWrong : ChangeSpec := { name := "printsUndone", fn := fun _ => fun
  | [d1, d2] => { results := [.lit (.bool false)], args := [d1, d2] }
  | _ => none }
def PrintsUndoneWrongFalsely : Prop := printsUndoneRow.holds Tryz.pinned (OpenSpec.ofChange printsUndoneWrong)

/-- 'bulkheadlaw09.RadixUndone': WHATEVER THE INPUT: true; the input reads as it did. -/
def radixUndoneSpec : ChangeSpec := { name := "radixUndone", fn := fun _ => fun
  | [d1, d2] => { results := [.lit (.bool true)], args := [d1, d2] }
  | _ => none }
def radixUndoneRow : OpenClaim := { program := "ytajmcplanlibnaagreatdoor", sum := "004894a0c38bef158cc9f36201cd4aef1513b2d4fda154309c802e399b4a88ec", func := "bulkhead/bulkheadlaw09.RadixUndone", spec := "radixUndone", inPlace := ["internal/reflectlite.ValueOf", "(internal/reflectlite.Value).Type", "(internal/reflectlite.Value).IsNil", "internal/reflectlite.TypeOf", "(internal/reflectlite.Value).Elem", "(internal/reflectlite.Value).Set", "internal/reflectlite.Swapper", "(internal/reflectlite.Value).Len"], unfollowed := true, recurses := true, named := ["errors.errorType"], plainKeys := false, apart := false, laid := [("errors.errorType", laid_errors_errorType)] }
def RadixUndoneSaid : Prop := radixUndoneRow.holds Tryz.pinned (OpenSpec.ofChange radixUndoneSpec)

/-- ITS FALSE NEIGHBOUR: 'it returns false'. Refute it at one input. -/
def radixUndoneWrong : ChangeSpec := { name := "radixUndone", fn := fun _ => fun
  | [d1, d2] => { results := [.lit (.bool false)], args := [d1, d2] }
  | _ => none }
def RadixUndoneWrongFalsely : Prop := radixUndoneRow.holds Tryz.pinned (OpenSpec.ofChange radixUndoneWrong)

/-- 'bulkheadlaw07.DepotUndone': WHATEVER THE INPUT: true; the input reads as it did. -/
def depotUndoneSpec : ChangeSpec := { name := "depotUndone", fn := fun _ => fun
  | [d1, d2] => { results := [.lit (.bool true)], args := [d1, d2] }
  | _ => none }
def depotUndoneRow : OpenClaim := { program := "ytajmcplanlibnaagreatdoor", sum := "004894a0c38bef158cc9f36201cd4aef1513b2d4fda154309c802e399b4a88ec", func := "bulkhead/bulkheadlaw07.DepotUndone", spec := "depotUndone", inPlace := ["internal/reflectlite.ValueOf", "(internal/reflectlite.Value).Type", "(internal/reflectlite.Value).IsNil", "internal/reflectlite.TypeOf", "(internal/reflectlite.Value).Elem", "(internal/reflectlite.Value).Set", "internal/reflectlite.Swapper", "(internal/reflectlite.Value).Len"], unfollowed := true, recurses := true, named := ["errors.errorType"], plainKeys := false, apart := false, laid := [("errors.errorType", laid_errors_errorType)] }
def DepotUndoneSaid : Prop := depotUndoneRow.holds Tryz.pinned (OpenSpec.ofChange depotUndoneSpec)

/-- ITS FALSE NEIGHBOUR: 'it returns false'. Refute it at one input. -/
def depotUndoneWrong : ChangeSpec := { name := "depotUndone", fn := fun _ => fun
  | [d1, d2] => { results := [.lit (.bool false)], args := [d1, d2] }
  | _ => none }
def DepotUndoneWrongFalsely : Prop := depotUndoneRow.holds Tryz.pinned (OpenSpec.ofChange depotUndoneWrong)

/-- 'bulkheadlaw11.ThinKeeps': WHATEVER THE INPUT: true; the input reads as it did. -/
def thinKeepsSpec : ChangeSpec := { name := "thinKeeps", fn := fun _ => fun
  | [d1, d2] => { results := [.lit (.bool true)], args := [d1, d2] }
  | _ => none }
def thinKeepsRow : OpenClaim := { program := "ytajmcplanlibnaagreatdoor", sum := "004894a0c38bef158cc9f36201cd4aef1513b2d4fda154309c802e399b4a88ec", func := "bulkhead/bulkheadlaw11.ThinKeeps", spec := "thinKeeps", inPlace := ["internal/reflectlite.ValueOf", "internal/reflectlite.Swapper", "(internal/reflectlite.Value).Len", "(internal/reflectlite.Value).Type", "(internal/reflectlite.Value).IsNil", "internal/reflectlite.TypeOf", "(internal/reflectlite.Value).Elem", "(internal/reflectlite.Value).Set"], unfollowed := true, recurses := true, named := ["errors.errorType"], plainKeys := false, apart := false, laid := [("errors.errorType", laid_errors_errorType)] }
def ThinKeepsSaid : Prop := thinKeepsRow.holds Tryz.pinned (OpenSpec.ofChange thinKeepsSpec)

/-- ITS FALSE NEIGHBOUR: 'it returns false'. Refute it at one input. -/
def thinKeepsWrong : ChangeSpec := { name := "thinKeeps", fn := fun _ => fun
  | [d1, d2] => { results := [.lit (.bool false)], args := [d1, d2] }
  | _ => none }
def ThinKeepsWrongFalsely : Prop := thinKeepsRow.holds Tryz.pinned (OpenSpec.ofChange thinKeepsWrong)

/-- 'bulkheadlaw11.ThinOnce': WHATEVER THE INPUT: true; the input reads as it did. -/
def thinOnceSpec : ChangeSpec := { name := "thinOnce", fn := fun _ => fun
  | [d1, d2] => { results := [.lit (.bool true)], args := [d1, d2] }
  | _ => none }
def thinOnceRow : OpenClaim := { program := "ytajmcplanlibnaagreatdoor", sum := "004894a0c38bef158cc9f36201cd4aef1513b2d4fda154309c802e399b4a88ec", func := "bulkhead/bulkheadlaw11.ThinOnce", spec := "thinOnce", inPlace := ["internal/reflectlite.ValueOf", "internal/reflectlite.Swapper", "(internal/reflectlite.Value).Len", "(internal/reflectlite.Value).Type", "(internal/reflectlite.Value).IsNil", "internal/reflectlite.TypeOf", "(internal/reflectlite.Value).Elem", "(internal/reflectlite.Value).Set"], unfollowed := true, recurses := true, named := ["errors.errorType"], plainKeys := false, apart := false, laid := [("errors.errorType", laid_errors_errorType)] }
def ThinOnceSaid : Prop := thinOnceRow.holds Tryz.pinned (OpenSpec.ofChange thinOnceSpec)

/-- ITS FALSE NEIGHBOUR: 'it returns false'. Refute it at one input. -/
def thinOnceWrong : ChangeSpec := { name := "thinOnce", fn := fun _ => fun
  | [d1, d2] => { results := [.lit (.bool false)], args := [d1, d2] }
  | _ => none }
def ThinOnceWrongFalsely : Prop := thinOnceRow.holds Tryz.pinned (OpenSpec.ofChange thinOnceWrong)

/- THE SECOND FORM. 'bulk': how many values and letters a reading holds, each counted each time it is reached (what is shared counts as often as it is met; a slice's spare places count too). A statement '..UptoSaid' is the law's where the arguments, and the package variables that the reading takes, are together of bulk at most 1048576: NARROWER than '..Said'. Prove '..Said' where nothing that the law and all that it calls make is longer than what came in: it says more and counts as full. Else prove '..UptoSaid'. A law counts once. -/
mutual
def uptoBulk {H : Type} : DataW H → Nat
  | .lit (.string bytes) => bytes.length + 1
  | .lit _ => 1
  | .nil => 1
  | .ptr d => uptoBulk d + 1
  | .slice elems spare => uptoBulkAll elems + uptoBulkAll spare + 1
  | .agg parts => uptoBulkAll parts + 1
  | .iface _ d => uptoBulk d + 1
  | .map entries => uptoBulkEntries entries + 1
  | .held _ => 1
def uptoBulkAll {H : Type} : List (DataW H) → Nat
  | [] => 0
  | d :: r => uptoBulk d + uptoBulkAll r
def uptoBulkEntries {H : Type} : List (Lit × DataW H) → Nat
  | [] => 0
  | x :: r => uptoBulkEntry x + uptoBulkEntries r
def uptoBulkEntry {H : Type} : Lit × DataW H → Nat
  | (.string bytes, d) => bytes.length + uptoBulk d + 1
  | (_, d) => uptoBulk d + 1
 end
def uptoSmall : (H : Type) → List (DataW H) → Bool := fun _ ds => decide (uptoBulkAll ds ≤ 1048576)
def OpenSpec.upto (s : _root_.Go.ChangeSpec) : _root_.Go.OpenSpec := { _root_.Go.OpenSpec.ofChange s with cond := some uptoSmall }

/-- 'bulkheadlaw06.PagesUndone', WHERE WHAT IT READS IS OF BULK AT MOST 1048576: true; the input reads as it did. -/
def pagesUndoneUptoRow : OpenClaim := { program := "ytajmcplanlibnaagreatdoor", sum := "004894a0c38bef158cc9f36201cd4aef1513b2d4fda154309c802e399b4a88ec", func := "bulkhead/bulkheadlaw06.PagesUndone", spec := "pagesUndone", inPlace := ["internal/reflectlite.ValueOf", "internal/reflectlite.Swapper", "(internal/reflectlite.Value).Len", "(internal/reflectlite.Value).Type", "(internal/reflectlite.Value).IsNil", "internal/reflectlite.TypeOf", "(internal/reflectlite.Value).Elem", "(internal/reflectlite.Value).Set"], unfollowed := true, recurses := true, named := ["errors.errorType"], plainKeys := false, apart := false, laid := [("errors.errorType", laid_errors_errorType)], narrowed := true }
def PagesUndoneUptoSaid : Prop := pagesUndoneUptoRow.holds Tryz.pinned (OpenSpec.upto pagesUndoneSpec)

/-- 'bulkheadlaw06.PagesRuns', WHERE WHAT IT READS IS OF BULK AT MOST 1048576: true; the input reads as it did. -/
def pagesRunsUptoRow : OpenClaim := { program := "ytajmcplanlibnaagreatdoor", sum := "004894a0c38bef158cc9f36201cd4aef1513b2d4fda154309c802e399b4a88ec", func := "bulkhead/bulkheadlaw06.PagesRuns", spec := "pagesRuns", inPlace := ["internal/reflectlite.ValueOf", "internal/reflectlite.Swapper", "(internal/reflectlite.Value).Len", "(internal/reflectlite.Value).Type", "(internal/reflectlite.Value).IsNil", "internal/reflectlite.TypeOf", "(internal/reflectlite.Value).Elem", "(internal/reflectlite.Value).Set"], unfollowed := true, recurses := true, named := ["errors.errorType"], plainKeys := false, apart := false, laid := [("errors.errorType", laid_errors_errorType)], narrowed := true }
def PagesRunsUptoSaid : Prop := pagesRunsUptoRow.holds Tryz.pinned (OpenSpec.upto pagesRunsSpec)

/-- 'bulkheadlaw08.PrintsUndone', WHERE WHAT IT READS IS OF BULK AT MOST 1048576: true; the input reads as it did. -/
def printsUndoneUptoRow : OpenClaim := { program := "ytajmcplanlibnaagreatdoor", sum := "004894a0c38bef158cc9f36201cd4aef1513b2d4fda154309c802e399b4a88ec", func := "bulkhead/bulkheadlaw08.PrintsUndone", spec := "printsUndone", inPlace := ["internal/reflectlite.ValueOf", "(internal/reflectlite.Value).Type", "(internal/reflectlite.Value).IsNil", "internal/reflectlite.TypeOf", "(internal/reflectlite.Value).Elem", "(internal/reflectlite.Value).Set", "internal/reflectlite.Swapper", "(internal/reflectlite.Value).Len"], unfollowed := true, recurses := true, named := ["errors.errorType"], plainKeys := false, apart := false, laid := [("errors.errorType", laid_errors_errorType)], narrowed := true }
def PrintsUndoneUptoSaid : Prop := printsUndoneUptoRow.holds Tryz.pinned (OpenSpec.upto printsUndoneSpec)

/-- 'bulkheadlaw09.RadixUndone', WHERE WHAT IT READS IS OF BULK AT MOST 1048576: true; the input reads as it did. -/
def radixUndoneUptoRow : OpenClaim := { program := "ytajmcplanlibnaagreatdoor", sum := "004894a0c38bef158cc9f36201cd4aef1513b2d4fda154309c802e399b4a88ec", func := "bulkhead/bulkheadlaw09.RadixUndone", spec := "radixUndone", inPlace := ["internal/reflectlite.ValueOf", "(internal/reflectlite.Value).Type", "(internal/reflectlite.Value).IsNil", "internal/reflectlite.TypeOf", "(internal/reflectlite.Value).Elem", "(internal/reflectlite.Value).Set", "internal/reflectlite.Swapper", "(internal/reflectlite.Value).Len"], unfollowed := true, recurses := true, named := ["errors.errorType"], plainKeys := false, apart := false, laid := [("errors.errorType", laid_errors_errorType)], narrowed := true }
def RadixUndoneUptoSaid : Prop := radixUndoneUptoRow.holds Tryz.pinned (OpenSpec.upto radixUndoneSpec)

/-- 'bulkheadlaw07.DepotUndone', WHERE WHAT IT READS IS OF BULK AT MOST 1048576: true; the input reads as it did. -/
def depotUndoneUptoRow : OpenClaim := { program := "ytajmcplanlibnaagreatdoor", sum := "004894a0c38bef158cc9f36201cd4aef1513b2d4fda154309c802e399b4a88ec", func := "bulkhead/bulkheadlaw07.DepotUndone", spec := "depotUndone", inPlace := ["internal/reflectlite.ValueOf", "(internal/reflectlite.Value).Type", "(internal/reflectlite.Value).IsNil", "internal/reflectlite.TypeOf", "(internal/reflectlite.Value).Elem", "(internal/reflectlite.Value).Set", "internal/reflectlite.Swapper", "(internal/reflectlite.Value).Len"], unfollowed := true, recurses := true, named := ["errors.errorType"], plainKeys := false, apart := false, laid := [("errors.errorType", laid_errors_errorType)], narrowed := true }
def DepotUndoneUptoSaid : Prop := depotUndoneUptoRow.holds Tryz.pinned (OpenSpec.upto depotUndoneSpec)

/-- 'bulkheadlaw11.ThinKeeps', WHERE WHAT IT READS IS OF BULK AT MOST 1048576: true; the input reads as it did. -/
def thinKeepsUptoRow : OpenClaim := { program := "ytajmcplanlibnaagreatdoor", sum := "004894a0c38bef158cc9f36201cd4aef1513b2d4fda154309c802e399b4a88ec", func := "bulkhead/bulkheadlaw11.ThinKeeps", spec := "thinKeeps", inPlace := ["internal/reflectlite.ValueOf", "internal/reflectlite.Swapper", "(internal/reflectlite.Value).Len", "(internal/reflectlite.Value).Type", "(internal/reflectlite.Value).IsNil", "internal/reflectlite.TypeOf", "(internal/reflectlite.Value).Elem", "(internal/reflectlite.Value).Set"], unfollowed := true, recurses := true, named := ["errors.errorType"], plainKeys := false, apart := false, laid := [("errors.errorType", laid_errors_errorType)], narrowed := true }
def ThinKeepsUptoSaid : Prop := thinKeepsUptoRow.holds Tryz.pinned (OpenSpec.upto thinKeepsSpec)

/-- 'bulkheadlaw11.ThinOnce', WHERE WHAT IT READS IS OF BULK AT MOST 1048576: true; the input reads as it did. -/
def thinOnceUptoRow : OpenClaim := { program := "ytajmcplanlibnaagreatdoor", sum := "004894a0c38bef158cc9f36201cd4aef1513b2d4fda154309c802e399b4a88ec", func := "bulkhead/bulkheadlaw11.ThinOnce", spec := "thinOnce", inPlace := ["internal/reflectlite.ValueOf", "internal/reflectlite.Swapper", "(internal/reflectlite.Value).Len", "(internal/reflectlite.Value).Type", "(internal/reflectlite.Value).IsNil", "internal/reflectlite.TypeOf", "(internal/reflectlite.Value).Elem", "(internal/reflectlite.Value).Set"], unfollowed := true, recurses := true, named := ["errors.errorType"], plainKeys := false, apart := false, laid := [("errors.errorType", laid_errors_errorType)], narrowed := true }
def ThinOnceUptoSaid : Prop := thinOnceUptoRow.holds Tryz.pinned (OpenSpec.upto thinOnceSpec)

end Rows
end Go.Proofs.YtajmcplanlibnaaGreatDoor
