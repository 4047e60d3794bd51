/-
  NARROWER THAN 'FOR EVERY INPUT', by the rows' own cells (each row's printed sentence says how): PrintsFills: laid · PrintsRuns: laid · PrintsNone: laid · PrintsGoes: laid · DepotMoves: laid · RadixNone: laid · DepotNone: laid.
  DERIVED. THE GIVEN ROWS OF THIS SEAT. 7 by the template 'for every input the law returns true; each argument reads behind the call as it read before'; 0 by the template 'total and deterministic' (their statements: YthaaoghbginmpaaDoorTotals.lean).
  GIVEN WITH THE SEED: the statements are not yours to turn. If you find one false, say at which input.
  Laid BY PROGRAM, IN A SANDBOX (cutbox-rows.mjs): the forced cells as the released guide's own fill.sh prints them over the translation 99b4496f5b913933… (all of the seat's roots in one cut). By AI agents, Wed Nov 11 2026. No macro, syntax, notation, axiom, sorry.
-/
import Derived.Test.YthaaoghbginmpaaDoorChecked
import GoSem.Claim
import GoSem.ClaimJoined
import GoSem.ClaimMapViews
import Derived.JoinedTies
import Derived.KernelRfl
namespace Go.Proofs.YthaaoghbginmpaaDoor
/- THE CELL 'sum', in the pinned program and in every row, IS THE sha256 OF THE DUMP (.gsa) THAT YthaaoghbginmpaaDoorProg.lean LOADS. Nothing in Lean hashes anything: it is a label: what it is worth is what the hold of that sum in a sandbox is worth. -/
noncomputable def Tryd.pinned : Pinned := { name := "ythaaoghbginmpaadoor", sum := "99b4496f5b913933f355a8f26ee9c30eaa81b76a3c24710c07a2b4cadcb1cc1d", checked := Tryd.checked }
namespace Rows
def none {H : Type} : Left H := { results := [], args := [] }

/- WHAT THE LISTED PACKAGE-LEVEL VARIABLES READ AS WHEN THE CALL BEGINS. Each datum BY PROGRAM (the guide's laid-datum.mjs) off the statement by which the dump's own 'gosem.cut.vars' lays the variable. In a bare row this is a premise. The card (YthaaoghbginmpaaDoorCards.lean) ties it to the program's text. -/
def laid_errors_errorType {H : Type} : DataW H := .iface "internal/reflectlite.rtype" (.agg [.ptr (.lit (.string [101, 114, 114, 111, 114]))])

/-- 'bulkheadlaw08.PrintsFills': WHATEVER THE INPUT: true; the input reads as it did. -/
def printsFillsSpec : ChangeSpec := { name := "printsFills", fn := fun _ => fun
  | [d1, d2, d3] => { results := [.lit (.bool true)], args := [d1, d2, d3] }
  | _ => none }
def printsFillsRow : OpenClaim := { program := "ythaaoghbginmpaadoor", sum := "99b4496f5b913933f355a8f26ee9c30eaa81b76a3c24710c07a2b4cadcb1cc1d", func := "bulkhead/bulkheadlaw08.PrintsFills", spec := "printsFills", inPlace := ["internal/reflectlite.ValueOf", "(internal/reflectlite.Value).Type", "(internal/reflectlite.Value).IsNil", "internal/reflectlite.TypeOf", "(internal/reflectlite.Value).Elem", "(internal/reflectlite.Value).Set"], unfollowed := true, recurses := true, named := ["errors.errorType"], apart := false, laid := [("errors.errorType", laid_errors_errorType)] }
def PrintsFillsSaid : Prop := printsFillsRow.holds Tryd.pinned (OpenSpec.ofChange printsFillsSpec)

/-- ITS FALSE NEIGHBOUR: 'it returns false'. Refute it at one input. -/
def printsFillsWrong : ChangeSpec := { name := "printsFills", fn := fun _ => fun
  | [d1, d2, d3] => { results := [.lit (.bool false)], args := [d1, d2, d3] }
  | _ => none }
def PrintsFillsWrongFalsely : Prop := printsFillsRow.holds Tryd.pinned (OpenSpec.ofChange printsFillsWrong)

/-- 'bulkheadlaw08.PrintsRuns': WHATEVER THE INPUT: true; the input reads as it did. -/
def printsRunsSpec : ChangeSpec := { name := "printsRuns", fn := fun _ => fun
  | [d1, d2] => { results := [.lit (.bool true)], args := [d1, d2] }
  | _ => none }
def printsRunsRow : OpenClaim := { program := "ythaaoghbginmpaadoor", sum := "99b4496f5b913933f355a8f26ee9c30eaa81b76a3c24710c07a2b4cadcb1cc1d", func := "bulkhead/bulkheadlaw08.PrintsRuns", spec := "printsRuns", inPlace := ["internal/reflectlite.ValueOf", "(internal/reflectlite.Value).Type", "(internal/reflectlite.Value).IsNil", "internal/reflectlite.TypeOf", "(internal/reflectlite.Value).Elem", "(internal/reflectlite.Value).Set"], unfollowed := true, recurses := true, named := ["errors.errorType"], apart := false, laid := [("errors.errorType", laid_errors_errorType)] }
def PrintsRunsSaid : Prop := printsRunsRow.holds Tryd.pinned (OpenSpec.ofChange printsRunsSpec)

/-- ITS FALSE NEIGHBOUR: 'it returns false'. Refute it at one input. -/
def printsRunsWrong : ChangeSpec := { name := "printsRuns", fn := fun _ => fun
  | [d1, d2] => { results := [.lit (.bool false)], args := [d1, d2] }
  | _ => none }
def PrintsRunsWrongFalsely : Prop := printsRunsRow.holds Tryd.pinned (OpenSpec.ofChange printsRunsWrong)

/-- 'bulkheadlaw08.PrintsNone': WHATEVER THE INPUT: true; the input reads as it did. -/
def printsNoneSpec : ChangeSpec := { name := "printsNone", fn := fun _ => fun
  | [d1, d2, d3] => { results := [.lit (.bool true)], args := [d1, d2, d3] }
  | _ => none }
def printsNoneRow : OpenClaim := { program := "ythaaoghbginmpaadoor", sum := "99b4496f5b913933f355a8f26ee9c30eaa81b76a3c24710c07a2b4cadcb1cc1d", func := "bulkhead/bulkheadlaw08.PrintsNone", spec := "printsNone", inPlace := ["internal/reflectlite.ValueOf", "(internal/reflectlite.Value).Type", "(internal/reflectlite.Value).IsNil", "internal/reflectlite.TypeOf", "(internal/reflectlite.Value).Elem", "(internal/reflectlite.Value).Set"], unfollowed := true, recurses := true, named := ["errors.errorType"], apart := false, laid := [("errors.errorType", laid_errors_errorType)] }
def PrintsNoneSaid : Prop := printsNoneRow.holds Tryd.pinned (OpenSpec.ofChange printsNoneSpec)

/-- ITS FALSE NEIGHBOUR: 'it returns false'. Refute it at one input. -/
def printsNoneWrong : ChangeSpec := { name := "printsNone", fn := fun _ => fun
  | [d1, d2, d3] => { results := [.lit (.bool false)], args := [d1, d2, d3] }
  | _ => none }
def PrintsNoneWrongFalsely : Prop := printsNoneRow.holds Tryd.pinned (OpenSpec.ofChange printsNoneWrong)

/-- 'bulkheadlaw08.PrintsGoes': WHATEVER THE INPUT: true; the input reads as it did. -/
def printsGoesSpec : ChangeSpec := { name := "printsGoes", fn := fun _ => fun
  | [d1, d2] => { results := [.lit (.bool true)], args := [d1, d2] }
  | _ => none }
def printsGoesRow : OpenClaim := { program := "ythaaoghbginmpaadoor", sum := "99b4496f5b913933f355a8f26ee9c30eaa81b76a3c24710c07a2b4cadcb1cc1d", func := "bulkhead/bulkheadlaw08.PrintsGoes", spec := "printsGoes", inPlace := ["internal/reflectlite.ValueOf", "(internal/reflectlite.Value).Type", "(internal/reflectlite.Value).IsNil", "internal/reflectlite.TypeOf", "(internal/reflectlite.Value).Elem", "(internal/reflectlite.Value).Set"], unfollowed := true, recurses := true, named := ["errors.errorType"], apart := false, laid := [("errors.errorType", laid_errors_errorType)] }
def PrintsGoesSaid : Prop := printsGoesRow.holds Tryd.pinned (OpenSpec.ofChange printsGoesSpec)

/-- ITS FALSE NEIGHBOUR: 'it returns false'. Refute it at one input. -/
def printsGoesWrong : ChangeSpec := { name := "printsGoes", fn := fun _ => fun
  | [d1, d2] => { results := [.lit (.bool false)], args := [d1, d2] }
  | _ => none }
def PrintsGoesWrongFalsely : Prop := printsGoesRow.holds Tryd.pinned (OpenSpec.ofChange printsGoesWrong)

/-- 'bulkheadlaw07.DepotMoves': WHATEVER THE INPUT: true; the input reads as it did. -/
def depotMovesSpec : ChangeSpec := { name := "depotMoves", fn := fun _ => fun
  | [d1, d2] => { results := [.lit (.bool true)], args := [d1, d2] }
  | _ => none }
def depotMovesRow : OpenClaim := { program := "ythaaoghbginmpaadoor", sum := "99b4496f5b913933f355a8f26ee9c30eaa81b76a3c24710c07a2b4cadcb1cc1d", func := "bulkhead/bulkheadlaw07.DepotMoves", spec := "depotMoves", inPlace := ["internal/reflectlite.ValueOf", "(internal/reflectlite.Value).Type", "(internal/reflectlite.Value).IsNil", "internal/reflectlite.TypeOf", "(internal/reflectlite.Value).Elem", "(internal/reflectlite.Value).Set"], unfollowed := true, recurses := true, named := ["errors.errorType"], apart := false, laid := [("errors.errorType", laid_errors_errorType)] }
def DepotMovesSaid : Prop := depotMovesRow.holds Tryd.pinned (OpenSpec.ofChange depotMovesSpec)

/-- ITS FALSE NEIGHBOUR: 'it returns false'. Refute it at one input. -/
def depotMovesWrong : ChangeSpec := { name := "depotMoves", fn := fun _ => fun
  | [d1, d2] => { results := [.lit (.bool false)], args := [d1, d2] }
  | _ => none }
def DepotMovesWrongFalsely : Prop := depotMovesRow.holds Tryd.pinned (OpenSpec.ofChange depotMovesWrong)

/-- 'bulkheadlaw09.RadixNone': WHATEVER THE INPUT: true; the input reads as it did. -/
def radixNoneSpec : ChangeSpec := { name := "radixNone", fn := fun _ => fun
  | [d1, d2, d3] => { results := [.lit (.bool true)], args := [d1, d2, d3] }
  | _ => none }
def radixNoneRow : OpenClaim := { program := "ythaaoghbginmpaadoor", sum := "99b4496f5b913933f355a8f26ee9c30eaa81b76a3c24710c07a2b4cadcb1cc1d", func := "bulkhead/bulkheadlaw09.RadixNone", spec := "radixNone", inPlace := ["internal/reflectlite.ValueOf", "(internal/reflectlite.Value).Type", "(internal/reflectlite.Value).IsNil", "internal/reflectlite.TypeOf", "(internal/reflectlite.Value).Elem", "(internal/reflectlite.Value).Set"], unfollowed := true, recurses := true, named := ["errors.errorType"], apart := false, laid := [("errors.errorType", laid_errors_errorType)] }
def RadixNoneSaid : Prop := radixNoneRow.holds Tryd.pinned (OpenSpec.ofChange radixNoneSpec)

/-- ITS FALSE NEIGHBOUR: 'it returns false'. Refute it at one input. -/
def radixNoneWrong : ChangeSpec := { name := "radixNone", fn := fun _ => fun
  | [d1, d2, d3] => { results := [.lit (.bool false)], args := [d1, d2, d3] }
  | _ => none }
def RadixNoneWrongFalsely : Prop := radixNoneRow.holds Tryd.pinned (OpenSpec.ofChange radixNoneWrong)

/-- 'bulkheadlaw07.DepotNone': WHATEVER THE INPUT: true; the input reads as it did. -/
def depotNoneSpec : ChangeSpec := { name := "depotNone", fn := fun _ => fun
  | [d1, d2, d3] => { results := [.lit (.bool true)], args := [d1, d2, d3] }
  | _ => none }
def depotNoneRow : OpenClaim := { program := "ythaaoghbginmpaadoor", sum := "99b4496f5b913933f355a8f26ee9c30eaa81b76a3c24710c07a2b4cadcb1cc1d", func := "bulkhead/bulkheadlaw07.DepotNone", spec := "depotNone", inPlace := ["internal/reflectlite.ValueOf", "(internal/reflectlite.Value).Type", "(internal/reflectlite.Value).IsNil", "internal/reflectlite.TypeOf", "(internal/reflectlite.Value).Elem", "(internal/reflectlite.Value).Set"], unfollowed := true, recurses := true, named := ["errors.errorType"], apart := false, laid := [("errors.errorType", laid_errors_errorType)] }
def DepotNoneSaid : Prop := depotNoneRow.holds Tryd.pinned (OpenSpec.ofChange depotNoneSpec)

/-- ITS FALSE NEIGHBOUR: 'it returns false'. Refute it at one input. -/
def depotNoneWrong : ChangeSpec := { name := "depotNone", fn := fun _ => fun
  | [d1, d2, d3] => { results := [.lit (.bool false)], args := [d1, d2, d3] }
  | _ => none }
def DepotNoneWrongFalsely : Prop := depotNoneRow.holds Tryd.pinned (OpenSpec.ofChange depotNoneWrong)

/- THE SECOND FORM. 'bulk': how many values and letters a reading holds, each counted each time it is reached (what is shared counts as often as it is met; a slice's spare places count too). A statement '..UptoSaid' is the law's where the arguments, and the package variables that the reading takes, are together of bulk at most 1048576: NARROWER than '..Said'. Prove '..Said' where nothing that the law and all that it calls make is longer than what came in: it says more and counts as full. Else prove '..UptoSaid'. A law counts once. -/
mutual
def uptoBulk {H : Type} : DataW H → Nat
  | .lit (.string bytes) => bytes.length + 1
  | .lit _ => 1
  | .nil => 1
  | .ptr d => uptoBulk d + 1
  | .slice elems spare => uptoBulkAll elems + uptoBulkAll spare + 1
  | .agg parts => uptoBulkAll parts + 1
  | .iface _ d => uptoBulk d + 1
  | .map entries => uptoBulkEntries entries + 1
  | .held _ => 1
def uptoBulkAll {H : Type} : List (DataW H) → Nat
  | [] => 0
  | d :: r => uptoBulk d + uptoBulkAll r
def uptoBulkEntries {H : Type} : List (Lit × DataW H) → Nat
  | [] => 0
  | x :: r => uptoBulkEntry x + uptoBulkEntries r
def uptoBulkEntry {H : Type} : Lit × DataW H → Nat
  | (.string bytes, d) => bytes.length + uptoBulk d + 1
  | (_, d) => uptoBulk d + 1
 end
def uptoSmall : (H : Type) → List (DataW H) → Bool := fun _ ds => decide (uptoBulkAll ds ≤ 1048576)
def OpenSpec.upto (s : _root_.Go.ChangeSpec) : _root_.Go.OpenSpec := { _root_.Go.OpenSpec.ofChange s with cond := some uptoSmall }

/-- 'bulkheadlaw08.PrintsFills', WHERE WHAT IT READS IS OF BULK AT MOST 1048576: true; the input reads as it did. -/
def printsFillsUptoRow : OpenClaim := { program := "ythaaoghbginmpaadoor", sum := "99b4496f5b913933f355a8f26ee9c30eaa81b76a3c24710c07a2b4cadcb1cc1d", func := "bulkhead/bulkheadlaw08.PrintsFills", spec := "printsFills", inPlace := ["internal/reflectlite.ValueOf", "(internal/reflectlite.Value).Type", "(internal/reflectlite.Value).IsNil", "internal/reflectlite.TypeOf", "(internal/reflectlite.Value).Elem", "(internal/reflectlite.Value).Set"], unfollowed := true, recurses := true, named := ["errors.errorType"], apart := false, laid := [("errors.errorType", laid_errors_errorType)], narrowed := true }
def PrintsFillsUptoSaid : Prop := printsFillsUptoRow.holds Tryd.pinned (OpenSpec.upto printsFillsSpec)

/-- 'bulkheadlaw08.PrintsRuns', WHERE WHAT IT READS IS OF BULK AT MOST 1048576: true; the input reads as it did. -/
def printsRunsUptoRow : OpenClaim := { program := "ythaaoghbginmpaadoor", sum := "99b4496f5b913933f355a8f26ee9c30eaa81b76a3c24710c07a2b4cadcb1cc1d", func := "bulkhead/bulkheadlaw08.PrintsRuns", spec := "printsRuns", inPlace := ["internal/reflectlite.ValueOf", "(internal/reflectlite.Value).Type", "(internal/reflectlite.Value).IsNil", "internal/reflectlite.TypeOf", "(internal/reflectlite.Value).Elem", "(internal/reflectlite.Value).Set"], unfollowed := true, recurses := true, named := ["errors.errorType"], apart := false, laid := [("errors.errorType", laid_errors_errorType)], narrowed := true }
def PrintsRunsUptoSaid : Prop := printsRunsUptoRow.holds Tryd.pinned (OpenSpec.upto printsRunsSpec)

/-- 'bulkheadlaw08.PrintsNone', WHERE WHAT IT READS IS OF BULK AT MOST 1048576: true; the input reads as it did. -/
def printsNoneUptoRow : OpenClaim := { program := "ythaaoghbginmpaadoor", sum := "99b4496f5b913933f355a8f26ee9c30eaa81b76a3c24710c07a2b4cadcb1cc1d", func := "bulkhead/bulkheadlaw08.PrintsNone", spec := "printsNone", inPlace := ["internal/reflectlite.ValueOf", "(internal/reflectlite.Value).Type", "(internal/reflectlite.Value).IsNil", "internal/reflectlite.TypeOf", "(internal/reflectlite.Value).Elem", "(internal/reflectlite.Value).Set"], unfollowed := true, recurses := true, named := ["errors.errorType"], apart := false, laid := [("errors.errorType", laid_errors_errorType)], narrowed := true }
def PrintsNoneUptoSaid : Prop := printsNoneUptoRow.holds Tryd.pinned (OpenSpec.upto printsNoneSpec)

/-- 'bulkheadlaw08.PrintsGoes', WHERE WHAT IT READS IS OF BULK AT MOST 1048576: true; the input reads as it did. -/
def printsGoesUptoRow : OpenClaim := { program := "ythaaoghbginmpaadoor", sum := "99b4496f5b913933f355a8f26ee9c30eaa81b76a3c24710c07a2b4cadcb1cc1d", func := "bulkhead/bulkheadlaw08.PrintsGoes", spec := "printsGoes", inPlace := ["internal/reflectlite.ValueOf", "(internal/reflectlite.Value).Type", "(internal/reflectlite.Value).IsNil", "internal/reflectlite.TypeOf", "(internal/reflectlite.Value).Elem", "(internal/reflectlite.Value).Set"], unfollowed := true, recurses := true, named := ["errors.errorType"], apart := false, laid := [("errors.errorType", laid_errors_errorType)], narrowed := true }
def PrintsGoesUptoSaid : Prop := printsGoesUptoRow.holds Tryd.pinned (OpenSpec.upto printsGoesSpec)

/-- 'bulkheadlaw07.DepotMoves', WHERE WHAT IT READS IS OF BULK AT MOST 1048576: true; the input reads as it did. -/
def depotMovesUptoRow : OpenClaim := { program := "ythaaoghbginmpaadoor", sum := "99b4496f5b913933f355a8f26ee9c30eaa81b76a3c24710c07a2b4cadcb1cc1d", func := "bulkhead/bulkheadlaw07.DepotMoves", spec := "depotMoves", inPlace := ["internal/reflectlite.ValueOf", "(internal/reflectlite.Value).Type", "(internal/reflectlite.Value).IsNil", "internal/reflectlite.TypeOf", "(internal/reflectlite.Value).Elem", "(internal/reflectlite.Value).Set"], unfollowed := true, recurses := true, named := ["errors.errorType"], apart := false, laid := [("errors.errorType", laid_errors_errorType)], narrowed := true }
def DepotMovesUptoSaid : Prop := depotMovesUptoRow.holds Tryd.pinned (OpenSpec.upto depotMovesSpec)

/-- 'bulkheadlaw09.RadixNone', WHERE WHAT IT READS IS OF BULK AT MOST 1048576: true; the input reads as it did. -/
def radixNoneUptoRow : OpenClaim := { program := "ythaaoghbginmpaadoor", sum := "99b4496f5b913933f355a8f26ee9c30eaa81b76a3c24710c07a2b4cadcb1cc1d", func := "bulkhead/bulkheadlaw09.RadixNone", spec := "radixNone", inPlace := ["internal/reflectlite.ValueOf", "(internal/reflectlite.Value).Type", "(internal/reflectlite.Value).IsNil", "internal/reflectlite.TypeOf", "(internal/reflectlite.Value).Elem", "(internal/reflectlite.Value).Set"], unfollowed := true, recurses := true, named := ["errors.errorType"], apart := false, laid := [("errors.errorType", laid_errors_errorType)], narrowed := true }
def RadixNoneUptoSaid : Prop := radixNoneUptoRow.holds Tryd.pinned (OpenSpec.upto radixNoneSpec)

/-- 'bulkheadlaw07.DepotNone', WHERE WHAT IT READS IS OF BULK AT MOST 1048576: true; the input reads as it did. -/
def depotNoneUptoRow : OpenClaim := { program := "ythaaoghbginmpaadoor", sum := "99b4496f5b913933f355a8f26ee9c30eaa81b76a3c24710c07a2b4cadcb1cc1d", func := "bulkhead/bulkheadlaw07.DepotNone", spec := "depotNone", inPlace := ["internal/reflectlite.ValueOf", "(internal/reflectlite.Value).Type", "(internal/reflectlite.Value).IsNil", "internal/reflectlite.TypeOf", "(internal/reflectlite.Value).Elem", "(internal/reflectlite.Value).Set"], unfollowed := true, recurses := true, named := ["errors.errorType"], apart := false, laid := [("errors.errorType", laid_errors_errorType)], narrowed := true }
def DepotNoneUptoSaid : Prop := depotNoneUptoRow.holds Tryd.pinned (OpenSpec.upto depotNoneSpec)

end Rows
end Go.Proofs.YthaaoghbginmpaaDoor
