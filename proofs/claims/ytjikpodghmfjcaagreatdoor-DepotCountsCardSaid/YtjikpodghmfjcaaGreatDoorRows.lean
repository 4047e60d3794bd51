/-
  NARROWER THAN 'FOR EVERY INPUT', by the rows' own cells (each row's printed sentence says how): DepotFills: laid · RadixApart: laid · RadixRuns: laid · RadixEmpties: laid · RadixFull: laid · DepotRuns: laid · DepotCounts: laid.
  DERIVED. THE GIVEN ROWS OF THIS SEAT. 7 by the template 'for every input the law returns true; each argument reads behind the call as it read before'; 0 by the template 'total and deterministic' (their statements: YtjikpodghmfjcaaGreatDoorTotals.lean).
  GIVEN WITH THE SEED: the statements are not yours to turn. If you find one false, say at which input.
  Laid BY PROGRAM, IN A SANDBOX (cutbox-rows.mjs): the forced cells as the released guide's own fill.sh prints them over the translation 02c8f04e17de8c83… (all of the seat's roots in one cut). By AI agents, Wed Nov 11 2026. No macro, syntax, notation, axiom, sorry.
-/
import Derived.Test.YtjikpodghmfjcaaGreatDoorChecked
import GoSem.Claim
import GoSem.ClaimJoined
import GoSem.ClaimMapViews
import Derived.JoinedTies
import Derived.KernelRfl
namespace Go.Proofs.YtjikpodghmfjcaaGreatDoor
/- THE CELL 'sum', in the pinned program and in every row, IS THE sha256 OF THE DUMP (.gsa) THAT YtjikpodghmfjcaaGreatDoorProg.lean LOADS. Nothing in Lean hashes anything: it is a label: what it is worth is what the hold of that sum in a sandbox is worth. -/
noncomputable def Tryz.pinned : Pinned := { name := "ytjikpodghmfjcaagreatdoor", sum := "02c8f04e17de8c835885353eb60c44889aa34b42e67588a6a060a719e476f750", checked := Tryz.checked }
namespace Rows
def none {H : Type} : Left H := { results := [], args := [] }

/- WHAT THE LISTED PACKAGE-LEVEL VARIABLES READ AS WHEN THE CALL BEGINS. Each datum BY PROGRAM (the guide's laid-datum.mjs) off the statement by which the dump's own 'gosem.cut.vars' lays the variable. In a bare row this is a premise. The card (YtjikpodghmfjcaaGreatDoorCards.lean) ties it to the program's text. -/
def laid_errors_errorType {H : Type} : DataW H := .iface "internal/reflectlite.rtype" (.agg [.ptr (.lit (.string [101, 114, 114, 111, 114]))])

/-- 'bulkheadlaw07.DepotFills': WHATEVER THE INPUT: true; the input reads as it did. -/
def depotFillsSpec : ChangeSpec := { name := "depotFills", fn := fun _ => fun
  | [d1, d2] => { results := [.lit (.bool true)], args := [d1, d2] }
  | _ => none }
def depotFillsRow : OpenClaim := { program := "ytjikpodghmfjcaagreatdoor", sum := "02c8f04e17de8c835885353eb60c44889aa34b42e67588a6a060a719e476f750", func := "bulkhead/bulkheadlaw07.DepotFills", spec := "depotFills", inPlace := ["internal/reflectlite.ValueOf", "(internal/reflectlite.Value).Type", "(internal/reflectlite.Value).IsNil", "internal/reflectlite.TypeOf", "(internal/reflectlite.Value).Elem", "(internal/reflectlite.Value).Set", "internal/reflectlite.Swapper", "(internal/reflectlite.Value).Len"], unfollowed := true, recurses := true, named := ["errors.errorType"], plainKeys := false, apart := false, laid := [("errors.errorType", laid_errors_errorType)] }
def DepotFillsSaid : Prop := depotFillsRow.holds Tryz.pinned (OpenSpec.ofChange depotFillsSpec)

/-- ITS FALSE NEIGHBOUR: 'it returns false'. Refute it at one input. -/
def depotFillsWrong : ChangeSpec := { name := "depotFills", fn := fun _ => fun
  | [d1, d2] => { results := [.lit (.bool false)], args := [d1, d2] }
  | _ => none }
def DepotFillsWrongFalsely : Prop := depotFillsRow.holds Tryz.pinned (OpenSpec.ofChange depotFillsWrong)

/-- 'bulkheadlaw09.RadixApart': WHATEVER THE INPUT: true; the input reads as it did. -/
def radixApartSpec : ChangeSpec := { name := "radixApart", fn := fun _ => fun
  | [d1, d2, d3] => { results := [.lit (.bool true)], args := [d1, d2, d3] }
  | _ => none }
def radixApartRow : OpenClaim := { program := "ytjikpodghmfjcaagreatdoor", sum := "02c8f04e17de8c835885353eb60c44889aa34b42e67588a6a060a719e476f750", func := "bulkhead/bulkheadlaw09.RadixApart", spec := "radixApart", inPlace := ["internal/reflectlite.ValueOf", "(internal/reflectlite.Value).Type", "(internal/reflectlite.Value).IsNil", "internal/reflectlite.TypeOf", "(internal/reflectlite.Value).Elem", "(internal/reflectlite.Value).Set", "internal/reflectlite.Swapper", "(internal/reflectlite.Value).Len"], unfollowed := true, recurses := true, named := ["errors.errorType"], plainKeys := false, apart := false, laid := [("errors.errorType", laid_errors_errorType)] }
def RadixApartSaid : Prop := radixApartRow.holds Tryz.pinned (OpenSpec.ofChange radixApartSpec)

/-- ITS FALSE NEIGHBOUR: 'it returns false'. Refute it at one input. -/
def radixApartWrong : ChangeSpec := { name := "radixApart", fn := fun _ => fun
  | [d1, d2, d3] => { results := [.lit (.bool false)], args := [d1, d2, d3] }
  | _ => none }
def RadixApartWrongFalsely : Prop := radixApartRow.holds Tryz.pinned (OpenSpec.ofChange radixApartWrong)

/-- 'bulkheadlaw09.RadixRuns': WHATEVER THE INPUT: true; the input reads as it did. -/
def radixRunsSpec : ChangeSpec := { name := "radixRuns", fn := fun _ => fun
  | [d1, d2] => { results := [.lit (.bool true)], args := [d1, d2] }
  | _ => none }
def radixRunsRow : OpenClaim := { program := "ytjikpodghmfjcaagreatdoor", sum := "02c8f04e17de8c835885353eb60c44889aa34b42e67588a6a060a719e476f750", func := "bulkhead/bulkheadlaw09.RadixRuns", spec := "radixRuns", inPlace := ["internal/reflectlite.ValueOf", "(internal/reflectlite.Value).Type", "(internal/reflectlite.Value).IsNil", "internal/reflectlite.TypeOf", "(internal/reflectlite.Value).Elem", "(internal/reflectlite.Value).Set", "internal/reflectlite.Swapper", "(internal/reflectlite.Value).Len"], unfollowed := true, recurses := true, named := ["errors.errorType"], plainKeys := false, apart := false, laid := [("errors.errorType", laid_errors_errorType)] }
def RadixRunsSaid : Prop := radixRunsRow.holds Tryz.pinned (OpenSpec.ofChange radixRunsSpec)

/-- ITS FALSE NEIGHBOUR: 'it returns false'. Refute it at one input. -/
def radixRunsWrong : ChangeSpec := { name := "radixRuns", fn := fun _ => fun
  | [d1, d2] => { results := [.lit (.bool false)], args := [d1, d2] }
  | _ => none }
def RadixRunsWrongFalsely : Prop := radixRunsRow.holds Tryz.pinned (OpenSpec.ofChange radixRunsWrong)

/-- 'bulkheadlaw09.RadixEmpties': WHATEVER THE INPUT: true; the input reads as it did. -/
def radixEmptiesSpec : ChangeSpec := { name := "radixEmpties", fn := fun _ => fun
  | [d] => { results := [.lit (.bool true)], args := [d] }
  | _ => none }
def radixEmptiesRow : OpenClaim := { program := "ytjikpodghmfjcaagreatdoor", sum := "02c8f04e17de8c835885353eb60c44889aa34b42e67588a6a060a719e476f750", func := "bulkhead/bulkheadlaw09.RadixEmpties", spec := "radixEmpties", inPlace := ["internal/reflectlite.ValueOf", "(internal/reflectlite.Value).Type", "(internal/reflectlite.Value).IsNil", "internal/reflectlite.TypeOf", "(internal/reflectlite.Value).Elem", "(internal/reflectlite.Value).Set", "internal/reflectlite.Swapper", "(internal/reflectlite.Value).Len"], unfollowed := true, recurses := true, named := ["errors.errorType"], plainKeys := false, apart := false, laid := [("errors.errorType", laid_errors_errorType)] }
def RadixEmptiesSaid : Prop := radixEmptiesRow.holds Tryz.pinned (OpenSpec.ofChange radixEmptiesSpec)

/-- ITS FALSE NEIGHBOUR: 'it returns false'. Refute it at one input. -/
def radixEmptiesWrong : ChangeSpec := { name := "radixEmpties", fn := fun _ => fun
  | [d] => { results := [.lit (.bool false)], args := [d] }
  | _ => none }
def RadixEmptiesWrongFalsely : Prop := radixEmptiesRow.holds Tryz.pinned (OpenSpec.ofChange radixEmptiesWrong)

/-- 'bulkheadlaw09.RadixFull': WHATEVER THE INPUT: true; the input reads as it did. -/
def radixFullSpec : ChangeSpec := { name := "radixFull", fn := fun _ => fun
  | [d1, d2, d3] => { results := [.lit (.bool true)], args := [d1, d2, d3] }
  | _ => none }
def radixFullRow : OpenClaim := { program := "ytjikpodghmfjcaagreatdoor", sum := "02c8f04e17de8c835885353eb60c44889aa34b42e67588a6a060a719e476f750", func := "bulkhead/bulkheadlaw09.RadixFull", spec := "radixFull", inPlace := ["internal/reflectlite.ValueOf", "(internal/reflectlite.Value).Type", "(internal/reflectlite.Value).IsNil", "internal/reflectlite.TypeOf", "(internal/reflectlite.Value).Elem", "(internal/reflectlite.Value).Set", "internal/reflectlite.Swapper", "(internal/reflectlite.Value).Len"], unfollowed := true, recurses := true, named := ["errors.errorType"], plainKeys := false, apart := false, laid := [("errors.errorType", laid_errors_errorType)] }
def RadixFullSaid : Prop := radixFullRow.holds Tryz.pinned (OpenSpec.ofChange radixFullSpec)

/-- ITS FALSE NEIGHBOUR: 'it returns false'. Refute it at one input. -/
def radixFullWrong : ChangeSpec := { name := "radixFull", fn := fun _ => fun
  | [d1, d2, d3] => { results := [.lit (.bool false)], args := [d1, d2, d3] }
  | _ => none }
def RadixFullWrongFalsely : Prop := radixFullRow.holds Tryz.pinned (OpenSpec.ofChange radixFullWrong)

/-- 'bulkheadlaw07.DepotRuns': WHATEVER THE INPUT: true; the input reads as it did. -/
def depotRunsSpec : ChangeSpec := { name := "depotRuns", fn := fun _ => fun
  | [d1, d2] => { results := [.lit (.bool true)], args := [d1, d2] }
  | _ => none }
def depotRunsRow : OpenClaim := { program := "ytjikpodghmfjcaagreatdoor", sum := "02c8f04e17de8c835885353eb60c44889aa34b42e67588a6a060a719e476f750", func := "bulkhead/bulkheadlaw07.DepotRuns", spec := "depotRuns", inPlace := ["internal/reflectlite.ValueOf", "(internal/reflectlite.Value).Type", "(internal/reflectlite.Value).IsNil", "internal/reflectlite.TypeOf", "(internal/reflectlite.Value).Elem", "(internal/reflectlite.Value).Set", "internal/reflectlite.Swapper", "(internal/reflectlite.Value).Len"], unfollowed := true, recurses := true, named := ["errors.errorType"], plainKeys := false, apart := false, laid := [("errors.errorType", laid_errors_errorType)] }
def DepotRunsSaid : Prop := depotRunsRow.holds Tryz.pinned (OpenSpec.ofChange depotRunsSpec)

/-- ITS FALSE NEIGHBOUR: 'it returns false'. Refute it at one input. -/
def depotRunsWrong : ChangeSpec := { name := "depotRuns", fn := fun _ => fun
  | [d1, d2] => { results := [.lit (.bool false)], args := [d1, d2] }
  | _ => none }
def DepotRunsWrongFalsely : Prop := depotRunsRow.holds Tryz.pinned (OpenSpec.ofChange depotRunsWrong)

/-- 'bulkheadlaw07.DepotCounts': WHATEVER THE INPUT: true; the input reads as it did. -/
def depotCountsSpec : ChangeSpec := { name := "depotCounts", fn := fun _ => fun
  | [d] => { results := [.lit (.bool true)], args := [d] }
  | _ => none }
def depotCountsRow : OpenClaim := { program := "ytjikpodghmfjcaagreatdoor", sum := "02c8f04e17de8c835885353eb60c44889aa34b42e67588a6a060a719e476f750", func := "bulkhead/bulkheadlaw07.DepotCounts", spec := "depotCounts", inPlace := ["internal/reflectlite.ValueOf", "(internal/reflectlite.Value).Type", "(internal/reflectlite.Value).IsNil", "internal/reflectlite.TypeOf", "(internal/reflectlite.Value).Elem", "(internal/reflectlite.Value).Set", "internal/reflectlite.Swapper", "(internal/reflectlite.Value).Len"], unfollowed := true, recurses := true, named := ["errors.errorType"], plainKeys := false, apart := false, laid := [("errors.errorType", laid_errors_errorType)] }
def DepotCountsSaid : Prop := depotCountsRow.holds Tryz.pinned (OpenSpec.ofChange depotCountsSpec)

/-- ITS FALSE NEIGHBOUR: 'it returns false'. Refute it at one input. -/
def depotCountsWrong : ChangeSpec := { name := "depotCounts", fn := fun _ => fun
  | [d] => { results := [.lit (.bool false)], args := [d] }
  | _ => none }
def DepotCountsWrongFalsely : Prop := depotCountsRow.holds Tryz.pinned (OpenSpec.ofChange depotCountsWrong)

/- THE SECOND FORM. 'bulk': how many values and letters a reading holds, each counted each time it is reached (what is shared counts as often as it is met; a slice's spare places count too). A statement '..UptoSaid' is the law's where the arguments, and the package variables that the reading takes, are together of bulk at most 1048576: NARROWER than '..Said'. Prove '..Said' where nothing that the law and all that it calls make is longer than what came in: it says more and counts as full. Else prove '..UptoSaid'. A law counts once. -/
mutual
def uptoBulk {H : Type} : DataW H → Nat
  | .lit (.string bytes) => bytes.length + 1
  | .lit _ => 1
  | .nil => 1
  | .ptr d => uptoBulk d + 1
  | .slice elems spare => uptoBulkAll elems + uptoBulkAll spare + 1
  | .agg parts => uptoBulkAll parts + 1
  | .iface _ d => uptoBulk d + 1
  | .map entries => uptoBulkEntries entries + 1
  | .held _ => 1
def uptoBulkAll {H : Type} : List (DataW H) → Nat
  | [] => 0
  | d :: r => uptoBulk d + uptoBulkAll r
def uptoBulkEntries {H : Type} : List (Lit × DataW H) → Nat
  | [] => 0
  | x :: r => uptoBulkEntry x + uptoBulkEntries r
def uptoBulkEntry {H : Type} : Lit × DataW H → Nat
  | (.string bytes, d) => bytes.length + uptoBulk d + 1
  | (_, d) => uptoBulk d + 1
 end
def uptoSmall : (H : Type) → List (DataW H) → Bool := fun _ ds => decide (uptoBulkAll ds ≤ 1048576)
def OpenSpec.upto (s : _root_.Go.ChangeSpec) : _root_.Go.OpenSpec := { _root_.Go.OpenSpec.ofChange s with cond := some uptoSmall }

/-- 'bulkheadlaw07.DepotFills', WHERE WHAT IT READS IS OF BULK AT MOST 1048576: true; the input reads as it did. -/
def depotFillsUptoRow : OpenClaim := { program := "ytjikpodghmfjcaagreatdoor", sum := "02c8f04e17de8c835885353eb60c44889aa34b42e67588a6a060a719e476f750", func := "bulkhead/bulkheadlaw07.DepotFills", spec := "depotFills", inPlace := ["internal/reflectlite.ValueOf", "(internal/reflectlite.Value).Type", "(internal/reflectlite.Value).IsNil", "internal/reflectlite.TypeOf", "(internal/reflectlite.Value).Elem", "(internal/reflectlite.Value).Set", "internal/reflectlite.Swapper", "(internal/reflectlite.Value).Len"], unfollowed := true, recurses := true, named := ["errors.errorType"], plainKeys := false, apart := false, laid := [("errors.errorType", laid_errors_errorType)], narrowed := true }
def DepotFillsUptoSaid : Prop := depotFillsUptoRow.holds Tryz.pinned (OpenSpec.upto depotFillsSpec)

/-- 'bulkheadlaw09.RadixApart', WHERE WHAT IT READS IS OF BULK AT MOST 1048576: true; the input reads as it did. -/
def radixApartUptoRow : OpenClaim := { program := "ytjikpodghmfjcaagreatdoor", sum := "02c8f04e17de8c835885353eb60c44889aa34b42e67588a6a060a719e476f750", func := "bulkhead/bulkheadlaw09.RadixApart", spec := "radixApart", inPlace := ["internal/reflectlite.ValueOf", "(internal/reflectlite.Value).Type", "(internal/reflectlite.Value).IsNil", "internal/reflectlite.TypeOf", "(internal/reflectlite.Value).Elem", "(internal/reflectlite.Value).Set", "internal/reflectlite.Swapper", "(internal/reflectlite.Value).Len"], unfollowed := true, recurses := true, named := ["errors.errorType"], plainKeys := false, apart := false, laid := [("errors.errorType", laid_errors_errorType)], narrowed := true }
def RadixApartUptoSaid : Prop := radixApartUptoRow.holds Tryz.pinned (OpenSpec.upto radixApartSpec)

/-- 'bulkheadlaw09.RadixRuns', WHERE WHAT IT READS IS OF BULK AT MOST 1048576: true; the input reads as it did. -/
def radixRunsUptoRow : OpenClaim := { program := "ytjikpodghmfjcaagreatdoor", sum := "02c8f04e17de8c835885353eb60c44889aa34b42e67588a6a060a719e476f750", func := "bulkhead/bulkheadlaw09.RadixRuns", spec := "radixRuns", inPlace := ["internal/reflectlite.ValueOf", "(internal/reflectlite.Value).Type", "(internal/reflectlite.Value).IsNil", "internal/reflectlite.TypeOf", "(internal/reflectlite.Value).Elem", "(internal/reflectlite.Value).Set", "internal/reflectlite.Swapper", "(internal/reflectlite.Value).Len"], unfollowed := true, recurses := true, named := ["errors.errorType"], plainKeys := false, apart := false, laid := [("errors.errorType", laid_errors_errorType)], narrowed := true }
def RadixRunsUptoSaid : Prop := radixRunsUptoRow.holds Tryz.pinned (OpenSpec.upto radixRunsSpec)

/-- 'bulkheadlaw09.RadixEmpties', WHERE WHAT IT READS IS OF BULK AT MOST 1048576: true; the input reads as it did. -/
def radixEmptiesUptoRow : OpenClaim := { program := "ytjikpodghmfjcaagreatdoor", sum := "02c8f04e17de8c835885353eb60c44889aa34b42e67588a6a060a719e476f750", func := "bulkhead/bulkheadlaw09.RadixEmpties", spec := "radixEmpties", inPlace := ["internal/reflectlite.ValueOf", "(internal/reflectlite.Value).Type", "(internal/reflectlite.Value).IsNil", "internal/reflectlite.TypeOf", "(internal/reflectlite.Value).Elem", "(internal/reflectlite.Value).Set", "internal/reflectlite.Swapper", "(internal/reflectlite.Value).Len"], unfollowed := true, recurses := true, named := ["errors.errorType"], plainKeys := false, apart := false, laid := [("errors.errorType", laid_errors_errorType)], narrowed := true }
def RadixEmptiesUptoSaid : Prop := radixEmptiesUptoRow.holds Tryz.pinned (OpenSpec.upto radixEmptiesSpec)

/-- 'bulkheadlaw09.RadixFull', WHERE WHAT IT READS IS OF BULK AT MOST 1048576: true; the input reads as it did. -/
def radixFullUptoRow : OpenClaim := { program := "ytjikpodghmfjcaagreatdoor", sum := "02c8f04e17de8c835885353eb60c44889aa34b42e67588a6a060a719e476f750", func := "bulkhead/bulkheadlaw09.RadixFull", spec := "radixFull", inPlace := ["internal/reflectlite.ValueOf", "(internal/reflectlite.Value).Type", "(internal/reflectlite.Value).IsNil", "internal/reflectlite.TypeOf", "(internal/reflectlite.Value).Elem", "(internal/reflectlite.Value).Set", "internal/reflectlite.Swapper", "(internal/reflectlite.Value).Len"], unfollowed := true, recurses := true, named := ["errors.errorType"], plainKeys := false, apart := false, laid := [("errors.errorType", laid_errors_errorType)], narrowed := true }
def RadixFullUptoSaid : Prop := radixFullUptoRow.holds Tryz.pinned (OpenSpec.upto radixFullSpec)

/-- 'bulkheadlaw07.DepotRuns', WHERE WHAT IT READS IS OF BULK AT MOST 1048576: true; the input reads as it did. -/
def depotRunsUptoRow : OpenClaim := { program := "ytjikpodghmfjcaagreatdoor", sum := "02c8f04e17de8c835885353eb60c44889aa34b42e67588a6a060a719e476f750", func := "bulkhead/bulkheadlaw07.DepotRuns", spec := "depotRuns", inPlace := ["internal/reflectlite.ValueOf", "(internal/reflectlite.Value).Type", "(internal/reflectlite.Value).IsNil", "internal/reflectlite.TypeOf", "(internal/reflectlite.Value).Elem", "(internal/reflectlite.Value).Set", "internal/reflectlite.Swapper", "(internal/reflectlite.Value).Len"], unfollowed := true, recurses := true, named := ["errors.errorType"], plainKeys := false, apart := false, laid := [("errors.errorType", laid_errors_errorType)], narrowed := true }
def DepotRunsUptoSaid : Prop := depotRunsUptoRow.holds Tryz.pinned (OpenSpec.upto depotRunsSpec)

/-- 'bulkheadlaw07.DepotCounts', WHERE WHAT IT READS IS OF BULK AT MOST 1048576: true; the input reads as it did. -/
def depotCountsUptoRow : OpenClaim := { program := "ytjikpodghmfjcaagreatdoor", sum := "02c8f04e17de8c835885353eb60c44889aa34b42e67588a6a060a719e476f750", func := "bulkhead/bulkheadlaw07.DepotCounts", spec := "depotCounts", inPlace := ["internal/reflectlite.ValueOf", "(internal/reflectlite.Value).Type", "(internal/reflectlite.Value).IsNil", "internal/reflectlite.TypeOf", "(internal/reflectlite.Value).Elem", "(internal/reflectlite.Value).Set", "internal/reflectlite.Swapper", "(internal/reflectlite.Value).Len"], unfollowed := true, recurses := true, named := ["errors.errorType"], plainKeys := false, apart := false, laid := [("errors.errorType", laid_errors_errorType)], narrowed := true }
def DepotCountsUptoSaid : Prop := depotCountsUptoRow.holds Tryz.pinned (OpenSpec.upto depotCountsSpec)

end Rows
end Go.Proofs.YtjikpodghmfjcaaGreatDoor
