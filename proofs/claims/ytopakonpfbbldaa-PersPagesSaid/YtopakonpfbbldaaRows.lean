/-
  No cell of these rows narrows 'for every input' (looked for: loops, veiled, ifaces, maps, wideKeys, modest, calm, conditions, laid).
  DERIVED. THE GIVEN ROWS OF THIS SEAT. 7 by the template 'for every input the law returns true; each argument reads behind the call as it read before'; 0 by the template 'total and deterministic' (their statements: YtopakonpfbbldaaTotals.lean).
  GIVEN WITH THE SEED: the statements are not yours to turn. If you find one false, say at which input.
  Laid BY PROGRAM, IN A SANDBOX (cutbox-rows.mjs): the forced cells as the released guide's own fill.sh prints them over the translation 72ab0173219810d7… (all of the seat's roots in one cut). By AI agents, Wed Nov 11 2026. No macro, syntax, notation, axiom, sorry.
-/
import Derived.Test.YtopakonpfbbldaaChecked
import GoSem.Claim
import GoSem.ClaimJoined
import GoSem.ClaimMapViews
import Derived.JoinedTies
import Derived.KernelRfl
namespace Go.Proofs.Ytopakonpfbbldaa
/- THE CELL 'sum', in the pinned program and in every row, IS THE sha256 OF THE DUMP (.gsa) THAT YtopakonpfbbldaaProg.lean LOADS. Nothing in Lean hashes anything: it is a label: what it is worth is what the hold of that sum in a sandbox is worth. -/
noncomputable def Try.pinned : Pinned := { name := "ytopakonpfbbldaa", sum := "72ab0173219810d7920405c1779a60317b66b3ca85b2c2d0b46dcd93135ad3fa", checked := Try.checked }
namespace Rows
def none {H : Type} : Left H := { results := [], args := [] }

/-- 'bulkheadlaw10.PersBars': WHATEVER THE INPUT: true; the input reads as it did. -/
def persBarsSpec : ChangeSpec := { name := "persBars", fn := fun _ => fun
  | [d1, d2, d3] => { results := [.lit (.bool true)], args := [d1, d2, d3] }
  | _ => none }
def persBarsRow : OpenClaim := { program := "ytopakonpfbbldaa", sum := "72ab0173219810d7920405c1779a60317b66b3ca85b2c2d0b46dcd93135ad3fa", func := "bulkhead/bulkheadlaw10.PersBars", spec := "persBars", unfollowed := true, recurses := true, apart := false }
def PersBarsSaid : Prop := persBarsRow.holds Try.pinned (OpenSpec.ofChange persBarsSpec)

/-- ITS FALSE NEIGHBOUR: 'it returns false'. Refute it at one input. -/
def persBarsWrong : ChangeSpec := { name := "persBars", fn := fun _ => fun
  | [d1, d2, d3] => { results := [.lit (.bool false)], args := [d1, d2, d3] }
  | _ => none }
def PersBarsWrongFalsely : Prop := persBarsRow.holds Try.pinned (OpenSpec.ofChange persBarsWrong)

/-- 'bulkheadlaw10.PersClears': WHATEVER THE INPUT: true; the input reads as it did. -/
def persClearsSpec : ChangeSpec := { name := "persClears", fn := fun _ => fun
  | [d1, d2] => { results := [.lit (.bool true)], args := [d1, d2] }
  | _ => none }
def persClearsRow : OpenClaim := { program := "ytopakonpfbbldaa", sum := "72ab0173219810d7920405c1779a60317b66b3ca85b2c2d0b46dcd93135ad3fa", func := "bulkhead/bulkheadlaw10.PersClears", spec := "persClears", unfollowed := true, recurses := true, apart := false }
def PersClearsSaid : Prop := persClearsRow.holds Try.pinned (OpenSpec.ofChange persClearsSpec)

/-- ITS FALSE NEIGHBOUR: 'it returns false'. Refute it at one input. -/
def persClearsWrong : ChangeSpec := { name := "persClears", fn := fun _ => fun
  | [d1, d2] => { results := [.lit (.bool false)], args := [d1, d2] }
  | _ => none }
def PersClearsWrongFalsely : Prop := persClearsRow.holds Try.pinned (OpenSpec.ofChange persClearsWrong)

/-- 'bulkheadlaw10.PersJoins': WHATEVER THE INPUT: true; the input reads as it did. -/
def persJoinsSpec : ChangeSpec := { name := "persJoins", fn := fun _ => fun
  | [d1, d2, d3] => { results := [.lit (.bool true)], args := [d1, d2, d3] }
  | _ => none }
def persJoinsRow : OpenClaim := { program := "ytopakonpfbbldaa", sum := "72ab0173219810d7920405c1779a60317b66b3ca85b2c2d0b46dcd93135ad3fa", func := "bulkhead/bulkheadlaw10.PersJoins", spec := "persJoins", unfollowed := true, recurses := true, apart := false }
def PersJoinsSaid : Prop := persJoinsRow.holds Try.pinned (OpenSpec.ofChange persJoinsSpec)

/-- ITS FALSE NEIGHBOUR: 'it returns false'. Refute it at one input. -/
def persJoinsWrong : ChangeSpec := { name := "persJoins", fn := fun _ => fun
  | [d1, d2, d3] => { results := [.lit (.bool false)], args := [d1, d2, d3] }
  | _ => none }
def PersJoinsWrongFalsely : Prop := persJoinsRow.holds Try.pinned (OpenSpec.ofChange persJoinsWrong)

/-- 'bulkheadlaw10.PersTakes': WHATEVER THE INPUT: true; the input reads as it did. -/
def persTakesSpec : ChangeSpec := { name := "persTakes", fn := fun _ => fun
  | [d1, d2, d3] => { results := [.lit (.bool true)], args := [d1, d2, d3] }
  | _ => none }
def persTakesRow : OpenClaim := { program := "ytopakonpfbbldaa", sum := "72ab0173219810d7920405c1779a60317b66b3ca85b2c2d0b46dcd93135ad3fa", func := "bulkhead/bulkheadlaw10.PersTakes", spec := "persTakes", unfollowed := true, recurses := true, apart := false }
def PersTakesSaid : Prop := persTakesRow.holds Try.pinned (OpenSpec.ofChange persTakesSpec)

/-- ITS FALSE NEIGHBOUR: 'it returns false'. Refute it at one input. -/
def persTakesWrong : ChangeSpec := { name := "persTakes", fn := fun _ => fun
  | [d1, d2, d3] => { results := [.lit (.bool false)], args := [d1, d2, d3] }
  | _ => none }
def PersTakesWrongFalsely : Prop := persTakesRow.holds Try.pinned (OpenSpec.ofChange persTakesWrong)

/-- 'bulkheadlaw10.PersActs': WHATEVER THE INPUT: true; the input reads as it did. -/
def persActsSpec : ChangeSpec := { name := "persActs", fn := fun _ => fun
  | [d1, d2, d3] => { results := [.lit (.bool true)], args := [d1, d2, d3] }
  | _ => none }
def persActsRow : OpenClaim := { program := "ytopakonpfbbldaa", sum := "72ab0173219810d7920405c1779a60317b66b3ca85b2c2d0b46dcd93135ad3fa", func := "bulkhead/bulkheadlaw10.PersActs", spec := "persActs", unfollowed := true, recurses := true, apart := false }
def PersActsSaid : Prop := persActsRow.holds Try.pinned (OpenSpec.ofChange persActsSpec)

/-- ITS FALSE NEIGHBOUR: 'it returns false'. Refute it at one input. -/
def persActsWrong : ChangeSpec := { name := "persActs", fn := fun _ => fun
  | [d1, d2, d3] => { results := [.lit (.bool false)], args := [d1, d2, d3] }
  | _ => none }
def PersActsWrongFalsely : Prop := persActsRow.holds Try.pinned (OpenSpec.ofChange persActsWrong)

/-- 'bulkheadlaw10.PersRuns': WHATEVER THE INPUT: true; the input reads as it did. -/
def persRunsSpec : ChangeSpec := { name := "persRuns", fn := fun _ => fun
  | [d] => { results := [.lit (.bool true)], args := [d] }
  | _ => none }
def persRunsRow : OpenClaim := { program := "ytopakonpfbbldaa", sum := "72ab0173219810d7920405c1779a60317b66b3ca85b2c2d0b46dcd93135ad3fa", func := "bulkhead/bulkheadlaw10.PersRuns", spec := "persRuns", unfollowed := true, recurses := true, apart := false }
def PersRunsSaid : Prop := persRunsRow.holds Try.pinned (OpenSpec.ofChange persRunsSpec)

/-- ITS FALSE NEIGHBOUR: 'it returns false'. Refute it at one input. -/
def persRunsWrong : ChangeSpec := { name := "persRuns", fn := fun _ => fun
  | [d] => { results := [.lit (.bool false)], args := [d] }
  | _ => none }
def PersRunsWrongFalsely : Prop := persRunsRow.holds Try.pinned (OpenSpec.ofChange persRunsWrong)

/-- 'bulkheadlaw10.PersPages': WHATEVER THE INPUT: true; the input reads as it did. -/
def persPagesSpec : ChangeSpec := { name := "persPages", fn := fun _ => fun
  | [d1, d2] => { results := [.lit (.bool true)], args := [d1, d2] }
  | _ => none }
def persPagesRow : OpenClaim := { program := "ytopakonpfbbldaa", sum := "72ab0173219810d7920405c1779a60317b66b3ca85b2c2d0b46dcd93135ad3fa", func := "bulkhead/bulkheadlaw10.PersPages", spec := "persPages", unfollowed := true, recurses := true, apart := false }
def PersPagesSaid : Prop := persPagesRow.holds Try.pinned (OpenSpec.ofChange persPagesSpec)

/-- ITS FALSE NEIGHBOUR: 'it returns false'. Refute it at one input. -/
def persPagesWrong : ChangeSpec := { name := "persPages", fn := fun _ => fun
  | [d1, d2] => { results := [.lit (.bool false)], args := [d1, d2] }
  | _ => none }
def PersPagesWrongFalsely : Prop := persPagesRow.holds Try.pinned (OpenSpec.ofChange persPagesWrong)

/- THE SECOND FORM. 'bulk': how many values and letters a reading holds, each counted each time it is reached (what is shared counts as often as it is met; a slice's spare places count too). A statement '..UptoSaid' is the law's where the arguments, and the package variables that the reading takes, are together of bulk at most 1048576: NARROWER than '..Said'. Prove '..Said' where nothing that the law and all that it calls make is longer than what came in: it says more and counts as full. Else prove '..UptoSaid'. A law counts once. -/
mutual
def uptoBulk {H : Type} : DataW H → Nat
  | .lit (.string bytes) => bytes.length + 1
  | .lit _ => 1
  | .nil => 1
  | .ptr d => uptoBulk d + 1
  | .slice elems spare => uptoBulkAll elems + uptoBulkAll spare + 1
  | .agg parts => uptoBulkAll parts + 1
  | .iface _ d => uptoBulk d + 1
  | .map entries => uptoBulkEntries entries + 1
  | .held _ => 1
def uptoBulkAll {H : Type} : List (DataW H) → Nat
  | [] => 0
  | d :: r => uptoBulk d + uptoBulkAll r
def uptoBulkEntries {H : Type} : List (Lit × DataW H) → Nat
  | [] => 0
  | x :: r => uptoBulkEntry x + uptoBulkEntries r
def uptoBulkEntry {H : Type} : Lit × DataW H → Nat
  | (.string bytes, d) => bytes.length + uptoBulk d + 1
  | (_, d) => uptoBulk d + 1
 end
def uptoSmall : (H : Type) → List (DataW H) → Bool := fun _ ds => decide (uptoBulkAll ds ≤ 1048576)
def OpenSpec.upto (s : _root_.Go.ChangeSpec) : _root_.Go.OpenSpec := { _root_.Go.OpenSpec.ofChange s with cond := some uptoSmall }

/-- 'bulkheadlaw10.PersBars', WHERE WHAT IT READS IS OF BULK AT MOST 1048576: true; the input reads as it did. -/
def persBarsUptoRow : OpenClaim := { program := "ytopakonpfbbldaa", sum := "72ab0173219810d7920405c1779a60317b66b3ca85b2c2d0b46dcd93135ad3fa", func := "bulkhead/bulkheadlaw10.PersBars", spec := "persBars", unfollowed := true, recurses := true, apart := false, narrowed := true }
def PersBarsUptoSaid : Prop := persBarsUptoRow.holds Try.pinned (OpenSpec.upto persBarsSpec)

/-- 'bulkheadlaw10.PersClears', WHERE WHAT IT READS IS OF BULK AT MOST 1048576: true; the input reads as it did. -/
def persClearsUptoRow : OpenClaim := { program := "ytopakonpfbbldaa", sum := "72ab0173219810d7920405c1779a60317b66b3ca85b2c2d0b46dcd93135ad3fa", func := "bulkhead/bulkheadlaw10.PersClears", spec := "persClears", unfollowed := true, recurses := true, apart := false, narrowed := true }
def PersClearsUptoSaid : Prop := persClearsUptoRow.holds Try.pinned (OpenSpec.upto persClearsSpec)

/-- 'bulkheadlaw10.PersJoins', WHERE WHAT IT READS IS OF BULK AT MOST 1048576: true; the input reads as it did. -/
def persJoinsUptoRow : OpenClaim := { program := "ytopakonpfbbldaa", sum := "72ab0173219810d7920405c1779a60317b66b3ca85b2c2d0b46dcd93135ad3fa", func := "bulkhead/bulkheadlaw10.PersJoins", spec := "persJoins", unfollowed := true, recurses := true, apart := false, narrowed := true }
def PersJoinsUptoSaid : Prop := persJoinsUptoRow.holds Try.pinned (OpenSpec.upto persJoinsSpec)

/-- 'bulkheadlaw10.PersTakes', WHERE WHAT IT READS IS OF BULK AT MOST 1048576: true; the input reads as it did. -/
def persTakesUptoRow : OpenClaim := { program := "ytopakonpfbbldaa", sum := "72ab0173219810d7920405c1779a60317b66b3ca85b2c2d0b46dcd93135ad3fa", func := "bulkhead/bulkheadlaw10.PersTakes", spec := "persTakes", unfollowed := true, recurses := true, apart := false, narrowed := true }
def PersTakesUptoSaid : Prop := persTakesUptoRow.holds Try.pinned (OpenSpec.upto persTakesSpec)

/-- 'bulkheadlaw10.PersActs', WHERE WHAT IT READS IS OF BULK AT MOST 1048576: true; the input reads as it did. -/
def persActsUptoRow : OpenClaim := { program := "ytopakonpfbbldaa", sum := "72ab0173219810d7920405c1779a60317b66b3ca85b2c2d0b46dcd93135ad3fa", func := "bulkhead/bulkheadlaw10.PersActs", spec := "persActs", unfollowed := true, recurses := true, apart := false, narrowed := true }
def PersActsUptoSaid : Prop := persActsUptoRow.holds Try.pinned (OpenSpec.upto persActsSpec)

/-- 'bulkheadlaw10.PersRuns', WHERE WHAT IT READS IS OF BULK AT MOST 1048576: true; the input reads as it did. -/
def persRunsUptoRow : OpenClaim := { program := "ytopakonpfbbldaa", sum := "72ab0173219810d7920405c1779a60317b66b3ca85b2c2d0b46dcd93135ad3fa", func := "bulkhead/bulkheadlaw10.PersRuns", spec := "persRuns", unfollowed := true, recurses := true, apart := false, narrowed := true }
def PersRunsUptoSaid : Prop := persRunsUptoRow.holds Try.pinned (OpenSpec.upto persRunsSpec)

/-- 'bulkheadlaw10.PersPages', WHERE WHAT IT READS IS OF BULK AT MOST 1048576: true; the input reads as it did. -/
def persPagesUptoRow : OpenClaim := { program := "ytopakonpfbbldaa", sum := "72ab0173219810d7920405c1779a60317b66b3ca85b2c2d0b46dcd93135ad3fa", func := "bulkhead/bulkheadlaw10.PersPages", spec := "persPages", unfollowed := true, recurses := true, apart := false, narrowed := true }
def PersPagesUptoSaid : Prop := persPagesUptoRow.holds Try.pinned (OpenSpec.upto persPagesSpec)

end Rows
end Go.Proofs.Ytopakonpfbbldaa
