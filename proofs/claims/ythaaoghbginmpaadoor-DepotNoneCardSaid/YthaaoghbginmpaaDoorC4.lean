/- The tied card: a depot that is none has nothing; places and numbers that are none are refused. -/
import Derived.Test.YthaaoghbginmpaaDoorR4
import Derived.Test.YthaaoghbginmpaaDoorTie
import Derived.Test.YthaaoghbginmpaaDoorCards
import Derived.SevenTiedAt
set_option linter.unusedSimpArgs false
set_option linter.unusedVariables false
set_option linter.unnecessarySimpa false
namespace Go.Proofs.YthaaoghbginmpaaDoor
set_option linter.unusedSimpArgs false
set_option linter.unusedVariables false
open Go
theorem depotNone_card : Rows.DepotNoneCardSaid :=
  Claim7.holds_tied_plain_at .later [] [.handle] true (true, "1d068f4eefb04d78be3a024ca2db7ec01f6045fe4f66575a666619ad57cdb383") true
    depotNone_holds (fun _ h => by cases h) (by kernel_rfl) (fun _ h => by cases h) depotNone_row_tie rfl ⟨rfl, rfl⟩ (by kernel_rfl) rfl
    (fun f fn hf hfn => by
      obtain rfl : f = 9 := Option.some.inj ((show Tryd.prog.funcNamed "bulkhead/bulkheadlaw07.DepotNone" = some 9 by kernel_rfl).symm.trans hf) |>.symm
      obtain rfl : fn = Tryd.f9 := (Option.some.inj (Tryd.func9.symm.trans hfn)).symm
      exact ⟨by kernel_rfl, fun j t ht => by
        rw [Tryd.params9] at ht
        have hm : t ∈ [3, 3, 3] := by simpa using Array.mem_of_getElem? ht
        have hall : ([3, 3, 3].all fun u => !Tryd.prog.wantsStandIn u) = true := by kernel_rfl
        exact (show Tryd.prog.wantsStandIn t = false by simpa using List.all_eq_true.1 hall t hm)⟩)
    (by kernel_rfl)
end Go.Proofs.YthaaoghbginmpaaDoor
