/- The tied card: an entry that is set to no refs is found no more, and its place is free again. -/
import Derived.Test.YthaaoghbginmpaaDoorR5
import Derived.Test.YthaaoghbginmpaaDoorTie
import Derived.Test.YthaaoghbginmpaaDoorCards
import Derived.SevenTiedAt
set_option linter.unusedSimpArgs false
set_option linter.unusedVariables false
set_option linter.unnecessarySimpa false
namespace Go.Proofs.YthaaoghbginmpaaDoor
set_option linter.unusedSimpArgs false
set_option linter.unusedVariables false
open Go
theorem printsGoes_card : Rows.PrintsGoesCardSaid :=
  Claim7.holds_tied_plain_at .later [] [.handle] true (true, "1d068f4eefb04d78be3a024ca2db7ec01f6045fe4f66575a666619ad57cdb383") true
    printsGoes_holds (fun _ h => by cases h) (by kernel_rfl) (fun _ h => by cases h) printsGoes_row_tie rfl ⟨rfl, rfl⟩ (by kernel_rfl) rfl
    (fun f fn hf hfn => by
      obtain rfl : f = 6 := Option.some.inj ((show Tryd.prog.funcNamed "bulkhead/bulkheadlaw08.PrintsGoes" = some 6 by kernel_rfl).symm.trans hf) |>.symm
      obtain rfl : fn = Tryd.f6 := (Option.some.inj (Tryd.func6.symm.trans hfn)).symm
      exact ⟨by kernel_rfl, fun j t ht => by
        rw [Tryd.params6] at ht
        have hm : t ∈ [3, 60] := by simpa using Array.mem_of_getElem? ht
        have hall : ([3, 60].all fun u => !Tryd.prog.wantsStandIn u) = true := by kernel_rfl
        exact (show Tryd.prog.wantsStandIn t = false by simpa using List.all_eq_true.1 hall t hm)⟩)
    (by kernel_rfl)
end Go.Proofs.YthaaoghbginmpaaDoor
