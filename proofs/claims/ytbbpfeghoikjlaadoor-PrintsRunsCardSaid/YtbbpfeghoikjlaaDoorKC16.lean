/- The tied card: call by call a table has the entries that were set, and finds them by digest and by slot, just while they may be wanted once more. -/
import Derived.Test.YtbbpfeghoikjlaaDoorKF16q
import Derived.Test.YtbbpfeghoikjlaaDoorTie
import Derived.Test.YtbbpfeghoikjlaaDoorCards
import Derived.SevenTiedAt
set_option linter.unusedSimpArgs false
set_option linter.unusedVariables false
set_option linter.unnecessarySimpa false
namespace Go.Proofs.YtbbpfeghoikjlaaDoor
open Go
theorem printsRuns_card : Rows.PrintsRunsCardSaid :=
  Claim7.holds_tied_plain_at .later [] [.handle] true (true, "a473397e28aa7a97d4262a8e7165513143f55b90b1955e1c5f7fd5b728fe91f8") true
    printsRuns_holds (fun _ h => by cases h) (by kernel_rfl) (fun _ h => by cases h) printsRuns_row_tie rfl ⟨rfl, rfl⟩ (by kernel_rfl) rfl
    (fun f fn hf hfn => by
      obtain rfl : f = 3 := Option.some.inj ((show Tryd.prog.funcNamed "bulkhead/bulkheadlaw08.PrintsRuns" = some 3 by kernel_rfl).symm.trans hf) |>.symm
      obtain rfl : fn = Tryd.f3 := (Option.some.inj (Tryd.func3.symm.trans hfn)).symm
      exact ⟨by kernel_rfl, fun j t ht => by
        rw [Tryd.params3] at ht
        have hm : t ∈ [3, 22] := by simpa using Array.mem_of_getElem? ht
        have hall : ([3, 22].all fun u => !Tryd.prog.wantsStandIn u) = true := by kernel_rfl
        exact (show Tryd.prog.wantsStandIn t = false by simpa using List.all_eq_true.1 hall t hm)⟩)
    (by kernel_rfl)
end Go.Proofs.YtbbpfeghoikjlaaDoor
