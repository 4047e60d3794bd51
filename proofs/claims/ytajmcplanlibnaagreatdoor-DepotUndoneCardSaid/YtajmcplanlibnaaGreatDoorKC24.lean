/- The tied card: what is undone was never there; what is committed is there behind a crash. -/
import Derived.Test.YtajmcplanlibnaaGreatDoorKU9q
import Derived.Test.YtajmcplanlibnaaGreatDoorTie
import Derived.Test.YtajmcplanlibnaaGreatDoorCards
import Derived.SevenTiedAt
set_option linter.unusedSimpArgs false
set_option linter.unusedVariables false
set_option linter.unnecessarySimpa false
namespace Go.Proofs.YtajmcplanlibnaaGreatDoor
open Go
theorem depotUndone_card : Rows.DepotUndoneCardSaid :=
  Claim7.holds_tied_plain_at .later [] [.handle] true (true, "84e21bd42c43b31bd5a19c2e2cdb57f4965d0e2c23da87b763eb40edd69e37d0") true
    depotUndone_holds (fun _ h => by cases h) (by kernel_rfl) (fun _ h => by cases h) depotUndone_row_tie rfl ⟨rfl, rfl⟩ (by kernel_rfl) rfl
    (fun f fn hf hfn => by
      obtain rfl : f = 7 := Option.some.inj ((show Tryz.prog.funcNamed "bulkhead/bulkheadlaw07.DepotUndone" = some 7 by kernel_rfl).symm.trans hf) |>.symm
      obtain rfl : fn = Tryz.f7 := (Option.some.inj (Tryz.func7.symm.trans hfn)).symm
      exact ⟨by kernel_rfl, fun j t ht => by
        rw [Tryz.params7] at ht
        have hm : t ∈ [84, 84] := by simpa using Array.mem_of_getElem? ht
        have hall : ([84, 84].all fun u => !Tryz.prog.wantsStandIn u) = true := by kernel_rfl
        exact (show Tryz.prog.wantsStandIn t = false by simpa using List.all_eq_true.1 hall t hm)⟩)
    (by kernel_rfl)
end Go.Proofs.YtajmcplanlibnaaGreatDoor
