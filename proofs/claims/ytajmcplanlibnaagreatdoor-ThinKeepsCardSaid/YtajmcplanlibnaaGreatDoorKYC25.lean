/- The tied card: reservations that are to last are there behind any crash; those that are not to are gone. -/
import Derived.Test.YtajmcplanlibnaaGreatDoorKYR25
import Derived.Test.YtajmcplanlibnaaGreatDoorTie
import Derived.Test.YtajmcplanlibnaaGreatDoorCards
import Derived.SevenTiedAt
set_option linter.unusedSimpArgs false
set_option linter.unusedVariables false
set_option linter.unnecessarySimpa false
namespace Go.Proofs.YtajmcplanlibnaaGreatDoor
open Go
theorem thinKeeps_card : Rows.ThinKeepsCardSaid :=
  Claim7.holds_tied_plain_at .later [] [.handle] true (true, "84e21bd42c43b31bd5a19c2e2cdb57f4965d0e2c23da87b763eb40edd69e37d0") true
    thinKeeps_holds (fun _ h => by cases h) (by kernel_rfl) (fun _ h => by cases h) thinKeeps_row_tie rfl ⟨rfl, rfl⟩ (by kernel_rfl) rfl
    (fun f fn hf hfn => by
      obtain rfl : f = 8 := Option.some.inj ((show Tryz.prog.funcNamed "bulkhead/bulkheadlaw11.ThinKeeps" = some 8 by kernel_rfl).symm.trans hf) |>.symm
      obtain rfl : fn = Tryz.f8 := (Option.some.inj (Tryz.func8.symm.trans hfn)).symm
      exact ⟨by kernel_rfl, fun j t ht => by
        rw [Tryz.params8] at ht
        have hm : t ∈ [100, 33] := by simpa using Array.mem_of_getElem? ht
        have hall : ([100, 33].all fun u => !Tryz.prog.wantsStandIn u) = true := by kernel_rfl
        exact (show Tryz.prog.wantsStandIn t = false by simpa using List.all_eq_true.1 hall t hm)⟩)
    (by kernel_rfl)
end Go.Proofs.YtajmcplanlibnaaGreatDoor
