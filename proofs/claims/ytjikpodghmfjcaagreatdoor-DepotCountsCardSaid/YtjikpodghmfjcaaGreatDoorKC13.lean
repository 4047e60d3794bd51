/- The tied card: live, dead and free slots are all slots; a container has dead ones only while it has a live one. -/
import Derived.Test.YtjikpodghmfjcaaGreatDoorKF13
import Derived.Test.YtjikpodghmfjcaaGreatDoorTie
import Derived.Test.YtjikpodghmfjcaaGreatDoorCards
import Derived.SevenTiedAt
set_option linter.unusedSimpArgs false
set_option linter.unusedVariables false
set_option linter.unnecessarySimpa false
namespace Go.Proofs.YtjikpodghmfjcaaGreatDoor
open Go
theorem depotCounts_card : Rows.DepotCountsCardSaid :=
  Claim7.holds_tied_plain_at .later [] [.handle] true (true, "e989c35bec9240c4640b13e1f520e0142668909c735ec49f8c9233dbaac48665") true
    depotCounts_holds (fun _ h => by cases h) (by kernel_rfl) (fun _ h => by cases h) depotCounts_row_tie rfl ⟨rfl, rfl⟩ (by kernel_rfl) rfl
    (fun f fn hf hfn => by
      obtain rfl : f = 9 := Option.some.inj ((show Tryz.prog.funcNamed "bulkhead/bulkheadlaw07.DepotCounts" = some 9 by kernel_rfl).symm.trans hf) |>.symm
      obtain rfl : fn = Tryz.f9 := (Option.some.inj (Tryz.func9.symm.trans hfn)).symm
      exact ⟨by kernel_rfl, fun j t ht => by
        rw [Tryz.params9] at ht
        have hm : t ∈ [59] := by simpa using Array.mem_of_getElem? ht
        have hall : ([59].all fun u => !Tryz.prog.wantsStandIn u) = true := by kernel_rfl
        exact (show Tryz.prog.wantsStandIn t = false by simpa using List.all_eq_true.1 hall t hm)⟩)
    (by kernel_rfl)
end Go.Proofs.YtjikpodghmfjcaaGreatDoor
