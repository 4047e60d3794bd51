/- The tied card: a login that comes to its end has an initiator, and a deal within all limits, that nothing changes any more. -/
import Derived.Test.YtnicmfboomibjaaDoorP6
import Derived.Test.YtnicmfboomibjaaDoorTie
import Derived.Test.YtnicmfboomibjaaDoorCards
import Derived.SevenTiedAt
namespace Go.Proofs.YtnicmfboomibjaaDoor
set_option linter.unusedSimpArgs false
set_option linter.unusedVariables false
open Go
theorem negoDeals_card : Rows.NegoDealsCardSaid :=
  Claim7.holds_tied_plain_at .later [] [.data, .data, .data, .data, .sentinel, .sentinel, .pinned] true (true, "9c217f7217985c3ebe9017a47c453b0cb6ec36f460b2902a5708fe32822ab517") true
    negoDeals_holds (fun _ h => by cases h) (by kernel_rfl) (fun _ h => by cases h) negoDeals_row_tie rfl ⟨rfl, rfl⟩ (by kernel_rfl) rfl
    (fun f fn hf hfn => by
      obtain rfl : f = 8 := Option.some.inj ((show Tryd.prog.funcNamed "bulkhead/bulkheadlaw16.NegoDeals" = some 8 by kernel_rfl).symm.trans hf) |>.symm
      obtain rfl : fn = Tryd.f8 := (Option.some.inj (Tryd.func8.symm.trans hfn)).symm
      exact ⟨by kernel_rfl, fun j t ht => by
        rw [Tryd.params8] at ht
        have hm : t ∈ [44] := by simpa using Array.mem_of_getElem? ht
        have hall : ([44].all fun u => !Tryd.prog.wantsStandIn u) = true := by kernel_rfl
        exact (show Tryd.prog.wantsStandIn t = false by simpa using List.all_eq_true.1 hall t hm)⟩)
    (by kernel_rfl)
end Go.Proofs.YtnicmfboomibjaaDoor
