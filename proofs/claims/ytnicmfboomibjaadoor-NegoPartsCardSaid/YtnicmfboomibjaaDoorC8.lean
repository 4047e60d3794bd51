/- The tied card: pairs that come in one request, or one by one, come to the same deal. -/
import Derived.Test.YtnicmfboomibjaaDoorP8
import Derived.Test.YtnicmfboomibjaaDoorTie
import Derived.Test.YtnicmfboomibjaaDoorCards
import Derived.SevenTiedAt
namespace Go.Proofs.YtnicmfboomibjaaDoor
set_option linter.unusedSimpArgs false
set_option linter.unusedVariables false
open Go
theorem negoParts_card : Rows.NegoPartsCardSaid :=
  Claim7.holds_tied_plain_at .later [] [.data, .data, .data, .data, .sentinel, .sentinel, .pinned] true (true, "9c217f7217985c3ebe9017a47c453b0cb6ec36f460b2902a5708fe32822ab517") true
    negoParts_holds (fun _ h => by cases h) (by kernel_rfl) (fun _ h => by cases h) negoParts_row_tie rfl ⟨rfl, rfl⟩ (by kernel_rfl) rfl
    (fun f fn hf hfn => by
      obtain rfl : f = 10 := Option.some.inj ((show Tryd.prog.funcNamed "bulkhead/bulkheadlaw16.NegoParts" = some 10 by kernel_rfl).symm.trans hf) |>.symm
      obtain rfl : fn = Tryd.f10 := (Option.some.inj (Tryd.func10.symm.trans hfn)).symm
      exact ⟨by kernel_rfl, fun j t ht => by
        rw [Tryd.params10] at ht
        have hm : t ∈ [24] := by simpa using Array.mem_of_getElem? ht
        have hall : ([24].all fun u => !Tryd.prog.wantsStandIn u) = true := by kernel_rfl
        exact (show Tryd.prog.wantsStandIn t = false by simpa using List.all_eq_true.1 hall t hm)⟩)
    (by kernel_rfl)
end Go.Proofs.YtnicmfboomibjaaDoor
