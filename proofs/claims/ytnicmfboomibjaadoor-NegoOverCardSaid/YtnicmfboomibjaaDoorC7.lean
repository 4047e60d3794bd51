/- The tied card: behind a step that is not fine nothing is any more. -/
import Derived.Test.YtnicmfboomibjaaDoorP7
import Derived.Test.YtnicmfboomibjaaDoorTie
import Derived.Test.YtnicmfboomibjaaDoorCards
import Derived.SevenTiedAt
namespace Go.Proofs.YtnicmfboomibjaaDoor
set_option linter.unusedSimpArgs false
set_option linter.unusedVariables false
open Go
theorem negoOver_card : Rows.NegoOverCardSaid :=
  Claim7.holds_tied_plain_at .later [] [.data, .data, .data, .data, .sentinel, .sentinel, .pinned] true (true, "9c217f7217985c3ebe9017a47c453b0cb6ec36f460b2902a5708fe32822ab517") true
    negoOver_holds (fun _ h => by cases h) (by kernel_rfl) (fun _ h => by cases h) negoOver_row_tie rfl ⟨rfl, rfl⟩ (by kernel_rfl) rfl
    (fun f fn hf hfn => by
      obtain rfl : f = 9 := Option.some.inj ((show Tryd.prog.funcNamed "bulkhead/bulkheadlaw16.NegoOver" = some 9 by kernel_rfl).symm.trans hf) |>.symm
      obtain rfl : fn = Tryd.f9 := (Option.some.inj (Tryd.func9.symm.trans hfn)).symm
      exact ⟨by kernel_rfl, fun j t ht => by
        rw [Tryd.params9] at ht
        have hm : t ∈ [44, 44] := by simpa using Array.mem_of_getElem? ht
        have hall : ([44, 44].all fun u => !Tryd.prog.wantsStandIn u) = true := by kernel_rfl
        exact (show Tryd.prog.wantsStandIn t = false by simpa using List.all_eq_true.1 hall t hm)⟩)
    (by kernel_rfl)
end Go.Proofs.YtnicmfboomibjaaDoor
