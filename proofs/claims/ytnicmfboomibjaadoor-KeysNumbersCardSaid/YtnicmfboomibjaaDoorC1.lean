/- The tied card: numbers are read, or refused, as the reference does. -/
import Derived.Test.YtnicmfboomibjaaDoorP1
import Derived.Test.YtnicmfboomibjaaDoorTie
import Derived.Test.YtnicmfboomibjaaDoorCards
import Derived.SevenTiedAt
namespace Go.Proofs.YtnicmfboomibjaaDoor
set_option linter.unusedSimpArgs false
set_option linter.unusedVariables false
open Go
theorem keysNumbers_card : Rows.KeysNumbersCardSaid :=
  Claim7.holds_tied_plain_at .later [] [.data, .data, .data, .data, .sentinel, .sentinel, .pinned] true (true, "9c217f7217985c3ebe9017a47c453b0cb6ec36f460b2902a5708fe32822ab517") true
    keysNumbers_holds (fun _ h => by cases h) (by kernel_rfl) (fun _ h => by cases h) keysNumbers_row_tie rfl ⟨rfl, rfl⟩ (by kernel_rfl) rfl
    (fun f fn hf hfn => by
      obtain rfl : f = 4 := Option.some.inj ((show Tryd.prog.funcNamed "bulkhead/bulkheadlaw15.KeysNumbers" = some 4 by kernel_rfl).symm.trans hf) |>.symm
      obtain rfl : fn = Tryd.f4 := (Option.some.inj (Tryd.func4.symm.trans hfn)).symm
      exact ⟨by kernel_rfl, fun j t ht => by
        rw [Tryd.params4] at ht
        have hm : t ∈ [9, 3, 3] := by simpa using Array.mem_of_getElem? ht
        have hall : ([9, 3, 3].all fun u => !Tryd.prog.wantsStandIn u) = true := by kernel_rfl
        exact (show Tryd.prog.wantsStandIn t = false by simpa using List.all_eq_true.1 hall t hm)⟩)
    (by kernel_rfl)
end Go.Proofs.YtnicmfboomibjaaDoor
