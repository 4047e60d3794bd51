/- The tied card: however many transactions are made, through all that is brought home, each page has what was committed last; mounted again, too, and again. -/
import Derived.Test.YtbbpfeghoikjlaaGreatDoorKVCq
import Derived.Test.YtbbpfeghoikjlaaGreatDoorTie
import Derived.Test.YtbbpfeghoikjlaaGreatDoorCards
import Derived.SevenTiedAt
set_option linter.unusedSimpArgs false
set_option linter.unusedVariables false
set_option linter.unnecessarySimpa false
namespace Go.Proofs.YtbbpfeghoikjlaaGreatDoor
open Go
theorem pagesMany_card : Rows.PagesManyCardSaid :=
  Claim7.holds_tied_plain_at .later [] [.handle] true (true, "5c22f234bcf6e4ef8a84ab75459dd259ebdb9f3dfd5e3cc7c37a4d363620a6df") true
    pagesMany_holds (fun _ h => by cases h) (by kernel_rfl) (fun _ h => by cases h) pagesMany_row_tie rfl ⟨rfl, rfl⟩ (by kernel_rfl) rfl
    (fun f fn hf hfn => by
      obtain rfl : f = 3 := Option.some.inj ((show Tryz.prog.funcNamed "bulkhead/bulkheadlaw06.PagesMany" = some 3 by kernel_rfl).symm.trans hf) |>.symm
      obtain rfl : fn = Tryz.f3 := (Option.some.inj (Tryz.func3.symm.trans hfn)).symm
      exact ⟨by kernel_rfl, fun j t ht => by
        rw [Tryz.params3] at ht
        have hm : t ∈ [22, 3] := by simpa using Array.mem_of_getElem? ht
        have hall : ([22, 3].all fun u => !Tryz.prog.wantsStandIn u) = true := by kernel_rfl
        exact (show Tryz.prog.wantsStandIn t = false by simpa using List.all_eq_true.1 hall t hm)⟩)
    (by kernel_rfl)
end Go.Proofs.YtbbpfeghoikjlaaGreatDoor
