/- What letter and digit of the reference of layer 15 answer. No condition. -/
import Derived.Test.YtnicmfboomibjaaDoorProg
import Derived.WalkKit
import Derived.WalkSpells
import Derived.WalkLawsBesides
import Derived.Lib.Hide
namespace Go.Proofs.YtnicmfboomibjaaDoor
set_option linter.unusedSimpArgs false
set_option linter.unusedVariables false
open Go.RowKit
def letterF (c : Int) (first : Bool) : Bool :=
  (decide (65 ≤ c) && decide (c ≤ 90)) || (!first && ((decide (97 ≤ c) && decide (c ≤ 122)) || (decide (48 ≤ c) && decide (c ≤ 57)) || c == 46 || c == 45 || c == 43 || c == 64 || c == 95))
set_option maxRecDepth 100000 in
set_option maxHeartbeats 4000000 in
theorem letter_any (c : Int) (b : Bool) (w : World) : Calls Tryd.prog 28 #[.int .u8 c, .bool b] w fun e w' => e = .returned (.bool (letterF c b)) ∧ w' = w := by
  cases b
  all_goals
    go_enter Tryd.func28, Tryd.ntmps28
    go_wp2
    all_goals go_ret
    all_goals refine ⟨?_, rfl⟩
    all_goals first | (simp_all [letterF]; done) | (simp_all [letterF]; omega) | (refine congrArg (fun x => Ending.returned (.bool x)) ?_; simp only [letterF]; rw [Bool.eq_iff_iff]; simp; omega)
def digitF (c base : Int) : Int :=
  let d := if decide (48 ≤ c) && decide (c ≤ 57) then c - 48 else if decide (97 ≤ c) && decide (c ≤ 102) then c - 97 + 10 else if decide (65 ≤ c) && decide (c ≤ 70) then c - 65 + 10 else -1
  if base ≤ d then -1 else d
set_option maxRecDepth 100000 in
set_option maxHeartbeats 4000000 in
theorem digit_any (c base : Int) (h0 : 0 ≤ c) (h1 : c < 256) (w : World) : Calls Tryd.prog 32 #[.int .u8 c, .int .i64 base] w fun e w' => e = .returned (.int .i64 (digitF c base)) ∧ w' = w := by
  go_enter Tryd.func32, Tryd.ntmps32
  go_wp2
  all_goals go_ret
  all_goals refine ⟨?_, rfl⟩
  all_goals
    refine congrArg (fun x => Ending.returned (.int .i64 x)) ?_
    unfold digitF
    simp only [Bool.and_eq_true, decide_eq_true_eq]
    repeat' split
    all_goals omega
end Go.Proofs.YtnicmfboomibjaaDoor
