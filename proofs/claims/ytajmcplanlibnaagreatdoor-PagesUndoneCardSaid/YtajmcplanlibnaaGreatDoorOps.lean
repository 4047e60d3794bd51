/- An aggregate that is built, in a region in its own order. Ways that meet again. No condition; no program is named. -/
import Derived.Test.YtajmcplanlibnaaGreatDoorClear
import Derived.Test.YtajmcplanlibnaaGreatDoorApp
namespace Go.Proofs.YtajmcplanlibnaaGreatDoor
set_option linter.unusedSimpArgs false
set_option linter.unusedVariables false
open Go.RowKit
/-- Ways that meet again: the rest is walked once. -/
theorem tail_cut {T G : Prop} (main : T → G) (tail : T) : G := main tail
end Go.Proofs.YtajmcplanlibnaaGreatDoor
