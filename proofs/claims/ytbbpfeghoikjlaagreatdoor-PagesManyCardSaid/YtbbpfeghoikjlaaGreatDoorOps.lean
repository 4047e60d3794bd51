/- An aggregate that is built, in a region in its own order. Ways that meet again. No condition; no program is named. -/
import Derived.Test.YtbbpfeghoikjlaaGreatDoorClear
import Derived.Test.YtbbpfeghoikjlaaGreatDoorApp
namespace Go.Proofs.YtbbpfeghoikjlaaGreatDoor
set_option linter.unusedSimpArgs false
set_option linter.unusedVariables false
open Go.RowKit
/-- Ways that meet again: the rest is walked once. -/
theorem tail_cut {T G : Prop} (main : T → G) (tail : T) : G := main tail
end Go.Proofs.YtbbpfeghoikjlaaGreatDoor
