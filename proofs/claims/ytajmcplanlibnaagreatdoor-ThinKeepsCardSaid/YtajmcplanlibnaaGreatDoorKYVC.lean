/- However many transactions are made, each page has what was committed last; mounted again, too, and again. -/
import Derived.Test.YtajmcplanlibnaaGreatDoorKYV9
import Derived.ChangeKeysEq
set_option linter.unusedSimpArgs false
set_option linter.unusedVariables false
set_option linter.unnecessarySimpa false
namespace Go.Proofs.YtajmcplanlibnaaGreatDoor
open Go.RowKit Go.Maps
theorem BookI.less {w : World} {bb : Nat} {N N' : Nat → Prop} {B : BookS} (h : BookI w bb N B) (hn : ∀ k, N' k → N k) : BookI w bb N' B := by
  obtain ⟨db, rb, nb, ov, hX⟩ := h
  exact ⟨db, rb, nb, ov, hX.drop hn⟩
theorem opn_f {B : BookS} (h : B.opn = none) (i : Nat) : B.f i = none := by
  unfold BookS.f
  rw [h]; rfl
end Go.Proofs.YtajmcplanlibnaaGreatDoor
