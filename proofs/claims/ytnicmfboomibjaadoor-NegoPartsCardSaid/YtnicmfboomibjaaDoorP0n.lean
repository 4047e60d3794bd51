/- What the rows of the login's laws say of the world: the table of the powers of ten too. -/
import Derived.Test.YtnicmfboomibjaaDoorP0b
import Derived.Test.YtnicmfboomibjaaDoorN3
namespace Go.Proofs.YtnicmfboomibjaaDoor
set_option linter.unusedSimpArgs false
set_option linter.unusedVariables false
open Go.ChangeShapes Go.WideShapes Go.ChangeAt Go.RowKit Go.Lib
theorem envN_of_laid {W : World} (hL : laidMet Tryd.prog laid7 W) (hS : W.ShapedOpen Tryd.prog) : EnvN W := by
  obtain ⟨h1, _⟩ := env_of_laid hL hS
  have hL2 := hL.tail.tail
  have e : (Rows.laid_internal_strconv_uint64pow10 : DataW Unit) = tabData .u64 pow10Tab := by kernel_rfl
  rw [e] at hL2
  have ht : TabIs Tryd.prog W "internal/strconv.uint64pow10" .u64 pow10Tab := tabIs_of_head (g := 5) (by kernel_rfl) (t := 124) (by kernel_rfl) (e := 62) (n := 20) (by kernel_rfl) (by kernel_rfl) (by kernel_rfl) (by kernel_rfl) hL2
  exact ⟨h1, ht, World.block_lt_of_cell? W _ (ht.cell (g := 5) (by kernel_rfl) 0 (by decide))⟩
theorem rqs_len {rs : List Rq} {W : List Nat} (h : rs ≠ [] → ∃ n ∈ W, rs.length ≤ n) (hw : ∀ n ∈ W, n ≤ 140737488355328) : rs.length ≤ 140737488355328 := by
  cases rs with
  | nil => simp
  | cons r l =>
    obtain ⟨n, hn, hl⟩ := h (by simp)
    exact Nat.le_trans hl (hw n hn)
end Go.Proofs.YtnicmfboomibjaaDoor
