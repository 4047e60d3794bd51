/- An argument that is a list of bytes, opened. No condition. -/
import Derived.Test.YtopakonpfbbldaaP0
import Derived.Test.YtopakonpfbbldaaG3
import Derived.ChangeSlices
namespace Go.Proofs.Ytopakonpfbbldaa
set_option linter.unusedSimpArgs false
set_option linter.unusedVariables false
open Go.ChangeShapes Go.WideShapes Go.ChangeAt Go.RowKit Go.Deep
theorem wf_u8 {n : Int} (h : (Lit.int .u8 n).wf = true) : 0 ≤ n ∧ n < 256 := by
  simp [Lit.wf, IntKind.min, IntKind.max, IntKind.signed, IntKind.bits] at h; omega
theorem wf_u32 {n : Int} (h : (Lit.int .u32 n).wf = true) : 0 ≤ n ∧ n < 4294967296 := by
  simp [Lit.wf, IntKind.min, IntKind.max, IntKind.signed, IntKind.bits] at h; omega
theorem wf_u64 {n : Int} (h : (Lit.int .u64 n).wf = true) : 0 ≤ n ∧ n < 18446744073709551616 := by
  simp [Lit.wf, IntKind.min, IntKind.max, IntKind.signed, IntKind.bits] at h; omega
section
variable {H : Type} {enc : TypeId × Value → H} {W : World} {base : Nat} {spare : Nat → Bool} {held : Bool}
theorem open_bytes {fuel : Nat} {v : Value} {x : DataW H × List MemPlace} (h : DataW.trod enc Try.prog W base spare held fuel 51 [v] = some x) :
    ∃ a bs cap, v = .slice a bs.length cap ∧ BytesIn W a bs ∧ Bytes bs := by
  rcases open_ints Try.underlying51 Try.underlying5 (by kernel_rfl) h with ⟨hcs, rfl⟩ | ⟨a, len, cap, zs, hcs, hb, hl, hm, hz, rfl, hc, hw⟩
  · simp only [List.cons.injEq, and_true] at hcs
    subst hcs
    exact ⟨none, [], 0, rfl, fun i h => by simp at h, fun x h => by simp at h⟩
  · simp only [List.cons.injEq, and_true] at hcs
    subst hcs
    have hlz : len ≤ zs.length := by rw [hz]; split <;> omega
    refine ⟨some a, zs.take len, cap, by rw [List.length_take, Nat.min_eq_left hlz], ?_, fun n hn => wf_u8 (hw n (List.mem_of_mem_take hn))⟩
    intro i hi
    rw [List.length_take] at hi
    have c0 := hc i (by omega)
    have hs : a.spot = none := by
      have z0 := hc 0 (by omega)
      simpa [Addr.add] using World.cell?_spot z0
    obtain ⟨b, o, sp⟩ := a
    simp only at hs
    subst hs
    rw [addr_add] at c0
    refine ⟨b, o, rfl, World.block_lt_of_cell? W _ c0, ?_⟩
    rw [c0, List.getElem_take, show zs.getD i 0 = zs[i]'(by omega) by simp [show i < zs.length by omega]]
end
end Go.Proofs.Ytopakonpfbbldaa
