/- Prints: the first place that is wanted, from a home around. Printed by mkE3.py. -/
import Derived.Test.YtjikpodghmfjcaaGreatDoorE2
set_option linter.unusedSimpArgs false
set_option linter.unusedVariables false
set_option linter.unnecessarySimpa false
namespace Go.Proofs.YtjikpodghmfjcaaGreatDoor
set_option linter.unusedSimpArgs false
set_option linter.unusedVariables false
open Go.RowKit Go.Maps
def seekO (h n : Nat) (Q : Nat → Bool) : Option Nat := ((List.range n).map fun k => (h + k) % n).find? Q
theorem seekO_found {h n k : Nat} {Q : Nat → Bool} (hk : k < n) (hno : ∀ j, j < k → Q ((h + j) % n) = false) (hy : Q ((h + k) % n) = true) : seekO h n Q = some ((h + k) % n) := by
  unfold seekO
  have e : List.range n = List.range k ++ (List.range (n - k)).map (k + ·) := by
    rw [← List.range_add, show k + (n - k) = n by omega]
  rw [e, List.map_append, List.find?_append]
  have h1 : ((List.range k).map fun k => (h + k) % n).find? Q = none := by
    rw [List.find?_eq_none]
    intro x hx
    obtain ⟨j, hj, rfl⟩ := List.mem_map.1 hx
    rw [hno j (List.mem_range.1 hj)]; simp
  rw [h1]
  obtain ⟨m, hm⟩ : ∃ m, n - k = m + 1 := ⟨n - k - 1, by omega⟩
  rw [hm, List.range_succ_eq_map]
  simp [hy]
theorem seekO_none {h n : Nat} {Q : Nat → Bool} (hno : ∀ j, j < n → Q ((h + j) % n) = false) : seekO h n Q = none := by
  unfold seekO
  rw [List.find?_eq_none]
  intro x hx
  obtain ⟨j, hj, rfl⟩ := List.mem_map.1 hx
  rw [hno j (List.mem_range.1 hj)]; simp
theorem seekO_spec {h n i : Nat} {Q : Nat → Bool} (hs : seekO h n Q = some i) : i < n ∧ Q i = true := by
  unfold seekO at hs
  have h1 := List.mem_of_find?_eq_some hs
  have h2 := List.find?_some hs
  obtain ⟨j, hj, rfl⟩ := List.mem_map.1 h1
  have := List.mem_range.1 hj
  exact ⟨Nat.mod_lt _ (by omega), h2⟩
theorem seekO_no {h n : Nat} {Q : Nat → Bool} (hs : seekO h n Q = none) (i : Nat) (hi : i < n) : Q i = false := by
  unfold seekO at hs
  rw [List.find?_eq_none] at hs
  have hn : 0 < n := by omega
  have hm : i ∈ (List.range n).map fun k => (h + k) % n := by
    refine List.mem_map.2 ⟨(i + n - h % n) % n, List.mem_range.2 (Nat.mod_lt _ hn), ?_⟩
    have h1 := Nat.mod_lt h hn
    show (h + (i + n - h % n) % n) % n = i
    rw [Nat.add_mod, Nat.mod_mod, ← Nat.add_mod]
    have e : h + (i + n - h % n) = i + n + n * (h / n) := by
      have := Nat.div_add_mod h n
      omega
    rw [e, Nat.add_mul_mod_self_left, Nat.add_mod_right, Nat.mod_eq_of_lt hi]
  have := hs i hm
  simpa using this
def SkX (w : World) (box : Nat) (d : List Int) (wx : World) : Prop := wx.heap[box]? = some (.cells (v8a d) 133) ∧ Below w.heap.size w wx
theorem SkX.below {w wx wy : World} {box : Nat} {d : List Int} (h : SkX w box d wx) (hb : Below wx.heap.size wx wy) : SkX w box d wy := ⟨(hb.block _ (lt_of_blk h.1)).trans h.1, h.2.trans (hb.mono h.2.size)⟩
theorem look_len {B : BookS} (h : B.ok) {i : Nat} (hi : i < B.n) (hl : isEnt (B.view i) = true) : lookC (B.view i) = entC (pDg (B.view i)) (pSlot (B.view i)) (pRefs (B.view i)) ∧ (pDg (B.view i)).length = 32 := by
  refine ⟨by unfold lookC; rw [hl]; rfl, pDg_length (BookS.view_ok h i hi).1⟩
end Go.Proofs.YtjikpodghmfjcaaGreatDoor
