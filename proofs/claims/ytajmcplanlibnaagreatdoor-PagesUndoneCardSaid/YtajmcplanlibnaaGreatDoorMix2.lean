/- The class of worlds in which all but one block is as it was: for a region that draws its order and writes to that block. No condition. -/
import Derived.Test.YtajmcplanlibnaaGreatDoorMix
namespace Go.Proofs.YtajmcplanlibnaaGreatDoor
set_option linter.unusedSimpArgs false
set_option linter.unusedVariables false
open Go.RowKit
structure RegrownB where
  d : Nat
  os : Array Obj
  o : Obj
  deriving Inhabited
def setO (w : World) (R : Nat) (o : Obj) : World := { w with heap := w.heap.setIfInBounds R o }
theorem growsB_of {W w' : World} {R : Nat} (hR : R < W.heap.size) (h : W.grownBy w' (some R)) : ∃ p : RegrownB, w' = setO (Go.Sort.grow (redrawn W p.d) p.os) R p.o := by
  have hRs : R < w'.heap.size := Nat.lt_of_lt_of_le hR h.size
  refine ⟨⟨w'.drawn, w'.heap.extract W.heap.size w'.heap.size, w'.heap[R]⟩, ?_⟩
  obtain ⟨heap', tape', drawn', os', output'⟩ := w'
  have e1 : os' = W.os := h.os
  have e2 : tape' = W.tape := h.tape
  have e3 : output' = W.output := h.output
  have hs : W.heap.size ≤ heap'.size := h.size
  have hb : ∀ k, k < W.heap.size → some k ≠ some R → heap'[k]? = W.heap[k]? := h.block
  have hR' : R < heap'.size := hRs
  subst e1 e2 e3
  simp only [setO, Go.Sort.grow, redrawn]
  congr 1
  apply Array.ext_getElem?
  intro k
  rw [Array.getElem?_setIfInBounds]
  by_cases hk : R = k
  · subst hk
    rw [if_pos rfl, if_pos (by simp; omega)]
    simp [hR']
  · rw [if_neg hk]
    by_cases hlt : k < W.heap.size
    · rw [Array.getElem?_append_left hlt]; exact hb k hlt (by simpa using fun e => hk e.symm)
    · rw [Array.getElem?_append_right (by omega), Array.getElem?_extract]
      by_cases hk2 : k < heap'.size
      · rw [if_pos (by omega)]; congr 1; omega
      · rw [if_neg (by omega), Array.getElem?_eq_none (by omega)]
theorem cellB {W : World} {a : Addr} {v : Value} {R : Nat} (h : W.cell? a = some v) (hne : a.block ≠ R) (d : Nat) (os : Array Obj) (o : Obj) : (setO (Go.Sort.grow (redrawn W d) os) R o).cell? a = some v := by
  have hlt := World.block_lt_of_cell? W _ h
  have e : (setO (Go.Sort.grow (redrawn W d) os) R o).heap[a.block]? = W.heap[a.block]? := by
    simp only [setO, Go.Sort.grow, redrawn]
    rw [Array.getElem?_setIfInBounds, if_neg (fun e => hne e.symm), Array.getElem?_append_left hlt]
  rw [World.cell?_of_block e]; exact h
theorem growsB_drew {W : World} {R : Nat} (hR : R < W.heap.size) : ∃ p : RegrownB, W.drew = setO (Go.Sort.grow (redrawn W p.d) p.os) R p.o :=
  growsB_of hR ⟨rfl, rfl, rfl, Nat.le_refl _, fun _ _ _ => rfl⟩
theorem grown_drew (W : World) (r : Option Nat) : W.grownBy W.drew r := ⟨rfl, rfl, rfl, Nat.le_refl _, fun _ _ _ => rfl⟩
end Go.Proofs.YtajmcplanlibnaaGreatDoor
