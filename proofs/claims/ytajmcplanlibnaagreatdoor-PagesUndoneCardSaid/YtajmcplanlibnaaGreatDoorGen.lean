/- What a walk may forget of a world. A block of two cells. No condition; no program is named. -/
import Derived.Test.YtajmcplanlibnaaGreatDoorLib3
import Derived.Test.YtajmcplanlibnaaGreatDoorMix3
import Derived.Test.YtajmcplanlibnaaGreatDoorStop
import Derived.Test.YtajmcplanlibnaaGreatDoorQuiet
namespace Go.Proofs.YtajmcplanlibnaaGreatDoor
set_option linter.unusedSimpArgs false
set_option linter.unusedVariables false
open Go.RowKit
theorem gen_world {P : Program} {ops : Array Oper} {Q : Exit → Act → World → Prop} {l : List Oper} {a : Act} {w : World} (F : World → Prop) (h : F w) (k : ∀ w', F w' → wpList P ops Q l a w') : wpList P ops Q l a w := k w h
theorem gen_code {P : Program} {c : Code} {Q : Exit → Act → World → Prop} {a : Act} {w : World} (F : World → Prop) (h : F w) (k : ∀ w', F w' → Code.wp P c Q a w') : Code.wp P c Q a w := k w h
theorem heap_set_ne {w : World} {B i k : Nat} {v : Value} {o : Option Obj} (hb : B ≠ i) (h : w.heap[i]? = o) : (w.setCell ⟨B, k, none⟩ v).heap[i]? = o := by
  rw [← h]; simp [World.setCell, Array.getElem?_modify, hb]
theorem blk2 {w : World} {B : Nat} {c0 c1 : Value} {T : Nat} (h : w.heap[B]? = some (.cells #[c0, c1] T)) : w.cell? ⟨B, 0, none⟩ = some c0 ∧ w.cell? ⟨B, 1, none⟩ = some c1 ∧ w.frozen? ⟨B, 0, none⟩ = false ∧ w.frozen? ⟨B, 1, none⟩ = false := by simp [World.cell?, World.frozen?, h]
theorem lt_of_blk {w : World} {B : Nat} {o : Obj} (h : w.heap[B]? = some o) : B < w.heap.size := (Array.getElem?_eq_some_iff.1 h).1
theorem heap_set2 (w : World) (c0 c1 v0 v1 : Value) (T : Nat) : (((w.alloc (.cells #[c0, c1] T)).setCell ⟨w.heap.size, 0, none⟩ v0).setCell ⟨w.heap.size, 1, none⟩ v1).heap[w.heap.size]? = some (.cells #[v0, v1] T) := by
  rw [set_blk (set_blk (heap_alloc_new w _) v0) v1]; rfl
end Go.Proofs.YtajmcplanlibnaaGreatDoor
