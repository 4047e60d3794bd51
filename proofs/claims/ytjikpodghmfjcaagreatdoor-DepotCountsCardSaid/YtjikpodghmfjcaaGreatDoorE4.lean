/- Prints: New, Find, Slot, Free, Get. -/
import Derived.Test.YtjikpodghmfjcaaGreatDoorE3
set_option linter.unusedSimpArgs false
set_option linter.unusedVariables false
set_option linter.unnecessarySimpa false
namespace Go.Proofs.YtjikpodghmfjcaaGreatDoor
set_option linter.unusedSimpArgs false
set_option linter.unusedVariables false
open Go.RowKit Go.Maps
def findQ (B : BookS) (first : Nat) (d : List Int) (i : Nat) : Bool := isEnt (B.view (first + i)) && (decide (pDg (B.view (first + i)) = d) && decide (pRefs (B.view (first + i)) < 15))
def slotQ (B : BookS) (first : Nat) (s : Int) (i : Nat) : Bool := isEnt (B.view (first + i)) && decide (pSlot (B.view (first + i)) = s)
def freeQ (B : BookS) (first : Nat) (i : Nat) : Bool := !isEnt (B.view (first + i))
theorem built_h32 : Tryz.prog.built 133 [] = some (v8a (zer 32)) := by kernel_rfl
def ErrV (w : World) (v : Value) (n : Int) : Prop := ∃ k, ErrAt w k v n
theorem ErrV.below {w w' : World} {v : Value} {n : Int} (h : ErrV w v n) (hb : Below w.heap.size w w') : ErrV w' v n := by obtain ⟨k, h⟩ := h; exact ⟨k, h.below hb⟩
theorem ErrAt.setRow {w : World} {g T : Nat} {cs0 : Array Value} (hg : w.heap[g]? = some (.cells cs0 T)) (hT : T ≠ 156) (cs : Array Value) : ∀ {k : Nat} {v : Value} {n : Int}, ErrAt w k v n → ErrAt (w.setRow g cs) k v n
  | 0, _, _, h => h
  | k + 1, _, _, ⟨b, s, e, h1, h2, h3⟩ => ⟨b, s, e, h1, by rw [setRow_other _ _ _ _ (fun e' => by subst e'; rw [hg] at h2; simp only [Option.some.injEq, Obj.cells.injEq] at h2; exact hT h2.2.1)]; exact h2, ErrAt.setRow hg hT cs h3⟩
theorem ErrV.setRow {w : World} {g T : Nat} {cs0 : Array Value} (hg : w.heap[g]? = some (.cells cs0 T)) (hT : T ≠ 156) (cs : Array Value) {v : Value} {n : Int} (h : ErrV w v n) : ErrV (w.setRow g cs) v n := by obtain ⟨k, h⟩ := h; exact ⟨k, h.setRow hg hT cs⟩
theorem ErrV.iface {w : World} {v : Value} {n : Int} (h : ErrV w v n) : ∃ t x, v = .iface t x := by
  obtain ⟨k, h⟩ := h
  cases k with
  | zero => exact ⟨_, _, h⟩
  | succ k => obtain ⟨b, s, e, h1, _⟩ := h; exact ⟨_, _, h1⟩
/-- woe.In of a number. -/
theorem woe_num (s : ByteArray) (n : Int) (w : World) : Calls Tryz.prog 40 #[.string s, .iface 85 (.int .i64 n)] w fun e w' => (∃ t x, e = .returned (.iface t x) ∧ ErrV w' (.iface t x) n) ∧ Below w.heap.size w w' :=
  (woe_err s 0 _ n w rfl).mono fun e w' ⟨⟨v', h1, h2⟩, h3⟩ => by
    obtain ⟨t, x, rfl⟩ := ErrV.iface ⟨_, h2⟩
    exact ⟨⟨t, x, h1, ⟨_, h2⟩⟩, h3⟩
def FreeP (o : Option Nat) (e : Ending) (w' : World) : Prop := match o with
  | some i => e = .returned (.tuple #[.int .i64 (i : Int), .nilIface])
  | none => ∃ t x, e = .returned (.tuple #[.int .i64 0, .iface t x]) ∧ ErrV w' (.iface t x) 21
def GetP (p : List Int) (e : Ending) (w' : World) : Prop := match isEnt p with
  | true => e = .returned (.tuple #[.agg (entC (pDg p) (pSlot p) (pRefs p)), .nilIface])
  | false => ∃ t x, e = .returned (.tuple #[.agg (entC (zer 32) 0 0), .iface t x]) ∧ ErrV w' (.iface t x) 23
end Go.Proofs.YtjikpodghmfjcaaGreatDoor
