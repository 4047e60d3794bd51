/- A table that is none: each method answers that its argument is bad. Numbers of errors. prints.New of places that are none. -/
import Derived.Test.YtjikpodghmfjcaaGreatDoorKA0
import Derived.Test.YtjikpodghmfjcaaGreatDoorE6
set_option linter.unusedSimpArgs false
set_option linter.unusedVariables false
set_option linter.unnecessarySimpa false
namespace Go.Proofs.YtjikpodghmfjcaaGreatDoor
open Go.RowKit Go.Maps
/-- The laid variable of errors. -/
def EtAt (w : World) : Prop := w.cell? ⟨0, 0, none⟩ = some (.iface 183 (.agg #[.pointer (some ⟨1, 29, none⟩)]))
theorem EtAt.pos {w : World} (h : EtAt w) : 0 < w.heap.size := by
  rcases Nat.eq_zero_or_pos w.heap.size with h0 | h1
  · simp [EtAt, World.cell?, h0] at h
  · exact h1
theorem EtAt.below {w w' : World} {B : Nat} (h : EtAt w) (hb : Below B w w') (hB : 0 < B) : EtAt w' := by
  unfold EtAt at *
  rw [hb.cell (p := ⟨0, 0, none⟩) hB]; exact h
theorem EtAt.keeps {w w' : World} {N : Nat → Prop} (h : EtAt w) (hk : Keeps N w w') (h0 : N 0) : EtAt w' := by
  have hp := h.pos
  unfold EtAt at *
  rw [World.cell?_of_block (w := w) (hk.block 0 hp h0)]; exact h
/-- The laid variable stands, what was there is there, and these are errors of number 1. -/
def NW (w0 : World) (l : List Value) (wx : World) : Prop := EtAt wx ∧ Below w0.heap.size w0 wx ∧ ∀ v ∈ l, ErrV wx v 1
theorem NW.below {w0 wx wy : World} {l : List Value} (h : NW w0 l wx) (hb : Below wx.heap.size wx wy) : NW w0 l wy :=
  ⟨h.1.below hb h.1.pos, h.2.1.trans (hb.mono h.2.1.size), fun v hv => (h.2.2 v hv).below hb⟩
theorem NW.add {w0 wx : World} {l : List Value} {v : Value} (h : NW w0 l wx) (hv : ErrV wx v 1) : NW w0 (v :: l) wx :=
  ⟨h.1, h.2.1, fun x hx => by rcases List.mem_cons.1 hx with rfl | hx; exact hv; exact h.2.2 x hx⟩
def B140 : BookS := (newB 100 38 ⟨List.replicate 140 (zer 64), []⟩).homed
theorem B140_n : B140.n = 38 := rfl
end Go.Proofs.YtjikpodghmfjcaaGreatDoor
