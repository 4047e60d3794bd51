/- What a call leaves as it was: the blocks of a set. No condition; no program is named. -/
import Derived.Test.YtajmcplanlibnaaGreatDoorGen
import Derived.Test.YtajmcplanlibnaaGreatDoorMapV
namespace Go.Proofs.YtajmcplanlibnaaGreatDoor
set_option linter.unusedSimpArgs false
set_option linter.unusedVariables false
open Go.RowKit Go.ChangeMaps Go.MapKept Go.Maps
/-- The blocks in N are as they were. -/
structure Keeps (N : Nat → Prop) (w w' : World) : Prop where
  os : w'.os = w.os
  tape : w'.tape = w.tape
  output : w'.output = w.output
  size : w.heap.size ≤ w'.heap.size
  block : ∀ k, k < w.heap.size → N k → w'.heap[k]? = w.heap[k]?
theorem Keeps.refl (N : Nat → Prop) (w : World) : Keeps N w w := ⟨rfl, rfl, rfl, Nat.le_refl _, fun _ _ _ => rfl⟩
theorem Keeps.trans {N : Nat → Prop} {a b c : World} (h : Keeps N a b) (k : Keeps N b c) : Keeps N a c :=
  ⟨k.os.trans h.os, k.tape.trans h.tape, k.output.trans h.output, Nat.le_trans h.size k.size, fun i hi hn => (k.block i (Nat.lt_of_lt_of_le hi h.size) hn).trans (h.block i hi hn)⟩
theorem Keeps.mono {N N' : Nat → Prop} {a b : World} (h : Keeps N a b) (hn : ∀ k, k < a.heap.size → N' k → N k) : Keeps N' a b := ⟨h.os, h.tape, h.output, h.size, fun i hi hk => h.block i hi (hn i hi hk)⟩
theorem Keeps.of_below {N : Nat → Prop} {a b : World} (h : Below a.heap.size a b) : Keeps N a b := ⟨h.os, h.tape, h.output, h.size, fun i hi _ => h.block i hi⟩
theorem Keeps.of_grown {N : Nat → Prop} {a b : World} {row : Option Nat} (h : a.grownBy b row) (hr : ∀ k, row = some k → ¬ N k) : Keeps N a b :=
  ⟨h.os, h.tape, h.output, h.size, fun i hi hn => h.block i hi (fun e => hr i e.symm hn)⟩
theorem Keeps.of_turned {N : Nat → Prop} {a b : World} {m : Nat} (h : a.mapTurned b m) (hm : ¬ N m) : Keeps N a b :=
  by
  obtain ⟨es, cl, es', cl', hb, rfl⟩ := h
  exact ⟨rfl, rfl, rfl, by simp [setBlock], fun i _ hi => heap_setBlock_other hb _ (fun e => hm (by rw [← e]; exact hi))⟩
theorem Keeps.below {N : Nat → Prop} {a b : World} {B : Nat} (h : Keeps N a b) (hB : B ≤ a.heap.size) (hn : ∀ i, i < B → N i) : Below B a b :=
  ⟨h.os, h.tape, h.output, h.size, fun i hi => h.block i (Nat.lt_of_lt_of_le hi hB) (hn i hi)⟩
theorem Keeps.set {N : Nat → Prop} (w : World) (b i : Nat) (v : Value) (hb : ¬ N b) : Keeps N w (w.setCell ⟨b, i, none⟩ v) := Keeps.of_grown (grown_set w b i v) (fun k hk => by cases hk; exact hb)
theorem Keeps.alloc (N : Nat → Prop) (w : World) (o : Obj) : Keeps N w (w.alloc o) := Keeps.of_below ((Below.refl _ _).alloc (Nat.le_refl _) _)
theorem Keeps.drew (N : Nat → Prop) (w : World) : Keeps N w w.drew := Keeps.of_below (Below.refl _ _).drew
theorem Keeps.blk {N : Nat → Prop} {a b : World} (h : Keeps N a b) {i : Nat} (hn : N i) {o : Obj} (hi : a.heap[i]? = some o) : b.heap[i]? = some o := (h.block i (lt_of_blk hi) hn).trans hi
theorem Keeps.map {N : Nat → Prop} {a b : World} (h : Keeps N a b) {P : Program} {k m c : Nat} {f : Lit → Option Value} (hn : N m) (hm : MapIs P k a m c f) : MapIs P k b m c f := hm.of_block (h.block m hm.lt hn)
/-- A row of one's own stays, where its block does. -/
theorem own_same {w w' : World} {base e s n : Nat} {v : Value} {xs : List Value} (h : w.ownsRow base e s v n xs) (hb : ∀ k, v.ownBlock = some k → w'.heap[k]? = w.heap[k]?) : w'.ownsRow base e s v n xs := by
  refine ⟨h.1, ?_⟩
  rcases h.2 with h1 | ⟨g, c, cur, hv, h1, hg, h2⟩
  · exact .inl h1
  · exact .inr ⟨g, c, cur, hv, h1, (hb g (by rw [hv]; rfl)).trans hg, h2⟩
theorem Keeps.own {N : Nat → Prop} {a b : World} (h : Keeps N a b) {base e s n : Nat} {v : Value} {xs : List Value} (ho : a.ownsRow base e s v n xs) (hn : ∀ k, v.ownBlock = some k → N k) : b.ownsRow base e s v n xs :=
  own_same ho (fun k hk => h.block k (ho.lt k hk).2 (hn k hk))
/-- Rows of cells of unlike types are unlike blocks. -/
theorem blk_ne {w : World} {i j T U : Nat} {cs ds : Array Value} (hi : w.heap[i]? = some (.cells cs T)) (hj : w.heap[j]? = some (.cells ds U)) (h : T ≠ U) : i ≠ j := fun e => by
  subst e; rw [hi] at hj; simp only [Option.some.injEq, Obj.cells.injEq] at hj; exact h hj.2.1
theorem blk_own_ne {w : World} {i T e s n base k : Nat} {cs : Array Value} {v : Value} {xs : List Value} (hi : w.heap[i]? = some (.cells cs T)) (ho : w.ownsRow base e s v n xs) (h : T ≠ e) (hk : v.ownBlock = some k) : k ≠ i := fun e' => by
  subst e'
  rcases own_ne ho hi h with h1 | h1
  · rw [h1] at hk; cases hk
  · exact h1 hk
theorem blk_map_ne {P : Program} {w : World} {i T k m c : Nat} {cs : Array Value} {f : Lit → Option Value} (hi : w.heap[i]? = some (.cells cs T)) (hm : MapIs P k w m c f) : m ≠ i := fun e => by
  subst e
  obtain ⟨D, ⟨es, cl, hb, _⟩, _⟩ := hm
  rw [hb] at hi; cases hi
theorem heap3 (w : World) (a b c : Obj) :
    (((w.alloc a).alloc b).alloc c).heap[w.heap.size]? = some a ∧ (((w.alloc a).alloc b).alloc c).heap[w.heap.size + 1]? = some b ∧ (((w.alloc a).alloc b).alloc c).heap[w.heap.size + 1 + 1]? = some c := by
  have h0 := heap_alloc_new w a
  have h1 := heap_alloc_new (w.alloc a) b
  have h2 := heap_alloc_new ((w.alloc a).alloc b) c
  simp only [World.size_alloc] at h1 h2
  refine ⟨?_, ?_, h2⟩
  · rw [heap_alloc_old _ _ (by first | (simp; done) | (simp; omega)), heap_alloc_old _ _ (by simp), h0]
  · rw [heap_alloc_old _ _ (by simp), h1]
theorem heap4 (w : World) (a b c d : Obj) :
    ((((w.alloc a).alloc b).alloc c).alloc d).heap[w.heap.size]? = some a ∧ ((((w.alloc a).alloc b).alloc c).alloc d).heap[w.heap.size + 1]? = some b ∧
    ((((w.alloc a).alloc b).alloc c).alloc d).heap[w.heap.size + 1 + 1]? = some c ∧ ((((w.alloc a).alloc b).alloc c).alloc d).heap[w.heap.size + 1 + 1 + 1]? = some d := by
  have h0 := heap_alloc_new w a
  have h1 := heap_alloc_new (w.alloc a) b
  have h2 := heap_alloc_new ((w.alloc a).alloc b) c
  have h3 := heap_alloc_new (((w.alloc a).alloc b).alloc c) d
  simp only [World.size_alloc] at h1 h2 h3
  refine ⟨?_, ?_, ?_, h3⟩
  · rw [heap_alloc_old _ _ (by first | (simp; done) | (simp; omega)), heap_alloc_old _ _ (by first | (simp; done) | (simp; omega)), heap_alloc_old _ _ (by simp), h0]
  · rw [heap_alloc_old _ _ (by first | (simp; done) | (simp; omega)), heap_alloc_old _ _ (by simp), h1]
  · rw [heap_alloc_old _ _ (by simp), h2]
end Go.Proofs.YtajmcplanlibnaaGreatDoor
