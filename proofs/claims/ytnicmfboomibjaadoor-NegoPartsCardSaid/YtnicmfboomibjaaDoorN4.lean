/- What operational makes of a pair: the answer; the deal, in the login's own block. -/
import Derived.Test.YtnicmfboomibjaaDoorN3
import Derived.Lib.AppendIntMem
namespace Go.Proofs.YtnicmfboomibjaaDoor
set_option linter.unusedSimpArgs false
set_option linter.unusedVariables false
open Go.RowKit
theorem blk11 {w : World} {B : Nat} {c0 c1 c2 c3 c4 c5 c6 c7 c8 c9 c10 : Value} {T : Nat} (h : w.heap[B]? = some (.cells #[c0, c1, c2, c3, c4, c5, c6, c7, c8, c9, c10] T)) :
    (w.cell? ⟨B, 0, none⟩ = some c0 ∧ w.cell? ⟨B, 1, none⟩ = some c1 ∧ w.cell? ⟨B, 2, none⟩ = some c2 ∧ w.cell? ⟨B, 3, none⟩ = some c3 ∧ w.cell? ⟨B, 4, none⟩ = some c4 ∧ w.cell? ⟨B, 5, none⟩ = some c5 ∧
      w.cell? ⟨B, 6, none⟩ = some c6 ∧ w.cell? ⟨B, 7, none⟩ = some c7 ∧ w.cell? ⟨B, 8, none⟩ = some c8 ∧ w.cell? ⟨B, 9, none⟩ = some c9 ∧ w.cell? ⟨B, 10, none⟩ = some c10) ∧
    (w.frozen? ⟨B, 0, none⟩ = false ∧ w.frozen? ⟨B, 1, none⟩ = false ∧ w.frozen? ⟨B, 2, none⟩ = false ∧ w.frozen? ⟨B, 3, none⟩ = false ∧ w.frozen? ⟨B, 4, none⟩ = false ∧ w.frozen? ⟨B, 5, none⟩ = false ∧
      w.frozen? ⟨B, 6, none⟩ = false ∧ w.frozen? ⟨B, 7, none⟩ = false ∧ w.frozen? ⟨B, 8, none⟩ = false ∧ w.frozen? ⟨B, 9, none⟩ = false ∧ w.frozen? ⟨B, 10, none⟩ = false) := by simp [World.cell?, World.frozen?, h]
/-- What a method of a login leaves behind: an answer, and the login turned. -/
def LogPost (lb : Nat) (s : LogS) (w w' : World) : Prop := w'.heap[lb]? = some (.cells (logCells s) 55) ∧ w.grownBy w' (some lb)
theorem LogPost.keep {lb : Nat} {s : LogS} {w w' : World} (hl : w.heap[lb]? = some (.cells (logCells s) 55)) (hb : Below w.heap.size w w') : LogPost lb s w w' :=
  ⟨(hb.block lb (lt_of_blk hl)).trans hl, grown_be hb _⟩
theorem grown_setCell (w : World) (p : Addr) (u : Value) : w.grownBy (w.setCell p u) (some p.block) :=
  ⟨rfl, rfl, rfl, by simp [World.setCell], fun k _ hne => Below.heap_setCell _ _ _ _ (fun e => hne (by rw [e]))⟩
theorem LogPost.set {lb : Nat} {s s' : LogS} {w w' : World} (hl : w.heap[lb]? = some (.cells (logCells s) 55)) (hb : Below w.heap.size w w') (i : Nat) (u : Value) (h : (logCells s).setIfInBounds i u = logCells s') : LogPost lb s' w (w'.setCell ⟨lb, i, none⟩ u) :=
  ⟨by rw [set_blk ((hb.block lb (lt_of_blk hl)).trans hl) u, h], grown_tr (grown_be hb _) (grown_setCell w' ⟨lb, i, none⟩ u)⟩
theorem LogPost.more {lb : Nat} {s : LogS} {w w' w'' : World} (h : LogPost lb s w w') (hb : Below w'.heap.size w' w'') : LogPost lb s w w'' :=
  ⟨(hb.block lb (lt_of_blk h.1)).trans h.1, grown_tr h.2 (grown_be hb _)⟩
theorem strs_two (w : World) (a b : ByteArray) : StrsIn (w.alloc (.cells #[.string a, .string b] 9)) (some ⟨w.heap.size, 0, none⟩) [a, b] := fun i hi => by
  refine ⟨w.heap.size, 0, rfl, by simp, ?_⟩
  match i, hi with
  | 0, _ => simp only [World.cell?, heap_alloc_new]; rfl
  | 1, _ => simp only [World.cell?, heap_alloc_new]; rfl
theorem strs_one (w : World) (a : ByteArray) : StrsIn (w.alloc (.cells #[.string a] 9)) (some ⟨w.heap.size, 0, none⟩) [a] := fun i hi => by
  refine ⟨w.heap.size, 0, rfl, by simp, ?_⟩
  match i, hi with
  | 0, _ => simp only [World.cell?, heap_alloc_new]; rfl
theorem chosen_two (v a b : ByteArray) (w : World) (N : Nat) (hN : N = w.heap.size) (hv : v.size ≤ 100000) (hE : EnvN w) : Calls Tryd.prog 44 #[.string v, .slice (some ⟨N, 0, none⟩) 2 2] (w.alloc (.cells #[.string a, .string b] 9)) fun e w' => e = .returned (.tuple #[.string (chosenF v [a, b]), .int .i64 0]) ∧ Below w.heap.size w w' := by
  subst hN
  have hb : Below w.heap.size w (w.alloc (.cells #[.string a, .string b] 9)) := (Below.refl _ _).alloc (Nat.le_refl _) _
  exact (chosen_any v _ [a, b] 2 _ hv (by simp) (strs_two w a b) (hE.below hb (Nat.le_refl _))).mono (fun e w' ⟨h1, h2⟩ => ⟨h1, hb.trans (h2.mono hb.size)⟩)
theorem chosen_one (v a : ByteArray) (w : World) (N : Nat) (hN : N = w.heap.size) (hv : v.size ≤ 100000) (hE : EnvN w) : Calls Tryd.prog 44 #[.string v, .slice (some ⟨N, 0, none⟩) 1 1] (w.alloc (.cells #[.string a] 9)) fun e w' => e = .returned (.tuple #[.string (chosenF v [a]), .int .i64 0]) ∧ Below w.heap.size w w' := by
  subst hN
  have hb : Below w.heap.size w (w.alloc (.cells #[.string a] 9)) := (Below.refl _ _).alloc (Nat.le_refl _) _
  exact (chosen_any v _ [a] 1 _ hv (by simp) (strs_one w a) (hE.below hb (Nat.le_refl _))).mono (fun e w' ⟨h1, h2⟩ => ⟨h1, hb.trans (h2.mono hb.size)⟩)
theorem itoa_any (n : Int) (h0 : 0 ≤ n) (h1 : n ≤ 1000000) (w : World) (hE : EnvN w) : Calls Tryd.prog 62 #[.int .i64 n] w fun e w' => e = .returned (.string (itoaB n)) ∧ Below w.heap.size w w' :=
  (Tryd.strconv_Itoa n (by omega) (by omega) w hE.2.1).mono (fun e w' ⟨h1, k, os, h2⟩ => ⟨h1, by subst h2; exact Lib.below_grow _ w (Nat.le_refl _) k os⟩)
/-- The pair that a method takes lies in a block of its own. -/
theorem pairBlock (w : World) (K V : ByteArray) : Below w.heap.size w (w.alloc (.cells #[.string K, .string V] 39)) ∧ (w.alloc (.cells #[.string K, .string V] 39)).heap[w.heap.size]? = some (.cells #[.string K, .string V] 39) ∧ (w.alloc (.cells #[.string K, .string V] 39)).heap.size = w.heap.size + 1 :=
  ⟨(Below.refl _ _).alloc (Nat.le_refl _) _, heap_alloc_new w _, by simp⟩
end Go.Proofs.YtnicmfboomibjaaDoor
