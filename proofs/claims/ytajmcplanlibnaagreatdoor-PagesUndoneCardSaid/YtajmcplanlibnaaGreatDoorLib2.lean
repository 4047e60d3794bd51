/- More small lemmas on rows in memory. No condition. -/
import Derived.Test.YtajmcplanlibnaaGreatDoorLib
import Derived.Laws.AppendOwnNone
import Derived.Lib.QuietBelow
import Derived.BigQuiet
namespace Go.Proofs.YtajmcplanlibnaaGreatDoor
set_option linter.unusedSimpArgs false
set_option linter.unusedVariables false
open Go.RowKit

theorem KeysIn.flat {w : World} {ad : Addr} {ks : List (Int × Int)} (h : KeysIn w (some ad) ks) : ∀ (j : Nat) (u : Value), (flat ks)[j]? = some u → w.cell? (ad.add j) = some u := by
  intro j u hj
  have hlt : j < ks.length * 2 := by
    rw [← flat_length]
    by_cases h' : j < (Go.Proofs.YtajmcplanlibnaaGreatDoor.flat ks).length
    · exact h'
    · rw [List.getElem?_eq_none (by omega)] at hj; cases hj
  have hi : j / 2 < ks.length := by omega
  obtain ⟨b, off, e, hb, c1, c2⟩ := h (j / 2) hi
  obtain ⟨f1, f2⟩ := flat_get ks (j / 2) hi
  simp only [Option.some.injEq] at e
  subst e
  have had : ∀ n, (⟨b, off, none⟩ : Addr).add n = ⟨b, off + n, none⟩ := fun n => by unfold Addr.add; split <;> simp_all
  rw [had]
  rcases Nat.mod_two_eq_zero_or_one j with h0 | h1
  · have ej : j = j / 2 * 2 := by omega
    rw [ej] at hj ⊢
    rw [f1] at hj; simp only [Option.some.injEq] at hj; rw [← hj]; exact c1
  · have ej : j = j / 2 * 2 + 1 := by omega
    rw [ej] at hj ⊢
    rw [f2] at hj; simp only [Option.some.injEq] at hj; rw [← hj]; exact c2

theorem flat_one (ks : List (Int × Int)) : ∀ u ∈ flat ks, u.oneCell' = true := by
  intro u hu
  simp only [flat, List.mem_flatMap] at hu
  obtain ⟨r, _, hr⟩ := hu
  simp at hr
  rcases hr with rfl | rfl <;> rfl

/-- A block of five cells that is known whole: its cells, none frozen. -/
theorem blk5 {w : World} {B : Nat} {c0 c1 c2 c3 c4 : Value} {T : Nat} (h : w.heap[B]? = some (.cells #[c0, c1, c2, c3, c4] T)) :
    w.cell? ⟨B, 0, none⟩ = some c0 ∧ w.cell? ⟨B, 1, none⟩ = some c1 ∧ w.cell? ⟨B, 2, none⟩ = some c2 ∧ w.cell? ⟨B, 3, none⟩ = some c3 ∧ w.cell? ⟨B, 4, none⟩ = some c4 ∧
    w.frozen? ⟨B, 0, none⟩ = false ∧ w.frozen? ⟨B, 1, none⟩ = false ∧ w.frozen? ⟨B, 2, none⟩ = false ∧ w.frozen? ⟨B, 3, none⟩ = false ∧ w.frozen? ⟨B, 4, none⟩ = false := by
  simp [World.cell?, World.frozen?, h]

theorem heap_at (w : World) (o : Obj) : (w.alloc o).heap[w.heap.size]? = some o := heap_alloc_new w o
theorem heap_at1 (w : World) (o o1 : Obj) : ((w.alloc o).alloc o1).heap[w.heap.size]? = some o := by
  rw [heap_alloc_old _ _ (by simp)]; exact heap_alloc_new w o
theorem heap_at2 (w : World) (o o1 : Obj) : ((w.alloc o).alloc o1).heap[w.heap.size + 1]? = some o1 := by
  have h := heap_alloc_new (w.alloc o) o1
  simpa using h

theorem own_mono {w : World} {b b' e s n : Nat} {v : Value} {xs : List Value} (h : w.ownsRow b e s v n xs) (hb : b' ≤ b) : w.ownsRow b' e s v n xs := by
  refine ⟨h.1, ?_⟩
  rcases h.2 with hn | ⟨g, c, cur, hv, hg, r⟩
  · exact .inl hn
  · exact .inr ⟨g, c, cur, hv, Nat.le_trans hb hg, r⟩

/-- A row that is owned stays so while others grow. -/
theorem own_below {w w' : World} {b e s n : Nat} {v : Value} {xs : List Value} (h : w.ownsRow b e s v n xs) (hb : Below w.heap.size w w') : w'.ownsRow b e s v n xs :=
  h.kept (grown_of_below hb none) (by cases v.ownBlock <;> simp)

theorem filter_hit {α : Type} (l : List α) (p : α → Bool) (x : α) (q : p x = true) : (l ++ [x]).filter p = l.filter p ++ [x] := by simp [List.filter_append, q]
theorem filter_miss {α : Type} (l : List α) (p : α → Bool) (x : α) (q : p x = false) : (l ++ [x]).filter p = l.filter p := by simp [List.filter_append, q]

theorem below_of_regrown {w w' : World} (h : ∃ p : Regrown, w' = Go.Sort.grow (redrawn w p.d) p.os) : Below w.heap.size w w' := by
  obtain ⟨p, rfl⟩ := h; exact below_regrown w p.d p.os

theorem set_blk {w : World} {B i T : Nat} {cs : Array Value} (h : w.heap[B]? = some (.cells cs T)) (x : Value) : (w.setCell ⟨B, i, none⟩ x).heap[B]? = some (.cells (cs.setIfInBounds i x) T) := by
  simp [World.setCell, Array.getElem?_modify, h]

end Go.Proofs.YtajmcplanlibnaaGreatDoor
