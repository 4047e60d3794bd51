/- Small lemmas of my own on worlds, for the walks of this seat. No condition. -/
import Derived.WalkKit
import Derived.WalkSpells
import Derived.WalkLawsBesides
import Derived.Lib.Hide
namespace Go.Proofs.YtajmcplanlibnaaGreatDoor
set_option linter.unusedSimpArgs false
set_option linter.unusedVariables false
open Go.RowKit

theorem bcell {B : Nat} {W w1 : World} (hb : Below B W w1) : (∀ b o, b < B → w1.cell? ⟨b, o, none⟩ = W.cell? ⟨b, o, none⟩) ∧ (∀ b o, b < B → w1.frozen? ⟨b, o, none⟩ = W.frozen? ⟨b, o, none⟩) ∧ W.heap.size ≤ w1.heap.size :=
  ⟨fun b o h => hb.cell (p := ⟨b, o, none⟩) h, fun b o h => hb.frozen (p := ⟨b, o, none⟩) h, hb.size⟩

theorem below_dN {B : Nat} {a w : World} (h : Below B a w) (n : Nat) : Below B a (w.drewN n) := ⟨h.os, h.tape, h.output, h.size, h.block⟩

/-- What was boxed first is read as it was, later on. -/
theorem box5 {w w1 : World} {c0 c1 c2 c3 c4 : Value} {T : Nat} (hb : Below (w.heap.size + 1) (w.alloc (.cells #[c0, c1, c2, c3, c4] T)) w1) :
    w1.cell? ⟨w.heap.size, 0, none⟩ = some c0 ∧ w1.cell? ⟨w.heap.size, 1, none⟩ = some c1 ∧ w1.cell? ⟨w.heap.size, 2, none⟩ = some c2 ∧ w1.cell? ⟨w.heap.size, 3, none⟩ = some c3 ∧ w1.cell? ⟨w.heap.size, 4, none⟩ = some c4 := by
  refine ⟨?_, ?_, ?_, ?_, ?_⟩ <;> rw [hb.cell (by simp)] <;> simp

/-- The registrations of a table, as they lie in memory: two cells each. -/
def KeysIn (w : World) (a : Option Addr) (ks : List (Int × Int)) : Prop :=
  ∀ i (h : i < ks.length), ∃ b off, a = some ⟨b, off, none⟩ ∧ b < w.heap.size ∧ w.cell? ⟨b, off + i * 2, none⟩ = some (.int .i64 ks[i].1) ∧ w.cell? ⟨b, off + i * 2 + 1, none⟩ = some (.int .u64 ks[i].2)

theorem KeysIn.below {w w' : World} {a : Option Addr} {ks : List (Int × Int)} (h : KeysIn w a ks) (hb : Below w.heap.size w w') : KeysIn w' a ks := fun i hi =>
  let ⟨b, off, ha, hs, c1, c2⟩ := h i hi
  ⟨b, off, ha, Nat.lt_of_lt_of_le hs hb.size, (hb.cell (p := ⟨b, off + i * 2, none⟩) hs).trans c1, (hb.cell (p := ⟨b, off + i * 2 + 1, none⟩) hs).trans c2⟩

theorem KeysIn.nil (w : World) (a : Option Addr) : KeysIn w a [] := fun i h => by simp at h

/-- Whole numbers in memory, a cell each, in a block of such. -/
def IntsIn (w : World) (a : Option Addr) (ns : List Int) : Prop :=
  ∀ i (h : i < ns.length), ∃ b off, a = some ⟨b, off, none⟩ ∧ b < w.heap.size ∧ w.cell? ⟨b, off + i, none⟩ = some (.int .i64 ns[i]) ∧ ∃ cur, w.heap[b]? = some (.cells cur 3)

theorem IntsIn.below {w w' : World} {a : Option Addr} {ns : List Int} (h : IntsIn w a ns) (hb : Below w.heap.size w w') : IntsIn w' a ns := fun i hi =>
  let ⟨b, off, ha, hs, c1, cur, hc⟩ := h i hi
  ⟨b, off, ha, Nat.lt_of_lt_of_le hs hb.size, (hb.cell (p := ⟨b, off + i, none⟩) hs).trans c1, cur, (hb.block b hs).trans hc⟩

/-- They stay when a block of another kind changes. -/
theorem IntsIn.grown {w w' : World} {a : Option Addr} {ns : List Int} {B T : Nat} {cs : Array Value} (h : IntsIn w a ns) (hg : w.grownBy w' (some B)) (hB : w.heap[B]? = some (.cells cs T)) (hT : T ≠ 3) : IntsIn w' a ns := fun i hi =>
  let ⟨b, off, ha, hs, c1, cur, hc⟩ := h i hi
  have hne : b ≠ B := fun e => by subst e; rw [hc] at hB; simp only [Option.some.injEq, Obj.cells.injEq] at hB; exact hT hB.2.1.symm
  have hk := hg.block b hs (by simpa using hne)
  ⟨b, off, ha, Nat.lt_of_lt_of_le hs hg.size, (World.cell?_of_block hk).trans c1, cur, hk.trans hc⟩

/-- Registrations stay when a table changes: no table's cells read as a registration. -/
theorem KeysIn.grown {w w' : World} {a : Option Addr} {ks : List (Int × Int)} {B T : Nat} {c0 c1 c4 : Value} {x y : Int} (h : KeysIn w a ks) (hg : w.grownBy w' (some B)) (hB : w.heap[B]? = some (.cells #[c0, c1, .int .i64 x, .int .i64 y, c4] T))
    (h0 : ∀ v, c0 ≠ .int .i64 v) (h1 : ∀ v, c1 ≠ .int .i64 v) (h4 : ∀ v, c4 ≠ .int .u64 v) : KeysIn w' a ks := fun i hi =>
  let ⟨b, off, ha, hs, e1, e2⟩ := h i hi
  have hne : b ≠ B := fun e => by
    subst e
    simp only [World.cell?, hB] at e1 e2
    generalize off + i * 2 = o at e1 e2
    match o with
    | 0 => simp at e1; exact h0 _ e1
    | 1 => simp at e1; exact h1 _ e1
    | 2 => simp at e2
    | 3 => simp at e2; exact h4 _ e2
    | 4 => simp at e2
    | n + 5 => simp at e1
  have hk := hg.block b hs (by simpa using hne)
  ⟨b, off, ha, Nat.lt_of_lt_of_le hs hg.size, (World.cell?_of_block hk).trans e1, (World.cell?_of_block hk).trans e2⟩

theorem IntsIn.nil (w : World) (a : Option Addr) : IntsIn w a [] := fun i h => by simp at h

/-- Two rows of unlike elements are no one block. -/
theorem own_apart {w : World} {b1 b2 e1 e2 s1 s2 n1 n2 : Nat} {v1 v2 : Value} {x1 x2 : List Value} (h1 : w.ownsRow b1 e1 s1 v1 n1 x1) (h2 : w.ownsRow b2 e2 s2 v2 n2 x2) (he : e1 ≠ e2) : v1.ownBlock = none ∨ v1.ownBlock ≠ v2.ownBlock := by
  rcases h1.2 with ⟨rfl, _⟩ | ⟨g, c, cur, rfl, _, hg, _⟩
  · left; rfl
  · right
    rcases h2.2 with ⟨rfl, _⟩ | ⟨g', c', cur', rfl, _, hg', _⟩
    · simp [Value.ownBlock]
    · simp only [Value.ownBlock, ne_eq, Option.some.injEq]
      rintro rfl
      rw [hg] at hg'
      simp only [Option.some.injEq, Obj.cells.injEq] at hg'
      exact he hg'.2.1

theorem grown_trans {a b c : World} {r : Option Nat} (h : a.grownBy b r) (k : b.grownBy c r) : a.grownBy c r :=
  ⟨k.os.trans h.os, k.tape.trans h.tape, k.output.trans h.output, Nat.le_trans h.size k.size, fun i hi hr => (k.block i (Nat.lt_of_lt_of_le hi h.size) hr).trans (h.block i hi hr)⟩
theorem grown_of_below {a b : World} (h : Below a.heap.size a b) (r : Option Nat) : a.grownBy b r :=
  ⟨h.os, h.tape, h.output, h.size, fun i hi _ => h.block i hi⟩
theorem grown_set (a : World) (B off : Nat) (v : Value) : a.grownBy (a.setCell ⟨B, off, none⟩ v) (some B) :=
  ⟨rfl, rfl, rfl, by simp [World.setCell], fun i _ hr => Below.heap_setCell _ _ _ _ (by intro e; exact hr (by rw [e]))⟩

/-- The flat cells of registrations. -/
def flat (ks : List (Int × Int)) : List Value := ks.flatMap fun r => [.int .i64 r.1, .int .u64 r.2]
theorem flat_length (ks : List (Int × Int)) : (flat ks).length = ks.length * 2 := by
  induction ks with
  | nil => rfl
  | cons r l ih => simp only [flat, List.flatMap_cons, List.length_append, List.length_cons, List.length_nil] at ih ⊢; omega
theorem flat_append (a b : List (Int × Int)) : flat (a ++ b) = flat a ++ flat b := by simp [flat]
theorem flat_get (ks : List (Int × Int)) : ∀ i (h : i < ks.length), (flat ks)[i * 2]? = some (.int .i64 ks[i].1) ∧ (flat ks)[i * 2 + 1]? = some (.int .u64 ks[i].2) := by
  induction ks with
  | nil => intro i h; simp at h
  | cons r l ih =>
    intro i h
    cases i with
    | zero => simp [flat]
    | succ i =>
      have h' : i < l.length := by simpa using h
      have e1 : (i + 1) * 2 = i * 2 + 2 := by omega
      obtain ⟨a, b⟩ := ih i h'
      have ec : flat (r :: l) = .int .i64 r.1 :: .int .u64 r.2 :: flat l := rfl
      rw [e1, ec]
      exact ⟨by simpa using a, by simpa using b⟩

/-- What is owned reads as registrations. -/
theorem KeysIn.of_own {w : World} {base e : Nat} {a : Option Addr} {cap : Nat} {ks : List (Int × Int)} (h : w.ownsRow base e 2 (.slice a ks.length cap) ks.length (flat ks)) : KeysIn w a ks := by
  intro i hi
  rcases h.2 with ⟨hv, hn⟩ | ⟨g, c, cur, hv, _, hg, _, _, hs, ht⟩
  · rw [hn] at hi; omega
  · simp only [Value.slice.injEq] at hv
    obtain ⟨rfl, _, _⟩ := hv
    obtain ⟨c1, c2⟩ := flat_get ks i hi
    refine ⟨g, 0, rfl, (Array.getElem?_eq_some_iff.1 hg).1, ?_, ?_⟩
    · rw [cell_of_row w g _ cur e (0, 0) hg]
      rw [← ht, List.getElem?_take] at c1
      split at c1
      · simpa using c1
      · cases c1
    · rw [cell_of_row w g _ cur e (0, 0) hg]
      rw [← ht, List.getElem?_take] at c2
      split at c2
      · simpa using c2
      · cases c2
theorem IntsIn.of_own {w : World} {base : Nat} {a : Option Addr} {cap : Nat} {ns : List Int} (h : w.ownsRow base 3 1 (.slice a ns.length cap) ns.length (ns.map (Value.int .i64))) : IntsIn w a ns := by
  intro i hi
  rcases h.2 with ⟨hv, hn⟩ | ⟨g, c, cur, hv, _, hg, _, _, hs, ht⟩
  · rw [hn] at hi; omega
  · simp only [Value.slice.injEq] at hv
    obtain ⟨rfl, _, _⟩ := hv
    refine ⟨g, 0, rfl, (Array.getElem?_eq_some_iff.1 hg).1, ?_, cur, hg⟩
    have c1 : (ns.map (Value.int .i64))[i]? = some (.int .i64 ns[i]) := by simp [hi]
    rw [cell_of_row w g _ cur _ (0, 0) hg]
    rw [← ht, List.getElem?_take] at c1
    split at c1
    · simpa using c1
    · cases c1
/-- An owned row is a slice of its length. -/
theorem own_slice {w : World} {base e s n : Nat} {v : Value} {xs : List Value} (h : w.ownsRow base e s v n xs) : ∃ a cap, v = .slice a n cap := by
  rcases h.2 with ⟨rfl, rfl⟩ | ⟨g, c, cur, rfl, _⟩
  · exact ⟨_, _, rfl⟩
  · exact ⟨_, _, rfl⟩

/-- A row of one's own is no block of another kind. -/
theorem own_ne {w : World} {base e sz n B T : Nat} {v : Value} {xs : List Value} {cs : Array Value} (h : w.ownsRow base e sz v n xs) (hB : w.heap[B]? = some (.cells cs T)) (hT : T ≠ e) : v.ownBlock = none ∨ v.ownBlock ≠ some B := by
  rcases h.2 with ⟨rfl, _⟩ | ⟨g, c, cur, rfl, _, hg, _⟩
  · left; rfl
  · right
    simp only [Value.ownBlock, ne_eq, Option.some.injEq]
    rintro rfl
    rw [hg] at hB
    simp only [Option.some.injEq, Obj.cells.injEq] at hB
    exact hT hB.2.1.symm

/-- Of four tests in a row: none, or the first that holds. -/
theorem chain4 (a b c d : Bool) : a = true ∨ (a = false ∧ b = true) ∨ (a = false ∧ b = false ∧ c = true) ∨ (a = false ∧ b = false ∧ c = false ∧ d = true) ∨ (a = false ∧ b = false ∧ c = false ∧ d = false) := by
  cases a <;> cases b <;> cases c <;> cases d <;> simp

end Go.Proofs.YtajmcplanlibnaaGreatDoor
