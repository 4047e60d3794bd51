/- Pairs in memory: two strings each. No condition. -/
import Derived.Test.YtnicmfboomibjaaDoorGen
import Derived.Test.YtnicmfboomibjaaDoorProg
namespace Go.Proofs.YtnicmfboomibjaaDoor
set_option linter.unusedSimpArgs false
set_option linter.unusedVariables false
open Go.RowKit
theorem info_pair : (Tryd.prog.info? 39).map (fun i => (i.zero, i.size, i.bytes)) = some (some (.agg #[.string ⟨#[]⟩, .string ⟨#[]⟩]), 2, 32) := by kernel_rfl
abbrev Pr := ByteArray × ByteArray
/-- The flat cells of pairs. -/
def flatP (ps : List Pr) : List Value := ps.flatMap fun p => [.string p.1, .string p.2]
theorem flatP_length (ks : List Pr) : (flatP ks).length = ks.length * 2 := by
  induction ks with
  | nil => rfl
  | cons r l ih => simp only [flatP, List.flatMap_cons, List.length_append, List.length_cons, List.length_nil] at ih ⊢; omega
theorem flatP_append (a b : List Pr) : flatP (a ++ b) = flatP a ++ flatP b := by simp [flatP]
theorem flatP_get (ks : List Pr) : ∀ i (h : i < ks.length), (flatP ks)[i * 2]? = some (.string ks[i].1) ∧ (flatP ks)[i * 2 + 1]? = some (.string ks[i].2) := by
  induction ks with
  | nil => intro i h; simp at h
  | cons r l ih =>
    intro i h
    cases i with
    | zero => simp [flatP]
    | succ i =>
      have h' : i < l.length := by simpa using h
      have e1 : (i + 1) * 2 = i * 2 + 2 := by omega
      obtain ⟨a, b⟩ := ih i h'
      have ec : flatP (r :: l) = .string r.1 :: .string r.2 :: flatP l := rfl
      rw [e1, ec]
      exact ⟨by simpa using a, by simpa using b⟩
/-- Pairs in memory, two cells each. -/
def PairsIn (w : World) (a : Option Addr) (ps : List Pr) : Prop :=
  ∀ i (h : i < ps.length), ∃ b off, a = some ⟨b, off, none⟩ ∧ b < w.heap.size ∧ w.cell? ⟨b, off + i * 2, none⟩ = some (.string ps[i].1) ∧ w.cell? ⟨b, off + i * 2 + 1, none⟩ = some (.string ps[i].2)
theorem PairsIn.below {w w' : World} {a : Option Addr} {ps : List Pr} (h : PairsIn w a ps) (hb : Below w.heap.size w w') : PairsIn w' a ps := fun i hi =>
  let ⟨b, off, ha, hs, c1, c2⟩ := h i hi
  ⟨b, off, ha, Nat.lt_of_lt_of_le hs hb.size, (hb.cell (p := ⟨b, off + i * 2, none⟩) hs).trans c1, (hb.cell (p := ⟨b, off + i * 2 + 1, none⟩) hs).trans c2⟩
theorem PairsIn.of_own {w : World} {base e : Nat} {a : Option Addr} {cap : Nat} {ks : List Pr} (h : w.ownsRow base e 2 (.slice a ks.length cap) ks.length (flatP ks)) : PairsIn w a ks := by
  intro i hi
  rcases h.2 with ⟨hv, hn⟩ | ⟨g, c, cur, hv, _, hg, _, _, hs, ht⟩
  · rw [hn] at hi; omega
  · simp only [Value.slice.injEq] at hv
    obtain ⟨rfl, _, _⟩ := hv
    obtain ⟨c1, c2⟩ := flatP_get ks i hi
    refine ⟨g, 0, rfl, (Array.getElem?_eq_some_iff.1 hg).1, ?_, ?_⟩
    · rw [cell_of_row w g _ cur e (0, 0) hg]
      rw [← ht, List.getElem?_take] at c1
      split at c1
      · simpa using c1
      · cases c1
    · rw [cell_of_row w g _ cur e (0, 0) hg]
      rw [← ht, List.getElem?_take] at c2
      split at c2
      · simpa using c2
      · cases c2
theorem PairsIn.nil (w : World) (a : Option Addr) : PairsIn w a [] := fun i h => by simp at h
theorem PairsIn.at {w : World} {b off : Nat} {ps : List Pr} (h : PairsIn w (some ⟨b, off, none⟩) ps) (i : Nat) (hi : i < ps.length) : b < w.heap.size ∧ w.cell? ⟨b, off + i * 2, none⟩ = some (.string ps[i].1) ∧ w.cell? ⟨b, off + i * 2 + 1, none⟩ = some (.string ps[i].2) := by
  obtain ⟨b', off', e, h1, h2⟩ := h i hi
  cases e
  exact ⟨h1, h2⟩
end Go.Proofs.YtnicmfboomibjaaDoor
