/- Requests in memory: flags, and a slice of pairs. No condition. -/
import Derived.Test.YtnicmfboomibjaaDoorPairs
namespace Go.Proofs.YtnicmfboomibjaaDoor
set_option linter.unusedSimpArgs false
set_option linter.unusedVariables false
open Go.RowKit
structure Rq where
  f : Nat
  a : Option Addr
  ps : List Pr
  c : Nat
  deriving Inhabited
/-- Requests in memory, two cells each; their pairs lie in memory too. -/
def RqsIn (w : World) (a : Option Addr) (rs : List Rq) : Prop :=
  ∀ i (h : i < rs.length), ∃ b off, a = some ⟨b, off, none⟩ ∧ b < w.heap.size ∧ w.cell? ⟨b, off + i * 2, none⟩ = some (.int .u8 rs[i].f) ∧ w.cell? ⟨b, off + i * 2 + 1, none⟩ = some (.slice rs[i].a rs[i].ps.length rs[i].c) ∧ PairsIn w rs[i].a rs[i].ps
theorem RqsIn.below {w w' : World} {a : Option Addr} {rs : List Rq} (h : RqsIn w a rs) (hb : Below w.heap.size w w') : RqsIn w' a rs := fun i hi =>
  let ⟨b, off, ha, hs, c1, c2, c3⟩ := h i hi
  ⟨b, off, ha, Nat.lt_of_lt_of_le hs hb.size, (hb.cell (p := ⟨b, off + i * 2, none⟩) hs).trans c1, (hb.cell (p := ⟨b, off + i * 2 + 1, none⟩) hs).trans c2, c3.below hb⟩
theorem RqsIn.nil (w : World) (a : Option Addr) : RqsIn w a [] := fun i h => by simp at h
end Go.Proofs.YtnicmfboomibjaaDoor
