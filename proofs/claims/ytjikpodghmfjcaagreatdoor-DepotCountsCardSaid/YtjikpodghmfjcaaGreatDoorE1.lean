/- Prints: an entry at a place. -/
import Derived.Test.YtjikpodghmfjcaaGreatDoorB6
set_option linter.unusedSimpArgs false
set_option linter.unusedVariables false
set_option linter.unnecessarySimpa false
namespace Go.Proofs.YtjikpodghmfjcaaGreatDoor
set_option linter.unusedSimpArgs false
set_option linter.unusedVariables false
open Go.RowKit Go.Maps
def entC (dg : List Int) (slot refs : Int) : Array Value := (v8 dg ++ ([.int .i64 slot, .int .i64 refs] : List Value)).toArray
theorem entC_size {dg : List Int} (h : dg.length = 32) (slot refs : Int) : (entC dg slot refs).size = 34 := by simp [entC, v8, h]
theorem entC_one (dg : List Int) (slot refs : Int) : (entC dg slot refs).all (·.oneCell') = true := all_oneCell_toArray (fun v hv => by
  rcases List.mem_append.1 hv with hv | hv
  · exact v8_one dg v hv
  · simp at hv; rcases hv with rfl | rfl <;> rfl)
/-- What a page says of an entry. -/
def pDg (p : List Int) : List Int := (p.drop 8).take 32
def pSlot (p : List Int) : Int := bits BinOp.or IntKind.i64 (p.getD 1 0) (p.getD 2 0 * 256)
def pRefs (p : List Int) : Int := p.getD 3 0
def isEnt (p : List Int) : Bool := decide (p.getD 0 0 = 1)
def lookC (p : List Int) : Array Value := if isEnt p then entC (pDg p) (pSlot p) (pRefs p) else entC (zer 32) 0 0
theorem pDg_length {p : List Int} (h : p.length = 64) : (pDg p).length = 32 := by simp [pDg, h]
def tabC (bb first n : Nat) : Array Value := #[.pointer (some ⟨bb, 0, none⟩), .int .i64 (first : Int), .int .i64 (n : Int)]
theorem blk3 {w : World} {B : Nat} {c0 c1 c2 : Value} {T : Nat} (h : w.heap[B]? = some (.cells #[c0, c1, c2] T)) : w.cell? ⟨B, 0, none⟩ = some c0 ∧ w.cell? ⟨B, 1, none⟩ = some c1 ∧ w.cell? ⟨B, 2, none⟩ = some c2 := by
  simp [World.cell?, h]
theorem results_cell2 {P : Program} {fn : Func} {p q s : Tmp} {ty : TypeId} (h : fn.results = #[.cell p ty, .tmp q, .tmp s]) (tmps : Array Value) (w : World) (g : Nat) (t : TypeId) (cs : Array Value) (fr : Nat × Nat) (d : TypeDesc)
    (hp : tmps.getD p undef = .pointer (some ⟨g, 0, none⟩)) (v u : Value) (hq : tmps.getD q undef = v) (hs : tmps.getD s undef = u) (hg : w.heap[g]? = some (.cells cs t fr))
    (hu : P.underlying ty = some d) (hd : (match d with | .struct _ | .array _ _ => true | _ => false) = true) (hi : (P.info? ty).map (·.size) = some cs.size) :
    (results fn tmps).run P w = .ok (.tuple #[.agg cs, v, u]) w := by
  have hp' : tmps[p]?.getD undef = .pointer (some ⟨g, 0, none⟩) := by simpa using hp
  have hq' : tmps[q]?.getD undef = v := by simpa using hq
  have hs' : tmps[s]?.getD undef = u := by simpa using hs
  simp [results, h, hp', hq', hs', asAddr, run_loadVar_row w g t ty cs fr d hg hu hd hi]
theorem page_rpart {w : World} {B T : Nat} {l : List Int} (h : w.heap[B]? = some (.cells (v8a l) T)) (o m : Nat) : w.rangeAt B o (v8 ((l.drop o).take m)) := fun j v hv => by
  have := page_part h o m j v hv
  have ea : (⟨B, o, none⟩ : Addr).add j = ⟨B, o + j, none⟩ := by unfold Addr.add; split <;> simp_all
  rw [ea] at this; exact this
end Go.Proofs.YtjikpodghmfjcaaGreatDoor
