/- Prints: where a digest is looked for first; what is asked of an entry. -/
import Derived.Test.YtjikpodghmfjcaaGreatDoorE1
set_option linter.unusedSimpArgs false
set_option linter.unusedVariables false
set_option linter.unnecessarySimpa false
namespace Go.Proofs.YtjikpodghmfjcaaGreatDoor
set_option linter.unusedSimpArgs false
set_option linter.unusedVariables false
open Go.RowKit Go.Maps
def dgN (d : List Int) : Nat := (bits BinOp.or IntKind.i64 (d.getD 0 0) (d.getD 1 0 * 256)).toNat
theorem dgN_eq (d : List Int) (h : U8s d) : bits BinOp.or IntKind.i64 (d.getD 0 0) (d.getD 1 0 * 256) = (dgN d : Int) ∧ dgN d ≤ 65535 := by
  obtain ⟨k, h1, h2⟩ := or16 (d.getD 0 0) (d.getD 1 0) (h.at 0) (h.at 1)
  unfold dgN
  rw [h1]
  exact ⟨by simp, by simpa using h2⟩
theorem row_cell {w : World} {B T : Nat} {l : List Int} (h : w.heap[B]? = some (.cells (v8a l) T)) (i : Nat) (hi : i < l.length) : w.cell? ⟨B, i, none⟩ = some (.int .u8 (l.getD i 0)) := (v8_cell h i hi).1
theorem guard_h32 : Tryz.prog.eqGuardType Tryz.prog.depth 133 = false := by kernel_rfl
theorem h32_eql (w : World) (x y : List Int) (hx : x.length = 32) (hy : y.length = 32) : (binOp .eql 133 (.agg (v8a x)) (.agg (v8a y))).run Tryz.prog w = .ok (.bool (decide (x = y))) w := by
  obtain ⟨i, hi⟩ := info_u8'
  exact run_eql_u8 Tryz.underlying133 hi cells_u8 plain_u8 Tryz.underlying5 w x y hx hy
section
variable {ops : Array Oper} {rest : List Oper} {o : Oper} {a : Act} {w : World} {Q : Exit → Act → World → Prop}
theorem dg_eql (hgd : o.guard = none) (x y : Operand) (t2 : TypeId) (ho : o.op = .binOp .eql 133 x y t2) (p q : List Int) (hx : a.eval x = .agg (v8a p)) (hy : a.eval y = .agg (v8a q)) (hp : p.length = 32) (hq : q.length = 32)
    (h : wpList Tryz.prog ops Q rest (a.put o.dst (.bool (decide (p = q)))) w) : wpList Tryz.prog ops Q (o :: rest) a w := by
  refine wpList_plain hgd fun K' hK' => ?_
  unfold Oper.wp execOp
  simp only [ho, hx, hy, Sem.run_bind, run_eqGuard_agg w .eql _ x y (v8a p) (v8a q) guard_h32, h32_eql w p q hp hq, Result.andThen_ok]
  exact hK' _ _ h
theorem dg_load (hgd : o.guard = none) (x : Operand) (ho : o.op = .load 133 x) (g off : Nat) (p : List Int) (hx : a.eval x = .pointer (some ⟨g, off, none⟩)) (hg : w.rangeAt g off (v8 p)) (hp : p.length = 32)
    (h : wpList Tryz.prog ops Q rest (a.put o.dst (.agg (v8a p))) w) : wpList Tryz.prog ops Q (o :: rest) a w :=
  wpList_load_mid hgd _ x ho g off hx (v8 p) _ hg Tryz.underlying133 rfl (by rw [v8_length, hp]; exact info_h32) h
theorem quiet_dg {op : Oper} {C : World → Prop} {K : Act → Prop} (x : Operand) (ho : op.op = .load 133 x) (g : Nat) (p : List Int) (hx : a.eval x = .pointer (some ⟨g, 0, none⟩)) (hS : ∀ w, C w → w.heap[g]? = some (.cells (v8a p) 133)) (hp : p.length = 32)
    (h : K (a.put op.dst (.agg (v8a p)))) : op.quiet Tryz.prog a C K :=
  quiet_load_mid _ x ho g 0 hx (v8 p) _ (fun w hw => row_range (hS w hw)) Tryz.underlying133 rfl (by rw [v8_length, hp]; exact info_h32) h
end
theorem ent_rdg {w : World} {B T : Nat} {dg : List Int} {sl rf : Int} (h : w.heap[B]? = some (.cells (entC dg sl rf) T)) : w.rangeAt B 0 (v8 dg) := fun j v hv => by
  have hj : j < (v8 dg).length := (List.getElem?_eq_some_iff.1 hv).1
  rw [cell_of_row w B (0 + j) _ T (0, 0) h]
  simp only [entC, Nat.zero_add, List.getElem?_toArray]
  rw [List.getElem?_append_left hj]; exact hv
theorem ent_cells {w : World} {B T : Nat} {dg : List Int} {sl rf : Int} (hl : dg.length = 32) (h : w.heap[B]? = some (.cells (entC dg sl rf) T)) : w.cell? ⟨B, 32, none⟩ = some (.int .i64 sl) ∧ w.cell? ⟨B, 33, none⟩ = some (.int .i64 rf) := by
  have e : (v8 dg).length = 32 := by rw [v8_length, hl]
  constructor
  · rw [cell_of_row w B 32 _ T (0, 0) h]; simp [entC, List.getElem?_append, e]
  · rw [cell_of_row w B 33 _ T (0, 0) h]; simp [entC, List.getElem?_append, e]
end Go.Proofs.YtjikpodghmfjcaaGreatDoor
