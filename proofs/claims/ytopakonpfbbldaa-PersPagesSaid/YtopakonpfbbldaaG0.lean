/- Two arrays of 64 bytes, compared; what reads a whole array in a region that draws its order. No condition. -/
import Derived.Test.YtopakonpfbbldaaLib6
import Derived.ChangeKeysEq
namespace Go.Proofs.Ytopakonpfbbldaa
set_option linter.unusedSimpArgs false
set_option linter.unusedVariables false
open Go.RowKit

theorem quiet_of_run {P : Program} {o : Oper} {a : Act} {C : World → Prop} {K : Act → Prop} (v : Value) (h : ∀ w, C w → (execOp a.eval o).run P w = .ok (.value v) w) (hk : K (a.put o.dst v)) : o.quiet P a C K :=
  ⟨v, fun w hw => by unfold Oper.quietAt; rw [h w hw]; exact ⟨rfl, rfl⟩, hk⟩
theorem quiet_load_row {P : Program} {o : Oper} {a : Act} {C : World → Prop} {K : Act → Prop} (ty : TypeId) (x : Operand) (ho : o.op = .load ty x)
    (g : Nat) (hx : a.eval x = .pointer (some ⟨g, 0, none⟩)) (t : TypeId) (cs : Array Value) (fr : Nat × Nat) (d : TypeDesc) (hg : ∀ w, C w → w.heap[g]? = some (.cells cs t fr))
    (hu : P.underlying ty = some d) (hd : (match d with | .struct _ | .array _ _ => true | _ => false) = true) (hi : (P.info? ty).map (·.size) = some cs.size)
    (h : K (a.put o.dst (.agg cs))) : o.quiet P a C K :=
  quiet_of_run _ (fun w hw => by
    unfold execOp
    simp only [ho, hx, Instr.loadAt, Instr.sureAddr, Sem.run_bind, Sem.run_pure, Result.andThen_ok, run_loadVar_row w g t ty cs fr d (hg w hw) hu hd hi]) h

theorem run_part_byte (l : List Int) (i : Nat) (hi : i < l.length) (w : World) : (part 5 (l.map (Value.int .u8)).toArray i).run Try.prog w = .ok (.int .u8 (l.getD i 0)) w :=
  run_part_plain (P := Try.prog) w (by kernel_rfl) (by simp [hi])
theorem run_eq_byte (d : Nat) (a b : Int) (w : World) : (Op.equalIn (d + 1) 5 (.int .u8 a) (.int .u8 b)).run Try.prog w = .ok (a == b) w := by
  simp [Op.equalIn, Sem.run_bind, run_underlying Try.underlying5]
theorem run_eqItems_bytes (d : Nat) (l1 l2 : List Int) (w : World) : ∀ is : List Nat, (∀ i ∈ is, i < l1.length ∧ i < l2.length) →
    (Op.eqItems (d + 1) 5 1 (l1.map (Value.int .u8)).toArray (l2.map (Value.int .u8)).toArray is).run Try.prog w = .ok (is.all fun i => l1.getD i 0 == l2.getD i 0) w
  | [], _ => by simp [Op.eqItems]
  | i :: is, h => by
    obtain ⟨h1, h2⟩ := h i (by simp)
    have ih := run_eqItems_bytes d l1 l2 w is (fun j hj => h j (by simp [hj]))
    simp only [Op.eqItems, Sem.run_bind, Nat.mul_one, run_part_byte l1 i h1, run_part_byte l2 i h2, run_eq_byte, Result.andThen_ok, List.all_cons]
    cases q : (l1.getD i 0 == l2.getD i 0)
    · simp
    · simpa using ih
theorem all_range (l1 l2 : List Int) (h1 : l1.length = 64) (h2 : l2.length = 64) : ((List.range 64).all fun i => l1.getD i 0 == l2.getD i 0) = (l1 == l2) := by
  rw [Bool.eq_iff_iff]
  simp only [List.all_eq_true, List.mem_range, beq_iff_eq]
  constructor
  · intro h
    apply List.ext_getElem (by omega)
    intro i hi1 hi2
    have := h i (by omega)
    simpa [hi1, hi2] using this
  · rintro rfl i _; rfl
theorem run_neq_page (l1 l2 : List Int) (h1 : l1.length = 64) (h2 : l2.length = 64) (w : World) :
    (binOp .neq 53 (.agg (l1.map (Value.int .u8)).toArray) (.agg (l2.map (Value.int .u8)).toArray)).run Try.prog w = .ok (.bool (l1 != l2)) w := by
  have hi : ∃ i, Try.prog.info? 5 = some i := by
    cases h : Try.prog.info? 5 with
    | none => exact absurd h (by intro e; have : (Try.prog.info? 5).isSome = true := by kernel_rfl
                                 rw [e] at this; cases this)
    | some i => exact ⟨i, rfl⟩
  obtain ⟨i, hi⟩ := hi
  have hc : Try.prog.cellsOf 5 = 1 := by kernel_rfl
  have he := run_equalIn_array (P := Try.prog) w 9999 (l1.map (Value.int .u8)).toArray (l2.map (Value.int .u8)).toArray Try.underlying53 hi
  rw [hc, run_eqItems_bytes 9998 l1 l2 w (List.range 64) (fun i hi => by simp at hi; omega), all_range l1 l2 h1 h2] at he
  simp only [binOp, Sem.run_bind, Op.equal, Op.maxDepth, he, Result.andThen_ok, Sem.run_pure]
  rfl
theorem run_eqGuard_page (x y : Operand) (c d : Array Value) (w : World) : (eqGuard .neq 53 x y (.agg c) (.agg d)).run Try.prog w = .ok () w := by
  have hg : Try.prog.eqGuardType Try.prog.depth 53 = false := by kernel_rfl
  unfold eqGuard
  simp [Sem.run_bind, hg, go_sem]
theorem quiet_neq_page {o : Oper} {a : Act} {C : World → Prop} {K : Act → Prop} (x y : Operand) (bt : TypeId) (ho : o.op = .binOp .neq 53 x y bt) (l1 l2 : List Int) (h1 : l1.length = 64) (h2 : l2.length = 64)
    (hx : a.eval x = .agg (l1.map (Value.int .u8)).toArray) (hy : a.eval y = .agg (l2.map (Value.int .u8)).toArray) (h : K (a.put o.dst (.bool (l1 != l2)))) : o.quiet Try.prog a C K :=
  quiet_of_run _ (fun w hw => by
    unfold execOp
    simp only [ho, hx, hy, Sem.run_bind, run_eqGuard_page, Result.andThen_ok, run_neq_page l1 l2 h1 h2, Sem.run_pure]) h
end Go.Proofs.Ytopakonpfbbldaa
