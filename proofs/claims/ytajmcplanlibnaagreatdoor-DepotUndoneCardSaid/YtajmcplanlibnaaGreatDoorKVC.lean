/- However many transactions are made, each page has what was committed last; mounted again, too, and again. -/
import Derived.Test.YtajmcplanlibnaaGreatDoorKV9
import Derived.ChangeKeysEq
set_option linter.unusedSimpArgs false
set_option linter.unusedVariables false
set_option linter.unnecessarySimpa false
namespace Go.Proofs.YtajmcplanlibnaaGreatDoor
open Go.RowKit Go.Maps
theorem info_prs : (Tryz.prog.info? 123).map (·.size) = some 2 := by kernel_rfl
/-- Pairs of numbers in memory. -/
def PairsAt (w : World) (a : Option Addr) (len : Nat) (X Y : Nat → Int) : Prop := ∀ i, i < len → ∃ b off, a = some ⟨b, off, none⟩ ∧ b < w.heap.size ∧ w.rangeAt b (off + i * 2) [.int .i64 (X i), .int .i64 (Y i)]
theorem PairsAt.keeps {w w' : World} {a : Option Addr} {len : Nat} {X Y : Nat → Int} (h : PairsAt w a len X Y) (hk : Keeps (fun k => k < w.heap.size) w w') : PairsAt w' a len X Y := fun i hi => by
  obtain ⟨b, off, ha, hb, hc⟩ := h i hi
  refine ⟨b, off, ha, Nat.lt_of_lt_of_le hb hk.size, fun j v hv => ?_⟩
  have := hc j v hv
  unfold World.cell? at this ⊢
  rw [hk.block b hb hb]
  exact this
def pg3 (x y z : Int) : List Int := x :: y :: z :: zer 61
theorem pg3_ok {x y z : Int} (hx : 0 ≤ x ∧ x < 256) (hy : 0 ≤ y ∧ y < 256) (hz : 0 ≤ z ∧ z < 256) : PgOk (pg3 x y z) := ⟨rfl, fun u hu => by
  unfold pg3 at hu
  simp only [List.mem_cons] at hu
  rcases hu with rfl | rfl | rfl | hu
  · exact hx
  · exact hy
  · exact hz
  · exact zer_u8 61 u hu⟩
theorem pg3_tame (x y z : Int) : Tame (pg3 x y z) := .inr rfl
theorem built_pg3 (x y z : Int) : Tryz.prog.built 37 [(0, .int .u8 x), (1, .int .u8 y), (2, .int .u8 z)] = some (v8a (pg3 x y z)) := by kernel_rfl
theorem lit_pg3 (x y z : Int) : (#[.int .u8 x, .int .u8 y, .int .u8 z, .int .u8 0, .int .u8 0, .int .u8 0, .int .u8 0, .int .u8 0, .int .u8 0, .int .u8 0, .int .u8 0, .int .u8 0, .int .u8 0, .int .u8 0, .int .u8 0, .int .u8 0, .int .u8 0, .int .u8 0, .int .u8 0, .int .u8 0, .int .u8 0, .int .u8 0, .int .u8 0, .int .u8 0, .int .u8 0, .int .u8 0, .int .u8 0, .int .u8 0, .int .u8 0, .int .u8 0, .int .u8 0, .int .u8 0, .int .u8 0, .int .u8 0, .int .u8 0, .int .u8 0, .int .u8 0, .int .u8 0, .int .u8 0, .int .u8 0, .int .u8 0, .int .u8 0, .int .u8 0, .int .u8 0, .int .u8 0, .int .u8 0, .int .u8 0, .int .u8 0, .int .u8 0, .int .u8 0, .int .u8 0, .int .u8 0, .int .u8 0, .int .u8 0, .int .u8 0, .int .u8 0, .int .u8 0, .int .u8 0, .int .u8 0, .int .u8 0, .int .u8 0, .int .u8 0, .int .u8 0, .int .u8 0] : Array Value) = v8a (pg3 x y z) := by kernel_rfl
theorem heap_pg3 (w : World) (x y z : Int) : (w.alloc (.cells #[.int .u8 x, .int .u8 y, .int .u8 z, .int .u8 0, .int .u8 0, .int .u8 0, .int .u8 0, .int .u8 0, .int .u8 0, .int .u8 0, .int .u8 0, .int .u8 0, .int .u8 0, .int .u8 0, .int .u8 0, .int .u8 0, .int .u8 0, .int .u8 0, .int .u8 0, .int .u8 0, .int .u8 0, .int .u8 0, .int .u8 0, .int .u8 0, .int .u8 0, .int .u8 0, .int .u8 0, .int .u8 0, .int .u8 0, .int .u8 0, .int .u8 0, .int .u8 0, .int .u8 0, .int .u8 0, .int .u8 0, .int .u8 0, .int .u8 0, .int .u8 0, .int .u8 0, .int .u8 0, .int .u8 0, .int .u8 0, .int .u8 0, .int .u8 0, .int .u8 0, .int .u8 0, .int .u8 0, .int .u8 0, .int .u8 0, .int .u8 0, .int .u8 0, .int .u8 0, .int .u8 0, .int .u8 0, .int .u8 0, .int .u8 0, .int .u8 0, .int .u8 0, .int .u8 0, .int .u8 0, .int .u8 0, .int .u8 0, .int .u8 0, .int .u8 0] 37)).heap[w.heap.size]? = some (.cells (v8a (pg3 x y z)) 37) := by
  rw [lit_pg3]
  exact heap_alloc_new _ _
theorem wrap_u8 (x : Int) : 0 ≤ IntKind.u8.wrap x ∧ IntKind.u8.wrap x < 256 := by
  simp [IntKind.wrap, IntKind.bits, IntKind.signed]
  omega
theorem run_isAgg_pg (w : World) : (isAgg 37).run Tryz.prog w = .ok true w := by kernel_rfl
theorem page_neq_g2 {ops : Array Oper} {rest : List Oper} {o : Oper} {a : Act} {w : World} {Q : Exit → Act → World → Prop} (hw : Region.wanted o (yielded ops a.tmps) = true) (x y : Operand) (t2 : TypeId) (ho : o.op = .binOp .neq 37 x y t2) (p q : List Int) (hx : a.eval x = .agg (v8a p)) (hy : a.eval y = .agg (v8a q)) (hp : p.length = 64) (hq : q.length = 64)
    (h : wpList Tryz.prog ops Q rest (a.put o.dst (.bool (!decide (p = q)))) w) : wpList Tryz.prog ops Q (o :: rest) a w := by
  have hn : (binOp .neq 37 (.agg (v8a p)) (.agg (v8a q))).run Tryz.prog w = .ok (.bool (!decide (p = q))) w := by
    have h := pg_eql w p q hp hq
    unfold v8a at h ⊢
    rw [run_eql_struct w] at h
    rw [run_neq_struct w]
    generalize (Op.equalIn 10000 37 (.agg _) (.agg _)).run Tryz.prog w = r at h ⊢
    cases r with
    | ok b w' =>
      simp only [Result.andThen_ok, Result.ok.injEq, Value.bool.injEq] at h ⊢
      exact ⟨by rw [h.1], h.2⟩
    | halt x w' => simp [Result.andThen] at h
  refine wpList_step fun K hK => ?_
  rw [if_pos hw]
  unfold Oper.wp execOp
  simp only [ho, hx, hy, Sem.run_bind, run_eqGuard_agg w .neq _ x y (v8a p) (v8a q) guard_pg, hn, Result.andThen_ok]
  exact hK _ _ h
theorem BookI.less {w : World} {bb : Nat} {N N' : Nat → Prop} {B : BookS} (h : BookI w bb N B) (hn : ∀ k, N' k → N k) : BookI w bb N' B := by
  obtain ⟨db, rb, nb, ov, hX⟩ := h
  exact ⟨db, rb, nb, ov, hX.drop hn⟩
theorem set_getD (NL : List (List Int)) (i j : Nat) (p : List Int) (hi : i < NL.length) : (NL.set i p).getD j [] = if j = i then p else NL.getD j [] := by
  by_cases e : j = i
  · subst e
    rw [if_pos rfl]
    simp [List.getD, hi]
  · rw [if_neg e]
    simp [List.getD, List.getElem?_set_ne (fun h => e h.symm)]
theorem opn_cnt {B : BookS} (h : B.opn = none) : B.cnt = 0 := by
  unfold BookS.cnt BookS.f
  rw [h]
  show (keysF (fun _ => none) _).length = 0
  rw [keysF_none]; rfl
theorem opn_f {B : BookS} (h : B.opn = none) (i : Nat) : B.f i = none := by
  unfold BookS.f
  rw [h]; rfl
theorem tmod_rg6 (n m : Int) (hm : 0 < m) : -m < n.tmod m ∧ n.tmod m < m := by
  rcases Int.le_total 0 n with h | h
  · rw [Int.tmod_eq_emod_of_nonneg h]
    have h1 := Int.emod_nonneg n (show m ≠ 0 by omega)
    have h2 := Int.emod_lt_of_pos n hm
    omega
  · have e : n.tmod m = -((-n).tmod m) := by rw [Int.neg_tmod]; simp
    rw [e, Int.tmod_eq_emod_of_nonneg (show 0 ≤ -n by omega)]
    have h1 := Int.emod_nonneg (-n) (show m ≠ 0 by omega)
    have h2 := Int.emod_lt_of_pos (-n) hm
    omega
end Go.Proofs.YtajmcplanlibnaaGreatDoor
