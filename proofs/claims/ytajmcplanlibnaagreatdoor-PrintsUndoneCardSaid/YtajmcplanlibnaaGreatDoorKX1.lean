/- Entries compared; a map of entries is looked up, in whatever guard; a digest of the law's. -/
import Derived.Test.YtajmcplanlibnaaGreatDoorKX0
import Derived.Test.YtajmcplanlibnaaGreatDoorKF1
set_option linter.unusedSimpArgs false
set_option linter.unusedVariables false
set_option linter.unnecessarySimpa false
namespace Go.Proofs.YtajmcplanlibnaaGreatDoor
open Go.RowKit Go.Maps
def cntDel (b : Bool) (c : Nat) : Nat := if b = true then c - 1 else c
theorem wpList_del_is {P : Program} (w : World) {ops : Array Oper} {rest : List Oper} {o : Oper} {a : Act} {Q : Exit → Act → World → Prop}
    (hg : o.guard = none) (m x : Operand) (t k : TypeId) (hop : o.op = Op.call { callee := Callee.builtin Builtin.delete, args := #[m, x], argTypes := #[t, k] })
    (e : TypeId) (K : Keyed P k) (ht : P.underlying t = some (.map k e)) (b c : Nat) (f : Lit → Option Value)
    (hm : a.eval m = .map (some b)) (hown : MapIs P k w b c f) (key : Value) (kl : Lit) (hx : a.eval x = key) (hkey : keyOf P k key = some kl)
    (hK : ∀ w', MapIs P k w' b (cntDel (f kl).isSome c) (upd f kl none) → w.mapTurned w' b → wpList P ops Q rest (a.put o.dst (.tuple #[])) w') : wpList P ops Q (o :: rest) a w := by
  refine wpList_plain hg fun K' hK' => ?_
  obtain ⟨w', hrun, r1, r2⟩ := hown.del K ht hkey o.type
  unfold Oper.wp
  simp [execOp, hop, resolve, invoke, builtin, hm, hx, hrun, Result.andThen]
  exact hK' _ _ (hK w' r1 r2)
theorem len_is_g {P : Program} (w : World) {ops : Array Oper} {rest : List Oper} {o : Oper} {a : Act} {Q : Exit → Act → World → Prop}
    (hw : Region.wanted o (yielded ops a.tmps) = true) (m : Operand) (t : TypeId) (hop : o.op = Op.call { callee := Callee.builtin Builtin.len, args := #[m], argTypes := #[t] })
    (k e : TypeId) (ht : P.underlying t = some (.map k e)) (b c : Nat) (f : Lit → Option Value) (hm : a.eval m = .map (some b)) (hown : MapIs P k w b c f)
    (hK : wpList P ops Q rest (a.put o.dst (.int .i64 c)) w) : wpList P ops Q (o :: rest) a w := by
  refine wpList_step fun K' hK' => ?_
  rw [if_pos hw]
  unfold Oper.wp
  simp [execOp, hop, resolve, invoke, builtin, hm, hown.len ht o.type, Result.andThen]
  exact hK' _ _ hK
theorem built_x4 (s x : Int) : Tryz.prog.built 67 [(0, .int .u8 s), (1, .int .u8 0), (2, .int .u8 1), (31, .int .u8 x)] = some (v8a (s :: 0 :: 1 :: (zer 28 ++ [x]))) := by kernel_rfl
theorem part_dg (dg : List Int) (hd : dg.length = 32) (s r : Int) (w : World) : (part 67 (entC dg s r) 0).run Tryz.prog w = .ok (.agg (v8a dg)) w := by
  have h1 : ∀ w : World, (isAgg 67).run Tryz.prog w = .ok true w := fun w => by kernel_rfl
  have h2 : ∀ w : World, (sizeOf 67).run Tryz.prog w = .ok 32 w := fun w => by kernel_rfl
  have h3 : (entC dg s r).extract 0 32 = v8a dg := by
    apply Array.ext'
    rw [Array.toList_extract]
    unfold entC v8a
    rw [List.extract_eq_take_drop]
    simp [v8, hd]
  unfold part
  simp only [Sem.run_bind, h1, Result.andThen_ok, if_true, h2, Sem.run_pure, Nat.zero_add, h3]
theorem part_sl (dg : List Int) (hd : dg.length = 32) (s r : Int) (w : World) : (part 3 (entC dg s r) 32).run Tryz.prog w = .ok (.int .i64 s) w := by
  refine run_part_plain w (by kernel_rfl) ?_
  unfold entC
  simp [v8, hd, List.getElem?_append]
theorem part_rf (dg : List Int) (hd : dg.length = 32) (s r : Int) (w : World) : (part 3 (entC dg s r) 33).run Tryz.prog w = .ok (.int .i64 r) w := by
  refine run_part_plain w (by kernel_rfl) ?_
  unfold entC
  simp [v8, hd, List.getElem?_append]
theorem h32_in (w : World) (x : List Int) (hx : x.length = 32) (d : Nat) : (Op.equalIn (d + 1 + 1) 67 (.agg (v8a x)) (.agg (v8a x))).run Tryz.prog w = .ok true w := by
  obtain ⟨i, hi⟩ := info_u8'
  unfold v8a v8
  rw [run_equalIn_array w (d + 1) _ _ Tryz.underlying67 hi, show Tryz.prog.cellsOf 5 = 1 from cells_u8, eqItems_u8 plain_u8 Tryz.underlying5 d w x x rfl _ (fun i h => by rw [List.mem_range] at h; omega)]
  simp
theorem ent_fields3 : ((Tryz.prog.fieldsOf 70).toList.map fun f => (f.name, f.type, f.offset)) = [("Digest", 67, 0), ("Slot", 3, 32), ("Refs", 3, 33)] := by kernel_rfl
theorem ent_fields : ∃ f0 f1 f2 : Field, (Tryz.prog.fieldsOf 70).toList = [f0, f1, f2] ∧ (f0.name ≠ "_" ∧ f0.type = 67 ∧ f0.offset = 0) ∧ (f1.name ≠ "_" ∧ f1.type = 3 ∧ f1.offset = 32) ∧ (f2.name ≠ "_" ∧ f2.type = 3 ∧ f2.offset = 33) := by
  have h := ent_fields3
  generalize (Tryz.prog.fieldsOf 70).toList = l at h ⊢
  have hl3 : l.length = 3 := by have := congrArg List.length h; simpa using this
  match l, hl3 with
  | [f0, f1, f2], _ =>
    simp only [List.map_cons, List.map_nil, List.cons.injEq, Prod.mk.injEq, and_true] at h
    obtain ⟨⟨a0, b0, c0⟩, ⟨a1, b1, c1⟩, a2, b2, c2⟩ := h
    exact ⟨f0, f1, f2, rfl, ⟨by rw [a0]; decide, b0, c0⟩, ⟨by rw [a1]; decide, b1, c1⟩, ⟨by rw [a2]; decide, b2, c2⟩⟩
theorem ent_same (w : World) (dg : List Int) (hd : dg.length = 32) (s r : Int) : (binOp .neq 70 (.agg (entC dg s r)) (.agg (entC dg s r))).run Tryz.prog w = .ok (.bool false) w := by
  obtain ⟨f0, f1, f2, hf, ⟨a0, b0, c0⟩, ⟨a1, b1, c1⟩, ⟨a2, b2, c2⟩⟩ := ent_fields
  rw [run_neq_struct w, show (10000 : Nat) = 9999 + 1 from rfl, run_equalIn_struct w 9999 _ _ _ (by kernel_rfl) (by kernel_rfl), hf]
  unfold Op.eqFields Op.eqFields Op.eqFields Op.eqFields
  simp only [a0, a1, a2, b0, b1, b2, c0, c1, c2, ne_eq, not_false_eq_true, if_true, Sem.run_bind, part_dg dg hd, part_sl dg hd, part_rf dg hd, Result.andThen_ok, show (9999 : Nat) = 9997 + 1 + 1 from rfl, h32_in w dg hd, run_equalIn_int w _ _ _ _ _ _ Tryz.underlying3, beq_self_eq_true, Bool.not_true, Bool.false_eq_true, if_false, Sem.run_pure]
theorem guard_ent : Tryz.prog.eqGuardType Tryz.prog.depth 70 = false := by kernel_rfl
section
variable {ops : Array Oper} {rest : List Oper} {o : Oper} {a : Act} {w : World} {Q : Exit → Act → World → Prop}
theorem ent_neq_gd (hw : Region.wanted o (yielded ops a.tmps) = true) (x y : Operand) (t2 : TypeId) (ho : o.op = .binOp .neq 70 x y t2) (dg : List Int) (s r : Int) (hx : a.eval x = .agg (entC dg s r)) (hy : a.eval y = .agg (entC dg s r)) (hd : dg.length = 32)
    (h : wpList Tryz.prog ops Q rest (a.put o.dst (.bool false)) w) : wpList Tryz.prog ops Q (o :: rest) a w := by
  refine wpList_step fun K hK => ?_
  rw [if_pos hw]
  unfold Oper.wp execOp
  simp only [ho, hx, hy, Sem.run_bind, run_eqGuard_agg w .neq _ x y (entC dg s r) (entC dg s r) guard_ent, ent_same w dg hd, Result.andThen_ok]
  exact hK _ _ h
theorem dg_eql_gd (hw : Region.wanted o (yielded ops a.tmps) = true) (x y : Operand) (t2 : TypeId) (ho : o.op = .binOp .eql 67 x y t2) (p q : List Int) (hx : a.eval x = .agg (v8a p)) (hy : a.eval y = .agg (v8a q)) (hp : p.length = 32) (hq : q.length = 32)
    (h : wpList Tryz.prog ops Q rest (a.put o.dst (.bool (decide (p = q)))) w) : wpList Tryz.prog ops Q (o :: rest) a w := by
  refine wpList_step fun K hK => ?_
  rw [if_pos hw]
  unfold Oper.wp execOp
  simp only [ho, hx, hy, Sem.run_bind, run_eqGuard_agg w .eql _ x y (v8a p) (v8a q) guard_h32, h32_eql w p q hp hq, Result.andThen_ok]
  exact hK _ _ h
theorem h32_neq (w : World) (x y : List Int) (hx : x.length = 32) (hy : y.length = 32) : (binOp .neq 67 (.agg (v8a x)) (.agg (v8a y))).run Tryz.prog w = .ok (.bool (!decide (x = y))) w := by
  have h := h32_eql w x y hx hy
  unfold v8a at h ⊢
  rw [run_eql_struct w] at h
  rw [run_neq_struct w]
  generalize (Op.equalIn 10000 67 (.agg _) (.agg _)).run Tryz.prog w = r at h ⊢
  cases r with
  | ok b w' =>
    simp only [Result.andThen_ok, Result.ok.injEq, Value.bool.injEq] at h ⊢
    exact ⟨by rw [h.1], h.2⟩
  | halt x w' => simp [Result.andThen] at h
theorem dg_neq_gd (hw : Region.wanted o (yielded ops a.tmps) = true) (x y : Operand) (t2 : TypeId) (ho : o.op = .binOp .neq 67 x y t2) (p q : List Int) (hx : a.eval x = .agg (v8a p)) (hy : a.eval y = .agg (v8a q)) (hp : p.length = 32) (hq : q.length = 32)
    (h : wpList Tryz.prog ops Q rest (a.put o.dst (.bool (!decide (p = q)))) w) : wpList Tryz.prog ops Q (o :: rest) a w := by
  refine wpList_step fun K hK => ?_
  rw [if_pos hw]
  unfold Oper.wp execOp
  simp only [ho, hx, hy, Sem.run_bind, run_eqGuard_agg w .neq _ x y (v8a p) (v8a q) guard_h32, h32_neq w p q hp hq, Result.andThen_ok]
  exact hK _ _ h
theorem ent_zero (w : World) : (zeroValue 70).run Tryz.prog w = .ok (.agg (entC (zer 32) 0 0)) w := by kernel_rfl
/-- What a map of entries has at a key. -/
def enD (o : Option En) : En := o.getD (zer 32, 0, 0)
theorem enD_len {M : Nat → Option En} {n : Nat} (h : ∀ p e, p < n → M p = some e → EnOk e) (hout : ∀ p, n ≤ p → M p = none) (i : Nat) : (enD (M i)).1.length = 32 := by
  unfold enD
  cases hm : M i with
  | none => rfl
  | some e =>
    by_cases hi : i < n
    · exact (h i e hi hm).1.1
    · rw [hout i (by omega)] at hm; cases hm
theorem enL_getD (M : Nat → Option En) (i : Nat) : (enL M (.int .i64 (i : Int))).getD (.agg (entC (zer 32) 0 0)) = .agg (entC (enD (M i)).1 (enD (M i)).2.1 (enD (M i)).2.2) := by
  rw [enL_at]
  cases M i <;> rfl
theorem int_lit (i : Nat) (hi : i ≤ 4096) : keyOf Tryz.prog 3 (.int .i64 (i : Int)) = some (.int .i64 (i : Int)) := int_key _ (by omega)
/-- 'm[i]' of a map of entries, guarded or not. -/
theorem en_look (hw : Region.wanted o (yielded ops a.tmps) = true) (m x : Operand) (ho : o.op = .lookup 62 m x false) (mb c i : Nat) (M : Nat → Option En) (hi : i ≤ 4096) (hm : a.eval m = .map (some mb)) (hx : a.eval x = .int .i64 (i : Int)) (hM : MapIs Tryz.prog 3 w mb c (enL M))
    (h : wpList Tryz.prog ops Q rest (a.put o.dst (.agg (entC (enD (M i)).1 (enD (M i)).2.1 (enD (M i)).2.2))) w) : wpList Tryz.prog ops Q (o :: rest) a w := by
  refine wpList_step fun K hK => ?_
  rw [if_pos hw]
  have hrun := hM.look (int_keyed Tryz.underlying3) Tryz.underlying62 (ent_zero w) (int_lit i hi)
  rw [enL_getD] at hrun
  unfold Oper.wp
  simp [execOp, ho, hm, hx, hrun, Result.andThen]
  exact hK _ _ h
theorem en_look_ok (hg : o.guard = none) (m x : Operand) (ho : o.op = .lookup 62 m x true) (mb c i : Nat) (M : Nat → Option En) (hi : i ≤ 4096) (hm : a.eval m = .map (some mb)) (hx : a.eval x = .int .i64 (i : Int)) (hM : MapIs Tryz.prog 3 w mb c (enL M))
    (h : wpList Tryz.prog ops Q rest (a.put o.dst (.tuple #[.agg (entC (enD (M i)).1 (enD (M i)).2.1 (enD (M i)).2.2), .bool (M i).isSome])) w) : wpList Tryz.prog ops Q (o :: rest) a w := by
  refine wpList_look_ok_is w hg m x _ ho 3 70 (int_keyed Tryz.underlying3) Tryz.underlying62 _ (ent_zero w) mb c (enL M) hm hM _ _ hx (int_lit i hi) ?_
  rw [enL_getD, enL_at]
  cases hMi : M i <;> (rw [hMi] at h; exact h)
theorem quiet_en_look {op : Oper} {C : World → Prop} {K : Act → Prop} (m x : Operand) (ho : op.op = .lookup 62 m x false) (mb c i : Nat) (M : Nat → Option En) (hi : i ≤ 4096) (hm : a.eval m = .map (some mb)) (hx : a.eval x = .int .i64 (i : Int)) (hM : ∀ w, C w → MapIs Tryz.prog 3 w mb c (enL M))
    (h : K (a.put op.dst (.agg (entC (enD (M i)).1 (enD (M i)).2.1 (enD (M i)).2.2)))) : op.quiet Tryz.prog a C K :=
  quiet_of_run _ (fun w hw => by
    have hrun := (hM w hw).look (int_keyed Tryz.underlying3) Tryz.underlying62 (ent_zero w) (int_lit i hi)
    rw [enL_getD] at hrun
    simp [execOp, ho, hm, hx, hrun]) h
theorem ent_fr {w : World} {B T : Nat} {cs : Array Value} (h : w.heap[B]? = some (.cells cs T)) (i : Nat) : w.frozen? ⟨B, i, none⟩ = false := by
  simp [World.frozen?, h]
theorem set_tail2 (l : List Value) (a b c : Value) (h : l.length = 32) : ((l ++ [a, b]).toArray).setIfInBounds 33 c = (l ++ [a, c]).toArray := by
  rw [List.setIfInBounds_toArray]
  congr 1
  rw [List.set_append_right _ _ (by omega), h]
  rfl
theorem ent_rf_set {w : World} {B T : Nat} {dg : List Int} {sl rf : Int} (hl : dg.length = 32) (h : w.heap[B]? = some (.cells (entC dg sl rf) T)) (r : Int) : (w.setCell ⟨B, 33, none⟩ (.int .i64 r)).heap[B]? = some (.cells (entC dg sl r) T) := by
  have hv : (v8 dg).length = 32 := by rw [v8_length, hl]
  have e : (entC dg sl rf).setIfInBounds 33 (.int .i64 r) = entC dg sl r := set_tail2 (v8 dg) _ _ _ hv
  rw [set_blk h, e]
theorem dg_build_x (hg : o.guard = none) (p0 p3 : Operand) (ho : o.op = .build 67 #[(0, p0), (1, .const (.int .u8 0)), (2, .const (.int .u8 1)), (31, p3)]) (s x : Int) (h0 : a.eval p0 = .int .u8 s) (h3 : a.eval p3 = .int .u8 x)
    (h : wpList Tryz.prog ops Q rest (a.put o.dst (.agg (v8a (s :: 0 :: 1 :: (zer 28 ++ [x]))))) w) : wpList Tryz.prog ops Q (o :: rest) a w := by
  refine wpList_build_to hg _ _ ho _ ?_ h
  simp only [List.map_toArray, List.map_cons, List.map_nil, h0, h3]
  exact built_x4 s x
end
set_option maxRecDepth 100000 in
theorem digest_any (x : Int) (hx : 0 ≤ x ∧ x < 256) (w : World) : Calls Tryz.prog 35 #[.int .u8 x] w fun e w' => e = .returned (.agg (v8a (digX x))) ∧ Below w.heap.size w w' := by
  obtain ⟨x0, x1⟩ := hx
  have hl : (digX x).length = 32 := by simp [digX, zer]
  have hand : bits BinOp.and IntKind.u8 x 3 = x % 4 := by
    obtain ⟨n, rfl⟩ := Int.eq_ofNat_of_zero_le x0
    have hn : n < 256 := by omega
    have key : ∀ n : Fin 256, bits BinOp.and IntKind.u8 (n.val : Int) 3 = (n.val : Int) % 4 := by decide +kernel
    exact key ⟨n, hn⟩
  have hb0 : ∀ o : Obj, Below w.heap.size w (w.alloc o) := fun o => (Below.refl _ _).alloc (Nat.le_refl _) _
  go_enter Tryz.func35, Tryz.ntmps35
  repeat ((fail_if_success (with_reducible refine stop_at 6 rfl ?_)); (first | go_values | go_skip | go_guarded | go_step | go_upon))
  refine dg_build_x rfl (.tmp 4) (.tmp 5) rfl (x % 4) x rfl rfl ?_
  simp only [Act.put, List.setIfInBounds_toArray, List.set_cons_zero, List.set_cons_succ]
  refine dg_store rfl (.tmp 2) (.tmp 6) rfl w.heap.size (digX x) (zer 32) rfl rfl (heap_alloc_new w _) hl rfl ?_
  refine gen_world (fun wx => Hid (wx.heap[w.heap.size]? = some (.cells (v8a (digX x)) 67) ∧ Below w.heap.size w wx)) (Lib.hid ⟨setRow_heap _ _ _ _ _ (0, 0) (heap_alloc_new w _), below_setRow (hb0 _) (Nat.le_refl _) _⟩) ?_
  intro w1 H1
  simp only [Act.put]
  go_wp2_with fail
  refine bodyPost_ret (results_cell_one Tryz.results35 _ _ w.heap.size 67 (v8a (digX x)) (0, 0) _ rfl H1.out.1 Tryz.underlying67 rfl (by rw [show (v8a (digX x)).size = 32 by rw [v8a, List.size_toArray, v8_length, hl]]; exact info_h32)) rfl ⟨rfl, H1.out.2⟩
end Go.Proofs.YtajmcplanlibnaaGreatDoor
