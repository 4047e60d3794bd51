/- Prints: where a digest is looked for first; what is asked of an entry. -/
import Derived.Test.YtajmcplanlibnaaGreatDoorKE1
set_option linter.unusedSimpArgs false
set_option linter.unusedVariables false
set_option linter.unnecessarySimpa false
namespace Go.Proofs.YtajmcplanlibnaaGreatDoor
open Go.RowKit Go.Maps
def dgN (d : List Int) : Nat := (bits BinOp.or IntKind.i64 (d.getD 0 0) (d.getD 1 0 * 256)).toNat
theorem dgN_eq (d : List Int) (h : U8s d) : bits BinOp.or IntKind.i64 (d.getD 0 0) (d.getD 1 0 * 256) = (dgN d : Int) ∧ dgN d ≤ 65535 := by
  obtain ⟨k, h1, h2⟩ := or16 (d.getD 0 0) (d.getD 1 0) (h.at 0) (h.at 1)
  unfold dgN
  rw [h1]
  exact ⟨by simp, by simpa using h2⟩
theorem row_cell {w : World} {B T : Nat} {l : List Int} (h : w.heap[B]? = some (.cells (v8a l) T)) (i : Nat) (hi : i < l.length) : w.cell? ⟨B, i, none⟩ = some (.int .u8 (l.getD i 0)) := (v8_cell h i hi).1
set_option maxRecDepth 100000 in
set_option maxHeartbeats 1000000 in
theorem thome_any (tb : Nat) (N : Nat → Prop) (bb first n : Nat) (B : BookS) (d : List Int) (hd : d.length = 32 ∧ U8s d) (w : World) (h : TabI w tb N bb first n B) (hn : n ≤ 2048) :
    Calls Tryz.prog 219 #[.pointer (some ⟨tb, 0, none⟩), .agg (v8a d)] w fun e w' => e = .returned (.int .i64 ((dgN d % n : Nat) : Int)) ∧ Below w.heap.size w w' := by
  have HT := Lib.hid h
  have hn1 := h.2.2.2.2
  clear h
  have hb0 : ∀ o : Obj, Below w.heap.size w (w.alloc o) := fun o => (Below.refl _ _).alloc (Nat.le_refl _) _
  go_enter Tryz.func219, Tryz.ntmps219
  repeat ((fail_if_success (with_reducible refine stop_pos "prints.go:68" rfl ?_)); (first | go_values | go_skip | go_guarded | go_step | go_upon))
  repeat (first | go_values | go_skip | go_guarded | go_step | go_upon)
  refine gen_code (fun wx => Hid (wx.heap[w.heap.size]? = some (.cells (v8a d) 67) ∧ Below w.heap.size w wx)) (Lib.hid ⟨heap_alloc_new w (.cells (v8a d) 67), hb0 _⟩) ?_
  clear hb0
  intro w1 H1
  obtain ⟨z0, z1, z2⟩ := blk3 ((HT.out.below H1.out.2).1)
  have c0 := row_cell H1.out.1 0 (by omega)
  have c1 := row_cell H1.out.1 1 (by omega)
  have u0 := hd.2.at 0
  have u1 := hd.2.at 1
  obtain ⟨hq, hq2⟩ := dgN_eq d hd.2
  have HQ := Lib.hid hq
  clear hq
  generalize d.getD 0 0 = x0 at *
  generalize d.getD 1 0 = x1 at *
  obtain ⟨u0a, u0b⟩ := u0
  obtain ⟨u1a, u1b⟩ := u1
  have r2 := cell_regrown z2
  have k0 := cell_regrown c0
  have k1 := cell_regrown c1
  have g0 : (n : Int) ≠ 0 := by omega
  have hbits : bits BinOp.or IntKind.i64 x0 (x1 * 256) % (n : Int) = ((dgN d % n : Nat) : Int) := by rw [HQ.out]; omega
  have hn0 : (0 : Int) < n := by omega
  refine wp_region_quiet_below (by kernel_rfl) (by kernel_rfl) ?_
  (repeat (go_big_quiet_step (fail)))
  refine wpQuiet_nil ?_
  intro wq hwq
  have hq := below_of_regrown hwq
  clear hwq
  go_wp2_with fail
  go_ret
  refine ⟨?_, H1.out.2.trans (hq.mono H1.out.2.size)⟩
  show Ending.returned (.int .i64 ((bits BinOp.or IntKind.i64 x0 (x1 * 256)).tmod n)) = _
  rw [HQ.out, Int.tmod_eq_emod_of_nonneg (by omega), ← Int.natCast_emod]
theorem guard_h32 : Tryz.prog.eqGuardType Tryz.prog.depth 67 = false := by kernel_rfl
theorem h32_eql (w : World) (x y : List Int) (hx : x.length = 32) (hy : y.length = 32) : (binOp .eql 67 (.agg (v8a x)) (.agg (v8a y))).run Tryz.prog w = .ok (.bool (decide (x = y))) w := by
  obtain ⟨i, hi⟩ := info_u8'
  exact run_eql_u8 Tryz.underlying67 hi cells_u8 plain_u8 Tryz.underlying5 w x y hx hy
section
variable {ops : Array Oper} {rest : List Oper} {o : Oper} {a : Act} {w : World} {Q : Exit → Act → World → Prop}
theorem dg_eql (hgd : o.guard = none) (x y : Operand) (t2 : TypeId) (ho : o.op = .binOp .eql 67 x y t2) (p q : List Int) (hx : a.eval x = .agg (v8a p)) (hy : a.eval y = .agg (v8a q)) (hp : p.length = 32) (hq : q.length = 32)
    (h : wpList Tryz.prog ops Q rest (a.put o.dst (.bool (decide (p = q)))) w) : wpList Tryz.prog ops Q (o :: rest) a w := by
  refine wpList_plain hgd fun K' hK' => ?_
  unfold Oper.wp execOp
  simp only [ho, hx, hy, Sem.run_bind, run_eqGuard_agg w .eql _ x y (v8a p) (v8a q) guard_h32, h32_eql w p q hp hq, Result.andThen_ok]
  exact hK' _ _ h
theorem dg_load (hgd : o.guard = none) (x : Operand) (ho : o.op = .load 67 x) (g off : Nat) (p : List Int) (hx : a.eval x = .pointer (some ⟨g, off, none⟩)) (hg : w.rangeAt g off (v8 p)) (hp : p.length = 32)
    (h : wpList Tryz.prog ops Q rest (a.put o.dst (.agg (v8a p))) w) : wpList Tryz.prog ops Q (o :: rest) a w :=
  wpList_load_mid hgd _ x ho g off hx (v8 p) _ hg Tryz.underlying67 rfl (by rw [v8_length, hp]; exact info_h32) h
theorem quiet_dg {op : Oper} {C : World → Prop} {K : Act → Prop} (x : Operand) (ho : op.op = .load 67 x) (g : Nat) (p : List Int) (hx : a.eval x = .pointer (some ⟨g, 0, none⟩)) (hS : ∀ w, C w → w.heap[g]? = some (.cells (v8a p) 67)) (hp : p.length = 32)
    (h : K (a.put op.dst (.agg (v8a p)))) : op.quiet Tryz.prog a C K :=
  quiet_load_mid _ x ho g 0 hx (v8 p) _ (fun w hw => row_range (hS w hw)) Tryz.underlying67 rfl (by rw [v8_length, hp]; exact info_h32) h
theorem ent_load (hgd : o.guard = none) (x : Operand) (ho : o.op = .load 70 x) (g : Nat) (dg : List Int) (sl rf : Int) (hx : a.eval x = .pointer (some ⟨g, 0, none⟩)) (hg : w.heap[g]? = some (.cells (entC dg sl rf) 70)) (hp : dg.length = 32)
    (h : wpList Tryz.prog ops Q rest (a.put o.dst (.agg (entC dg sl rf))) w) : wpList Tryz.prog ops Q (o :: rest) a w :=
  wpList_load_row hgd _ x ho g hx _ (entC dg sl rf) (0, 0) _ hg Tryz.underlying70 rfl (by rw [entC_size hp]; exact info_ents) h
theorem ent_store (hgd : o.guard = none) (x y : Operand) (ho : o.op = .store 70 x y) (g : Nat) (dg dg' : List Int) (sl rf sl' rf' : Int) (hx : a.eval x = .pointer (some ⟨g, 0, none⟩)) (hy : a.eval y = .agg (entC dg sl rf)) (hg : w.heap[g]? = some (.cells (entC dg' sl' rf') 70)) (hp : dg.length = 32) (hq : dg'.length = 32)
    (h : wpList Tryz.prog ops Q rest (a.put o.dst undef) (w.setRow g (entC dg sl rf))) : wpList Tryz.prog ops Q (o :: rest) a w :=
  wpList_store_row hgd _ x y ho g (entC dg sl rf) hx hy _ (entC dg' sl' rf') hg (by rw [entC_size hp]; exact info_ents) (by rw [entC_size hp, entC_size hq]) (entC_one _ _ _) h
end
theorem ent_rdg {w : World} {B T : Nat} {dg : List Int} {sl rf : Int} (h : w.heap[B]? = some (.cells (entC dg sl rf) T)) : w.rangeAt B 0 (v8 dg) := fun j v hv => by
  have hj : j < (v8 dg).length := (List.getElem?_eq_some_iff.1 hv).1
  rw [cell_of_row w B (0 + j) _ T (0, 0) h]
  simp only [entC, Nat.zero_add, List.getElem?_toArray]
  rw [List.getElem?_append_left hj]; exact hv
theorem ent_cells {w : World} {B T : Nat} {dg : List Int} {sl rf : Int} (hl : dg.length = 32) (h : w.heap[B]? = some (.cells (entC dg sl rf) T)) : w.cell? ⟨B, 32, none⟩ = some (.int .i64 sl) ∧ w.cell? ⟨B, 33, none⟩ = some (.int .i64 rf) := by
  have e : (v8 dg).length = 32 := by rw [v8_length, hl]
  constructor
  · rw [cell_of_row w B 32 _ T (0, 0) h]; simp [entC, List.getElem?_append, e]
  · rw [cell_of_row w B 33 _ T (0, 0) h]; simp [entC, List.getElem?_append, e]
set_option maxRecDepth 100000 in
set_option maxHeartbeats 1000000 in
theorem findFn_any (cb : Nat) (d dg : List Int) (sl rf : Int) (hd : d.length = 32) (hg : dg.length = 32) (w : World) (h : w.heap[cb]? = some (.cells (v8a d) 67)) :
    Calls Tryz.prog 171 #[.agg (entC dg sl rf), .pointer (some ⟨cb, 0, none⟩)] w fun e w' => e = .returned (.bool (decide (dg = d) && decide (rf < 15))) ∧ Below w.heap.size w w' := by
  have HB := Lib.hid h
  have hb0 : ∀ o : Obj, Below w.heap.size w (w.alloc o) := fun o => (Below.refl _ _).alloc (Nat.le_refl _) _
  clear h
  go_enter Tryz.func171, Tryz.ntmps171
  repeat ((fail_if_success (with_reducible refine stop_at 4 rfl ?_)); (first | go_values | go_skip | go_guarded | go_step | go_upon))
  refine gen_world (fun wx => Hid (wx.heap[w.heap.size]? = some (.cells (entC dg sl rf) 70) ∧ Below w.heap.size w wx)) (Lib.hid ⟨heap_alloc_new w (.cells (entC dg sl rf) 70), hb0 _⟩) ?_
  clear hb0
  intro w1 H1
  obtain ⟨c1, c2⟩ := ent_cells hg H1.out.1
  have hcb := (H1.out.2.block _ (lt_of_blk HB.out)).trans HB.out
  by_cases he : dg = d
  · have hde : decide (dg = d) = true := decide_eq_true he
    go_wp2_with (first | (refine dg_load rfl (.tmp 4) rfl w.heap.size 0 dg rfl (ent_rdg H1.out.1) hg ?_) | (refine dg_load rfl (.tmp 1) rfl cb 0 d rfl (row_range hcb) hd ?_) | (refine dg_eql rfl (.tmp 5) (.tmp 6) _ rfl dg d rfl rfl hg hd ?_; simp only [hde]))
    go_ret
    exact ⟨by rw [hde]; simp, H1.out.2⟩
  · have hde : decide (dg = d) = false := decide_eq_false he
    go_wp2_with (first | (refine dg_load rfl (.tmp 4) rfl w.heap.size 0 dg rfl (ent_rdg H1.out.1) hg ?_) | (refine dg_load rfl (.tmp 1) rfl cb 0 d rfl (row_range hcb) hd ?_) | (refine dg_eql rfl (.tmp 5) (.tmp 6) _ rfl dg d rfl rfl hg hd ?_; simp only [hde]))
    go_ret
    exact ⟨by rw [hde]; simp, H1.out.2⟩
set_option maxRecDepth 100000 in
set_option maxHeartbeats 1000000 in
theorem slotFn_any (cb : Nat) (s : Int) (dg : List Int) (sl rf : Int) (hg : dg.length = 32) (w : World) (h : w.heap[cb]? = some (.cells #[.int .i64 s] 3)) :
    Calls Tryz.prog 174 #[.agg (entC dg sl rf), .pointer (some ⟨cb, 0, none⟩)] w fun e w' => e = .returned (.bool (decide (sl = s))) ∧ Below w.heap.size w w' := by
  have HB := Lib.hid h
  have hb0 : ∀ o : Obj, Below w.heap.size w (w.alloc o) := fun o => (Below.refl _ _).alloc (Nat.le_refl _) _
  clear h
  go_enter Tryz.func174, Tryz.ntmps174
  repeat ((fail_if_success (with_reducible refine stop_at 4 rfl ?_)); (first | go_values | go_skip | go_guarded | go_step | go_upon))
  refine gen_world (fun wx => Hid (wx.heap[w.heap.size]? = some (.cells (entC dg sl rf) 70) ∧ Below w.heap.size w wx)) (Lib.hid ⟨heap_alloc_new w (.cells (entC dg sl rf) 70), hb0 _⟩) ?_
  clear hb0
  intro w1 H1
  obtain ⟨c1, c2⟩ := ent_cells hg H1.out.1
  have hcb : w1.cell? ⟨cb, 0, none⟩ = some (.int .i64 s) := by
    have := (H1.out.2.block _ (lt_of_blk HB.out)).trans HB.out
    simp [World.cell?, this]
  go_wp2_with fail
  go_ret
  have he : (sl == s) = decide (sl = s) := by by_cases h : sl = s <;> simp [h]
  exact ⟨by simp [he], H1.out.2⟩
set_option maxRecDepth 100000 in
theorem freeFn_any (w : World) : Calls Tryz.prog 170 #[] w fun e w' => e = .returned (.bool true) ∧ w = w' := by
  go_enter Tryz.func170, Tryz.ntmps170
  go_wp2_with fail
  go_ret
  exact ⟨rfl, rfl⟩
end Go.Proofs.YtajmcplanlibnaaGreatDoor
