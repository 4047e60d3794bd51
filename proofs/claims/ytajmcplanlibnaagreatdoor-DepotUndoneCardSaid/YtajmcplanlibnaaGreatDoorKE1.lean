/- Prints: an entry at a place. -/
import Derived.Test.YtajmcplanlibnaaGreatDoorKB6
set_option linter.unusedSimpArgs false
set_option linter.unusedVariables false
set_option linter.unnecessarySimpa false
namespace Go.Proofs.YtajmcplanlibnaaGreatDoor
open Go.RowKit Go.Maps
def entC (dg : List Int) (slot refs : Int) : Array Value := (v8 dg ++ ([.int .i64 slot, .int .i64 refs] : List Value)).toArray
theorem entC_size {dg : List Int} (h : dg.length = 32) (slot refs : Int) : (entC dg slot refs).size = 34 := by simp [entC, v8, h]
theorem entC_one (dg : List Int) (slot refs : Int) : (entC dg slot refs).all (·.oneCell') = true := all_oneCell_toArray (fun v hv => by
  rcases List.mem_append.1 hv with hv | hv
  · exact v8_one dg v hv
  · simp at hv; rcases hv with rfl | rfl <;> rfl)
theorem info_ent : (Tryz.prog.info? 70).map (fun i => (i.zero, i.size, i.bytes)) = some (some (.agg (entC (zer 32) 0 0)), 34, 48) := by kernel_rfl
theorem info_ents : (Tryz.prog.info? 70).map (·.size) = some 34 := by kernel_rfl
theorem ent_places : ∃ (it : TypeInfo) (z : Value) (fields : Array Field), Tryz.prog.info? 70 = some it ∧ Tryz.prog.underlying 70 = some (.struct fields) ∧ it.zero = some z ∧ fields.toList.mapM (fun f => (Tryz.prog.info? f.type).map fun i => (f.offset, i.size)) = some [(0, 32), (32, 1), (33, 1)] ∧ z.cells.toList = v8 (zer 32) ++ ([.int .i64 0, .int .i64 0] : List Value) := by
  obtain ⟨it, h1, h2, h3, h4⟩ := info_parts info_ent
  refine ⟨it, _, _, h1, Tryz.underlying70, h2, by kernel_rfl, by kernel_rfl⟩
theorem built_ent (dg : List Int) (slot refs : Int) (hl : dg.length = 32) : Tryz.prog.built 70 [(0, .agg (v8a dg)), (1, .int .i64 slot), (2, .int .i64 refs)] = some (entC dg slot refs) := by
  obtain ⟨it, z, fields, h1, h2, h3, h4, h5⟩ := ent_places
  rw [built_struct h1 h2 h3 h4]
  generalize z.cells = zc at h5 ⊢
  obtain ⟨zl⟩ := zc
  dsimp only at h5
  subst h5
  have ez : (v8 (zer 32)).length = 32 := by simp [v8, zer]
  have el : (v8 dg).length = 32 := by rw [v8_length, hl]
  have e0 : (Value.agg (v8a dg)).cells = v8a dg := rfl
  have e00 : (v8a dg).size = 32 := by simp [v8a, el]
  have e1 : ∀ i, (Value.int .i64 i).cells = #[.int .i64 i] := fun _ => rfl
  rw [fill_cons (off := 0) (by rw [e0, e00]; rfl) (by rw [e0, e00]; simp [ez]), fill_cons (off := 32) (by rw [e1]; rfl) (by rw [e0, e1, e00]; simp [v8a, ez, el]), fill_cons (off := 33) (by rw [e1]; rfl) (by rw [e0, e1, e1, e00]; simp [v8a, ez, el])]
  rw [e0, e00, e1, e1]
  simp only [Instr.fill, Option.some.injEq]
  apply Array.ext'
  simp [entC, v8a, ez, el, List.take_append, List.drop_append]
  rw [List.take_of_length_le (by omega), List.drop_of_length_le (i := 33) (by omega), List.drop_of_length_le (i := 34) (by omega)]
  rfl
/-- What a page says of an entry. -/
def pDg (p : List Int) : List Int := (p.drop 8).take 32
def pSlot (p : List Int) : Int := bits BinOp.or IntKind.i64 (p.getD 1 0) (p.getD 2 0 * 256)
def pRefs (p : List Int) : Int := p.getD 3 0
def isEnt (p : List Int) : Bool := decide (p.getD 0 0 = 1)
def lookC (p : List Int) : Array Value := if isEnt p then entC (pDg p) (pSlot p) (pRefs p) else entC (zer 32) 0 0
theorem pDg_length {p : List Int} (h : p.length = 64) : (pDg p).length = 32 := by simp [pDg, h]
def tabC (bb first n : Nat) : Array Value := #[.pointer (some ⟨bb, 0, none⟩), .int .i64 (first : Int), .int .i64 (n : Int)]
/-- Block tb is a table on a book. -/
def TabI (w : World) (tb : Nat) (N : Nat → Prop) (bb first n : Nat) (B : BookS) : Prop :=
  w.heap[tb]? = some (.cells (tabC bb first n) 190) ∧ BookI w bb (fun k => N k ∨ k = tb) B ∧ ¬ N tb ∧ first + n ≤ B.n ∧ 1 ≤ n
theorem TabI.keep {w w' : World} {tb : Nat} {N N' : Nat → Prop} {bb first n : Nat} {B : BookS} (h : TabI w tb N bb first n B) (hb : Below w.heap.size w w') (hn : ∀ i, N' i → i < w'.heap.size ∧ (N i ∨ w.heap.size ≤ i)) : TabI w' tb N' bb first n B := by
  obtain ⟨h1, h2, h3, h4, h5⟩ := h
  have hl := lt_of_blk h1
  have hs := hb.size
  refine ⟨(hb.block _ hl).trans h1, h2.keep hb (fun i hi => ?_), fun hN => ?_, h4, h5⟩
  · rcases hi with hi | hi
    · rcases hn i hi with ⟨q1, q2 | q2⟩
      · exact ⟨q1, .inl (.inl q2)⟩
      · exact ⟨q1, .inr q2⟩
    · subst hi; exact ⟨by omega, .inl (.inr rfl)⟩
  · rcases (hn _ hN).2 with q | q
    · exact h3 q
    · omega
theorem TabI.N_lt {w : World} {tb : Nat} {N : Nat → Prop} {bb first n : Nat} {B : BookS} (h : TabI w tb N bb first n B) : ∀ k, N k → k < w.heap.size := fun k hk => h.2.1.N_lt k (.inl hk)
theorem TabI.below {w w' : World} {tb : Nat} {N : Nat → Prop} {bb first n : Nat} {B : BookS} (h : TabI w tb N bb first n B) (hb : Below w.heap.size w w') : TabI w' tb N bb first n B :=
  h.keep hb (fun k hk => ⟨Nat.lt_of_lt_of_le (h.N_lt k hk) hb.size, .inl hk⟩)
theorem blk3 {w : World} {B : Nat} {c0 c1 c2 : Value} {T : Nat} (h : w.heap[B]? = some (.cells #[c0, c1, c2] T)) : w.cell? ⟨B, 0, none⟩ = some c0 ∧ w.cell? ⟨B, 1, none⟩ = some c1 ∧ w.cell? ⟨B, 2, none⟩ = some c2 := by
  simp [World.cell?, h]
theorem results_cell2 {P : Program} {fn : Func} {p q s : Tmp} {ty : TypeId} (h : fn.results = #[.cell p ty, .tmp q, .tmp s]) (tmps : Array Value) (w : World) (g : Nat) (t : TypeId) (cs : Array Value) (fr : Nat × Nat) (d : TypeDesc)
    (hp : tmps.getD p undef = .pointer (some ⟨g, 0, none⟩)) (v u : Value) (hq : tmps.getD q undef = v) (hs : tmps.getD s undef = u) (hg : w.heap[g]? = some (.cells cs t fr))
    (hu : P.underlying ty = some d) (hd : (match d with | .struct _ | .array _ _ => true | _ => false) = true) (hi : (P.info? ty).map (·.size) = some cs.size) :
    (results fn tmps).run P w = .ok (.tuple #[.agg cs, v, u]) w := by
  have hp' : tmps[p]?.getD undef = .pointer (some ⟨g, 0, none⟩) := by simpa using hp
  have hq' : tmps[q]?.getD undef = v := by simpa using hq
  have hs' : tmps[s]?.getD undef = u := by simpa using hs
  simp [results, h, hp', hq', hs', asAddr, run_loadVar_row w g t ty cs fr d hg hu hd hi]
theorem page_rpart {w : World} {B T : Nat} {l : List Int} (h : w.heap[B]? = some (.cells (v8a l) T)) (o m : Nat) : w.rangeAt B o (v8 ((l.drop o).take m)) := fun j v hv => by
  have := page_part h o m j v hv
  have ea : (⟨B, o, none⟩ : Addr).add j = ⟨B, o + j, none⟩ := by unfold Addr.add; split <;> simp_all
  rw [ea] at this; exact this
set_option maxRecDepth 100000 in
set_option maxHeartbeats 4000000 in
theorem look_any (tb : Nat) (N : Nat → Prop) (bb first n : Nat) (B : BookS) (i : Nat) (hi : i < n) (w : World) (h : TabI w tb N bb first n B) :
    Calls Tryz.prog 172 #[.pointer (some ⟨tb, 0, none⟩), .int .i64 (i : Int)] w fun e w' => e = .returned (.tuple #[.agg (lookC (B.view (first + i))), .bool (isEnt (B.view (first + i))), .nilIface]) ∧ Below w.heap.size w w' := by
  have HT := Lib.hid h
  have hok := h.2.1.isOk
  have hn1 := h.2.2.2.1
  have hn2 := hok.n.2
  have HV : Hid (PgOk (B.view (first + i))) := Lib.hid (BookS.view_ok hok _ (by omega))
  have hRB := Lib.hid (fun wx (hb : Below w.heap.size w wx) => bookRead_any bb _ B (first + i) (by omega) wx ((HT.out.below hb).2.1))
  clear h hok
  have hi0 : (0 : Int) ≤ i := by omega
  have hi1 : (i : Int) < n := by omega
  have hf0 : (0 : Int) ≤ first := by omega
  have hf1 : (first : Int) + n ≤ 2048 := by omega
  go_enter Tryz.func172, Tryz.ntmps172
  repeat ((fail_if_success (with_reducible refine stop_pos "prints.go:35" rfl ?_)); (first | go_values | go_skip | go_guarded | go_step | go_upon))
  refine gen_code (fun wx => Hid (wx.heap[w.heap.size]? = some (.cells (entC (zer 32) 0 0) 70) ∧ Below w.heap.size w wx)) (Lib.hid ⟨heap_alloc_new w (.cells (entC (zer 32) 0 0) 70), (Below.refl _ _).alloc (Nat.le_refl _) _⟩) ?_
  intro w1 H1
  obtain ⟨z0, z1, z2⟩ := blk3 ((HT.out.below H1.out.2).1)
  have r0 := cell_regrown z0
  have r1 := cell_regrown z1
  have hC : ∀ wx, Below w1.heap.size w1 wx → Calls Tryz.prog 19 #[.pointer (some ⟨bb, 0, none⟩), .int .i64 ((first : Int) + (i : Int))] wx fun e w' => e = .returned (.tuple #[.agg (v8a (B.view (first + i))), .nilIface]) ∧ Below wx.heap.size wx w' := fun wx hb => by
    have h := hRB.out wx (H1.out.2.trans (hb.mono H1.out.2.size))
    rw [show ((first + i : Nat) : Int) = (first : Int) + (i : Int) by omega] at h
    exact h
  obtain ⟨pg, hpg⟩ : ∃ pg, B.view (first + i) = pg := ⟨_, rfl⟩
  rw [hpg] at HV hC
  have HPG := Lib.hid hpg
  clear hpg
  have hp64 := HV.out.1
  refine wp_region_plan (.quiet 0 (.quiet 1 (.quiet 2 (.quiet 3 (.quiet 4 (.quiet 5 (.quiet 6 (.quiet 7 (.quiet 8 (.quiet 9 (.two 10 14 (.quiet 11 (.quiet 12 (.quiet 13 (.one 14 (.one 15 (.quiet 16 .nil)))))) (.one 10 (.quiet 11 (.quiet 12 (.quiet 13 (.one 15 (.quiet 16 .nil))))))))))))))))) (fun w' => ∃ p : Regrown, w' = Go.Sort.grow (redrawn w1 p.d) p.os) (by kernel_rfl) (by kernel_rfl) (fun _ _ d _ _ h => by cases d <;> exact h) (grows_drew _) ?_
  (repeat (with_reducible refine plan_q ?_; simp only [List.drop_succ_cons, List.drop_zero, List.take_succ_cons, List.take_zero]; go_big_quiet_step (fail); with_reducible refine wpQuiet_nil ?_))
  apply tail_cut
  · intro TAIL
    with_reducible refine plan_two ?_ ?_
    · simp only [List.drop_succ_cons, List.drop_zero, List.take_succ_cons, List.take_zero]
      go_wp2_with fail
      refine (hC w1.drew (Below.refl _ _).drew).mono ?_
      rintro e wa ⟨rfl, hba1⟩
      have hba2 : Below w1.heap.size w1 wa := (Below.refl _ _).drew.trans hba1
      try dsimp only
      go_wp2_with fail
      (try with_reducible refine wpList_nil ?_); with_reducible refine mixQ_normal ?_
      refine ⟨grows_of_below hba2, ?_⟩
      (repeat (with_reducible refine plan_q ?_; simp only [List.drop_succ_cons, List.drop_zero, List.take_succ_cons, List.take_zero]; go_big_quiet_step (fail); with_reducible refine wpQuiet_nil ?_))
      with_reducible refine plan_a ?_; simp only [List.drop_succ_cons, List.drop_zero, List.take_succ_cons, List.take_zero]
      have hbo : ∀ o : Obj, Below w1.heap.size w1 (wa.alloc o) := fun o => hba2.alloc hba2.size _
      have hsa := hba2.size
      go_wp2_with fail
      (try with_reducible refine wpList_nil ?_); with_reducible refine mixQ_normal ?_
      refine ⟨grows_of_below (hbo _), ?_⟩
      refine gen_plan (fun wx => Hid (wx.heap[wa.heap.size]? = some (.cells (v8a (zer 64)) 37) ∧ Below w1.heap.size w1 wx)) (Lib.hid ⟨heap_alloc_new wa (.cells (v8a (zer 64)) 37), hbo _⟩) ?_
      generalize wa.heap.size = box at hsa ⊢
      intro wb HA
      revert box wb
      exact TAIL
    · simp only [List.drop_succ_cons, List.drop_zero, List.take_succ_cons, List.take_zero]
      have hbo : ∀ o : Obj, Below w1.heap.size w1 (w1.drew.alloc o) := fun o => (Below.refl _ _).drew.alloc (Nat.le_refl _) _
      go_wp2_with fail
      (try with_reducible refine wpList_nil ?_); with_reducible refine mixQ_normal ?_
      refine ⟨grows_of_below (hbo _), ?_⟩
      refine gen_plan (fun wx => Hid (wx.heap[w1.heap.size]? = some (.cells (v8a (zer 64)) 37) ∧ Below w1.heap.size w1 wx)) (Lib.hid ⟨heap_alloc_new w1.drew (.cells (v8a (zer 64)) 37), hbo _⟩) ?_
      intro wa HA
      with_reducible refine plan_a ?_; simp only [List.drop_succ_cons, List.drop_zero, List.take_succ_cons, List.take_zero]
      go_wp2_with fail
      refine (hC wa HA.out.2).mono ?_
      rintro e wb ⟨rfl, hbb1⟩
      have hbb2 : Below w1.heap.size w1 wb := HA.out.2.trans (hbb1.mono HA.out.2.size)
      have HB : Hid (wb.heap[w1.heap.size]? = some (.cells (v8a (zer 64)) 37) ∧ Below w1.heap.size w1 wb) := Lib.hid ⟨(hbb1.block _ (lt_of_blk HA.out.1)).trans HA.out.1, hbb2⟩
      try dsimp only
      go_wp2_with fail
      (try with_reducible refine wpList_nil ?_); with_reducible refine mixQ_normal ?_
      refine ⟨grows_of_below hbb2, ?_⟩
      (repeat (with_reducible refine plan_q ?_; simp only [List.drop_succ_cons, List.drop_zero, List.take_succ_cons, List.take_zero]; go_big_quiet_step (fail); with_reducible refine wpQuiet_nil ?_))
      exact TAIL _ (Nat.le_refl _) wb HB
  intro box hsa wb HA
  with_reducible refine plan_a ?_; simp only [List.drop_succ_cons, List.drop_zero, List.take_succ_cons, List.take_zero]
  refine page_store rfl (.tmp 7) (.tmp 21) rfl box pg (zer 64) rfl rfl HA.out.1 hp64 rfl ?_
  refine gen_world (fun wx => Hid (wx.heap[box]? = some (.cells (v8a pg) 37) ∧ w1.heap.size ≤ box ∧ Below w1.heap.size w1 wx)) (Lib.hid ⟨setRow_heap _ _ _ _ _ (0, 0) HA.out.1, hsa, below_setRow HA.out.2 hsa _⟩) ?_
  clear HA
  intro wc HC
  simp only [Act.put, List.setIfInBounds_toArray, List.set_cons_zero, List.set_cons_succ]
  (try with_reducible refine wpList_nil ?_); with_reducible refine mixQ_normal ?_
  refine ⟨grows_of_below HC.out.2.2, ?_⟩
  (repeat (with_reducible refine plan_q ?_; simp only [List.drop_succ_cons, List.drop_zero, List.take_succ_cons, List.take_zero]; go_big_quiet_step (fail); with_reducible refine wpQuiet_nil ?_))
  with_reducible refine plan_nil ?_
  obtain ⟨c0, f0⟩ := v8_cell HC.out.1 0 (by omega)
  obtain ⟨c1, f1⟩ := v8_cell HC.out.1 1 (by omega)
  obtain ⟨c2, f2⟩ := v8_cell HC.out.1 2 (by omega)
  obtain ⟨c3, f3⟩ := v8_cell HC.out.1 3 (by omega)
  have u0 := HV.out.2.at 0
  have u1 := HV.out.2.at 1
  have u2 := HV.out.2.at 2
  have u3 := HV.out.2.at 3
  have hb4 := HC.out.2.2.block _ (lt_of_blk H1.out.1)
  have H4 : Hid (wc.heap[w.heap.size]? = some (.cells (entC (zer 32) 0 0) 70) ∧ Below w.heap.size w wc) := Lib.hid ⟨hb4.trans H1.out.1, H1.out.2.trans (HC.out.2.2.mono H1.out.2.size)⟩
  clear hb4
  by_cases he : pg.getD 0 0 = 1
  · have hl : lookC pg = entC (pDg pg) (pSlot pg) (pRefs pg) := by unfold lookC isEnt; rw [he]; rfl
    have hie : isEnt pg = true := by unfold isEnt; rw [he]; rfl
    rw [he] at c0
    go_wp2_with fail
    have hRw : w.heap.size < wc.heap.size := lt_of_blk H4.out.1
    have hbw : w.heap.size ≠ box := by have := lt_of_blk H1.out.1; have := HC.out.2.1; omega
    have q1 := cellB (R := w.heap.size) c1 (by simp; omega)
    have q2 := cellB (R := w.heap.size) c2 (by simp; omega)
    have q3 := cellB (R := w.heap.size) c3 (by simp; omega)
    obtain ⟨u1a, u1b⟩ := u1
    obtain ⟨u2a, u2b⟩ := u2
    obtain ⟨u3a, u3b⟩ := u3
    have HSL : Hid (pSlot pg = bits BinOp.or IntKind.i64 (pg.getD 1 0) (pg.getD 2 0 * 256)) := Lib.hid rfl
    have HRF : Hid (pRefs pg = pg.getD 3 0) := Lib.hid rfl
    generalize pg.getD 1 0 = x1 at *
    generalize pg.getD 2 0 = x2 at *
    generalize pg.getD 3 0 = x3 at *
    refine wp_region_mix [(0, true), (3, true), (4, true), (5, true), (6, true), (7, true), (8, true), (9, true), (10, true), (11, true), (12, true), (13, true), (1, false), (2, true), (14, true), (15, false), (16, true), (17, true)] 17 (fun w' => ∃ p : RegrownB, w' = setO (Go.Sort.grow (redrawn wc p.d) p.os) (w.heap.size) p.o) (by kernel_rfl) (by kernel_rfl) (fun _ _ d _ _ h => by cases d <;> exact h) (growsB_drew hRw) ?_
    (repeat (with_reducible refine mix_q ?_; simp only [List.drop_succ_cons, List.drop_zero, List.take_succ_cons, List.take_zero]; go_big_quiet_step (fail); with_reducible refine wpQuiet_nil ?_))
    with_reducible refine mix_a ?_; simp only [List.drop_succ_cons, List.drop_zero, List.take_succ_cons, List.take_zero]
    have haa : ∀ wx : World, (Instr.arrayAt 67 (.slice (some ⟨box, 8, none⟩) 32 56)).run Tryz.prog wx = .ok (.pointer (some ⟨box, 8, none⟩)) wx := fun _ => by kernel_rfl
    go_wp2_with fail
    try with_reducible refine wpList_nil ?_
    with_reducible refine mixQ_normal ?_
    refine ⟨fun _ => growsB_of hRw (grown_of_below (Below.refl _ _).drew _), ?_⟩
    have HDL : Hid ((pDg pg).length = 32) := Lib.hid (pDg_length hp64)
    have HDR : Hid (∀ wx : World, wx.heap[box]? = some (.cells (v8a pg) 37) → wx.rangeAt box 8 (v8 (pDg pg))) := Lib.hid (fun wx hx => page_rpart hx 8 32)
    rw [← HSL.out, ← HRF.out]
    clear q1 q2 q3 c1 c2 c3 f1 f2 f3 c0 f0 u0 u3a u3b
    generalize pDg pg = dg at HDL HDR hl
    generalize pSlot pg = sl at hl
    generalize pRefs pg = rf at hl
    with_reducible refine mix_q ?_
    simp only [List.drop_succ_cons, List.drop_zero, List.take_succ_cons, List.take_zero]
    go_big_quiet_want
    refine quiet_load_mid 67 (.tmp 34) rfl box 8 rfl (v8 dg) _ (fun w' hw' => HDR.out w' (blk_regrownB HC.out.1 (fun e => hbw e.symm) w' hw')) Tryz.underlying67 rfl (by rw [v8_length, HDL.out]; exact info_h32) ?_
    simp only [Act.put, List.setIfInBounds_toArray, List.set_cons_zero, List.set_cons_succ]
    go_big_quiet_on
    with_reducible refine wpQuiet_nil ?_
    with_reducible refine mix_q ?_
    simp only [List.drop_succ_cons, List.drop_zero, List.take_succ_cons, List.take_zero]
    go_big_quiet_want
    refine quiet_build_to 70 _ rfl (entC dg sl rf) ?hb ?_
    case hb => simp only [List.map_toArray, List.map_cons, List.map_nil]; exact built_ent dg sl rf HDL.out
    simp only [Act.put, List.setIfInBounds_toArray, List.set_cons_zero, List.set_cons_succ]
    go_big_quiet_on
    with_reducible refine wpQuiet_nil ?_
    with_reducible refine mix_a ?_; simp only [List.drop_succ_cons, List.drop_zero, List.take_succ_cons, List.take_zero]
    have hes := entC_size HDL.out sl rf
    refine wpList_store_row rfl 70 (.tmp 4) (.tmp 47) rfl w.heap.size (entC dg sl rf) rfl rfl 70 (entC (zer 32) 0 0) (show wc.drew.heap[w.heap.size]? = _ from H4.out.1) (by rw [hes]; exact info_ents) (by rw [hes]; rfl) (entC_one _ _ _) ?_
    have hg7 : wc.grownBy (wc.drew.setRow w.heap.size (entC dg sl rf)) (some w.heap.size) := grown_trans (grown_of_below (Below.refl _ _).drew _) (grown_row wc.drew w.heap.size _)
    refine gen_world (fun wx => Hid (wx.heap[w.heap.size]? = some (.cells (entC dg sl rf) 70) ∧ Below w.heap.size w wx ∧ wc.grownBy wx (some w.heap.size))) (Lib.hid ⟨setRow_heap _ _ _ _ _ (0, 0) (show wc.drew.heap[w.heap.size]? = _ from H4.out.1), below_setRow H4.out.2.drew (Nat.le_refl _) _, hg7⟩) ?_
    intro wd HD
    simp only [Act.put, List.setIfInBounds_toArray, List.set_cons_zero, List.set_cons_succ]
    with_reducible refine wpList_nil ?_
    with_reducible refine mixQ_normal ?_
    refine ⟨fun _ => growsB_of hRw HD.out.2.2, ?_⟩
    (repeat (with_reducible refine mix_q ?_; simp only [List.drop_succ_cons, List.drop_zero, List.take_succ_cons, List.take_zero]; go_big_quiet_step (fail); with_reducible refine wpQuiet_nil ?_))
    with_reducible refine mix_nil ?_
    go_wp2_with fail
    refine bodyPost_ret (results_cell2 Tryz.results172 _ _ w.heap.size 70 (entC dg sl rf) (0, 0) _ rfl (.bool true) .nilIface rfl rfl HD.out.1 Tryz.underlying70 rfl (by rw [hes]; exact info_ents)) rfl ⟨by rw [HPG.out, hl, hie], HD.out.2.1⟩
  · have hie : isEnt pg = false := decide_eq_false he
    have hl : lookC pg = entC (zer 32) 0 0 := by unfold lookC; rw [hie]; rfl
    obtain ⟨x0, hx0⟩ : ∃ x0, pg.getD 0 0 = x0 := ⟨_, rfl⟩
    rw [hx0] at c0 he u0
    clear hx0
    repeat ((fail_if_success (with_reducible refine stop_pos "prints.go:36" rfl ?_)); (first | go_values | go_skip | go_guarded | go_step | go_upon))
    repeat ((fail_if_success (with_reducible refine stop_pos "prints.go:37" rfl ?_)); (first | go_values | go_skip | go_guarded | go_step | go_upon))
    go_wp2_with fail
    refine (woe_nil _ wc).mono ?_
    rintro e wd ⟨rfl, rfl⟩
    try dsimp only
    go_wp2_with (refine wpList_store_row rfl 70 (.tmp 4) (.tmp 30) rfl w.heap.size _ rfl rfl 70 (entC (zer 32) 0 0) H4.out.1 ?s2 ?s3 ?s4 ?_)
    case s2 => exact info_ents
    case s3 => rfl
    case s4 => kernel_rfl
    refine bodyPost_ret (results_cell2 Tryz.results172 _ _ w.heap.size 70 (entC (zer 32) 0 0) (0, 0) _ rfl (.bool false) .nilIface rfl rfl (setRow_heap _ _ _ _ _ (0, 0) H4.out.1) Tryz.underlying70 rfl info_ents) rfl ⟨by rw [HPG.out, hl, hie], below_setRow H4.out.2 (Nat.le_refl _) _⟩
end Go.Proofs.YtajmcplanlibnaaGreatDoor
