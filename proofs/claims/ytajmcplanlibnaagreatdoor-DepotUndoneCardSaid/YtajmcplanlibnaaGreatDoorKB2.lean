/- A book: a page is read. -/
import Derived.Test.YtajmcplanlibnaaGreatDoorKB1
set_option linter.unusedSimpArgs false
set_option linter.unusedVariables false
set_option linter.unnecessarySimpa false
namespace Go.Proofs.YtajmcplanlibnaaGreatDoor
open Go.RowKit Go.Maps
theorem run_look_nil {P : Program} {t k e : TypeId} (w : World) (K : Keyed P k) (ht : P.underlying t = some (.map k e)) {z : Value} (hz : (zeroValue e).run P w = .ok z w) {key : Value} {kl : Lit} (hkey : keyOf P k key = some kl) :
    (Instr.lookup t (.map none) key true).run P w = .ok (.tuple #[z, .bool false]) w := by
  rcases K.find w hkey [] (by intro x hx; cases hx) with ⟨h1, h2⟩ | ⟨j, e0, h1, h2, h3⟩
  · simp [Instr.lookup, run_underlying ht, K.check w _ hkey, h1, hz, Result.andThen]
  · cases h2
theorem zero_page (w : World) : (zeroValue 37).run Tryz.prog w = .ok (.agg (v8a (zer 64))) w := by kernel_rfl
def pgD (o : Option (List Int)) : List Int := o.getD (zer 64)
theorem pgD_agg (o : Option (List Int)) : ((o.map fun p => Value.agg (v8a p)).getD (.agg (v8a (zer 64)))) = .agg (v8a (pgD o)) := by cases o <;> rfl
/-- 'p, ok := b.open[i]', where there may be no map. -/
theorem wpList_look_open (w : World) {ops : Array Oper} {rest : List Oper} {o : Oper} {a : Act} {Q : Exit → Act → World → Prop}
    (hg : o.guard = none) (m x : Operand) (hop : o.op = Op.lookup 142 m x true) (ov : Value) (n : Nat) (f : Option PgF) (hm : a.eval m = ov) (h : OpenI w ov n f) (i : Nat) (hi : i ≤ 10000) (hx : a.eval x = .int .i64 (i : Int))
    (hK : wpList Tryz.prog ops Q rest (a.put o.dst (.tuple #[.agg (v8a (pgD (f.bind fun f => f i))), .bool (f.bind fun f => f i).isSome])) w) : wpList Tryz.prog ops Q (o :: rest) a w := by
  cases f with
  | none =>
    unfold OpenI at h
    subst h
    refine wpList_plain hg fun K' hK' => ?_
    have hrun := run_look_nil (P := Tryz.prog) w (int_keyed Tryz.underlying3) Tryz.underlying142 (zero_page w) (int_key (i : Int) (by omega))
    unfold Oper.wp
    simp [execOp, hop, hm, hx, hrun, Result.andThen]
    exact hK' _ _ hK
  | some f =>
    obtain ⟨ob, rfl, h2⟩ := h
    refine wpList_look_ok_is w hg m x _ hop 3 37 (int_keyed Tryz.underlying3) Tryz.underlying142 (.agg (v8a (zer 64))) (zero_page w) ob _ (pgL f) hm h2 (.int .i64 (i : Int)) (.int .i64 (i : Int)) hx (int_key _ (by omega)) ?_
    rw [pgL_at, pgD_agg]
    have e : ((f i).map fun p => Value.agg (v8a p)).isSome = (f i).isSome := by cases f i <;> rfl
    rw [e]
    exact hK
def RdX (w : World) (b1 : Nat) (pg : List Int) (wx : World) : Prop := wx.heap[w.heap.size]? = some (.cells (v8a (zer 64)) 37) ∧ wx.heap[b1]? = some (.cells (v8a pg) 37) ∧ w.heap.size < b1 ∧ Below w.heap.size w wx
theorem RdX.make {w w1 : World} (h0 : w1.heap[w.heap.size]? = some (.cells (v8a (zer 64)) 37)) (hb : Below w.heap.size w w1) (cs0 : Array Value) (pg : List Int) : RdX w w1.heap.size pg ((w1.alloc (.cells cs0 37)).setRow w1.heap.size (v8a pg)) := by
  have h1 := lt_of_blk h0
  refine ⟨?_, setRow_heap _ _ _ _ _ (0, 0) (heap_alloc_new w1 _), h1, below_setRow (hb.alloc hb.size _) hb.size _⟩
  rw [setRow_other _ _ _ _ (by omega), heap_alloc_old _ _ h1]; exact h0
set_option maxRecDepth 100000 in
set_option maxHeartbeats 2000000 in
theorem bookRead_any (bb : Nat) (N : Nat → Prop) (B : BookS) (i : Nat) (hi : i < B.n) (w : World) (h : BookI w bb N B) :
    Calls Tryz.prog 19 #[.pointer (some ⟨bb, 0, none⟩), .int .i64 (i : Int)] w fun e w' => e = .returned (.tuple #[.agg (v8a (B.view i)), .nilIface]) ∧ Below w.heap.size w w' := by
  obtain ⟨db, rb, nb, ov, hX⟩ := h
  have HX := Lib.hid hX
  have hok := hX.ok
  obtain ⟨hn1, hn2⟩ := hok.n
  have hz1 := hok.size.2
  have hroom := hok.room
  have HV : Hid (PgOk (B.view i)) := Lib.hid (BookS.view_ok hok i hi)
  have hi0 : (0 : Int) ≤ i := by omega
  have hi1 : (i : Int) < B.n := by omega
  have hi2 : (B.n : Int) ≤ 2048 := by omega
  have hs1 : (B.size : Int) ≤ 4096 := by omega
  have hs0 : (0 : Int) ≤ B.size := by omega
  clear hX hok
  go_enter Tryz.func19, Tryz.ntmps19
  repeat (fail_if_success (with_reducible refine stop_pos "pages.go:100" rfl ?_)
          first | go_values | go_skip | go_guarded | go_step | go_upon)
  refine gen_world (fun wx => Hid (wx.heap[w.heap.size]? = some (.cells (v8a (zer 64)) 37) ∧ Below w.heap.size w wx)) (Lib.hid ⟨heap_alloc_new w _, (Below.refl _ _).alloc (Nat.le_refl _) _⟩) ?_
  intro w1 H1
  have HX1 : Hid (BookX w1 bb N B db rb nb ov) := Lib.hid (HX.out.keep H1.out.2 (fun k hk => ⟨Nat.lt_of_lt_of_le (HX.out.N_lt k hk) H1.out.2.size, .inl hk⟩))
  obtain ⟨z0, z1, z2, z3, z4, z5, z6, z7, _⟩ := book_cells HX1.out.cells
  have HN : Hid (OpenI w1 (.map (some nb)) B.n (some B.news)) := Lib.hid ⟨nb, rfl, HX1.out.news⟩
  have HOP := HX1.out.opn
  obtain ⟨oA, hA⟩ : ∃ oA, B.opn.bind (fun f => f i) = oA := ⟨_, rfl⟩
  have HPA : Hid (∀ p, oA = some p → PgOk p) := Lib.hid (fun p hp => by
    subst hp
    cases ho : B.opn with
    | none => rw [ho] at hA; cases hA
    | some f => rw [ho] at hA; exact (HX1.out.ok.opn f ho i p hA).2)
  have HLA : Hid (PgOk (pgD oA)) := Lib.hid (by
    cases oA with
    | none => exact zer_pg
    | some p => exact HPA.out p rfl)
  have hsz : (v8a (pgD oA)).size = 64 := by simp [v8a, v8, HLA.out.1]
  repeat ((fail_if_success (with_reducible refine stop_at 47 rfl ?_)); (first | (first | (at_lookup; refine wpList_look_open _ rfl _ _ rfl ov B.n B.opn rfl HOP i (by omega) rfl ?_; simp only [hA]) | (refine wpList_store_row rfl 37 (.tmp 6) (.tmp 45) rfl w1.heap.size (v8a (pgD oA)) rfl rfl 37 (v8a (zer 64)) (heap_alloc_new w1 _) (by rw [hsz]; exact info_pgs) (by rw [hsz]; simp [v8a, v8, zer]) (v8a_one _) ?_)) | go_values | go_skip | go_guarded | go_step | go_upon))
  refine gen_world (fun wx => Hid (RdX w w1.heap.size (pgD oA) wx)) (Lib.hid (RdX.make H1.out.1 H1.out.2 _ _)) ?_
  generalize w1.heap.size = b1
  clear z0 z1 z2 z3 z4 z5 z6 z7 H1 HX1 HN HOP
  intro w2 H2
  have HX2 : Hid (BookX w2 bb N B db rb nb ov) := Lib.hid (HX.out.keep H2.out.2.2.2 (fun k hk => ⟨Nat.lt_of_lt_of_le (HX.out.N_lt k hk) H2.out.2.2.2.size, .inl hk⟩))
  cases oA with
  | some p =>
    have HE : Hid (B.view i = p) := Lib.hid (by unfold BookS.view; rw [hA])
    have hsz : (v8a p).size = 64 := by simp [v8a, v8, (HPA.out p rfl).1]
    have HLN : Hid ((v8 p).length = 64) := Lib.hid (by simp [v8, (HPA.out p rfl).1])
    rw [show pgD (some p) = p from rfl] at H2 ⊢
    simp only [Option.isSome_some]
    go_wp2_with (first | (refine wpList_load_mid rfl 37 (.tmp 6) rfl b1 0 rfl (v8 p) _ (row_range H2.out.2.1) Tryz.underlying37 rfl ?s1 ?_) | (refine wpList_store_row rfl 37 (.tmp 4) (.tmp 48) rfl w.heap.size (v8a p) rfl rfl 37 (v8a (zer 64)) H2.out.1 ?s6 ?s7 ?s8 ?_))
    case s1 => rw [HLN.out]; exact info_pgs
    case s6 => rw [hsz]; exact info_pgs
    case s7 => rw [hsz]; simp [v8a, v8, zer]
    case s8 => exact v8a_one _
    refine bodyPost_ret (results_cell_slot Tryz.results19 _ _ w.heap.size 37 (v8a p) (0, 0) _ rfl .nilIface rfl (setRow_heap _ _ _ _ _ (0, 0) H2.out.1) Tryz.underlying37 rfl (by rw [hsz]; exact info_pgs)) rfl ⟨by rw [HE.out], below_setRow H2.out.2.2.2 (Nat.le_refl _) _⟩
  | none =>
    obtain ⟨z0, z1, z2, z3, z4, z5, z6, z7, _⟩ := book_cells HX2.out.cells
    have HOP : OpenI w2 (.map (some nb)) B.n (some B.news) := ⟨nb, rfl, HX2.out.news⟩
    obtain ⟨oB, hB⟩ : ∃ oB, B.news i = oB := ⟨_, rfl⟩
    have HPB : Hid (∀ p, oB = some p → PgOk p) := Lib.hid (fun p hp => by subst hp; exact (HX.out.ok.news i p hB).2)
    have HLB : Hid (PgOk (pgD oB)) := Lib.hid (by
      cases oB with
      | none => exact zer_pg
      | some p => exact HPB.out p rfl)
    have hszB : (v8a (pgD oB)).size = 64 := by simp [v8a, v8, HLB.out.1]
    have hBb : ((some B.news).bind fun f => f i) = oB := hB
    simp only [Option.isSome_none]
    repeat ((fail_if_success (with_reducible refine stop_at 58 rfl ?_)); (first | (first | (at_lookup; refine wpList_look_open _ rfl _ _ rfl (.map (some nb)) B.n (some B.news) rfl HOP i (by omega) rfl ?_; simp only [hBb]) | (refine wpList_store_row rfl 37 (.tmp 8) (.tmp 56) rfl w2.heap.size (v8a (pgD oB)) rfl rfl 37 (v8a (zer 64)) (heap_alloc_new w2 _) (by rw [hszB]; exact info_pgs) (by rw [hszB]; simp [v8a, v8, zer]) (v8a_one _) ?_)) | go_values | go_skip | go_guarded | go_step | go_upon))
    have hsz2 := H2.out.2.2.2.size
    refine gen_world (fun wx => Hid (RdX w w2.heap.size (pgD oB) wx)) (Lib.hid (RdX.make H2.out.1 H2.out.2.2.2 _ _)) ?_
    generalize w2.heap.size = b2
    clear z0 z1 z2 z3 z4 z5 z6 z7 H2 HX2 HOP
    intro w3 H3
    have HX3 : Hid (BookX w3 bb N B db rb nb ov) := Lib.hid (HX.out.keep H3.out.2.2.2 (fun k hk => ⟨Nat.lt_of_lt_of_le (HX.out.N_lt k hk) H3.out.2.2.2.size, .inl hk⟩))
    cases oB with
    | some p =>
      have HE : Hid (B.view i = p) := Lib.hid (by unfold BookS.view; rw [hA, hB])
      have hsz : (v8a p).size = 64 := by simp [v8a, v8, (HPB.out p rfl).1]
      have HLN : Hid ((v8 p).length = 64) := Lib.hid (by simp [v8, (HPB.out p rfl).1])
      rw [show pgD (some p) = p from rfl] at H3 ⊢
      simp only [Option.isSome_some]
      go_wp2_with (first | (refine wpList_load_mid rfl 37 (.tmp 8) rfl b2 0 rfl (v8 p) _ (row_range H3.out.2.1) Tryz.underlying37 rfl ?s1 ?_) | (refine wpList_store_row rfl 37 (.tmp 4) (.tmp 59) rfl w.heap.size (v8a p) rfl rfl 37 (v8a (zer 64)) H3.out.1 ?s6 ?s7 ?s8 ?_))
      case s1 => rw [HLN.out]; exact info_pgs
      case s6 => rw [hsz]; exact info_pgs
      case s7 => rw [hsz]; simp [v8a, v8, zer]
      case s8 => exact v8a_one _
      refine bodyPost_ret (results_cell_slot Tryz.results19 _ _ w.heap.size 37 (v8a p) (0, 0) _ rfl .nilIface rfl (setRow_heap _ _ _ _ _ (0, 0) H3.out.1) Tryz.underlying37 rfl (by rw [hsz]; exact info_pgs)) rfl ⟨by rw [HE.out], below_setRow H3.out.2.2.2 (Nat.le_refl _) _⟩
    | none =>
      obtain ⟨z0, z1, z2, z3, z4, z5, z6, z7, _⟩ := book_cells HX3.out.cells
      have HE : Hid (B.view i = B.disk.view (2 + B.size + i)) := Lib.hid (by unfold BookS.view; rw [hA, hB])
      have HPD : Hid (PgOk (B.disk.view (2 + B.size + i))) := Lib.hid (by rw [← HE.out]; exact HV.out)
      simp only [Option.isSome_none]
      repeat ((fail_if_success (with_reducible refine stop_pos "pages.go:111" rfl ?_)); (first | go_values | go_skip | go_guarded | go_step | go_upon))
      have r0 := cell_regrown z0
      have r2 := cell_regrown z2
      have hRD : ∀ wx, Below w3.heap.size w3 wx → Calls Tryz.prog 28 #[.pointer (some ⟨db, 0, none⟩), .int .i64 (((2 + B.size + i : Nat)) : Int)] wx fun e w' => e = .returned (.tuple #[.agg (v8a (B.disk.view (2 + B.size + i))), .nilIface]) ∧ Below wx.heap.size wx w' := fun wx hb => diskRead_any db _ B.disk (2 + B.size + i) (by omega) wx (HX3.out.disk.below hb)
      have hsz : (v8a (B.disk.view (2 + B.size + i))).size = 64 := by simp [v8a, v8, HPD.out.1]
      have HLN : Hid ((v8 (B.disk.view (2 + B.size + i))).length = 64) := Lib.hid (by simp [v8, HPD.out.1])
      generalize B.disk.view (2 + B.size + i) = pg at HE HPD hRD hsz HLN
      rw [show (((2 + B.size + i : Nat)) : Int) = 2 + (B.size : Int) + (i : Int) by omega] at hRD
      refine wp_region_plan (.quiet 0 (.quiet 1 (.quiet 2 (.quiet 3 (.quiet 4 (.quiet 5 (.quiet 6 (.quiet 7 (.quiet 8 (.quiet 9 (.quiet 10 (.two 11 15 (.quiet 12 (.quiet 13 (.quiet 14 (.one 15 (.one 16 (.quiet 17 .nil)))))) (.one 11 (.quiet 12 (.quiet 13 (.quiet 14 (.one 16 (.quiet 17 .nil)))))))))))))))))) (fun w' => ∃ p : Regrown, w' = Go.Sort.grow (redrawn w3 p.d) p.os) (by kernel_rfl) (by kernel_rfl) (fun _ _ d _ _ h => by cases d <;> exact h) (grows_drew _) ?_
      (repeat (with_reducible refine plan_q ?_; simp only [List.drop_succ_cons, List.drop_zero, List.take_succ_cons, List.take_zero]; go_big_quiet_step (fail); with_reducible refine wpQuiet_nil ?_))
      apply tail_cut
      · intro TAIL
        with_reducible refine plan_two ?_ ?_
        · simp only [List.drop_succ_cons, List.drop_zero, List.take_succ_cons, List.take_zero]
          go_wp2_with fail
          refine (hRD w3.drew (Below.refl _ _).drew).mono ?_
          rintro e w4 ⟨rfl, hb4⟩
          have hb43 : Below w3.heap.size w3 w4 := (Below.refl _ _).drew.trans hb4
          try dsimp only
          go_wp2_with fail
          (try with_reducible refine wpList_nil ?_); with_reducible refine mixQ_normal ?_
          refine ⟨grows_of_below hb43, ?_⟩
          (repeat (with_reducible refine plan_q ?_; simp only [List.drop_succ_cons, List.drop_zero, List.take_succ_cons, List.take_zero]; go_big_quiet_step (fail); with_reducible refine wpQuiet_nil ?_))
          with_reducible refine plan_a ?_; simp only [List.drop_succ_cons, List.drop_zero, List.take_succ_cons, List.take_zero]
          have hba : ∀ o : Obj, Below w3.heap.size w3 (w4.alloc o) := fun o => hb43.alloc hb43.size _
          have hs4 := hb43.size
          go_wp2_with fail
          (try with_reducible refine wpList_nil ?_); with_reducible refine mixQ_normal ?_
          refine ⟨grows_of_below (hba _), ?_⟩
          refine gen_plan (fun wx => Hid (wx.heap[w4.heap.size]? = some (.cells (v8a (zer 64)) 37) ∧ Below w3.heap.size w3 wx)) (Lib.hid ⟨heap_alloc_new w4 (.cells (v8a (zer 64)) 37), hba _⟩) ?_
          generalize w4.heap.size = box at hs4 ⊢
          intro w5 H5
          revert box w5
          exact TAIL
        · simp only [List.drop_succ_cons, List.drop_zero, List.take_succ_cons, List.take_zero]
          have hba : ∀ o : Obj, Below w3.heap.size w3 (w3.drew.alloc o) := fun o => (Below.refl _ _).drew.alloc (Nat.le_refl _) _
          go_wp2_with fail
          (try with_reducible refine wpList_nil ?_); with_reducible refine mixQ_normal ?_
          refine ⟨grows_of_below (hba _), ?_⟩
          refine gen_plan (fun wx => Hid (wx.heap[w3.heap.size]? = some (.cells (v8a (zer 64)) 37) ∧ Below w3.heap.size w3 wx)) (Lib.hid ⟨heap_alloc_new w3.drew (.cells (v8a (zer 64)) 37), hba _⟩) ?_
          intro w4 H4
          with_reducible refine plan_a ?_; simp only [List.drop_succ_cons, List.drop_zero, List.take_succ_cons, List.take_zero]
          go_wp2_with fail
          refine (hRD w4 H4.out.2).mono ?_
          rintro e w5 ⟨rfl, hb5⟩
          have hb53 : Below w3.heap.size w3 w5 := H4.out.2.trans (hb5.mono H4.out.2.size)
          have H5 : Hid (w5.heap[w3.heap.size]? = some (.cells (v8a (zer 64)) 37) ∧ Below w3.heap.size w3 w5) := Lib.hid ⟨(hb5.block _ (lt_of_blk H4.out.1)).trans H4.out.1, hb53⟩
          try dsimp only
          go_wp2_with fail
          (try with_reducible refine wpList_nil ?_); with_reducible refine mixQ_normal ?_
          refine ⟨grows_of_below hb53, ?_⟩
          (repeat (with_reducible refine plan_q ?_; simp only [List.drop_succ_cons, List.drop_zero, List.take_succ_cons, List.take_zero]; go_big_quiet_step (fail); with_reducible refine wpQuiet_nil ?_))
          exact TAIL _ (Nat.le_refl _) w5 H5
      · intro box hs4 w5 H5
        with_reducible refine plan_a ?_; simp only [List.drop_succ_cons, List.drop_zero, List.take_succ_cons, List.take_zero]
        refine wpList_store_row rfl 37 (.tmp 10) (.tmp 73) rfl box (v8a pg) rfl rfl 37 (v8a (zer 64)) H5.out.1 (by rw [hsz]; exact info_pgs) (by rw [hsz]; simp [v8a, v8, zer]) (v8a_one _) ?_
        refine gen_world (fun wx => Hid (RdX w box pg wx ∧ Below w3.heap.size w3 wx)) (Lib.hid ⟨⟨?_, setRow_heap _ _ _ _ _ (0, 0) H5.out.1, ?_, ?_⟩, below_setRow H5.out.2 hs4 _⟩) ?_
        · have := lt_of_blk H3.out.1
          rw [setRow_other _ _ _ _ (by omega)]; exact (H5.out.2.block _ this).trans H3.out.1
        · have := lt_of_blk H3.out.1; omega
        · exact H3.out.2.2.2.trans ((below_setRow H5.out.2 hs4 _).mono H3.out.2.2.2.size)
        clear H5
        intro w6 H6
        simp only [Act.put, List.setIfInBounds_toArray, List.set_cons_zero, List.set_cons_succ]
        (try with_reducible refine wpList_nil ?_); with_reducible refine mixQ_normal ?_
        refine ⟨grows_of_below H6.out.2, ?_⟩
        (repeat (with_reducible refine plan_q ?_; simp only [List.drop_succ_cons, List.drop_zero, List.take_succ_cons, List.take_zero]; go_big_quiet_step (fail); with_reducible refine wpQuiet_nil ?_))
        with_reducible refine plan_nil ?_
        go_wp2_with fail
        have hR6 : w.heap.size < w6.heap.size := lt_of_blk H6.out.1.1
        have hbx := H6.out.1.2.2.1
        refine wp_region_mix [(0, true), (1, true), (2, false), (3, false), (4, true)] 4 (fun w' => ∃ p : RegrownB, w' = setO (Go.Sort.grow (redrawn w6 p.d) p.os) (w.heap.size) p.o) (by kernel_rfl) (by kernel_rfl) (fun _ _ d _ _ h => by cases d <;> exact h) (growsB_drew hR6) ?_
        with_reducible refine mix_q ?_
        simp only [List.drop_succ_cons, List.drop_zero, List.take_succ_cons, List.take_zero]
        go_big_quiet_want
        refine quiet_load_mid 37 (.tmp 10) rfl box 0 rfl (v8 pg) _ (fun w' hw' => by obtain ⟨q, rfl⟩ := hw'; exact row_range (blkB H6.out.1.2.1 (by omega) _ _ _)) Tryz.underlying37 rfl (by rw [HLN.out]; exact info_pgs) ?_
        simp only [Act.put, List.setIfInBounds_toArray, List.set_cons_zero, List.set_cons_succ]
        go_big_quiet_on
        with_reducible refine wpQuiet_nil ?_
        (repeat (with_reducible refine mix_q ?_; simp only [List.drop_succ_cons, List.drop_zero, List.take_succ_cons, List.take_zero]; go_big_quiet_step (fail); with_reducible refine wpQuiet_nil ?_))
        with_reducible refine mix_a ?_; simp only [List.drop_succ_cons, List.drop_zero, List.take_succ_cons, List.take_zero]
        go_wp2_with fail
        refine (woe_nil _ w6.drew).mono ?_
        rintro e w7 ⟨rfl, rfl⟩
        try dsimp only
        go_wp2_with fail
        with_reducible refine mixQ_normal ?_
        refine ⟨fun _ => growsB_of hR6 (grown_of_below (Below.refl _ _).drew _), ?_⟩
        with_reducible refine mix_a ?_; simp only [List.drop_succ_cons, List.drop_zero, List.take_succ_cons, List.take_zero]
        refine wpList_store_row rfl 37 (.tmp 4) (.tmp 75) rfl w.heap.size (v8a pg) rfl rfl 37 (v8a (zer 64)) H6.out.1.1 (by rw [hsz]; exact info_pgs) (by rw [hsz]; simp [v8a, v8, zer]) (v8a_one _) ?_
        have hg7 : w6.grownBy (w6.drew.setRow w.heap.size (v8a pg)) (some w.heap.size) := grown_trans (grown_of_below (Below.refl _ _).drew _) (grown_row w6.drew w.heap.size _)
        refine gen_world (fun wx => Hid (wx.heap[w.heap.size]? = some (.cells (v8a pg) 37) ∧ Below w.heap.size w wx ∧ w6.grownBy wx (some w.heap.size))) (Lib.hid ⟨setRow_heap _ _ _ _ _ (0, 0) (by exact H6.out.1.1), below_setRow H6.out.1.2.2.2.drew (Nat.le_refl _) _, hg7⟩) ?_
        intro w8 H8
        simp only [Act.put, List.setIfInBounds_toArray, List.set_cons_zero, List.set_cons_succ]
        with_reducible refine wpList_nil ?_
        with_reducible refine mixQ_normal ?_
        refine ⟨fun _ => growsB_of hR6 H8.out.2.2, ?_⟩
        (repeat (with_reducible refine mix_q ?_; simp only [List.drop_succ_cons, List.drop_zero, List.take_succ_cons, List.take_zero]; go_big_quiet_step (fail); with_reducible refine wpQuiet_nil ?_))
        with_reducible refine mix_nil ?_
        go_wp2_with fail
        refine bodyPost_ret (results_cell_slot Tryz.results19 _ _ w.heap.size 37 (v8a pg) (0, 0) _ rfl .nilIface rfl H8.out.1 Tryz.underlying37 rfl (by rw [hsz]; exact info_pgs)) rfl ⟨by rw [HE.out], H8.out.2.1⟩
end Go.Proofs.YtajmcplanlibnaaGreatDoor
