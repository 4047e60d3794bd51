/- A ring: where it lies; its sectors. A record: of a page of zeros there is none. A ring is opened where no record lies. -/
import Derived.Test.YtajmcplanlibnaaGreatDoorKP2
import Derived.Test.YtajmcplanlibnaaGreatDoorKLib
set_option linter.unusedSimpArgs false
set_option linter.unusedVariables false
set_option linter.unnecessarySimpa false
namespace Go.Proofs.YtajmcplanlibnaaGreatDoor
open Go.RowKit Go.Maps
def ringC (db : Nat) (first n pl : Nat) (num : Int) (last : List Int) (used : Nat) : Array Value := .mk (.pointer (some ⟨db, 0, none⟩) :: .int .i64 (first : Int) :: .int .i64 (n : Int) :: .int .i64 (pl : Int) :: .int .u64 num :: (v8 last ++ [.int .i64 (used : Int)]))
theorem ring_cells {w : World} {B T db first n pl used : Nat} {num : Int} {last : List Int} (hl : last.length = 32) (h : w.heap[B]? = some (.cells (ringC db first n pl num last used) T)) :
    w.cell? ⟨B, 0, none⟩ = some (.pointer (some ⟨db, 0, none⟩)) ∧ w.cell? ⟨B, 1, none⟩ = some (.int .i64 (first : Int)) ∧ w.cell? ⟨B, 2, none⟩ = some (.int .i64 (n : Int)) ∧ w.cell? ⟨B, 3, none⟩ = some (.int .i64 (pl : Int)) ∧ w.cell? ⟨B, 4, none⟩ = some (.int .u64 num) ∧ w.cell? ⟨B, 37, none⟩ = some (.int .i64 (used : Int)) := by
  refine ⟨?_, ?_, ?_, ?_, ?_, ?_⟩
  · rw [cell_of_row w B 0 _ T (0, 0) h]; rfl
  · rw [cell_of_row w B 1 _ T (0, 0) h]; rfl
  · rw [cell_of_row w B 2 _ T (0, 0) h]; rfl
  · rw [cell_of_row w B 3 _ T (0, 0) h]; rfl
  · rw [cell_of_row w B 4 _ T (0, 0) h]; rfl
  · rw [cell_of_row w B 37 _ T (0, 0) h]
    have e : (v8 last).length = 32 := by rw [v8_length, hl]
    simp [ringC, List.getElem?_append, e]
set_option maxRecDepth 100000 in
theorem sectors_any (k : Nat) (w : World) (hk : k ≤ 255) : Calls Tryz.prog 154 #[.int .i64 (k : Int)] w fun e w' => e = .returned (.int .i64 (1 + ((k : Int) + 15) / 16 + k)) ∧ w = w' := by
  have h0 : (0 : Int) ≤ k := by omega
  have h1 : (k : Int) ≤ 255 := by omega
  go_enter Tryz.func154, Tryz.ntmps154
  go_wp2_with fail
  go_ret
  exact ⟨by simp; try omega, rfl⟩
set_option maxRecDepth 100000 in
set_option maxHeartbeats 1000000 in
theorem ringAt_any (rb db first n pl used i : Nat) (num : Int) (last : List Int) (w : World) (hl : last.length = 32) (h : w.heap[rb]? = some (.cells (ringC db first n pl num last used) 252)) (hn : 0 < n ∧ n ≤ 4096) (hf : first ≤ 4096) (hi : i ≤ 100000) :
    Calls Tryz.prog 157 #[.pointer (some ⟨rb, 0, none⟩), .int .i64 (i : Int)] w fun e w' => e = .returned (.int .i64 ((first : Int) + (i : Int) % n)) ∧ Below w.heap.size w w' := by
  obtain ⟨z0, z1, z2, z3, z4, z5⟩ := ring_cells hl h
  have g0 : (n : Int) ≠ 0 := by omega
  have g1 : (0 : Int) < n := by omega
  have g2 : (n : Int) ≤ 4096 := by omega
  have g3 : (i : Int) ≤ 100000 := by omega
  have g4 : (0 : Int) ≤ i := by omega
  have g5 : (0 : Int) ≤ first := by omega
  have g6 : (first : Int) ≤ 4096 := by omega
  have g7 : 0 ≤ (i : Int) % n := Int.emod_nonneg _ g0
  have g8 : (i : Int) % n < n := Int.emod_lt_of_pos _ g1
  go_enter Tryz.func157, Tryz.ntmps157
  have r1 := cell_regrown z1
  have r2 := cell_regrown z2
  go_wp2_with fail
  refine wp_region_quiet_below (by kernel_rfl) (by kernel_rfl) ?_
  repeat (go_big_quiet_step (fail))
  refine wpQuiet_nil ?_
  intro wq hwq
  have hq := below_of_regrown hwq
  clear hwq
  go_wp2_with fail
  go_ret
  exact ⟨rfl, hq⟩
end Go.Proofs.YtajmcplanlibnaaGreatDoor
namespace Go.Proofs.YtajmcplanlibnaaGreatDoor
open Go.RowKit Go.Maps
theorem results_scss {P : Program} {fn : Func} {p q r s : Tmp} {ty : TypeId} (h : fn.results = #[.tmp p, .cell q ty, .tmp r, .tmp s]) (tmps : Array Value) (w : World) (g : Nat) (t : TypeId) (cs : Array Value) (fr : Nat × Nat) (d : TypeDesc)
    (hq : tmps.getD q undef = .pointer (some ⟨g, 0, none⟩)) (v1 v2 v3 : Value) (h1 : tmps.getD p undef = v1) (h2 : tmps.getD r undef = v2) (h3 : tmps.getD s undef = v3) (hg : w.heap[g]? = some (.cells cs t fr))
    (hu : P.underlying ty = some d) (hd : (match d with | .struct _ | .array _ _ => true | _ => false) = true) (hi : (P.info? ty).map (·.size) = some cs.size) :
    (results fn tmps).run P w = .ok (.tuple #[v1, .agg cs, v2, v3]) w := by
  have hq' : tmps[q]?.getD undef = .pointer (some ⟨g, 0, none⟩) := by simpa using hq
  have h1' : tmps[p]?.getD undef = v1 := by simpa using h1
  have h2' : tmps[r]?.getD undef = v2 := by simpa using h2
  have h3' : tmps[s]?.getD undef = v3 := by simpa using h3
  simp [results, h, hq', h1', h2', h3', asAddr, run_loadVar_row w g t ty cs fr d hg hu hd hi]
theorem info_mark : (Tryz.prog.info? 148).map (·.size) = some 34 := by kernel_rfl
theorem sectors_none (w : World) : Calls Tryz.prog 154 #[.int .i64 0] w fun e w' => e = .returned (.int .i64 1) ∧ w = w' := (sectors_any 0 w (by omega)).mono fun e w' h => ⟨h.1.trans (by simp), h.2⟩
set_option maxRecDepth 100000 in
set_option maxHeartbeats 2000000 in
theorem record_zero (rb db first n pl used : Nat) (num : Int) (last : List Int) (N : Nat → Prop) (d : DiskS) (w : World) (hl : last.length = 32) (h : w.heap[rb]? = some (.cells (ringC db first n pl num last used) 252)) (hn : 0 < n ∧ n ≤ 4096) (hf : first ≤ 4096) (hi : pl ≤ 100000)
    (hd : DiskI w db N d) (hlt : first + pl % n < d.firm.length) (hz : d.view (first + pl % n) = zer 64) :
    Calls Tryz.prog 141 #[.pointer (some ⟨rb, 0, none⟩)] w fun e w' => e = .returned (.tuple #[.slice none 0 0, .agg (markC 0 0 (zer 32)), .int .i64 0, .nilIface]) ∧ Below w.heap.size w w' := by
  have HD := Lib.hid hd
  have HR := Lib.hid h
  have HZ := Lib.hid hz
  obtain ⟨z0, z1, z2, z3, z4, z5⟩ := ring_cells hl h
  clear hd h hz
  go_enter Tryz.func141, Tryz.ntmps141
  repeat (fail_if_success (with_reducible refine stop_pos "ring.go:77" rfl ?_)
          first | go_values | go_skip | go_guarded | go_step | go_upon)
  refine gen_code (fun wx => Hid (wx.heap[w.heap.size]? = some (.cells (markC 0 0 (zer 32)) 148) ∧ Below w.heap.size w wx)) (Lib.hid ⟨heap_alloc_new w (.cells (markC 0 0 (zer 32)) 148), (Below.refl _ _).alloc (Nat.le_refl _) _⟩) ?_
  intro w1 H1
  have HR1 := Lib.hid ((H1.out.2.block _ (lt_of_blk HR.out)).trans HR.out)
  obtain ⟨z0, z1, z2, z3, z4, z5⟩ := ring_cells hl HR1.out
  have r0 := cell_regrown z0
  have r3 := cell_regrown z3
  refine wp_region_plan (.quiet 0 (.quiet 1 (.quiet 2 (.quiet 3 (.quiet 4 (.quiet 5 (.quiet 6 (.quiet 7 (.quiet 8 (.quiet 9 (.two 10 15 (.two 11 15 (.quiet 12 (.quiet 13 (.quiet 14 (.one 15 (.one 16 (.quiet 17 .nil)))))) (.one 11 (.quiet 12 (.quiet 13 (.quiet 14 (.one 16 (.quiet 17 .nil))))))) (.one 10 (.one 11 (.quiet 12 (.quiet 13 (.quiet 14 (.one 16 (.quiet 17 .nil)))))))))))))))))) (fun w' => ∃ p : Regrown, w' = Go.Sort.grow (redrawn w1 p.d) p.os) (by kernel_rfl) (by kernel_rfl) (fun _ _ d _ _ h => by cases d <;> exact h) (grows_drew _) ?_
  repeat (with_reducible refine plan_q ?_; simp only [List.drop_succ_cons, List.drop_zero, List.take_succ_cons, List.take_zero]; go_big_quiet_step (fail); with_reducible refine wpQuiet_nil ?_)
  apply tail_cut
  · intro TAIL
    with_reducible refine plan_two ?_ ?_
    · simp only [List.drop_succ_cons, List.drop_zero, List.take_succ_cons, List.take_zero]
      go_wp2_with fail
      have HAT := ringAt_any rb db first n pl used pl num last w1.drew hl HR1.out hn hf hi
      refine HAT.mono ?_
      clear HAT
      rintro e w2 ⟨rfl, hb2⟩
      have hb21 : Below w1.heap.size w1 w2 := (Below.refl _ _).drew.trans hb2
      try dsimp only
      go_wp2_with fail
      with_reducible refine mixQ_normal ?_
      refine ⟨grows_of_below hb21, ?_⟩
      with_reducible refine plan_two ?_ ?_
      · simp only [List.drop_succ_cons, List.drop_zero, List.take_succ_cons, List.take_zero]
        go_wp2_with fail
        have hbw2 : Below w.heap.size w w2 := H1.out.2.trans (hb21.mono H1.out.2.size)
        have HD2 : DiskI w2 db N d := HD.out.keep hbw2 (fun k hk => by
          obtain ⟨_, _, _, _, _, _, _, _, _, _, _, _, _, h5, _⟩ := HD.out
          have := h5 k hk
          have := hbw2.size
          exact ⟨by omega, .inl hk⟩)
        have HRD := diskRead_any db N d (first + pl % n) hlt w2 HD2
        rw [HZ.out] at HRD
        refine HRD.mono ?_
        clear HRD HD2
        rintro e w3 ⟨rfl, hb3⟩
        have hb31 : Below w1.heap.size w1 w3 := hb21.trans (hb3.mono hb21.size)
        try dsimp only
        go_wp2_with fail
        with_reducible refine mixQ_normal ?_
        refine ⟨grows_of_below hb31, ?_⟩
        repeat (with_reducible refine plan_q ?_; simp only [List.drop_succ_cons, List.drop_zero, List.take_succ_cons, List.take_zero]; go_big_quiet_step (fail); with_reducible refine wpQuiet_nil ?_)
        have hba : ∀ o : Obj, Below w1.heap.size w1 (w3.alloc o) := fun o => hb31.alloc hb31.size _
        have hba2 : ∀ o : Obj, Below w1.heap.size w1 (w3.alloc o).drew := fun o => (hba o).drew
        with_reducible refine plan_a ?_
        simp only [List.drop_succ_cons, List.drop_zero, List.take_succ_cons, List.take_zero]
        go_wp2_with fail
        try with_reducible refine wpList_nil ?_
        with_reducible refine mixQ_normal ?_
        refine ⟨grows_of_below (by first | exact hba _ | exact hba2 _), ?_⟩
        refine gen_plan (fun wx => Hid (wx.heap[w3.heap.size]? = some (.cells (v8a (zer 64)) 37) ∧ Below w1.heap.size w1 wx)) (Lib.hid ⟨heap_alloc_new w3 (.cells (v8a (zer 64)) 37), by first | exact hba _ | exact hba2 _⟩) ?_
        have hs3 := hb31.size
        generalize w3.heap.size = box at hs3 ⊢
        intro w4 H4
        revert box w4
        exact TAIL
      · simp only [List.drop_succ_cons, List.drop_zero, List.take_succ_cons, List.take_zero]
        have hs2 := hb21.size
        have hba : ∀ o : Obj, Below w1.heap.size w1 (w2.alloc o) := fun o => hb21.alloc hb21.size _
        go_wp2_with fail
        try with_reducible refine wpList_nil ?_
        with_reducible refine mixQ_normal ?_
        refine ⟨grows_of_below (hba _), ?_⟩
        refine gen_plan (fun wx => Hid (wx.heap[w2.heap.size]? = some (.cells (v8a (zer 64)) 37) ∧ Below w1.heap.size w1 wx)) (Lib.hid ⟨heap_alloc_new w2 (.cells (v8a (zer 64)) 37), hba _⟩) ?_
        generalize w2.heap.size = box at hs2 ⊢
        intro w3 H3
        with_reducible refine plan_a ?_
        simp only [List.drop_succ_cons, List.drop_zero, List.take_succ_cons, List.take_zero]
        go_wp2_with fail
        have hbw3 : Below w.heap.size w w3 := H1.out.2.trans (H3.out.2.mono H1.out.2.size)
        have HD3 : DiskI w3 db N d := HD.out.keep hbw3 (fun k hk => by
          obtain ⟨_, _, _, _, _, _, _, _, _, _, _, _, _, h5, _⟩ := HD.out
          have := h5 k hk
          have := hbw3.size
          exact ⟨by omega, .inl hk⟩)
        have HRD := diskRead_any db N d (first + pl % n) hlt w3 HD3
        rw [HZ.out] at HRD
        refine HRD.mono ?_
        clear HRD HD3
        rintro e w4 ⟨rfl, hb4⟩
        have hb41 : Below w1.heap.size w1 w4 := H3.out.2.trans (hb4.mono H3.out.2.size)
        have H4 : Hid (w4.heap[box]? = some (.cells (v8a (zer 64)) 37) ∧ Below w1.heap.size w1 w4) := Lib.hid ⟨(hb4.block _ (lt_of_blk H3.out.1)).trans H3.out.1, hb41⟩
        try dsimp only
        go_wp2_with fail
        with_reducible refine mixQ_normal ?_
        refine ⟨grows_of_below hb41, ?_⟩
        repeat (with_reducible refine plan_q ?_; simp only [List.drop_succ_cons, List.drop_zero, List.take_succ_cons, List.take_zero]; go_big_quiet_step (fail); with_reducible refine wpQuiet_nil ?_)
        exact TAIL box hs2 w4 H4
    · simp only [List.drop_succ_cons, List.drop_zero, List.take_succ_cons, List.take_zero]
      have hba : ∀ o : Obj, Below w1.heap.size w1 (w1.drew.alloc o) := fun o => (Below.refl _ _).drew.alloc (Nat.le_refl _) _
      have hs2 : w1.heap.size ≤ w1.heap.size := Nat.le_refl _
      go_wp2_with fail
      try with_reducible refine wpList_nil ?_
      with_reducible refine mixQ_normal ?_
      refine ⟨grows_of_below (hba _), ?_⟩
      refine gen_plan (fun wx => Hid (wx.heap[w1.heap.size]? = some (.cells (v8a (zer 64)) 37) ∧ Below w1.heap.size w1 wx)) (Lib.hid ⟨heap_alloc_new w1.drew (.cells (v8a (zer 64)) 37), hba _⟩) ?_
      intro w2 H2
      with_reducible refine plan_a ?_
      simp only [List.drop_succ_cons, List.drop_zero, List.take_succ_cons, List.take_zero]
      go_wp2_with fail
      have HAT := ringAt_any rb db first n pl used pl num last w2 hl ((H2.out.2.block _ (lt_of_blk HR1.out)).trans HR1.out) hn hf hi
      refine HAT.mono ?_
      clear HAT
      rintro e w3 ⟨rfl, hb3⟩
      have hb31 : Below w1.heap.size w1 w3 := H2.out.2.trans (hb3.mono H2.out.2.size)
      have H3 : Hid (w3.heap[w1.heap.size]? = some (.cells (v8a (zer 64)) 37) ∧ Below w1.heap.size w1 w3) := Lib.hid ⟨(hb3.block _ (lt_of_blk H2.out.1)).trans H2.out.1, hb31⟩
      try dsimp only
      go_wp2_with fail
      with_reducible refine mixQ_normal ?_
      refine ⟨grows_of_below hb31, ?_⟩
      with_reducible refine plan_a ?_
      simp only [List.drop_succ_cons, List.drop_zero, List.take_succ_cons, List.take_zero]
      go_wp2_with fail
      have hbw3 : Below w.heap.size w w3 := H1.out.2.trans (H3.out.2.mono H1.out.2.size)
      have HD3 : DiskI w3 db N d := HD.out.keep hbw3 (fun k hk => by
        obtain ⟨_, _, _, _, _, _, _, _, _, _, _, _, _, h5, _⟩ := HD.out
        have := h5 k hk
        have := hbw3.size
        exact ⟨by omega, .inl hk⟩)
      have HRD := diskRead_any db N d (first + pl % n) hlt w3 HD3
      rw [HZ.out] at HRD
      refine HRD.mono ?_
      clear HRD HD3
      rintro e w4 ⟨rfl, hb4⟩
      have hb41 : Below w1.heap.size w1 w4 := H3.out.2.trans (hb4.mono H3.out.2.size)
      have H4 : Hid (w4.heap[w1.heap.size]? = some (.cells (v8a (zer 64)) 37) ∧ Below w1.heap.size w1 w4) := Lib.hid ⟨(hb4.block _ (lt_of_blk H3.out.1)).trans H3.out.1, hb41⟩
      try dsimp only
      go_wp2_with fail
      with_reducible refine mixQ_normal ?_
      refine ⟨grows_of_below hb41, ?_⟩
      repeat (with_reducible refine plan_q ?_; simp only [List.drop_succ_cons, List.drop_zero, List.take_succ_cons, List.take_zero]; go_big_quiet_step (fail); with_reducible refine wpQuiet_nil ?_)
      exact TAIL _ hs2 w4 H4
  · intro box hs3 w4 H4
    with_reducible refine plan_a ?_
    simp only [List.drop_succ_cons, List.drop_zero, List.take_succ_cons, List.take_zero]
    refine wpList_store_row rfl 37 (.tmp 6) (.tmp 32) rfl box (v8a (zer 64)) rfl rfl 37 (v8a (zer 64)) H4.out.1 info_pgs rfl (all_oneCell_toArray (v8_one _)) ?_
    refine gen_world (fun wx => Hid (wx.heap[box]? = some (.cells (v8a (zer 64)) 37) ∧ Below w1.heap.size w1 wx)) (Lib.hid ⟨setRow_heap _ _ _ _ _ (0, 0) H4.out.1, below_setRow H4.out.2 hs3 _⟩) ?_
    clear H4
    intro w5 H5
    simp only [Act.put]
    with_reducible refine wpList_nil ?_
    with_reducible refine mixQ_normal ?_
    refine ⟨grows_of_below H5.out.2, ?_⟩
    repeat (with_reducible refine plan_q ?_; simp only [List.drop_succ_cons, List.drop_zero, List.take_succ_cons, List.take_zero]; go_big_quiet_step (fail); with_reducible refine wpQuiet_nil ?_)
    with_reducible refine plan_nil ?_
    obtain ⟨c0, f0⟩ := v8_cell H5.out.1 0 (by simp [zer])
    obtain ⟨c9, f9⟩ := v8_cell H5.out.1 9 (by simp [zer])
    have e0 : (zer 64).getD 0 0 = 0 := rfl
    have e9 : (zer 64).getD 9 0 = 0 := rfl
    rw [e0] at c0
    rw [e9] at c9
    go_wp2_with fail
    refine (sectors_none w5).mono ?_
    rintro e w6 ⟨rfl, rfl⟩
    try dsimp only
    have q0 := cell_regrown c0
    go_wp2_with fail
    refine wp_region_quiet_below (by kernel_rfl) (by kernel_rfl) ?_
    (repeat (go_big_quiet_step (fail)))
    refine wpQuiet_nil ?_
    intro wq hwq
    have hq := below_of_regrown hwq
    clear hwq
    have hmk : wq.heap[w.heap.size]? = some (.cells (markC 0 0 (zer 32)) 148) := (hq.block _ (by have := H5.out.2.size; have := lt_of_blk H1.out.1; omega)).trans ((H5.out.2.block _ (lt_of_blk H1.out.1)).trans H1.out.1)
    have hbw : Below w.heap.size w wq := H1.out.2.trans ((H5.out.2.trans (hq.mono H5.out.2.size)).mono H1.out.2.size)
    go_wp2_with (refine wpList_store_row rfl 148 (.tmp 3) (.tmp 77) rfl w.heap.size _ rfl rfl 148 (markC 0 0 (zer 32)) hmk ?s2 ?s3 ?s4 ?_)
    case s2 => exact info_mark
    case s3 => rfl
    case s4 => kernel_rfl
    refine bodyPost_ret (results_scss Tryz.results141 _ _ w.heap.size 148 (markC 0 0 (zer 32)) (0, 0) _ rfl (.slice none 0 0) (.int .i64 0) .nilIface rfl rfl rfl (setRow_heap _ _ _ _ _ (0, 0) hmk) Tryz.underlying148 rfl info_mark) rfl ⟨rfl, ?_⟩
    exact below_setRow hbw (Nat.le_refl _) _
end Go.Proofs.YtajmcplanlibnaaGreatDoor
namespace Go.Proofs.YtajmcplanlibnaaGreatDoor
open Go.RowKit Go.Maps
theorem info_ring : (Tryz.prog.info? 252).map (fun i => (i.zero, i.size, i.bytes)) = some (some (.agg (.mk (.pointer none :: .int .i64 0 :: .int .i64 0 :: .int .i64 0 :: .int .u64 0 :: (v8 (zer 32) ++ [.int .i64 0])))), 38, 80) := by kernel_rfl
theorem ring_places : ∃ (it : TypeInfo) (z : Value) (fields : Array Field), Tryz.prog.info? 252 = some it ∧ Tryz.prog.underlying 252 = some (.struct fields) ∧ it.zero = some z ∧ fields.toList.mapM (fun f => (Tryz.prog.info? f.type).map fun i => (f.offset, i.size)) = some [(0, 1), (1, 1), (2, 1), (3, 34), (37, 1)] ∧ z.cells.toList = .pointer none :: .int .i64 0 :: .int .i64 0 :: .int .i64 0 :: .int .u64 0 :: (v8 (zer 32) ++ [.int .i64 0]) := by
  obtain ⟨it, h1, h2, h3, h4⟩ := info_parts info_ring
  refine ⟨it, _, _, h1, Tryz.underlying252, h2, by kernel_rfl, by kernel_rfl⟩
theorem built_ring (db first n pl : Nat) (num : Int) (last : List Int) (hl : last.length = 32) : Tryz.prog.built 252 [(0, .pointer (some ⟨db, 0, none⟩)), (1, .int .i64 (first : Int)), (2, .int .i64 (n : Int)), (3, .agg (markC pl num last))] = some (ringC db first n pl num last 0) := by
  obtain ⟨it, z, fields, h1, h2, h3, h4, h5⟩ := ring_places
  rw [built_struct h1 h2 h3 h4]
  generalize z.cells = zc at h5 ⊢
  obtain ⟨zl⟩ := zc
  dsimp only at h5
  subst h5
  have e3 : (Value.agg (markC pl num last)).cells = markC pl num last := rfl
  have e4 : (markC pl num last).size = 34 := by simp [markC, v8, hl]
  have ez : (v8 (zer 32)).length = 32 := by simp [v8, zer]
  have e0 : ∀ b, (Value.pointer b).cells = #[.pointer b] := fun _ => rfl
  have e1 : ∀ i, (Value.int .i64 i).cells = #[.int .i64 i] := fun _ => rfl
  rw [fill_cons (off := 0) (by rw [e0]; rfl) (by rw [e0]; simp), fill_cons (off := 1) (by rw [e1]; rfl) (by rw [e0, e1]; simp), fill_cons (off := 2) (by rw [e1]; rfl) (by rw [e0, e1, e1]; simp), fill_cons (off := 3) (by rw [e3, e4]; rfl) (by rw [e0, e1, e1, e3, e4]; simp [ez])]
  rw [e0, e1, e1, e3, e4]
  simp only [Instr.fill, Option.some.injEq]
  apply Array.ext'
  simp [ringC, markC, ez]
theorem below_drew {B : Nat} {w w' : World} (h : Below B w w') : Below B w w'.drew := h.drew
set_option maxRecDepth 100000 in
set_option maxHeartbeats 2000000 in
theorem open_zero (db first n pl : Nat) (num : Int) (last : List Int) (N : Nat → Prop) (d : DiskS) (w : World) (hl : last.length = 32) (hn : 96 ≤ n ∧ n ≤ 4096) (hf : first + n ≤ d.firm.length) (hp : pl < n)
    (hd : DiskI w db N d) (hz : d.view (first + pl % n) = zer 64) :
    Calls Tryz.prog 66 #[.pointer (some ⟨db, 0, none⟩), .int .i64 (first : Int), .int .i64 (n : Int), .agg (markC pl num last)] w fun e w' => (∃ rb, e = .returned (.tuple #[.pointer (some ⟨rb, 0, none⟩), .slice none 0 0, .nilIface]) ∧ w.heap.size ≤ rb ∧ w'.heap[rb]? = some (.cells (ringC db first n pl num last 0) 252)) ∧ Below w.heap.size w w' := by
  have HD := Lib.hid hd
  have HZ := Lib.hid hz
  have HOK : Hid (d.firm.length ≤ 4096) := Lib.hid (by obtain ⟨_, _, _, _, _, _, _, _, _, _, _, _, _, _, h6⟩ := hd; exact h6.1.2)
  have hfl := HOK.out
  clear hd hz
  obtain ⟨hn1, hn2⟩ := hn
  have g1 : (96 : Int) ≤ n := by omega
  have g2 : (n : Int) ≤ 4096 := by omega
  have g3 : (0 : Int) ≤ first := by omega
  have g4 : (first : Int) + n ≤ d.firm.length := by omega
  have g5 : (0 : Int) ≤ pl := by omega
  have g6 : (pl : Int) < n := by omega
  have g7 : (d.firm.length : Int) ≤ 4096 := by omega
  go_enter Tryz.func66, Tryz.ntmps66
  repeat (fail_if_success (with_reducible refine stop_pos "ring.go:53" rfl ?_)
          first | go_values | go_skip | go_guarded | go_step | go_upon)
  refine gen_world (fun wx => Hid (wx.heap[w.heap.size]? = some (.cells (markC pl num last) 148) ∧ Below w.heap.size w wx)) (Lib.hid ⟨heap_alloc_new w (.cells (markC pl num last) 148), (Below.refl _ _).alloc (Nat.le_refl _) _⟩) ?_
  intro w1 H1
  obtain ⟨m0, m1⟩ := mark_cells H1.out.1
  have HD1 : Hid (DiskI w1 db N d) := Lib.hid (HD.out.keep H1.out.2 (fun k hk => by
    obtain ⟨_, _, _, _, _, _, _, _, _, _, _, _, _, h5, _⟩ := HD.out
    have := h5 k hk
    have := H1.out.2.size
    exact ⟨by omega, .inl hk⟩))
  go_wp2_with fail
  refine (diskSize_any db N d w1 HD1.out).mono ?_
  rintro e w2 ⟨rfl, rfl⟩
  try dsimp only
  have HML : Hid ((Value.int .i64 (pl : Int) :: .int .u64 num :: v8 last).length = 34) := Lib.hid (by simp only [List.length_cons, v8_length, hl])
  repeat (fail_if_success (with_reducible refine stop_pos "ring.go:56" rfl ?_)
          first | go_values | go_skip | go_guarded | go_step | go_upon)
  repeat (fail_if_success (with_reducible refine stop_at 51 rfl ?_)
          first | go_values | go_skip | go_guarded | go_step | go_upon)
  refine wpList_load_mid rfl 148 (.tmp 7) rfl w.heap.size 0 rfl (.int .i64 (pl : Int) :: .int .u64 num :: v8 last) _ (mark_range H1.out.1) Tryz.underlying148 rfl (by rw [HML.out]; exact info_mks) ?_
  simp only [Act.put, List.setIfInBounds_toArray, List.set_cons_zero, List.set_cons_succ]
  refine wpList_build_to rfl 252 _ rfl (ringC db first n pl num last 0) ?hb ?_
  case hb => simp only [List.map_toArray, List.map_cons, List.map_nil]; exact built_ring db first n pl num last hl
  simp only [Act.put, List.setIfInBounds_toArray, List.set_cons_zero, List.set_cons_succ]
  repeat (fail_if_success (with_reducible refine stop_at 11 rfl ?_)
          first | go_values | go_skip | go_guarded | go_step | go_upon)
  have hs1 := H1.out.2.size
  refine gen_world (fun wx => Hid (wx.heap[w1.heap.size]? = some (.cells (ringC db first n pl num last 0) 252) ∧ Below w.heap.size w wx)) (Lib.hid ⟨heap_alloc_new w1 (.cells (ringC db first n pl num last 0) 252), H1.out.2.alloc hs1 _⟩) ?_
  clear HD1 m0 m1 H1
  generalize w1.heap.size = rb at hs1 ⊢
  intro w2 H2
  have HD2 : Hid (DiskI w2 db N d) := Lib.hid (HD.out.keep H2.out.2 (fun k hk => by
    obtain ⟨_, _, _, _, _, _, _, _, _, _, _, _, _, h5, _⟩ := HD.out
    have := h5 k hk
    have := H2.out.2.size
    exact ⟨by omega, .inl hk⟩))
  have HRC := record_zero rb db first n pl 0 num last N d w2 hl H2.out.1 ⟨by omega, hn2⟩ (by omega) (by omega) HD2.out (by rw [Nat.mod_eq_of_lt hp]; omega) HZ.out
  go_wp2_with fail
  refine wp_loop_once ?_
  go_wp2_with fail
  refine HRC.mono ?_
  clear HRC
  rintro e w3 ⟨rfl, hb3⟩
  have H3 : Hid (w3.heap[rb]? = some (.cells (ringC db first n pl num last 0) 252) ∧ Below w.heap.size w w3) := Lib.hid ⟨(hb3.block _ (lt_of_blk H2.out.1)).trans H2.out.1, H2.out.2.trans (hb3.mono H2.out.2.size)⟩
  try dsimp only
  go_wp2_with (refine wpList_store_row rfl 148 (.tmp 14) (.tmp 58) rfl w3.heap.size (markC 0 0 (zer 32)) rfl rfl 148 (markC 0 0 (zer 32)) ?s1 info_mks rfl (markC_one _ _ _) ?_)
  case s1 => exact heap_alloc_new w3 _
  go_ret3
  have hlt3 := lt_of_blk H3.out.1
  have hb4 : ∀ o : Obj, Below w.heap.size w ((w3.alloc o).setRow w3.heap.size (markC 0 0 (zer 32))) := fun o => below_setRow (H3.out.2.alloc H3.out.2.size _) H3.out.2.size _
  have hr4 : ∀ o : Obj, ((w3.alloc o).setRow w3.heap.size (markC 0 0 (zer 32))).heap[rb]? = some (.cells (ringC db first n pl num last 0) 252) := fun o => by
    rw [setRow_other _ _ _ _ (by omega), heap_alloc_old _ _ hlt3]; exact H3.out.1
  exact ⟨⟨rb, rfl, hs1, hr4 _⟩, hb4 _⟩
end Go.Proofs.YtajmcplanlibnaaGreatDoor
