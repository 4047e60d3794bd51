/- What a title says. -/
import Derived.Test.YtajmcplanlibnaaGreatDoorKP1
import Derived.Test.YtajmcplanlibnaaGreatDoorKLib
set_option linter.unusedSimpArgs false
set_option linter.unusedVariables false
set_option linter.unnecessarySimpa false
namespace Go.Proofs.YtajmcplanlibnaaGreatDoor
open Go.RowKit Go.Maps
theorem info_mk : (Tryz.prog.info? 148).map (fun i => (i.zero, i.size)) = some (some (.agg (markC 0 0 (zer 32))), 34) := by kernel_rfl
theorem info_mks : (Tryz.prog.info? 148).map (·.size) = some 34 := by kernel_rfl
set_option maxRecDepth 100000 in
theorem built_mk (pl : Nat) : Tryz.prog.built 148 [(0, .int .i64 (pl : Int))] = some (markC pl 0 (zer 32)) := by kernel_rfl
def rd2 (p : List Int) : Int := bits BinOp.or IntKind.i64 (p.getD 17 0) (p.getD 18 0 * 256)
theorem markC_size (pl : Nat) (n : Int) (last : List Int) (h : last.length = 32) : (markC pl n last).size = 34 := by simp [markC, v8, h]
theorem markC_one (pl : Nat) (n : Int) (last : List Int) : (markC pl n last).all (·.oneCell') = true := all_oneCell_toArray (fun v hv => by
  rcases List.mem_cons.1 hv with rfl | hv
  · rfl
  · rcases List.mem_cons.1 hv with rfl | hv
    · rfl
    · exact v8_one last v hv)
theorem or16 (x y : Int) (hx : 0 ≤ x ∧ x < 256) (hy : 0 ≤ y ∧ y < 256) : ∃ n : Nat, bits BinOp.or IntKind.i64 x (y * 256) = (n : Int) ∧ n ≤ 65535 := by
  obtain ⟨a, rfl⟩ := Int.eq_ofNat_of_zero_le hx.1
  obtain ⟨b, rfl⟩ := Int.eq_ofNat_of_zero_le hy.1
  have h1 : a ||| (b * 256) < 2 ^ 16 := Nat.or_lt_two_pow (by omega) (by omega)
  refine ⟨a ||| (b * 256), ?_, by omega⟩
  have e1 : (BitVec.ofInt 64 (a : Int)).toNat = a := by rw [BitVec.toNat_ofInt]; omega
  have e2 : (BitVec.ofInt 64 ((b : Int) * 256)).toNat = b * 256 := by rw [BitVec.toNat_ofInt]; omega
  show IntKind.i64.wrap (((BitVec.ofInt 64 (a : Int) ||| BitVec.ofInt 64 ((b : Int) * 256)).toNat : Nat) : Int) = _
  rw [BitVec.toNat_or, e1, e2]
  generalize a ||| (b * 256) = n at h1
  simp [IntKind.wrap, IntKind.bits, IntKind.signed]
  omega
theorem grown_row (w : World) (g : Nat) (cs : Array Value) : w.grownBy (w.setRow g cs) (some g) :=
  ⟨rfl, rfl, rfl, by simp [World.setRow], fun k _ hne => setRow_other w g k cs (by have : k ≠ g := fun e => hne (by rw [e]); omega)⟩
theorem results_slot_cell_slot {P : Program} {fn : Func} {o p q : Tmp} {ty : TypeId} (h : fn.results = #[.tmp o, .cell p ty, .tmp q]) (tmps : Array Value) (w : World) (g : Nat) (t : TypeId) (cs : Array Value) (fr : Nat × Nat) (d : TypeDesc)
    (hp : tmps.getD p undef = .pointer (some ⟨g, 0, none⟩)) (u v : Value) (ho : tmps.getD o undef = u) (hq : tmps.getD q undef = v) (hg : w.heap[g]? = some (.cells cs t fr))
    (hu : P.underlying ty = some d) (hd : (match d with | .struct _ | .array _ _ => true | _ => false) = true) (hi : (P.info? ty).map (·.size) = some cs.size) :
    (results fn tmps).run P w = .ok (.tuple #[u, .agg cs, v]) w := by
  have hp' : tmps[p]?.getD undef = .pointer (some ⟨g, 0, none⟩) := by simpa using hp
  have ho' : tmps[o]?.getD undef = u := by simpa using ho
  have hq' : tmps[q]?.getD undef = v := by simpa using hq
  simp [results, h, hp', ho', hq', asAddr, run_loadVar_row w g t ty cs fr d hg hu hd hi]
theorem gen_mix {P : Program} {l : List Oper} {S : World → Prop} {Q : Exit → Act → World → Prop} {last : Nat} {sched : List (Nat × Bool)} {a : Act} {w : World} (F : World → Prop) (h : F w) (k : ∀ w', F w' → wpMix P l S Q last sched a w') : wpMix P l S Q last sched a w := k w h
theorem guard_pg : Tryz.prog.eqGuardType Tryz.prog.depth 37 = false := by kernel_rfl
theorem info_u8' : ∃ i, Tryz.prog.info? 5 = some i := by
  cases h : Tryz.prog.info? 5 with
  | none => have h2 := info_u8; rw [h] at h2; cases h2
  | some i => exact ⟨i, rfl⟩
theorem cells_u8 : Tryz.prog.cellsOf 5 = 1 := by kernel_rfl
theorem plain_u8 : Tryz.prog.plainKey 5 = true := by kernel_rfl
theorem pg_eql (w : World) (x y : List Int) (hx : x.length = 64) (hy : y.length = 64) : (binOp .eql 37 (.agg (v8a x)) (.agg (v8a y))).run Tryz.prog w = .ok (.bool (decide (x = y))) w := by
  obtain ⟨i, hi⟩ := info_u8'
  exact run_eql_u8 Tryz.underlying37 hi cells_u8 plain_u8 Tryz.underlying5 w x y hx hy
def RdSt (w : World) (p : List Int) (pl : Nat) (n : Int) (last : List Int) (wx : World) : Prop :=
  wx.heap[w.heap.size]? = some (.cells (v8a p) 37) ∧ wx.heap[w.heap.size + 1]? = some (.cells (markC 0 0 (zer 32)) 148) ∧ wx.heap[w.heap.size + 1 + 1]? = some (.cells (markC pl n last) 148) ∧ Below w.heap.size w wx
theorem mark_set1 {w : World} {B T : Nat} {pl : Nat} {n : Int} {last : List Int} (h : w.heap[B]? = some (.cells (markC pl n last) T)) (m : Int) : (w.setCell ⟨B, 1, none⟩ (.int .u64 m)).heap[B]? = some (.cells (markC pl m last) T) := by
  rw [set_blk h]; rfl
theorem mark_fr {w : World} {B T : Nat} {pl : Nat} {n : Int} {last : List Int} (h : w.heap[B]? = some (.cells (markC pl n last) T)) : w.frozen? ⟨B, 1, none⟩ = false := by
  simp [World.frozen?, h]
theorem page_part {w : World} {B T : Nat} {l : List Int} (h : w.heap[B]? = some (.cells (v8a l) T)) (o m : Nat) (j : Nat) (v : Value) (hj : (v8 ((l.drop o).take m))[j]? = some v) : w.cell? ((⟨B, o, none⟩ : Addr).add j) = some v := by
  have ea : (⟨B, o, none⟩ : Addr).add j = ⟨B, o + j, none⟩ := by unfold Addr.add; split <;> simp_all
  have hlt : j < m := by have := (List.getElem?_eq_some_iff.1 hj).1; simp [v8] at this; omega
  rw [ea, cell_of_row w B (o + j) _ T (0, 0) h]
  simp only [v8, List.map_take, List.map_drop] at hj
  rw [List.getElem?_take_of_lt hlt, List.getElem?_drop] at hj
  simpa [v8a, v8] using hj
theorem mark_row (pl : Nat) (n : Int) (l c : List Int) (hl : l.length = 32) (hc : c.length = 32) : ((markC pl n l).toList.take 2 ++ (v8 c ++ (markC pl n l).toList.drop (2 + (v8 c).length))).toArray = markC pl n c := by
  simp [markC, v8, hl, hc]
theorem mark_range {w : World} {B T : Nat} {pl : Nat} {n : Int} {last : List Int} (h : w.heap[B]? = some (.cells (markC pl n last) T)) : w.rangeAt B 0 (.int .i64 (pl : Int) :: .int .u64 n :: v8 last) := fun j v hv => by
  rw [cell_of_row w B (0 + j) _ T (0, 0) h]
  simpa [markC] using hv
theorem RdSt.put {w wx : World} {p last : List Int} {pl : Nat} {n : Int} (h : RdSt w p pl n last wx) (m : Int) : RdSt w p pl m last (wx.drew.setCell ⟨w.heap.size + 1 + 1, 1, none⟩ (.int .u64 m)) :=
  ⟨heap_set_ne (w := wx.drew) (by omega) h.1, heap_set_ne (w := wx.drew) (by omega) h.2.1, mark_set1 (w := wx.drew) h.2.2.1 m, h.2.2.2.drew.setCell (by simp; omega) _⟩
set_option maxRecDepth 100000 in
set_option maxHeartbeats 4000000 in
theorem read_any (p : List Int) (w : World) (hp : PgOk p) :
    Calls Tryz.prog 65 #[.agg (v8a p)] w fun e w' => (∃ (g n : Int) (pl : Nat) (last : List Int), e = .returned (.tuple #[.int .u64 g, .agg (markC pl n last), .bool (decide (p = titleF g n pl last))]) ∧ (0 ≤ g ∧ g < 18446744073709551616) ∧ (0 ≤ n ∧ n < 18446744073709551616) ∧ pl ≤ 65535 ∧ last.length = 32 ∧ U8s last) ∧ Below w.heap.size w w' := by
  have HP := Lib.hid hp
  have g17 := hp.2.at 17
  have g18 := hp.2.at 18
  have hpl := hp.1
  clear hp
  go_enter Tryz.func65, Tryz.ntmps65
  repeat (fail_if_success (with_reducible refine stop_pos "pages.go:42" rfl ?_)
          first | go_values | go_skip | go_guarded | go_step | go_upon)
  refine gen_code (fun wx => Hid (wx.heap[w.heap.size]? = some (.cells (v8a p) 37) ∧ wx.heap[w.heap.size + 1]? = some (.cells (markC 0 0 (zer 32)) 148) ∧ Below w.heap.size w wx ∧ wx.heap.size = w.heap.size + 1 + 1)) (Lib.hid ⟨?_, ?_, ?_, ?_⟩) ?_
  · exact (heap_alloc_old _ _ (by simp)).trans (heap_alloc_new w _)
  · have h := heap_alloc_new (w.alloc (.cells (v8a p) 37)) (.cells (markC 0 0 (zer 32)) 148)
    simp only [World.size_alloc] at h
    exact h
  · repeat (first | with_reducible assumption | (with_reducible refine Below.setCell ?_ (by first | omega | (simp; done) | (simp; omega)) _) | (with_reducible refine Below.alloc ?_ (by first | omega | (simp; done) | (simp; omega)) _) | (with_reducible refine Below.drew ?_) | (with_reducible refine below_dN ?_ _) | with_reducible exact Below.refl _ _ | (with_reducible refine Below.trans ?_ (Below.mono (by assumption) (by first | omega | (simp; done) | (simp; omega)))))
  · simp
  intro w1 H1
  obtain ⟨c17, f17⟩ := v8_cell H1.out.1 17 (by omega)
  obtain ⟨c18, f18⟩ := v8_cell H1.out.1 18 (by omega)
  generalize p.getD 17 0 = p17 at g17 c17
  generalize p.getD 18 0 = p18 at g18 c18
  have r17 := cell_regrown c17
  have r18 := cell_regrown c18
  obtain ⟨g17a, g17b⟩ := g17
  obtain ⟨g18a, g18b⟩ := g18
  refine wp_region_mix [(0, true), (1, true), (2, true), (3, true), (4, true), (5, true), (6, true), (7, true), (8, true), (9, false), (10, true), (11, false)] 11 (fun w' => ∃ p : Regrown, w' = Go.Sort.grow (redrawn w1 p.d) p.os) (by kernel_rfl) (by kernel_rfl) (fun _ _ d _ _ h => by cases d <;> exact h) (grows_drew _) ?_
  (repeat (with_reducible refine mix_q ?_; simp only [List.drop_succ_cons, List.drop_zero, List.take_succ_cons, List.take_zero]; go_big_quiet_step (fail); with_reducible refine wpQuiet_nil ?_))
  have HB8 : Hid (∃ pl : Nat, bits BinOp.or IntKind.i64 p17 (p18 * 256) = (pl : Int) ∧ pl ≤ 65535) := Lib.hid (or16 p17 p18 ⟨g17a, g17b⟩ ⟨g18a, g18b⟩)
  obtain ⟨pl, hpl2, hple⟩ := HB8.out
  rw [hpl2]
  clear hpl2 HB8
  with_reducible refine mix_a ?_; simp only [List.drop_succ_cons, List.drop_zero, List.take_succ_cons, List.take_zero]
  go_wp2_with fail
  try with_reducible refine wpList_nil ?_
  with_reducible refine mixQ_normal ?_
  have hba : ∀ o : Obj, Below w1.heap.size w1 (w1.alloc o).drew := fun o => ((Below.refl _ _).alloc (Nat.le_refl _) _).drew
  refine ⟨fun _ => grows_of_below (hba _), ?_⟩
  refine gen_mix (fun wx => Hid (wx.heap[w.heap.size]? = some (.cells (v8a p) 37) ∧ wx.heap[w.heap.size + 1]? = some (.cells (markC 0 0 (zer 32)) 148) ∧ wx.heap[w1.heap.size]? = some (.cells (markC 0 0 (zer 32)) 148) ∧ Below w.heap.size w wx)) (Lib.hid ⟨((hba _).block _ (lt_of_blk H1.out.1)).trans H1.out.1, ((hba _).block _ (lt_of_blk H1.out.2.1)).trans H1.out.2.1, heap_alloc_new w1 (.cells (markC 0 0 (zer 32)) 148), H1.out.2.2.1.trans ((hba _).mono H1.out.2.2.1.size)⟩) ?_
  have hsz1 := H1.out.2.2.2
  clear c17 f17 c18 f18 r17 r18 g17a g17b g18a g18b hba
  intro w2 H2
  rw [hsz1] at H2 ⊢
  (repeat (with_reducible refine mix_q ?_; simp only [List.drop_succ_cons, List.drop_zero, List.take_succ_cons, List.take_zero]; go_big_quiet_step (fail); with_reducible refine wpQuiet_nil ?_))
  with_reducible refine mix_a ?_; simp only [List.drop_succ_cons, List.drop_zero, List.take_succ_cons, List.take_zero]
  refine wpList_store_row rfl 148 (.tmp 6) (.tmp 16) rfl (w.heap.size + 1 + 1) (markC pl 0 (zer 32)) rfl rfl 148 (markC 0 0 (zer 32)) H2.out.2.2.1 info_mks rfl (markC_one _ _ _) ?_
  refine gen_world (fun wx => Hid (RdSt w p pl 0 (zer 32) wx)) (Lib.hid ⟨?_, ?_, setRow_heap _ _ _ _ _ (0, 0) H2.out.2.2.1, below_setRow H2.out.2.2.2 (by omega) _⟩) ?_
  · rw [setRow_other _ _ _ _ (by omega)]; exact H2.out.1
  · rw [setRow_other _ _ _ _ (by omega)]; exact H2.out.2.1
  clear H1 H2 hsz1
  intro w3 H3
  simp only [Act.put]
  with_reducible refine wpList_nil ?_
  refine mixQ_normal ⟨fun h => absurd h (by simp), mix_nil ?_⟩
  go_wp2_with fail
  go_loopw [5, 17] (fun gv iv wr => ∃ (i : Nat) (G n : Int), iv = .int .i64 i ∧ gv = .int .u64 G ∧ i ≤ 8 ∧ (0 ≤ G ∧ G < 18446744073709551616) ∧ (0 ≤ n ∧ n < 18446744073709551616) ∧ Hid (RdSt w p pl n (zer 32) wr)) (fun _ iv _ => 8 - (intOf iv).toNat)
  case atStart => exact ⟨0, 0, 0, rfl, rfl, by omega, by decide, by decide, H3⟩
  case round =>
    obtain ⟨i, G, n, rfl, rfl, hi, ⟨hG0, hG1⟩, ⟨hn0, hn1⟩, HS⟩ := hrel
    by_cases hlt : i < 8
    · obtain ⟨c1, f1⟩ := v8_cell HS.out.1 (1 + i) (by omega)
      obtain ⟨c2, f2⟩ := v8_cell HS.out.1 (9 + i) (by omega)
      obtain ⟨m0, m1⟩ := mark_cells HS.out.2.2.1
      have mf := mark_fr HS.out.2.2.1
      have g1 := HP.out.2.at (1 + i)
      have g2 := HP.out.2.at (9 + i)
      have hi0 : (0 : Int) ≤ i := by omega
      have hi8 : (i : Int) < 8 := by omega
      generalize p.getD (1 + i) 0 = x1 at c1 g1
      generalize p.getD (9 + i) 0 = x2 at c2 g2
      obtain ⟨g1a, g1b⟩ := g1
      obtain ⟨g2a, g2b⟩ := g2
      have r2 := cell_regrown c2
      have r3 := cell_regrown m1
      go_wp2_with fail
      refine wp_region_qlast 12 (fun w' => ∃ p : Regrown, w' = Go.Sort.grow (redrawn wr p.d) p.os) (by kernel_rfl) (by kernel_rfl) (fun _ _ d _ _ h => by cases d <;> exact h) (grows_drew _) ?_
      simp only [List.take_succ_cons, List.take_zero]
      repeat (go_big_quiet_step (fail))
      with_reducible refine wpQuiet_nil ?_
      with_reducible refine mix_a ?_
      simp only [List.drop_succ_cons, List.drop_zero, List.take_succ_cons, List.take_zero]
      go_wp2_with fail
      refine mixQ_normal ⟨fun h => absurd h (by simp), mix_nil ?_⟩
      go_wp2_with fail
      exact ⟨⟨i + 1, _, _, by go_num, rfl, by omega, ⟨bits_lo_u64 _ _ _, Int.lt_of_le_of_lt (bits_hi_u64 _ _ _) (by decide)⟩, ⟨bits_lo_u64 _ _ _, Int.lt_of_le_of_lt (bits_hi_u64 _ _ _) (by decide)⟩, Lib.hid (HS.out.put _)⟩, by simp [intOf]; omega⟩
    · obtain rfl : i = 8 := by omega
      go_wp2_with fail
      refine wp_region_qlast 3 (fun w' => ∃ p : Regrown, w' = Go.Sort.grow (redrawn wr p.d) p.os) (by kernel_rfl) (by kernel_rfl) (fun _ _ d _ _ h => by cases d <;> exact h) (grows_drew _) ?_
      simp only [List.take_succ_cons, List.take_zero]
      repeat (go_big_quiet_step (fail))
      with_reducible refine wpQuiet_nil ?_
      with_reducible refine mix_a ?_
      simp only [List.drop_succ_cons, List.drop_zero, List.take_succ_cons, List.take_zero]
      have h32 : ((p.drop 19).take 32).length = 32 := by simp [hpl]
      have hl8 : (v8 ((p.drop 19).take 32)).length = 32 := by rw [v8_length, h32]
      refine wpList_copy_own rfl (.tmp 44) (.tmp 45) 118 118 rfl 5 Tryz.underlying118 (by kernel_rfl) (w.heap.size + 1 + 1) 2 32 32 ⟨w.heap.size, 19, none⟩ 32 45 rfl rfl (markC pl n (zer 32)) 148 HS.out.2.2.1 (v8 ((p.drop 19).take 32)) hl8 (fun j v hj => page_part (w := wr.drew) HS.out.1 19 32 j v hj) ?k2 (v8_one _) ?_
      case k2 => rw [hl8, markC_size _ _ _ (by simp [zer])]; decide
      rw [mark_row pl n (zer 32) ((p.drop 19).take 32) (by simp [zer]) h32]
      refine gen_world (fun wx => Hid (RdSt w p pl n ((p.drop 19).take 32) wx)) (Lib.hid ⟨?_, ?_, setRow_heap _ _ _ _ _ (0, 0) HS.out.2.2.1, below_setRow HS.out.2.2.2.drew (by omega) _⟩) ?_
      · rw [setRow_other _ _ _ _ (by omega)]; exact HS.out.1
      · rw [setRow_other _ _ _ _ (by omega)]; exact HS.out.2.1
      clear HS hl8
      have H32 := Lib.hid h32
      have HL8 : Hid (U8s ((p.drop 19).take 32)) := Lib.hid (fun x hx => HP.out.2 x (List.mem_of_mem_drop (List.mem_of_mem_take hx)))
      clear h32
      generalize (p.drop 19).take 32 = last at H32 HL8 ⊢
      intro w5 H5
      simp only [Act.put]
      with_reducible refine wpList_nil ?_
      refine mixQ_normal ⟨fun h => absurd h (by simp), mix_nil ?_⟩
      go_wp2_with fail
      simp only [List.setIfInBounds_toArray, List.set_cons_zero, List.set_cons_succ]
      have HML : Hid ((Value.int .i64 (pl : Int) :: .int .u64 n :: v8 last).length = 34) := Lib.hid (by simp only [List.length_cons, v8_length, H32.out])
      have HPL : Hid ((v8 p).length = 64) := Lib.hid (by rw [v8_length, hpl])
      have hR5 : w.heap.size + 1 < w5.heap.size := lt_of_blk H5.out.2.1
      refine wp_region_mix [(0, true), (1, true), (2, true), (3, true), (4, true), (5, false), (6, true), (7, true), (8, false), (9, true)] 9 (fun w' => ∃ p : RegrownB, w' = setO (Go.Sort.grow (redrawn w5 p.d) p.os) (w.heap.size + 1) p.o) (by kernel_rfl) (by kernel_rfl) (fun _ _ d _ _ h => by cases d <;> exact h) (growsB_drew hR5) ?_
      with_reducible refine mix_q ?_
      simp only [List.drop_succ_cons, List.drop_zero, List.take_succ_cons, List.take_zero]
      go_big_quiet_step (fail)
      with_reducible refine wpQuiet_nil ?_
      with_reducible refine mix_q ?_
      simp only [List.drop_succ_cons, List.drop_zero, List.take_succ_cons, List.take_zero]
      go_big_quiet_want
      refine quiet_load_mid 148 (.tmp 6) rfl (w.heap.size + 1 + 1) 0 rfl (.int .i64 (pl : Int) :: .int .u64 n :: v8 last) _ (fun w' hw' => by obtain ⟨q, rfl⟩ := hw'; exact mark_range (blkB H5.out.2.2.1 (by omega) _ _ _)) Tryz.underlying148 rfl (by rw [HML.out]; exact info_mks) ?_
      simp only [Act.put, List.setIfInBounds_toArray, List.set_cons_zero, List.set_cons_succ]
      go_big_quiet_on
      with_reducible refine wpQuiet_nil ?_
      with_reducible refine mix_q ?_
      simp only [List.drop_succ_cons, List.drop_zero, List.take_succ_cons, List.take_zero]
      go_big_quiet_want
      refine quiet_load_mid 37 (.tmp 1) rfl w.heap.size 0 rfl (v8 p) _ (fun w' hw' => by obtain ⟨q, rfl⟩ := hw'; exact row_range (blkB H5.out.1 (by omega) _ _ _)) Tryz.underlying37 rfl (by rw [HPL.out]; exact info_pgs) ?_
      simp only [Act.put, List.setIfInBounds_toArray, List.set_cons_zero, List.set_cons_succ]
      go_big_quiet_on
      with_reducible refine wpQuiet_nil ?_
      with_reducible refine mix_q ?_
      simp only [List.drop_succ_cons, List.drop_zero, List.take_succ_cons, List.take_zero]
      go_big_quiet_step (fail)
      with_reducible refine wpQuiet_nil ?_
      with_reducible refine mix_q ?_
      simp only [List.drop_succ_cons, List.drop_zero, List.take_succ_cons, List.take_zero]
      go_big_quiet_want
      refine quiet_load_mid 148 (.tmp 6) rfl (w.heap.size + 1 + 1) 0 rfl (.int .i64 (pl : Int) :: .int .u64 n :: v8 last) _ (fun w' hw' => by obtain ⟨q, rfl⟩ := hw'; exact mark_range (blkB H5.out.2.2.1 (by omega) _ _ _)) Tryz.underlying148 rfl (by rw [HML.out]; exact info_mks) ?_
      simp only [Act.put, List.setIfInBounds_toArray, List.set_cons_zero, List.set_cons_succ]
      go_big_quiet_on
      with_reducible refine wpQuiet_nil ?_
      with_reducible refine mix_a ?_; simp only [List.drop_succ_cons, List.drop_zero, List.take_succ_cons, List.take_zero]
      go_wp2_with fail
      have HSH := title_any G n pl last w5.drew ⟨hG0, hG1⟩ ⟨hn0, hn1⟩ hple ⟨H32.out, HL8.out⟩
      refine HSH.mono ?_
      clear HSH
      rintro e w6 ⟨rfl, hb6⟩
      have hb65 : Below w5.heap.size w5 w6 := (Below.refl _ _).drew.trans hb6
      have H6 : Hid (RdSt w p pl n last w6) := Lib.hid ⟨(hb65.block _ (lt_of_blk H5.out.1)).trans H5.out.1, (hb65.block _ (lt_of_blk H5.out.2.1)).trans H5.out.2.1, (hb65.block _ (lt_of_blk H5.out.2.2.1)).trans H5.out.2.2.1, H5.out.2.2.2.trans (hb65.mono H5.out.2.2.2.size)⟩
      try dsimp only
      go_wp2_with fail
      try with_reducible refine wpList_nil ?_
      with_reducible refine mixQ_normal ?_
      refine ⟨fun _ => growsB_of hR5 (grown_of_below hb65 _), ?_⟩
      with_reducible refine mix_q ?_
      simp only [List.drop_succ_cons, List.drop_zero, List.take_succ_cons, List.take_zero]
      go_big_quiet_want
      refine quiet_eql_to 37 _ (.tmp 49) (.tmp 52) rfl (v8a p) (v8a (titleF G n pl last)) (decide (p = titleF G n pl last)) rfl rfl guard_pg (fun w => pg_eql w p _ hpl (titleF_ok G n pl last hple H32.out HL8.out).1) ?_
      simp only [Act.put, List.setIfInBounds_toArray, List.set_cons_zero, List.set_cons_succ]
      go_big_quiet_on
      with_reducible refine wpQuiet_nil ?_
      (repeat (with_reducible refine mix_q ?_; simp only [List.drop_succ_cons, List.drop_zero, List.take_succ_cons, List.take_zero]; go_big_quiet_step (fail); with_reducible refine wpQuiet_nil ?_))
      with_reducible refine mix_a ?_; simp only [List.drop_succ_cons, List.drop_zero, List.take_succ_cons, List.take_zero]
      refine wpList_store_row rfl 148 (.tmp 3) (.tmp 48) rfl (w.heap.size + 1) (markC pl n last) rfl rfl 148 (markC 0 0 (zer 32)) H6.out.2.1 (by rw [markC_size _ _ _ H32.out]; exact info_mks) (by rw [markC_size _ _ _ H32.out]; rfl) (markC_one _ _ _) ?_
      have hfin := setRow_heap w6 (w.heap.size + 1) _ (markC pl n last) 148 (0, 0) H6.out.2.1
      have hbf : Below w.heap.size w (w6.setRow (w.heap.size + 1) (markC pl n last)) := below_setRow H6.out.2.2.2 (by omega) _
      have hgr := growsB_of hR5 (grown_trans (grown_of_below hb65 _) (grown_row w6 (w.heap.size + 1) (markC pl n last)))
      generalize w6.setRow (w.heap.size + 1) (markC pl n last) = wf at hfin hbf hgr ⊢
      simp only [Act.put]
      with_reducible refine wpList_nil ?_
      with_reducible refine mixQ_normal ?_
      refine ⟨fun _ => hgr, ?_⟩
      (repeat (with_reducible refine mix_q ?_; simp only [List.drop_succ_cons, List.drop_zero, List.take_succ_cons, List.take_zero]; go_big_quiet_step (fail); with_reducible refine wpQuiet_nil ?_))
      with_reducible refine mix_nil ?_
      go_wp2_with fail
      refine bodyPost_ret (results_slot_cell_slot Tryz.results65 _ _ (w.heap.size + 1) 148 (markC pl n last) (0, 0) _ rfl (.int .u64 G) (.bool (decide (p = titleF G n pl last))) rfl rfl hfin Tryz.underlying148 rfl (by rw [markC_size _ _ _ H32.out]; exact info_mks)) rfl ⟨⟨G, n, pl, last, rfl, ⟨hG0, hG1⟩, ⟨hn0, hn1⟩, hple, H32.out, HL8.out⟩, hbf⟩
theorem zero_title (g n : Int) (pl : Nat) (last : List Int) : decide (zer 64 = titleF g n pl last) = false := by
  rw [decide_eq_false_iff_not]
  intro h
  have h2 := titleF_zero g n pl last
  rw [← h] at h2
  simp [zer] at h2
end Go.Proofs.YtajmcplanlibnaaGreatDoor
