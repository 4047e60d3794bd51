/- A number is read out of a page; what a title says, exactly. -/
import Derived.Test.YtajmcplanlibnaaGreatDoorKYQ1
set_option linter.unusedSimpArgs false
set_option linter.unusedVariables false
set_option linter.unnecessarySimpa false
namespace Go.Proofs.YtajmcplanlibnaaGreatDoor
open Go.RowKit Go.Maps
set_option maxRecDepth 100000 in
set_option maxHeartbeats 4000000 in
theorem readx_any (p : List Int) (w : World) (hp : PgOk p) :
    Calls Tryz.prog 65 #[.agg (v8a p)] w fun e w' => e = .returned (.tuple #[.int .u64 (getR p 1 8), .agg (markC (plT p) (getR p 9 8) (lastT p)), .bool (decide (p = Wz5 (getR p 1 8) (getR p 9 8) (plT p) (lastT p)))]) ∧ Below w.heap.size w w' := by
  have HP := hZ hp
  have g17 := hp.2.at 17
  have g18 := hp.2.at 18
  have hpl := hp.1
  clear hp
  go_enter Tryz.func65, Tryz.ntmps65
  repeat (fail_if_success (with_reducible refine Vz1 "pages.go:42" rfl ?_)
          first | go_values | go_skip | go_guarded | go_step | go_upon)
  refine Kz0 (fun wx => Hid (wx.heap[w.heap.size]? = some (.cells (v8a p) 37) ∧ wx.heap[w.heap.size + 1]? = some (.cells (markC 0 0 (zer 32)) 148) ∧ Below w.heap.size w wx ∧ wx.heap.size = w.heap.size + 1 + 1)) (hZ ⟨?_, ?_, ?_, ?_⟩) ?_
  · exact (heap_alloc_old _ _ (by simp)).trans (heap_alloc_new w _)
  · have h := heap_alloc_new (w.alloc (.cells (v8a p) 37)) (.cells (markC 0 0 (zer 32)) 148)
    simp only [World.size_alloc] at h
    exact h
  · repeat (first | with_reducible assumption | (with_reducible refine Below.setCell ?_ (by first | omega | (simp; done) | (simp; omega)) _) | (with_reducible refine Below.alloc ?_ (by first | omega | (simp; done) | (simp; omega)) _) | (with_reducible refine Below.drew ?_) | (with_reducible refine Qz2 ?_ _) | with_reducible exact Below.refl _ _ | (with_reducible refine Below.trans ?_ (Below.mono (by assumption) (by first | omega | (simp; done) | (simp; omega)))))
  · simp
  intro w1 H1
  obtain ⟨c17, f17⟩ := Qz6 H1.out.1 17 (by omega)
  obtain ⟨c18, f18⟩ := Qz6 H1.out.1 18 (by omega)
  generalize e17 : p.getD 17 0 = p17 at g17 c17
  generalize e18 : p.getD 18 0 = p18 at g18 c18
  have r17 := cell_regrown c17
  have r18 := cell_regrown c18
  obtain ⟨g17a, g17b⟩ := g17
  obtain ⟨g18a, g18b⟩ := g18
  refine Vz0 [(0, true), (1, true), (2, true), (3, true), (4, true), (5, true), (6, true), (7, true), (8, true), (9, false), (10, true), (11, false)] 11 (fun w' => ∃ p : Regrown, w' = Go.Sort.grow (redrawn w1 p.d) p.os) (by kernel_rfl) (by kernel_rfl) (fun _ _ d _ _ h => by cases d <;> exact h) (Vz2 _) ?_
  (repeat (with_reducible refine mix_q ?_; simp only [qd1, qd0, qt1, qt0]; go_big_quiet_step (fail); with_reducible refine wpQuiet_nil ?_))
  rw [or16x p17 p18 ⟨g17a, g17b⟩ ⟨g18a, g18b⟩]
  obtain ⟨pl, hpl2⟩ : ∃ pl : Nat, p17 + p18 * 256 = (pl : Int) := Int.eq_ofNat_of_zero_le (by omega)
  have hple : pl ≤ 65535 := by omega
  have HPE : Hid (plT p = pl) := hZ (by unfold plT; rw [e17, e18, hpl2]; rfl)
  rw [hpl2]
  clear hpl2
  with_reducible refine mix_a ?_; simp only [qd1, qd0, qt1, qt0]
  go_wp2_with fail
  try with_reducible refine wpList_nil ?_
  with_reducible refine Qz0 ?_
  have hba : ∀ o : Obj, Below w1.heap.size w1 (w1.alloc o).drew := fun o => (bZ).drew
  refine ⟨fun _ => Jz0 (hba _), ?_⟩
  refine gen_mix (fun wx => Hid (wx.heap[w.heap.size]? = some (.cells (v8a p) 37) ∧ wx.heap[w.heap.size + 1]? = some (.cells (markC 0 0 (zer 32)) 148) ∧ wx.heap[w1.heap.size]? = some (.cells (markC 0 0 (zer 32)) 148) ∧ Below w.heap.size w wx)) (hZ ⟨((hba _).block _ (Zz0 H1.out.1)).trans H1.out.1, ((hba _).block _ (Zz0 H1.out.2.1)).trans H1.out.2.1, heap_alloc_new w1 (.cells (markC 0 0 (zer 32)) 148), H1.out.2.2.1.trans ((hba _).mono H1.out.2.2.1.size)⟩) ?_
  have hsz1 := H1.out.2.2.2
  clear c17 f17 c18 f18 r17 r18 g17a g17b g18a g18b hba e17 e18
  intro w2 H2
  rw [hsz1] at H2 ⊢
  (repeat (with_reducible refine mix_q ?_; simp only [qd1, qd0, qt1, qt0]; go_big_quiet_step (fail); with_reducible refine wpQuiet_nil ?_))
  with_reducible refine mix_a ?_; simp only [qd1, qd0, qt1, qt0]
  refine wpList_store_row rfl 148 (.tmp 6) (.tmp 16) rfl (w.heap.size + 1 + 1) (markC pl 0 (zer 32)) rfl rfl 148 (markC 0 0 (zer 32)) H2.out.2.2.1 Wz7 rfl (Xza _ _ _) ?_
  refine Xz0 (fun wx => Hid (RdSt w p pl 0 (zer 32) wx)) (hZ ⟨?_, ?_, setRow_heap _ _ _ _ _ (0, 0) H2.out.2.2.1, below_setRow H2.out.2.2.2 (by omega) _⟩) ?_
  · rw [setRow_other _ _ _ _ (by omega)]; exact H2.out.1
  · rw [setRow_other _ _ _ _ (by omega)]; exact H2.out.2.1
  clear H1 H2 hsz1
  intro w3 H3
  simp only [Act.put]
  with_reducible refine wpList_nil ?_
  refine Qz0 ⟨fun h => absurd h (by simp), Wz1 ?_⟩
  go_wp2_with fail
  go_loopw [5, 17] (fun gv iv wr => ∃ (i : Nat) (G n : Int), iv = .int .i64 i ∧ gv = .int .u64 G ∧ i ≤ 8 ∧ Hid (G = getR p 1 i ∧ n = getR p 9 i) ∧ Hid (RdSt w p pl n (zer 32) wr)) (fun _ iv _ => 8 - (intOf iv).toNat)
  case atStart => exact ⟨0, 0, 0, rfl, rfl, by omega, hZ ⟨rfl, rfl⟩, H3⟩
  case round =>
    obtain ⟨i, G, n, rfl, rfl, hi, HGN, HS⟩ := hrel
    have hGl : 0 ≤ G ∧ G < 2 ^ (8 * i) := by rw [HGN.out.1]; exact getR_lt HP.out.2 1 i
    have hnl : 0 ≤ n ∧ n < 2 ^ (8 * i) := by rw [HGN.out.2]; exact getR_lt HP.out.2 9 i
    by_cases hlt : i < 8
    · obtain ⟨c1, f1⟩ := Qz6 HS.out.1 (1 + i) (by omega)
      obtain ⟨c2, f2⟩ := Qz6 HS.out.1 (9 + i) (by omega)
      obtain ⟨m0, m1⟩ := mark_cells HS.out.2.2.1
      have mf := mark_fr HS.out.2.2.1
      have g1 := HP.out.2.at (1 + i)
      have g2 := HP.out.2.at (9 + i)
      have hi0 : (0 : Int) ≤ i := by omega
      have hi8 : (i : Int) < 8 := by omega
      have HN1 : Hid (bits BinOp.or IntKind.u64 G (IntKind.u64.wrap (p.getD (1 + i) 0 * 2 ^ (8 * i))) = getR p 1 (i + 1)) := hZ (by rw [bits_or_shl _ _ i hlt hGl g1, HGN.out.1]; rfl)
      have HN2 : Hid (bits BinOp.or IntKind.u64 n (IntKind.u64.wrap (p.getD (9 + i) 0 * 2 ^ (8 * i))) = getR p 9 (i + 1)) := hZ (by rw [bits_or_shl _ _ i hlt hnl g2, HGN.out.2]; rfl)
      generalize p.getD (1 + i) 0 = x1 at c1 g1 HN1
      generalize p.getD (9 + i) 0 = x2 at c2 g2 HN2
      clear hGl hnl
      obtain ⟨g1a, g1b⟩ := g1
      obtain ⟨g2a, g2b⟩ := g2
      have r2 := cell_regrown c2
      have r3 := cell_regrown m1
      go_wp2_with fail
      refine Zz3 12 (fun w' => ∃ p : Regrown, w' = Go.Sort.grow (redrawn wr p.d) p.os) (by kernel_rfl) (by kernel_rfl) (fun _ _ d _ _ h => by cases d <;> exact h) (Vz2 _) ?_
      simp only [List.take_succ_cons, List.take_zero]
      repeat (go_big_quiet_step (fail))
      with_reducible refine wpQuiet_nil ?_
      with_reducible refine mix_a ?_
      simp only [qd1, qd0, qt1, qt0]
      go_wp2_with fail
      refine Qz0 ⟨fun h => absurd h (by simp), Wz1 ?_⟩
      go_wp2_with fail
      trace_state
      exact ⟨⟨i + 1, _, _, by go_num, rfl, by omega, hZ ⟨HN1.out, HN2.out⟩, hZ (HS.out.put _)⟩, by simp [intOf]; omega⟩
    · obtain rfl : i = 8 := by omega
      obtain ⟨hG0, hG1⟩ := hGl
      obtain ⟨hn0, hn1⟩ := hnl
      have hG1 : G < 18446744073709551616 := hG1
      have hn1 : n < 18446744073709551616 := hn1
      go_wp2_with fail
      refine Zz3 3 (fun w' => ∃ p : Regrown, w' = Go.Sort.grow (redrawn wr p.d) p.os) (by kernel_rfl) (by kernel_rfl) (fun _ _ d _ _ h => by cases d <;> exact h) (Vz2 _) ?_
      simp only [List.take_succ_cons, List.take_zero]
      repeat (go_big_quiet_step (fail))
      with_reducible refine wpQuiet_nil ?_
      with_reducible refine mix_a ?_
      simp only [qd1, qd0, qt1, qt0]
      have h32 : ((p.drop 19).take 32).length = 32 := by simp [hpl]
      have hl8 : (v8 ((p.drop 19).take 32)).length = 32 := by rw [Wz0, h32]
      refine wpList_copy_own rfl (.tmp 44) (.tmp 45) 118 118 rfl 5 Tryz.underlying118 (by kernel_rfl) (w.heap.size + 1 + 1) 2 32 32 ⟨w.heap.size, 19, none⟩ 32 45 rfl rfl (markC pl n (zer 32)) 148 HS.out.2.2.1 (v8 ((p.drop 19).take 32)) hl8 (fun j v hj => page_part (w := wr.drew) HS.out.1 19 32 j v hj) ?k2 (Kz7 _) ?_
      case k2 => rw [hl8, Jz5 _ _ _ (by simp [zer])]; decide
      rw [mark_row pl n (zer 32) ((p.drop 19).take 32) (by simp [zer]) h32]
      refine Xz0 (fun wx => Hid (RdSt w p pl n ((p.drop 19).take 32) wx)) (hZ ⟨?_, ?_, setRow_heap _ _ _ _ _ (0, 0) HS.out.2.2.1, below_setRow HS.out.2.2.2.drew (by omega) _⟩) ?_
      · rw [setRow_other _ _ _ _ (by omega)]; exact HS.out.1
      · rw [setRow_other _ _ _ _ (by omega)]; exact HS.out.2.1
      clear HS hl8
      have H32 := hZ h32
      have HL8 : Hid (U8s ((p.drop 19).take 32)) := hZ (fun x hx => HP.out.2 x (List.mem_of_mem_drop (List.mem_of_mem_take hx)))
      clear h32
      have HLE : Hid (lastT p = (p.drop 19).take 32) := hZ rfl
      generalize (p.drop 19).take 32 = last at H32 HL8 HLE ⊢
      intro w5 H5
      simp only [Act.put]
      with_reducible refine wpList_nil ?_
      refine Qz0 ⟨fun h => absurd h (by simp), Wz1 ?_⟩
      go_wp2_with fail
      simp only [qs0, qs1, qs2]
      have HML : Hid ((Value.int .i64 (pl : Int) :: .int .u64 n :: v8 last).length = 34) := hZ (by simp only [List.length_cons, Wz0, H32.out])
      have HPL : Hid ((v8 p).length = 64) := hZ (by rw [Wz0, hpl])
      have hR5 : w.heap.size + 1 < w5.heap.size := Zz0 H5.out.2.1
      refine Vz0 [(0, true), (1, true), (2, true), (3, true), (4, true), (5, false), (6, true), (7, true), (8, false), (9, true)] 9 (fun w' => ∃ p : RegrownB, w' = setO (Go.Sort.grow (redrawn w5 p.d) p.os) (w.heap.size + 1) p.o) (by kernel_rfl) (by kernel_rfl) (fun _ _ d _ _ h => by cases d <;> exact h) (Kz6 hR5) ?_
      with_reducible refine mix_q ?_
      simp only [qd1, qd0, qt1, qt0]
      go_big_quiet_step (fail)
      with_reducible refine wpQuiet_nil ?_
      with_reducible refine mix_q ?_
      simp only [qd1, qd0, qt1, qt0]
      go_big_quiet_want
      refine Jz1 148 (.tmp 6) rfl (w.heap.size + 1 + 1) 0 rfl (.int .i64 (pl : Int) :: .int .u64 n :: v8 last) _ (fun w' hw' => by obtain ⟨q, rfl⟩ := hw'; exact Jzc (blkB H5.out.2.2.1 (by omega) _ _ _)) Tryz.underlying148 rfl (by rw [HML.out]; exact Wz7) ?_
      simp only [Act.put, qs0, qs1, qs2]
      go_big_quiet_on
      with_reducible refine wpQuiet_nil ?_
      with_reducible refine mix_q ?_
      simp only [qd1, qd0, qt1, qt0]
      go_big_quiet_want
      refine Jz1 37 (.tmp 1) rfl w.heap.size 0 rfl (v8 p) _ (fun w' hw' => by obtain ⟨q, rfl⟩ := hw'; exact Vz6 (blkB H5.out.1 (by omega) _ _ _)) Tryz.underlying37 rfl (by rw [HPL.out]; exact Zz5) ?_
      simp only [Act.put, qs0, qs1, qs2]
      go_big_quiet_on
      with_reducible refine wpQuiet_nil ?_
      with_reducible refine mix_q ?_
      simp only [qd1, qd0, qt1, qt0]
      go_big_quiet_step (fail)
      with_reducible refine wpQuiet_nil ?_
      with_reducible refine mix_q ?_
      simp only [qd1, qd0, qt1, qt0]
      go_big_quiet_want
      refine Jz1 148 (.tmp 6) rfl (w.heap.size + 1 + 1) 0 rfl (.int .i64 (pl : Int) :: .int .u64 n :: v8 last) _ (fun w' hw' => by obtain ⟨q, rfl⟩ := hw'; exact Jzc (blkB H5.out.2.2.1 (by omega) _ _ _)) Tryz.underlying148 rfl (by rw [HML.out]; exact Wz7) ?_
      simp only [Act.put, qs0, qs1, qs2]
      go_big_quiet_on
      with_reducible refine wpQuiet_nil ?_
      with_reducible refine mix_a ?_; simp only [qd1, qd0, qt1, qt0]
      go_wp2_with fail
      have HSH := title_any G n pl last w5.drew ⟨hG0, hG1⟩ ⟨hn0, hn1⟩ hple ⟨H32.out, HL8.out⟩
      refine HSH.mono ?_
      clear HSH
      rintro e w6 ⟨rfl, hb6⟩
      have hb65 : Below w5.heap.size w5 w6 := (Below.refl _ _).drew.trans hb6
      have H6 : Hid (RdSt w p pl n last w6) := hZ ⟨(hb65.block _ (Zz0 H5.out.1)).trans H5.out.1, (hb65.block _ (Zz0 H5.out.2.1)).trans H5.out.2.1, (hb65.block _ (Zz0 H5.out.2.2.1)).trans H5.out.2.2.1, H5.out.2.2.2.trans (hb65.mono H5.out.2.2.2.size)⟩
      try dsimp only
      go_wp2_with fail
      try with_reducible refine wpList_nil ?_
      with_reducible refine Qz0 ?_
      refine ⟨fun _ => Qz5 hR5 (Zz2 hb65 _), ?_⟩
      with_reducible refine mix_q ?_
      simp only [qd1, qd0, qt1, qt0]
      go_big_quiet_want
      refine quiet_eql_to 37 _ (.tmp 49) (.tmp 52) rfl (v8a p) (v8a (Wz5 G n pl last)) (decide (p = Wz5 G n pl last)) rfl rfl guard_pg (fun w => pg_eql w p _ hpl (titleF_ok G n pl last hple H32.out HL8.out).1) ?_
      simp only [Act.put, qs0, qs1, qs2]
      go_big_quiet_on
      with_reducible refine wpQuiet_nil ?_
      (repeat (with_reducible refine mix_q ?_; simp only [qd1, qd0, qt1, qt0]; go_big_quiet_step (fail); with_reducible refine wpQuiet_nil ?_))
      with_reducible refine mix_a ?_; simp only [qd1, qd0, qt1, qt0]
      refine wpList_store_row rfl 148 (.tmp 3) (.tmp 48) rfl (w.heap.size + 1) (markC pl n last) rfl rfl 148 (markC 0 0 (zer 32)) H6.out.2.1 (by rw [Jz5 _ _ _ H32.out]; exact Wz7) (by rw [Jz5 _ _ _ H32.out]; rfl) (Xza _ _ _) ?_
      have hfin := setRow_heap w6 (w.heap.size + 1) _ (markC pl n last) 148 (0, 0) H6.out.2.1
      have hbf : Below w.heap.size w (w6.setRow (w.heap.size + 1) (markC pl n last)) := below_setRow H6.out.2.2.2 (by omega) _
      have hgr := Qz5 hR5 (Xz2 (Zz2 hb65 _) (Wzd w6 (w.heap.size + 1) (markC pl n last)))
      generalize w6.setRow (w.heap.size + 1) (markC pl n last) = wf at hfin hbf hgr ⊢
      simp only [Act.put]
      with_reducible refine wpList_nil ?_
      with_reducible refine Qz0 ?_
      refine ⟨fun _ => hgr, ?_⟩
      (repeat (with_reducible refine mix_q ?_; simp only [qd1, qd0, qt1, qt0]; go_big_quiet_step (fail); with_reducible refine wpQuiet_nil ?_))
      with_reducible refine Wz1 ?_
      go_wp2_with fail
      refine bodyPost_ret (results_slot_cell_slot Tryz.results65 _ _ (w.heap.size + 1) 148 (markC pl n last) (0, 0) _ rfl (.int .u64 G) (.bool (decide (p = Wz5 G n pl last))) rfl rfl hfin Tryz.underlying148 rfl (by rw [Jz5 _ _ _ H32.out]; exact Wz7)) rfl ⟨by rw [← HGN.out.1, ← HGN.out.2, HPE.out, HLE.out], hbf⟩
end Go.Proofs.YtajmcplanlibnaaGreatDoor
