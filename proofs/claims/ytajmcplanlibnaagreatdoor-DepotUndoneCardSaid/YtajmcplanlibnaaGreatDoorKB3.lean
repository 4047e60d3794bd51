/- A book: a page is written, in the transaction under way. -/
import Derived.Test.YtajmcplanlibnaaGreatDoorKB2
import Derived.Test.YtajmcplanlibnaaGreatDoorKB1
set_option linter.unusedSimpArgs false
set_option linter.unusedVariables false
set_option linter.unnecessarySimpa false
namespace Go.Proofs.YtajmcplanlibnaaGreatDoor
open Go.RowKit Go.Maps
def BookS.f (B : BookS) : PgF := B.opn.getD (fun _ => none)
def BookS.begun (B : BookS) : BookS := { B with opn := some B.f }
noncomputable def BookS.wrote (B : BookS) (i : Nat) (p : List Int) : BookS := @ite _ ((B.f i).isSome = true ∨ B.view i ≠ p) (Classical.propDecidable _) { B with opn := some (putF B.f i p) } B.begun
theorem BookS.bind_f (B : BookS) (i : Nat) : (B.opn.bind fun f => f i) = B.f i := by
  unfold BookS.f
  cases B.opn <;> rfl
theorem DiskI.keeps {w w' : World} {db : Nat} {N : Nat → Prop} {d : DiskS} (h : DiskI w db N d) (hb : Keeps (fun k => ¬ N k) w w') : DiskI w' db N d := by
  obtain ⟨fb, cv, lb, c, ⟨fc, hfc, h1⟩, ⟨rest, h2⟩, h3, h4, h5, n1, n2, n3, n4, n5, h6⟩ := h
  exact ⟨fb, cv, lb, c, ⟨fc, hfc, hb.blk n1 h1⟩, ⟨rest, hb.blk n2 h2⟩, hb.own h3 n4, hb.map n3 h4, h5, n1, n2, n3, n4, fun i hi => Nat.lt_of_lt_of_le (n5 i hi) hb.size, h6⟩
/-- What is none of a book's blocks may turn. -/
theorem BookX.frame {w w' : World} {bb : Nat} {N : Nat → Prop} {B : BookS} {db rb nb : Nat} {ov : Value} (h : BookX w bb N B db rb nb ov) (hb : Keeps (fun k => ¬ N k) w w') : BookX w' bb N B db rb nb ov := by
  refine ⟨hb.blk h.nots.1 h.cells, hb.blk h.nots.2.1 h.ring, h.disk.keeps (hb.mono (fun k _ hk hn => hk (.inl hn))), hb.map h.nots.2.2.1 h.news, ?_, h.ne, h.nots, h.ok, h.dbs⟩
  have ho := h.opn
  cases hB : B.opn with
  | none => rw [hB] at ho; exact ho
  | some f =>
    rw [hB] at ho
    obtain ⟨ob, h1, h2⟩ := ho
    exact ⟨ob, h1, hb.map (h.nots.2.2.2 ob h1) h2⟩
theorem BookX.drop {w : World} {bb : Nat} {N N' : Nat → Prop} {B : BookS} {db rb nb : Nat} {ov : Value} (h : BookX w bb N B db rb nb ov) (hn : ∀ k, N' k → N k) : BookX w bb N' B db rb nb ov :=
  h.keep (Below.refl _ _) (fun k hk => ⟨h.N_lt k (hn k hk), .inl (hn k hk)⟩)
theorem BookX.opened {w : World} {bb : Nat} {N : Nat → Prop} {B : BookS} {db rb nb : Nat} (h : BookX w bb N B db rb nb (.map none)) (ho : B.opn = none) :
    BookX ((w.alloc (.map #[] 0)).setCell ⟨bb, 6, none⟩ (.map (some w.heap.size))) bb N B.begun db rb nb (.map (some w.heap.size)) := by
  have ha := h.keep (N' := N) ((Below.refl _ _).alloc (Nat.le_refl _) (.map #[] 0)) (fun k hk => ⟨by have := h.N_lt k hk; simp; omega, .inl hk⟩)
  have h1 := lt_of_blk h.cells
  have h2 := lt_of_blk h.ring
  have h3 := h.news.lt
  have hbr : bb ≠ rb := blk_ne h.cells h.ring (by decide)
  have hbn : nb ≠ bb := blk_map_ne h.cells h.news
  have hd : DiskI ((w.alloc (.map #[] 0)).setCell ⟨bb, 6, none⟩ (.map (some w.heap.size))) db (fun k => N k ∨ k = bb ∨ k = rb ∨ k = nb ∨ ovB (.map (some w.heap.size)) k) B.disk := by
    refine (h.disk.keep (N' := fun k => N k ∨ k = bb ∨ k = rb ∨ k = nb ∨ ovB (.map (some w.heap.size)) k) ((Below.refl _ _).alloc (Nat.le_refl _) (.map #[] 0)) (fun k hk => ?_)).keeps (Keeps.set _ _ _ _ (fun hn => hn (.inr (.inl rfl))))
    rcases hk with hk | hk | hk | hk | hk
    · have := h.N_lt k hk; exact ⟨by simp; omega, .inl (.inl hk)⟩
    · exact ⟨by simp; omega, .inl (.inr (.inl hk))⟩
    · exact ⟨by simp; omega, .inl (.inr (.inr (.inl hk)))⟩
    · exact ⟨by simp; omega, .inl (.inr (.inr (.inr (.inl hk))))⟩
    · simp [ovB] at hk; subst hk; exact ⟨by simp, .inr (Nat.le_refl _)⟩
  have hf : B.f = fun _ => none := by unfold BookS.f; rw [ho]; rfl
  refine ⟨?_, heap_set_ne hbr ha.ring, hd, ha.news.setCell hbn _, ?_, ?_, ⟨h.nots.1, h.nots.2.1, h.nots.2.2.1, fun k hk hn => ?_⟩, ?_, h.dbs⟩
  · have := set_blk (i := 6) ha.cells (.map (some w.heap.size))
    exact this
  · refine ⟨w.heap.size, rfl, ?_⟩
    have hm := mapIs_made Tryz.prog 3 w
    rw [hf, keysF_none, pgL_none]
    exact hm.setCell (by show w.heap.size ≠ bb; omega) _
  · simp [ovB]; omega
  · simp [ovB] at hk; subst hk
    have := h.N_lt _ hn; omega
  · obtain ⟨o1, o2, o3, o4, o5, o6, o7, o8, o9, o10, o11⟩ := h.ok
    refine ⟨o1, o2, o3, o4, o5, fun f hf' => ?_, o7, o8, o9, o10, o11⟩
    have : f = B.f := by simpa [BookS.begun] using hf'.symm
    subst this
    rw [hf]
    exact PgMap.none _
/-- A book whose open map is turned. -/
theorem BookX.turned {w w' : World} {bb : Nat} {N : Nat → Prop} {B : BookS} {db rb nb ob : Nat} (h : BookX w bb N B db rb nb (.map (some ob))) (f : PgF) (hk : Keeps (fun k => k ≠ ob) w w') (hm : MapIs Tryz.prog 3 w' ob (keysF f B.n).length (pgL f)) (hf : PgMap f B.n) :
    BookX w' bb N { B with opn := some f } db rb nb (.map (some ob)) := by
  have hob : ∃ c g, MapIs Tryz.prog 3 w ob c g := by
    have := h.opn
    cases hB : B.opn with
    | none => rw [hB] at this; unfold OpenI at this; simp at this
    | some g => rw [hB] at this; obtain ⟨ob', h1, h2⟩ := this; simp at h1; subst h1; exact ⟨_, _, h2⟩
  obtain ⟨c, g, hmo⟩ := hob
  have h1 : ob ≠ bb := blk_map_ne h.cells hmo
  have h2 : ob ≠ rb := blk_map_ne h.ring hmo
  have h3 : ob ≠ nb := fun e => h.ne (by rw [e]; rfl)
  refine ⟨hk.blk (fun e => h1 e.symm) h.cells, hk.blk (fun e => h2 e.symm) h.ring, h.disk.keeps (hk.mono (fun k _ hn e => hn (.inr (.inr (.inr (.inr (by rw [e]; rfl))))))), hk.map (fun e => h3 e.symm) h.news, ⟨ob, rfl, hm⟩, h.ne, h.nots, ?_, h.dbs⟩
  obtain ⟨o1, o2, o3, o4, o5, o6, o7, o8, o9, o10, o11⟩ := h.ok
  exact ⟨o1, o2, o3, o4, o5, fun f' hf' => by simp only [Option.some.injEq] at hf'; subst hf'; exact hf, o7, o8, o9, o10, o11⟩
def WrX (w : World) (bb : Nat) (N : Nat → Prop) (B : BookS) (db rb nb b5 b7 : Nat) (ov : Value) (p q : List Int) (wx : World) : Prop :=
  BookX wx bb (fun k => N k ∨ k = b5 ∨ k = b7) B db rb nb ov ∧ wx.heap[b5]? = some (.cells (v8a p) 37) ∧ wx.heap[b7]? = some (.cells (v8a q) 37) ∧ Keeps N w wx
theorem alloc_set_comm (w : World) (b i : Nat) (v : Value) (o : Obj) (h : b < w.heap.size) : (w.setCell ⟨b, i, none⟩ v).alloc o = (w.alloc o).setCell ⟨b, i, none⟩ v := by
  simp only [World.setCell, World.alloc, World.mk.injEq, and_true, true_and]
  apply Array.ext
  · simp
  · intro k h1 h2
    simp only [Array.getElem_push, Array.getElem_modify, Array.size_modify]
    by_cases hk : k < w.heap.size
    · simp [hk]
    · have : b ≠ k := by omega
      simp [hk, this]
set_option maxRecDepth 100000 in
set_option maxHeartbeats 4000000 in
theorem bookWrite_any (bb : Nat) (N : Nat → Prop) (B : BookS) (i : Nat) (p : List Int) (hi : i < B.n) (hp : PgOk p) (hc : (B.f i).isSome = true ∨ B.view i = p ∨ (keysF B.f B.n).length ≠ 60) (w : World) (h : BookI w bb N B) :
    Calls Tryz.prog 14 #[.pointer (some ⟨bb, 0, none⟩), .int .i64 (i : Int), .agg (v8a p)] w fun e w' => e = .returned .nilIface ∧ BookI w' bb N (B.wrote i p) ∧ Keeps N w w' := by
  obtain ⟨db, rb, nb, ov, hX⟩ := h
  have HX := Lib.hid hX
  have hok := hX.ok
  obtain ⟨hn1, hn2⟩ := hok.n
  have HV : Hid (PgOk (B.view i)) := Lib.hid (BookS.view_ok hok i hi)
  have HP := Lib.hid hp
  have HC := Lib.hid hc
  have HW0 : Hid (B.wrote i p = B.wrote i p) := Lib.hid rfl
  clear hX hok hp hc
  go_enter Tryz.func14, Tryz.ntmps14
  repeat ((fail_if_success (with_reducible refine stop_pos "pages.go:117" rfl ?_)); (first | go_values | go_skip | go_guarded | go_step | go_upon))
  refine gen_world (fun wx => Hid (wx.heap[w.heap.size]? = some (.cells (v8a p) 37) ∧ Below w.heap.size w wx)) (Lib.hid ⟨heap_alloc_new w (.cells (v8a p) 37), (Below.refl _ _).alloc (Nat.le_refl _) _⟩) ?_
  intro w1 H1
  have hRD := bookRead_any bb N B i hi w1 ⟨db, rb, nb, ov, HX.out.keep H1.out.2 (fun k hk => ⟨Nat.lt_of_lt_of_le (HX.out.N_lt k hk) H1.out.2.size, .inl hk⟩)⟩
  obtain ⟨vw, hvw⟩ : ∃ vw, B.view i = vw := ⟨_, rfl⟩
  rw [hvw] at hRD
  have HVW := Lib.hid hvw
  have hv64 : vw.length = 64 := by rw [← hvw]; exact HV.out.1
  have hp64 := HP.out.1
  clear hvw
  go_wp2_with fail
  refine hRD.mono ?_
  clear hRD
  rintro e w2 ⟨rfl, hb2⟩
  try dsimp only
  repeat ((fail_if_success (with_reducible refine stop_at 17 rfl ?_)); (first | (refine page_store rfl (.tmp 7) (.tmp 15) rfl w2.heap.size vw (zer 64) rfl rfl (heap_alloc_new w2 _) hv64 rfl ?_) | go_values | go_skip | go_guarded | go_step | go_upon))
  have hb21 : Below w.heap.size w w2 := H1.out.2.trans (hb2.mono H1.out.2.size)
  have hbx : ∀ o : Obj, Below w.heap.size w ((w2.alloc o).setRow w2.heap.size (v8a vw)) := fun o => below_setRow (hb21.alloc hb21.size _) hb21.size _
  have hl1 := lt_of_blk H1.out.1
  have hl2 := hb2.size
  refine gen_world (fun wx => Hid (WrX w bb N B db rb nb w.heap.size w2.heap.size ov p vw wx)) (Lib.hid ⟨HX.out.keep (hbx _) (fun k hk => ?_), ?_, setRow_heap _ _ _ _ _ (0, 0) (heap_alloc_new w2 _), Keeps.of_below (hbx _)⟩) ?_
  · rcases hk with hk | hk | hk
    · exact ⟨Nat.lt_of_lt_of_le (HX.out.N_lt k hk) (hbx _).size, .inl hk⟩
    · subst hk; exact ⟨by simp [World.setRow]; omega, .inr (Nat.le_refl _)⟩
    · subst hk; exact ⟨by simp [World.setRow], .inr (by omega)⟩
  · rw [setRow_other _ _ _ _ (by omega), heap_alloc_old _ _ (by omega)]; exact (hb2.block _ hl1).trans H1.out.1
  clear hbx hb21 hb2 H1 HX
  generalize w2.heap.size = b7
  generalize w.heap.size = b5
  intro w3 H3
  have HOV := Lib.hid H3.out.1.opn
  cases hB : B.opn with
  | none =>
    obtain rfl : ov = .map none := by have := HOV.out; rw [hB] at this; exact this
    obtain ⟨z0, z1, z2, z3, z4, z5, z6, z7, f4, f6⟩ := book_cells H3.out.1.cells
    have hmm : ∀ wx : World, (Instr.makeMap 142 none).run Tryz.prog wx = .ok (.map (some wx.heap.size)) (wx.alloc (.map #[] 0)) := fun _ => by kernel_rfl
    have heq : ∀ wx : World, (binOp .eql 142 (.map none) (.map none)).run Tryz.prog wx = .ok (.bool true) wx := fun _ => by kernel_rfl
    repeat ((fail_if_success (with_reducible refine stop_pos "pages.go:121" rfl ?_)); (first | go_values | go_skip | go_guarded | go_step | go_upon))
    repeat ((fail_if_success (with_reducible refine stop_pos "pages.go:122" rfl ?_)); (first | go_values | go_skip | go_guarded | go_step | go_upon))
    have hbl := lt_of_blk H3.out.1.cells
    have f6' : ∀ o : Obj, (w3.alloc o).frozen? ⟨bb, 6, none⟩ = false := fun o => by
      have h := heap_alloc_old w3 o hbl
      simp only [World.frozen?, h]; exact f6
    have z6' : ∀ o : Obj, (w3.alloc o).cell? ⟨bb, 6, none⟩ = some (.map none) := fun o => by
      have h := heap_alloc_old w3 o hbl
      simp only [World.cell?, h]; exact z6
    repeat ((fail_if_success (with_reducible refine stop_pos "pages.go:124" rfl ?_)); (first | go_values | go_skip | go_guarded | go_step | go_upon))
    have HT : Hid (WrX w bb N B.begun db rb nb b5 b7 (.map (some w3.heap.size)) p vw ((w3.setCell ⟨bb, 6, none⟩ (.map (some w3.heap.size))).alloc (.map #[] 0))) := Lib.hid (by
      have e : (w3.setCell ⟨bb, 6, none⟩ (.map (some w3.heap.size))).alloc (.map #[] 0) = (w3.alloc (.map #[] 0)).setCell ⟨bb, 6, none⟩ (.map (some w3.heap.size)) := alloc_set_comm _ _ _ _ _ hbl
      rw [e]
      have hx := H3.out.1.opened hB
      have h5 := lt_of_blk H3.out.2.1
      have h7 := lt_of_blk H3.out.2.2.1
      have hn5 : bb ≠ b5 := fun e => H3.out.1.nots.1 (.inr (.inl e))
      have hn7 : bb ≠ b7 := fun e => H3.out.1.nots.1 (.inr (.inr e))
      refine ⟨hx, heap_set_ne hn5 ?_, heap_set_ne hn7 ?_, H3.out.2.2.2.trans ((Keeps.alloc _ _ _).trans (Keeps.set _ _ _ _ (fun hn => H3.out.1.nots.1 (.inl hn))))⟩
      · rw [heap_alloc_old _ _ h5]; exact H3.out.2.1
      · rw [heap_alloc_old _ _ h7]; exact H3.out.2.2.1)
    refine gen_world (fun wx => Hid (WrX w bb N B.begun db rb nb b5 b7 (.map (some w3.heap.size)) p vw wx)) HT ?_
    clear z0 z1 z2 z3 z4 z5 z6 z7 f4 f6 f6' z6' hmm heq hbl HT H3 HOV hB
    generalize w3.heap.size = ob
    intro w4 HT
    have HFO : Hid (PgMap B.f B.n) := Lib.hid (HT.out.1.ok.opn B.f rfl)
    obtain ⟨z0, z1, z2, z3, z4, z5, z6, z7, _⟩ := book_cells HT.out.1.cells
    have HOP : OpenI w4 (.map (some ob)) B.n (some B.f) := HT.out.1.opn
    obtain ⟨oA, hA⟩ : ∃ oA, B.f i = oA := ⟨_, rfl⟩
    have HLA : Hid ((pgD oA).length = 64) := Lib.hid (by
      cases oA with
      | none => rfl
      | some q => exact (HFO.out i q hA).2.1)
    have hAb : ((some B.f).bind fun f => f i) = oA := hA
    repeat ((fail_if_success (with_reducible refine stop_at 38 rfl ?_)); (first | (first | (at_lookup; refine wpList_look_open _ rfl _ _ rfl (.map (some ob)) B.n (some B.f) rfl HOP i (by omega) rfl ?_; simp only [hAb]) | (refine page_store rfl (.tmp 9) (.tmp 36) rfl w4.heap.size (pgD oA) (zer 64) rfl rfl (heap_alloc_new w4 _) HLA.out rfl ?_)) | go_values | go_skip | go_guarded | go_step | go_upon))
    have hbx : ∀ o : Obj, Below w4.heap.size w4 ((w4.alloc o).setRow w4.heap.size (v8a (pgD oA))) := fun o => below_setRow ((Below.refl _ _).alloc (Nat.le_refl _) _) (Nat.le_refl _) _
    refine gen_world (fun wz => Hid (WrX w bb N B.begun db rb nb b5 b7 (.map (some ob)) p vw wz)) (Lib.hid ⟨HT.out.1.keep (hbx _) (fun k hk => ⟨Nat.lt_of_lt_of_le (HT.out.1.N_lt k hk) (hbx _).size, .inl hk⟩), ((hbx _).block _ (lt_of_blk HT.out.2.1)).trans HT.out.2.1, ((hbx _).block _ (lt_of_blk HT.out.2.2.1)).trans HT.out.2.2.1, HT.out.2.2.2.trans (Keeps.of_below (hbx _))⟩) ?_
    clear hbx z0 z1 z2 z3 z4 z5 z6 z7 HOP HT
    intro wy HY
    cases oA with
    | some q =>
      simp only [Option.isSome_some]
      go_wp2_with fail
      have HM : Hid (MapIs Tryz.prog 3 wy ob (keysF B.f B.n).length (pgL B.f)) := Lib.hid (by obtain ⟨ob', h1, h2⟩ := HY.out.1.opn; simp at h1; subst h1; exact h2)
      obtain ⟨z0, z1, z2, z3, z4, z5, z6, z7, _⟩ := book_cells HY.out.1.cells
      have r6 := cell_regrown z6
      have hkl : (keysF B.f B.n).length ≤ 2048 := Nat.le_trans (keysF_le _ _) hn2
      refine wp_region_qlast 6 (fun w' => ∃ p : Regrown, w' = Go.Sort.grow (redrawn wy p.d) p.os) (by kernel_rfl) (by kernel_rfl) (fun _ _ d _ _ h => by cases d <;> exact h) (grows_drew _) ?_
      simp only [List.take_succ_cons, List.take_zero]
      repeat (go_big_quiet_step (fail))
      go_big_quiet_want
      refine quiet_page (.tmp 5) rfl b5 p rfl (blk_regrown HY.out.2.1) hp64 ?_
      simp only [Act.put, List.setIfInBounds_toArray, List.set_cons_zero, List.set_cons_succ]
      repeat (go_big_quiet_step (fail))
      try go_big_quiet_on
      repeat (go_big_quiet_step (fail))
      with_reducible refine wpQuiet_nil ?_
      with_reducible refine mix_a ?_; simp only [List.drop_succ_cons, List.drop_zero, List.take_succ_cons, List.take_zero]
      go_wp2_with (at_mapUpdate; refine wpList_store_cnt _ rfl _ _ _ 142 rfl 3 37 (int_keyed Tryz.underlying3) Tryz.underlying142 ob (keysF B.f B.n).length (pgL B.f) rfl (HM.out.drew) ?hc (.int .i64 (i : Int)) (.agg (v8a p)) (.int .i64 (i : Int)) rfl rfl ?hk ?_)
      case hc => unfold maxLen; omega
      case hk => exact int_key _ (by omega)
      intro w5 hm ht
      rw [pgL_put] at hm
      have HM5 : Hid (MapIs Tryz.prog 3 w5 ob (keysF (putF B.f i p) B.n).length (pgL (putF B.f i p))) := Lib.hid (by
        rw [keysF_put _ _ _ _ hi]
        unfold cntIf at hm
        simp only [pgL_at, hA, Option.map_some, Option.map_none, Option.isSome_some, Option.isSome_none, if_true, if_false, Bool.false_eq_true] at hm ⊢
        exact hm)
      have HT5 : Hid (Keeps (fun k => k ≠ ob) wy w5) := Lib.hid ((Keeps.drew _ wy).trans (Keeps.of_turned ht (by simp)))
      clear hm ht HM r6 z0 z1 z2 z3 z4 z5 z6 z7
      with_reducible refine wpList_nil ?_
      with_reducible refine mixQ_normal ?_
      with_reducible refine mix_nil ?_
      go_wp2_with fail
      go_ret
      have hx5 := HY.out.1.turned (putF B.f i p) HT5.out HM5.out (PgMap.put HFO.out hi HP.out)
      have hob : ¬ N ob := fun hn => HY.out.1.nots.2.2.2 ob rfl (.inl hn)
      refine ⟨rfl, ⟨db, rb, nb, .map (some ob), ?_⟩, HY.out.2.2.2.trans (HT5.out.mono (fun k _ hk e => hob (e ▸ hk)))⟩
      have hwr : B.wrote i p = { B with opn := some (putF B.f i p) } := if_pos (Or.inl (by rw [hA]; rfl))
      rw [hwr]
      exact hx5.drop (fun k hk => .inl hk)
    | none =>
      simp only [Option.isSome_none]
      by_cases hq : vw = p
      · have hd : decide (vw = p) = true := by simp [hq]
        go_wp2_with (first | (refine page_load rfl (.tmp 7) rfl b7 vw rfl HY.out.2.2.1 hv64 ?_) | (refine page_load rfl (.tmp 5) rfl b5 p rfl HY.out.2.1 hp64 ?_) | (refine page_eql rfl (.tmp 40) (.tmp 41) _ rfl vw p rfl rfl hv64 hp64 ?_; simp only [hd]))
        go_ret
        have hwr : B.wrote i p = B.begun := if_neg (by rw [hA, HVW.out]; simp [hq])
        refine ⟨rfl, ⟨db, rb, nb, .map (some ob), ?_⟩, HY.out.2.2.2⟩
        rw [hwr]
        exact HY.out.1.drop (fun k hk => .inl hk)
      · have hd : decide (vw = p) = false := by simp [hq]
        have hkn : ((keysF B.f B.n).length : Int) ≠ 60 := by
          rcases HC.out with h | h | h
          · rw [hA] at h; cases h
          · rw [HVW.out] at h; exact absurd h hq
          · omega
        have HMo : Hid (MapIs Tryz.prog 3 wy ob (keysF B.f B.n).length (pgL B.f)) := Lib.hid (by obtain ⟨ob', h1, h2⟩ := HY.out.1.opn; simp at h1; subst h1; exact h2)
        obtain ⟨z0, z1, z2, z3, z4, z5, z6, z7, _⟩ := book_cells HY.out.1.cells
        go_wp2_with (first | (refine page_load rfl (.tmp 7) rfl b7 vw rfl HY.out.2.2.1 hv64 ?_) | (refine page_load rfl (.tmp 5) rfl b5 p rfl HY.out.2.1 hp64 ?_) | (refine page_eql rfl (.tmp 40) (.tmp 41) _ rfl vw p rfl rfl hv64 hp64 ?_; simp only [hd]) | (refine wpList_len_is _ rfl (.tmp 46) 142 rfl 3 37 Tryz.underlying142 ob _ (pgL B.f) rfl HMo.out ?_))
        clear z0 z1 z2 z3 z4 z5 z6 z7 HMo
        go_wp2_with fail
        have HM : Hid (MapIs Tryz.prog 3 wy ob (keysF B.f B.n).length (pgL B.f)) := Lib.hid (by obtain ⟨ob', h1, h2⟩ := HY.out.1.opn; simp at h1; subst h1; exact h2)
        obtain ⟨z0, z1, z2, z3, z4, z5, z6, z7, _⟩ := book_cells HY.out.1.cells
        have r6 := cell_regrown z6
        have hkl : (keysF B.f B.n).length ≤ 2048 := Nat.le_trans (keysF_le _ _) hn2
        refine wp_region_qlast 6 (fun w' => ∃ p : Regrown, w' = Go.Sort.grow (redrawn wy p.d) p.os) (by kernel_rfl) (by kernel_rfl) (fun _ _ d _ _ h => by cases d <;> exact h) (grows_drew _) ?_
        simp only [List.take_succ_cons, List.take_zero]
        repeat (go_big_quiet_step (fail))
        go_big_quiet_want
        refine quiet_page (.tmp 5) rfl b5 p rfl (blk_regrown HY.out.2.1) hp64 ?_
        simp only [Act.put, List.setIfInBounds_toArray, List.set_cons_zero, List.set_cons_succ]
        repeat (go_big_quiet_step (fail))
        try go_big_quiet_on
        repeat (go_big_quiet_step (fail))
        with_reducible refine wpQuiet_nil ?_
        with_reducible refine mix_a ?_; simp only [List.drop_succ_cons, List.drop_zero, List.take_succ_cons, List.take_zero]
        go_wp2_with (at_mapUpdate; refine wpList_store_cnt _ rfl _ _ _ 142 rfl 3 37 (int_keyed Tryz.underlying3) Tryz.underlying142 ob (keysF B.f B.n).length (pgL B.f) rfl (HM.out.drew) ?hc (.int .i64 (i : Int)) (.agg (v8a p)) (.int .i64 (i : Int)) rfl rfl ?hk ?_)
        case hc => unfold maxLen; omega
        case hk => exact int_key _ (by omega)
        intro w5 hm ht
        rw [pgL_put] at hm
        have HM5 : Hid (MapIs Tryz.prog 3 w5 ob (keysF (putF B.f i p) B.n).length (pgL (putF B.f i p))) := Lib.hid (by
          rw [keysF_put _ _ _ _ hi]
          unfold cntIf at hm
          simp only [pgL_at, hA, Option.map_some, Option.map_none, Option.isSome_some, Option.isSome_none, if_true, if_false, Bool.false_eq_true] at hm ⊢
          exact hm)
        have HT5 : Hid (Keeps (fun k => k ≠ ob) wy w5) := Lib.hid ((Keeps.drew _ wy).trans (Keeps.of_turned ht (by simp)))
        clear hm ht HM r6 z0 z1 z2 z3 z4 z5 z6 z7
        with_reducible refine wpList_nil ?_
        with_reducible refine mixQ_normal ?_
        with_reducible refine mix_nil ?_
        go_wp2_with fail
        go_ret
        have hx5 := HY.out.1.turned (putF B.f i p) HT5.out HM5.out (PgMap.put HFO.out hi HP.out)
        have hob : ¬ N ob := fun hn => HY.out.1.nots.2.2.2 ob rfl (.inl hn)
        refine ⟨rfl, ⟨db, rb, nb, .map (some ob), ?_⟩, HY.out.2.2.2.trans (HT5.out.mono (fun k _ hk e => hob (e ▸ hk)))⟩
        have hwr : B.wrote i p = { B with opn := some (putF B.f i p) } := if_pos (Or.inr (by rw [HVW.out]; exact hq))
        rw [hwr]
        exact hx5.drop (fun k hk => .inl hk)
  | some f =>
    obtain ⟨ob, rfl, hmo⟩ : ∃ ob, ov = .map (some ob) ∧ MapIs Tryz.prog 3 w3 ob (keysF f B.n).length (pgL f) := by have := HOV.out; rw [hB] at this; exact this
    clear hmo
    obtain ⟨z0, z1, z2, z3, z4, z5, z6, z7, f4, f6⟩ := book_cells H3.out.1.cells
    have hbe : B.begun = B := by
      have : B.f = f := by unfold BookS.f; rw [hB]; rfl
      unfold BookS.begun; rw [this, ← hB]
    have HT : Hid (WrX w bb N B.begun db rb nb b5 b7 (.map (some ob)) p vw w3) := Lib.hid (by rw [hbe]; exact H3.out)
    have heq : ∀ wx : World, (binOp .eql 142 (.map (some ob)) (.map none)).run Tryz.prog wx = .ok (.bool false) wx := fun _ => by kernel_rfl
    repeat ((fail_if_success (with_reducible refine stop_pos "pages.go:121" rfl ?_)); (first | go_values | go_skip | go_guarded | go_step | go_upon))
    repeat ((fail_if_success (with_reducible refine stop_pos "pages.go:124" rfl ?_)); (first | go_values | go_skip | go_guarded | go_step | go_upon))
    clear heq z0 z1 z2 z3 z4 z5 z6 z7 f4 f6 H3 HOV hB hbe f
    have HFO : Hid (PgMap B.f B.n) := Lib.hid (HT.out.1.ok.opn B.f rfl)
    obtain ⟨z0, z1, z2, z3, z4, z5, z6, z7, _⟩ := book_cells HT.out.1.cells
    have HOP : OpenI w3 (.map (some ob)) B.n (some B.f) := HT.out.1.opn
    obtain ⟨oA, hA⟩ : ∃ oA, B.f i = oA := ⟨_, rfl⟩
    have HLA : Hid ((pgD oA).length = 64) := Lib.hid (by
      cases oA with
      | none => rfl
      | some q => exact (HFO.out i q hA).2.1)
    have hAb : ((some B.f).bind fun f => f i) = oA := hA
    repeat ((fail_if_success (with_reducible refine stop_at 38 rfl ?_)); (first | (first | (at_lookup; refine wpList_look_open _ rfl _ _ rfl (.map (some ob)) B.n (some B.f) rfl HOP i (by omega) rfl ?_; simp only [hAb]) | (refine page_store rfl (.tmp 9) (.tmp 36) rfl w3.heap.size (pgD oA) (zer 64) rfl rfl (heap_alloc_new w3 _) HLA.out rfl ?_)) | go_values | go_skip | go_guarded | go_step | go_upon))
    have hbx : ∀ o : Obj, Below w3.heap.size w3 ((w3.alloc o).setRow w3.heap.size (v8a (pgD oA))) := fun o => below_setRow ((Below.refl _ _).alloc (Nat.le_refl _) _) (Nat.le_refl _) _
    refine gen_world (fun wz => Hid (WrX w bb N B.begun db rb nb b5 b7 (.map (some ob)) p vw wz)) (Lib.hid ⟨HT.out.1.keep (hbx _) (fun k hk => ⟨Nat.lt_of_lt_of_le (HT.out.1.N_lt k hk) (hbx _).size, .inl hk⟩), ((hbx _).block _ (lt_of_blk HT.out.2.1)).trans HT.out.2.1, ((hbx _).block _ (lt_of_blk HT.out.2.2.1)).trans HT.out.2.2.1, HT.out.2.2.2.trans (Keeps.of_below (hbx _))⟩) ?_
    clear hbx z0 z1 z2 z3 z4 z5 z6 z7 HOP HT
    intro wy HY
    cases oA with
    | some q =>
      simp only [Option.isSome_some]
      go_wp2_with fail
      have HM : Hid (MapIs Tryz.prog 3 wy ob (keysF B.f B.n).length (pgL B.f)) := Lib.hid (by obtain ⟨ob', h1, h2⟩ := HY.out.1.opn; simp at h1; subst h1; exact h2)
      obtain ⟨z0, z1, z2, z3, z4, z5, z6, z7, _⟩ := book_cells HY.out.1.cells
      have r6 := cell_regrown z6
      have hkl : (keysF B.f B.n).length ≤ 2048 := Nat.le_trans (keysF_le _ _) hn2
      refine wp_region_qlast 6 (fun w' => ∃ p : Regrown, w' = Go.Sort.grow (redrawn wy p.d) p.os) (by kernel_rfl) (by kernel_rfl) (fun _ _ d _ _ h => by cases d <;> exact h) (grows_drew _) ?_
      simp only [List.take_succ_cons, List.take_zero]
      repeat (go_big_quiet_step (fail))
      go_big_quiet_want
      refine quiet_page (.tmp 5) rfl b5 p rfl (blk_regrown HY.out.2.1) hp64 ?_
      simp only [Act.put, List.setIfInBounds_toArray, List.set_cons_zero, List.set_cons_succ]
      repeat (go_big_quiet_step (fail))
      try go_big_quiet_on
      repeat (go_big_quiet_step (fail))
      with_reducible refine wpQuiet_nil ?_
      with_reducible refine mix_a ?_; simp only [List.drop_succ_cons, List.drop_zero, List.take_succ_cons, List.take_zero]
      go_wp2_with (at_mapUpdate; refine wpList_store_cnt _ rfl _ _ _ 142 rfl 3 37 (int_keyed Tryz.underlying3) Tryz.underlying142 ob (keysF B.f B.n).length (pgL B.f) rfl (HM.out.drew) ?hc (.int .i64 (i : Int)) (.agg (v8a p)) (.int .i64 (i : Int)) rfl rfl ?hk ?_)
      case hc => unfold maxLen; omega
      case hk => exact int_key _ (by omega)
      intro w5 hm ht
      rw [pgL_put] at hm
      have HM5 : Hid (MapIs Tryz.prog 3 w5 ob (keysF (putF B.f i p) B.n).length (pgL (putF B.f i p))) := Lib.hid (by
        rw [keysF_put _ _ _ _ hi]
        unfold cntIf at hm
        simp only [pgL_at, hA, Option.map_some, Option.map_none, Option.isSome_some, Option.isSome_none, if_true, if_false, Bool.false_eq_true] at hm ⊢
        exact hm)
      have HT5 : Hid (Keeps (fun k => k ≠ ob) wy w5) := Lib.hid ((Keeps.drew _ wy).trans (Keeps.of_turned ht (by simp)))
      clear hm ht HM r6 z0 z1 z2 z3 z4 z5 z6 z7
      with_reducible refine wpList_nil ?_
      with_reducible refine mixQ_normal ?_
      with_reducible refine mix_nil ?_
      go_wp2_with fail
      go_ret
      have hx5 := HY.out.1.turned (putF B.f i p) HT5.out HM5.out (PgMap.put HFO.out hi HP.out)
      have hob : ¬ N ob := fun hn => HY.out.1.nots.2.2.2 ob rfl (.inl hn)
      refine ⟨rfl, ⟨db, rb, nb, .map (some ob), ?_⟩, HY.out.2.2.2.trans (HT5.out.mono (fun k _ hk e => hob (e ▸ hk)))⟩
      have hwr : B.wrote i p = { B with opn := some (putF B.f i p) } := if_pos (Or.inl (by rw [hA]; rfl))
      rw [hwr]
      exact hx5.drop (fun k hk => .inl hk)
    | none =>
      simp only [Option.isSome_none]
      by_cases hq : vw = p
      · have hd : decide (vw = p) = true := by simp [hq]
        go_wp2_with (first | (refine page_load rfl (.tmp 7) rfl b7 vw rfl HY.out.2.2.1 hv64 ?_) | (refine page_load rfl (.tmp 5) rfl b5 p rfl HY.out.2.1 hp64 ?_) | (refine page_eql rfl (.tmp 40) (.tmp 41) _ rfl vw p rfl rfl hv64 hp64 ?_; simp only [hd]))
        go_ret
        have hwr : B.wrote i p = B.begun := if_neg (by rw [hA, HVW.out]; simp [hq])
        refine ⟨rfl, ⟨db, rb, nb, .map (some ob), ?_⟩, HY.out.2.2.2⟩
        rw [hwr]
        exact HY.out.1.drop (fun k hk => .inl hk)
      · have hd : decide (vw = p) = false := by simp [hq]
        have hkn : ((keysF B.f B.n).length : Int) ≠ 60 := by
          rcases HC.out with h | h | h
          · rw [hA] at h; cases h
          · rw [HVW.out] at h; exact absurd h hq
          · omega
        have HMo : Hid (MapIs Tryz.prog 3 wy ob (keysF B.f B.n).length (pgL B.f)) := Lib.hid (by obtain ⟨ob', h1, h2⟩ := HY.out.1.opn; simp at h1; subst h1; exact h2)
        obtain ⟨z0, z1, z2, z3, z4, z5, z6, z7, _⟩ := book_cells HY.out.1.cells
        go_wp2_with (first | (refine page_load rfl (.tmp 7) rfl b7 vw rfl HY.out.2.2.1 hv64 ?_) | (refine page_load rfl (.tmp 5) rfl b5 p rfl HY.out.2.1 hp64 ?_) | (refine page_eql rfl (.tmp 40) (.tmp 41) _ rfl vw p rfl rfl hv64 hp64 ?_; simp only [hd]) | (refine wpList_len_is _ rfl (.tmp 46) 142 rfl 3 37 Tryz.underlying142 ob _ (pgL B.f) rfl HMo.out ?_))
        clear z0 z1 z2 z3 z4 z5 z6 z7 HMo
        go_wp2_with fail
        have HM : Hid (MapIs Tryz.prog 3 wy ob (keysF B.f B.n).length (pgL B.f)) := Lib.hid (by obtain ⟨ob', h1, h2⟩ := HY.out.1.opn; simp at h1; subst h1; exact h2)
        obtain ⟨z0, z1, z2, z3, z4, z5, z6, z7, _⟩ := book_cells HY.out.1.cells
        have r6 := cell_regrown z6
        have hkl : (keysF B.f B.n).length ≤ 2048 := Nat.le_trans (keysF_le _ _) hn2
        refine wp_region_qlast 6 (fun w' => ∃ p : Regrown, w' = Go.Sort.grow (redrawn wy p.d) p.os) (by kernel_rfl) (by kernel_rfl) (fun _ _ d _ _ h => by cases d <;> exact h) (grows_drew _) ?_
        simp only [List.take_succ_cons, List.take_zero]
        repeat (go_big_quiet_step (fail))
        go_big_quiet_want
        refine quiet_page (.tmp 5) rfl b5 p rfl (blk_regrown HY.out.2.1) hp64 ?_
        simp only [Act.put, List.setIfInBounds_toArray, List.set_cons_zero, List.set_cons_succ]
        repeat (go_big_quiet_step (fail))
        try go_big_quiet_on
        repeat (go_big_quiet_step (fail))
        with_reducible refine wpQuiet_nil ?_
        with_reducible refine mix_a ?_; simp only [List.drop_succ_cons, List.drop_zero, List.take_succ_cons, List.take_zero]
        go_wp2_with (at_mapUpdate; refine wpList_store_cnt _ rfl _ _ _ 142 rfl 3 37 (int_keyed Tryz.underlying3) Tryz.underlying142 ob (keysF B.f B.n).length (pgL B.f) rfl (HM.out.drew) ?hc (.int .i64 (i : Int)) (.agg (v8a p)) (.int .i64 (i : Int)) rfl rfl ?hk ?_)
        case hc => unfold maxLen; omega
        case hk => exact int_key _ (by omega)
        intro w5 hm ht
        rw [pgL_put] at hm
        have HM5 : Hid (MapIs Tryz.prog 3 w5 ob (keysF (putF B.f i p) B.n).length (pgL (putF B.f i p))) := Lib.hid (by
          rw [keysF_put _ _ _ _ hi]
          unfold cntIf at hm
          simp only [pgL_at, hA, Option.map_some, Option.map_none, Option.isSome_some, Option.isSome_none, if_true, if_false, Bool.false_eq_true] at hm ⊢
          exact hm)
        have HT5 : Hid (Keeps (fun k => k ≠ ob) wy w5) := Lib.hid ((Keeps.drew _ wy).trans (Keeps.of_turned ht (by simp)))
        clear hm ht HM r6 z0 z1 z2 z3 z4 z5 z6 z7
        with_reducible refine wpList_nil ?_
        with_reducible refine mixQ_normal ?_
        with_reducible refine mix_nil ?_
        go_wp2_with fail
        go_ret
        have hx5 := HY.out.1.turned (putF B.f i p) HT5.out HM5.out (PgMap.put HFO.out hi HP.out)
        have hob : ¬ N ob := fun hn => HY.out.1.nots.2.2.2 ob rfl (.inl hn)
        refine ⟨rfl, ⟨db, rb, nb, .map (some ob), ?_⟩, HY.out.2.2.2.trans (HT5.out.mono (fun k _ hk e => hob (e ▸ hk)))⟩
        have hwr : B.wrote i p = { B with opn := some (putF B.f i p) } := if_pos (Or.inr (by rw [HVW.out]; exact hq))
        rw [hwr]
        exact hx5.drop (fun k hk => .inl hk)
end Go.Proofs.YtajmcplanlibnaaGreatDoor
