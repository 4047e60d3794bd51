/- Prints: an entry is set. -/
import Derived.Test.YtajmcplanlibnaaGreatDoorKE4
set_option linter.unusedSimpArgs false
set_option linter.unusedVariables false
set_option linter.unnecessarySimpa false
namespace Go.Proofs.YtajmcplanlibnaaGreatDoor
open Go.RowKit Go.Maps
def setQ (sl rf : Int) : List Int := ((((zer 64).set 0 1).set 1 (sl % 256)).set 2 (sl / 256 % 256)).set 3 (rf % 256)
def setP (dg : List Int) (sl rf : Int) : List Int := if 0 < rf then (setQ sl rf).take 8 ++ (dg ++ (setQ sl rf).drop (8 + dg.length)) else zer 64
theorem setQ_eq (sl rf : Int) : setQ sl rf = [1, sl % 256, sl / 256 % 256, rf % 256] ++ zer 60 := rfl
theorem setP_pos (dg : List Int) (sl rf : Int) (hl : dg.length = 32) (hr : 0 < rf) : setP dg sl rf = [1, sl % 256, sl / 256 % 256, rf % 256, 0, 0, 0, 0] ++ (dg ++ zer 24) := by
  unfold setP
  rw [if_pos hr, hl, setQ_eq]
  rfl
theorem setP_ok (dg : List Int) (sl rf : Int) (hd : dg.length = 32 ∧ U8s dg) : PgOk (setP dg sl rf) := by
  by_cases hr : 0 < rf
  · rw [setP_pos dg sl rf hd.1 hr]
    refine ⟨by simp [hd.1, zer], fun x hx => ?_⟩
    rcases List.mem_append.1 hx with hx | hx
    · simp only [List.mem_cons, List.not_mem_nil, or_false] at hx
      rcases hx with rfl | rfl | rfl | rfl | rfl | rfl | rfl | rfl <;> omega
    · rcases List.mem_append.1 hx with hx | hx
      · exact hd.2 x hx
      · exact zer_u8 24 x hx
  · unfold setP; rw [if_neg hr]; exact zer_pg
theorem setP_is (dg : List Int) (sl rf : Int) (hl : dg.length = 32) : isEnt (setP dg sl rf) = decide (0 < rf) := by
  by_cases hr : 0 < rf
  · rw [setP_pos dg sl rf hl hr, decide_eq_true hr]; rfl
  · unfold setP; rw [if_neg hr, decide_eq_false hr]; rfl
theorem setP_dg (dg : List Int) (sl rf : Int) (hl : dg.length = 32) (hr : 0 < rf) : pDg (setP dg sl rf) = dg := by
  rw [setP_pos dg sl rf hl hr]
  unfold pDg
  rw [List.drop_append_of_le_length (by simp)]
  simp [hl]
theorem or_zero (x : Int) (hx : 0 ≤ x ∧ x < 256) : bits BinOp.or IntKind.i64 x (0 * 256) = x := by
  have key : ∀ n : Nat, n < 256 → bits BinOp.or IntKind.i64 (n : Int) (0 * 256) = (n : Int) := by decide +kernel
  have := key x.toNat (by omega)
  rw [Int.toNat_of_nonneg hx.1] at this
  exact this
theorem setP_slot (dg : List Int) (sl rf : Int) (hl : dg.length = 32) (hr : 0 < rf) (hs : 0 ≤ sl ∧ sl < 256) : pSlot (setP dg sl rf) = sl := by
  rw [setP_pos dg sl rf hl hr]
  show bits BinOp.or IntKind.i64 (sl % 256) (sl / 256 % 256 * 256) = sl
  rw [show sl / 256 % 256 = 0 by omega, show sl % 256 = sl by omega]
  exact or_zero sl hs
theorem setP_refs (dg : List Int) (sl rf : Int) (hl : dg.length = 32) (hr : 0 < rf) (hs : rf ≤ 15) : pRefs (setP dg sl rf) = rf := by
  rw [setP_pos dg sl rf hl hr]
  show rf % 256 = rf
  omega
theorem TabI.isOk {w : World} {tb : Nat} {N : Nat → Prop} {bb first n : Nat} {B : BookS} (h : TabI w tb N bb first n B) : B.ok := h.2.1.isOk
theorem TabI.drop {w : World} {tb : Nat} {N N' : Nat → Prop} {bb first n : Nat} {B : BookS} (h : TabI w tb N bb first n B) (hn : ∀ k, N' k → N k) : TabI w tb N' bb first n B :=
  h.keep (Below.refl _ _) (fun k hk => ⟨h.N_lt k (hn k hk), .inl (hn k hk)⟩)
theorem BookS.wrote_n (B : BookS) (i : Nat) (p : List Int) : (B.wrote i p).n = B.n := by
  unfold BookS.wrote; split <;> rfl
def StF (tb b7 : Nat) (cs : Array Value) (p : List Int) (wx : World) : Prop := wx.heap[tb]? = some (.cells cs 190) ∧ wx.heap[b7]? = some (.cells (v8a p) 37)
set_option maxRecDepth 100000 in
set_option maxHeartbeats 4000000 in
theorem set_any (tb : Nat) (N : Nat → Prop) (bb first n : Nat) (B : BookS) (i : Nat) (hi : i < n) (dg : List Int) (sl rf : Int) (hd : dg.length = 32 ∧ U8s dg) (hs : 0 ≤ sl ∧ sl < 256) (hr : 0 ≤ rf ∧ rf ≤ 15)
    (hc : (B.f (first + i)).isSome = true ∨ B.view (first + i) = setP dg sl rf ∨ (keysF B.f B.n).length ≠ 60) (w : World) (h : TabI w tb N bb first n B) :
    Calls Tryz.prog 34 #[.pointer (some ⟨tb, 0, none⟩), .int .i64 (i : Int), .agg (entC dg sl rf)] w fun e w' => e = .returned .nilIface ∧ TabI w' tb N bb first n (B.wrote (first + i) (setP dg sl rf)) ∧ Keeps N w w' := by
  have HT := Lib.hid h
  have hn1 := h.2.2.2.1
  have hn2 := h.2.1.isOk.n.2
  have HC := Lib.hid hc
  have hb0 : ∀ o : Obj, Below w.heap.size w (w.alloc o) := fun o => (Below.refl _ _).alloc (Nat.le_refl _) _
  clear h hc
  have hi0 : (0 : Int) ≤ i := by omega
  have hi1 : (i : Int) < n := by omega
  have hf0 : (0 : Int) ≤ first := by omega
  have hf1 : (first : Int) + n ≤ 2048 := by omega
  obtain ⟨hs0, hs1⟩ := hs
  obtain ⟨hr0, hr1⟩ := hr
  go_enter Tryz.func34, Tryz.ntmps34
  repeat ((fail_if_success (with_reducible refine stop_pos "prints.go:56" rfl ?_)); (first | go_values | go_skip | go_guarded | go_step | go_upon))
  refine gen_world (fun wx => Hid (wx.heap[w.heap.size]? = some (.cells (entC dg sl rf) 70) ∧ Below w.heap.size w wx)) (Lib.hid ⟨heap_alloc_new w (.cells (entC dg sl rf) 70), hb0 _⟩) ?_
  clear hb0
  intro w1 H1
  have HT1 := Lib.hid (HT.out.below H1.out.2)
  obtain ⟨z0, z1, z2⟩ := blk3 HT1.out.1
  obtain ⟨c1, c2⟩ := ent_cells hd.1 H1.out.1
  have hlt := lt_of_blk H1.out.1
  obtain ⟨pg, hpg⟩ : ∃ pg, setP dg sl rf = pg := ⟨_, rfl⟩
  have HPG := Lib.hid hpg
  have HPK : Hid (PgOk pg) := Lib.hid (by rw [← hpg]; exact setP_ok dg sl rf hd)
  by_cases hrf : 0 < rf
  · have HP1 : Hid ((setQ sl rf).take 8 ++ (dg ++ (setQ sl rf).drop (8 + dg.length)) = pg) := Lib.hid (by rw [← hpg]; unfold setP; rw [if_pos hrf])
    clear hpg
    repeat ((fail_if_success (with_reducible refine stop_pos "prints.go:57" rfl ?_)); (first | go_values | go_skip | go_guarded | go_step | go_upon))
    repeat ((fail_if_success (with_reducible refine stop_pos "prints.go:59" rfl ?_)); (first | go_values | go_skip | go_guarded | go_step | go_upon))
    repeat ((fail_if_success (with_reducible refine stop_pos "prints.go:60" rfl ?_)); (first | go_values | go_skip | go_guarded | go_step | go_upon))
    repeat ((fail_if_success (with_reducible refine stop_pos "prints.go:61" rfl ?_)); (first | go_values | go_skip | go_guarded | go_step | go_upon))
    repeat ((fail_if_success (with_reducible refine stop_pos "prints.go:62" rfl ?_)); (first | go_values | go_skip | go_guarded | go_step | go_upon))
    have h65 : sl % 256 = sl := by omega
    have hbx : ∀ o : Obj, Below w1.heap.size w1 (w1.alloc o) := fun o => (Below.refl _ _).alloc (Nat.le_refl _) _
    refine gen_code (fun wx => Hid (wx.heap[w1.heap.size]? = some (.cells (v8a (setQ sl rf)) 37) ∧ wx.heap[w.heap.size]? = some (.cells (entC dg sl rf) 70) ∧ Below w1.heap.size w1 wx)) (Lib.hid ⟨?_, ((hbx _).block _ hlt).trans H1.out.1, hbx _⟩) ?_
    · rw [heap_alloc_new, setQ_eq, show rf % 256 = rf by omega, show sl / 256 % 256 = sl / 256 by omega, h65]
      rfl
    clear hbx h65
    have hb7 : w1.heap.size ≤ w1.heap.size := Nat.le_refl _
    generalize hgb : w1.heap.size = b7 at hb7 ⊢
    have HGB := Lib.hid hgb
    clear hgb z0 z1 z2 c1 c2
    intro w2 H2
    have hq64 : (setQ sl rf).length = 64 := by simp [setQ, zer]
    refine wp_region_qlast 3 (fun w' => ∃ p : Regrown, w' = Go.Sort.grow (redrawn w2 p.d) p.os) (by kernel_rfl) (by kernel_rfl) (fun _ _ d _ _ h => by cases d <;> exact h) (grows_drew _) ?_
    simp only [List.take_succ_cons, List.take_zero]
    repeat (go_big_quiet_step (fail))
    with_reducible refine wpQuiet_nil ?_
    with_reducible refine mix_a ?_; simp only [List.drop_succ_cons, List.drop_zero, List.take_succ_cons, List.take_zero]
    have hdg8 : (v8 dg).length = 32 := by rw [v8_length, hd.1]
    refine wpList_copy_own rfl (.tmp 61) (.tmp 63) 118 118 rfl 5 Tryz.underlying118 (by kernel_rfl) b7 8 56 56 ⟨w.heap.size, 0, none⟩ 32 32 rfl rfl (v8a (setQ sl rf)) 37 (show w2.drew.heap[b7]? = _ from H2.out.1) (v8 dg) hdg8 ?hsrc ?k2 (v8_one _) ?_
    case hsrc =>
      intro j v hj
      have h1 := ent_rdg (w := w2.drew) H2.out.2.1 j v hj
      have ea : (⟨w.heap.size, 0, none⟩ : Addr).add j = ⟨w.heap.size, 0 + j, none⟩ := by unfold Addr.add; split <;> simp_all
      rw [ea]; exact h1
    case k2 => rw [pgsz hq64, hdg8]; decide
    rw [set_row_v8, HP1.out]
    have hl7 := lt_of_blk H2.out.1
    refine gen_world (fun wx => Hid (TabI wx tb (fun k => N k ∨ k = b7) bb first n B ∧ wx.heap[b7]? = some (.cells (v8a pg) 37) ∧ Keeps N w wx)) (Lib.hid ⟨?_, setRow_heap _ _ _ _ _ (0, 0) (show w2.drew.heap[b7]? = _ from H2.out.1), ?_⟩) ?_
    · have hbb : Below w1.heap.size w1 (w2.drew.setRow b7 (v8a pg)) := below_setRow (by rw [HGB.out]; exact H2.out.2.2.drew) (by rw [HGB.out]; exact Nat.le_refl _) _
      refine HT1.out.keep hbb (fun k hk => ?_)
      rcases hk with hk | hk
      · exact ⟨Nat.lt_of_lt_of_le (HT1.out.N_lt k hk) hbb.size, .inl hk⟩
      · subst hk; exact ⟨by simp [World.setRow]; exact hl7, .inr (by rw [HGB.out]; exact Nat.le_refl _)⟩
    · have hbb : Below w1.heap.size w1 (w2.drew.setRow b7 (v8a pg)) := below_setRow (by rw [HGB.out]; exact H2.out.2.2.drew) (by rw [HGB.out]; exact Nat.le_refl _) _
      exact Keeps.of_below (H1.out.2.trans (hbb.mono H1.out.2.size))
    clear H2
    intro w3 H3
    simp only [Act.put, List.setIfInBounds_toArray, List.set_cons_zero, List.set_cons_succ]
    with_reducible refine wpList_nil ?_
    refine mixQ_normal ⟨fun h => absurd h (by simp), mix_nil ?_⟩
    go_wp2_with fail
    obtain ⟨z0, z1, z2⟩ := blk3 H3.out.1.1
    have HWB := Lib.hid (fun wy (hy : BookI wy bb (fun k => (N k ∨ k = b7) ∨ k = tb) B) => bookWrite_any bb _ B (first + i) pg (by omega) HPK.out (by rw [← HPG.out]; exact HC.out) wy hy)
    have r0 : ∀ q : SatW (StF tb b7 (tabC bb first n) pg), q.w.cell? ⟨tb, 0, none⟩ = some (.pointer (some ⟨bb, 0, none⟩)) := fun q => (blk3 q.h.1).1
    have r1 : ∀ q : SatW (StF tb b7 (tabC bb first n) pg), q.w.cell? ⟨tb, 1, none⟩ = some (.int .i64 (first : Int)) := fun q => (blk3 q.h.1).2.1
    have hne : Nonempty (SatW (StF tb b7 (tabC bb first n) pg)) := ⟨⟨_, (show StF tb b7 (tabC bb first n) pg w3.drew from ⟨H3.out.1.1, H3.out.2.1⟩)⟩⟩
    refine wp_region_mix [(0, true), (1, true), (2, true), (3, true), (4, true), (5, true), (6, true), (7, true), (8, true), (9, true), (10, true), (11, false), (12, false), (13, true)] 13 (fun w' => ∃ p : SatW (StF tb b7 (tabC bb first n) pg), w' = p.w) (by kernel_rfl) (by kernel_rfl) (fun _ _ d _ _ h => by cases d <;> exact h) (sat_of (show StF tb b7 (tabC bb first n) pg w3.drew from ⟨H3.out.1.1, H3.out.2.1⟩)) ?_
    (repeat (with_reducible refine mix_q ?_; simp only [List.drop_succ_cons, List.drop_zero, List.take_succ_cons, List.take_zero]; go_big_quiet_step (fail); with_reducible refine wpQuiet_nil ?_))
    with_reducible refine mix_q ?_
    simp only [List.drop_succ_cons, List.drop_zero, List.take_succ_cons, List.take_zero]
    go_big_quiet_want
    refine quiet_page (.tmp 7) rfl b7 pg rfl (fun w' hw' => by obtain ⟨q, rfl⟩ := hw'; exact q.h.2) HPK.out.1 ?_
    simp only [Act.put, List.setIfInBounds_toArray, List.set_cons_zero, List.set_cons_succ]
    go_big_quiet_on
    with_reducible refine wpQuiet_nil ?_
    with_reducible refine mix_a ?_; simp only [List.drop_succ_cons, List.drop_zero, List.take_succ_cons, List.take_zero]
    have hWB := HWB.out w3.drew (H3.out.1.2.1.below (Below.refl _ _).drew)
    rw [show ((first + i : Nat) : Int) = (first : Int) + (i : Int) by omega] at hWB
    go_wp2_with fail
    refine hWB.mono ?_
    clear hWB HWB
    rintro e wy ⟨rfl, hby, hky⟩
    have hky' := (Keeps.drew _ w3).trans hky
    have HY : Hid (TabI wy tb (fun k => N k ∨ k = b7) bb first n (B.wrote (first + i) pg) ∧ wy.heap[b7]? = some (.cells (v8a pg) 37) ∧ Keeps N w wy) := Lib.hid ⟨⟨hky'.blk (.inr rfl) H3.out.1.1, hby, H3.out.1.2.2.1, by rw [BookS.wrote_n]; exact H3.out.1.2.2.2.1, H3.out.1.2.2.2.2⟩, hky'.blk (.inl (.inr rfl)) H3.out.2.1, H3.out.2.2.trans (hky'.mono (fun k _ hk => .inl (.inl hk)))⟩
    clear hby hky hky' H3
    try dsimp only
    go_wp2_with fail
    try with_reducible refine wpList_nil ?_
    with_reducible refine mixQ_normal ?_
    refine ⟨fun _ => sat_of (F := StF tb b7 (tabC bb first n) pg) ⟨HY.out.1.1, HY.out.2.1⟩, ?_⟩
    with_reducible refine mix_a ?_; simp only [List.drop_succ_cons, List.drop_zero, List.take_succ_cons, List.take_zero]
    go_wp2_with fail
    refine (woe_nil _ wy).mono ?_
    rintro e wz ⟨rfl, rfl⟩
    try dsimp only
    go_wp2_with fail
    try with_reducible refine wpList_nil ?_
    with_reducible refine mixQ_normal ?_
    refine ⟨fun _ => sat_of (F := StF tb b7 (tabC bb first n) pg) ⟨HY.out.1.1, HY.out.2.1⟩, ?_⟩
    (repeat (with_reducible refine mix_q ?_; simp only [List.drop_succ_cons, List.drop_zero, List.take_succ_cons, List.take_zero]; go_big_quiet_step (fail); with_reducible refine wpQuiet_nil ?_))
    with_reducible refine mix_nil ?_
    go_wp2_with fail
    go_ret
    exact ⟨rfl, by rw [HPG.out]; exact HY.out.1.drop (fun k hk => .inl hk), HY.out.2.2⟩
  · have HP1 : Hid (zer 64 = pg) := Lib.hid (by rw [← hpg]; unfold setP; rw [if_neg hrf])
    clear hpg
    repeat ((fail_if_success (with_reducible refine stop_pos "prints.go:57" rfl ?_)); (first | go_values | go_skip | go_guarded | go_step | go_upon))
    repeat ((fail_if_success (with_reducible refine stop_pos "prints.go:59" rfl ?_)); (first | go_values | go_skip | go_guarded | go_step | go_upon))
    repeat ((fail_if_success (with_reducible refine stop_pos "prints.go:60" rfl ?_)); (first | go_values | go_skip | go_guarded | go_step | go_upon))
    repeat ((fail_if_success (with_reducible refine stop_pos "prints.go:64" rfl ?_)); (first | go_values | go_skip | go_guarded | go_step | go_upon))
    have hbx : ∀ o : Obj, Below w1.heap.size w1 (w1.alloc o) := fun o => (Below.refl _ _).alloc (Nat.le_refl _) _
    refine gen_code (fun wx => Hid (TabI wx tb (fun k => N k ∨ k = w1.heap.size) bb first n B ∧ wx.heap[w1.heap.size]? = some (.cells (v8a pg) 37) ∧ Keeps N w wx)) (Lib.hid ⟨HT1.out.keep (hbx _) (fun k hk => ?_), by rw [← HP1.out]; exact heap_alloc_new w1 _, Keeps.of_below (H1.out.2.trans ((hbx _).mono H1.out.2.size))⟩) ?_
    · rcases hk with hk | hk
      · exact ⟨Nat.lt_of_lt_of_le (HT1.out.N_lt k hk) (hbx _).size, .inl hk⟩
      · subst hk; exact ⟨by simp, .inr (Nat.le_refl _)⟩
    clear hbx z0 z1 z2 c1 c2
    generalize w1.heap.size = b7
    intro w3 H3
    obtain ⟨z0, z1, z2⟩ := blk3 H3.out.1.1
    have HWB := Lib.hid (fun wy (hy : BookI wy bb (fun k => (N k ∨ k = b7) ∨ k = tb) B) => bookWrite_any bb _ B (first + i) pg (by omega) HPK.out (by rw [← HPG.out]; exact HC.out) wy hy)
    have r0 : ∀ q : SatW (StF tb b7 (tabC bb first n) pg), q.w.cell? ⟨tb, 0, none⟩ = some (.pointer (some ⟨bb, 0, none⟩)) := fun q => (blk3 q.h.1).1
    have r1 : ∀ q : SatW (StF tb b7 (tabC bb first n) pg), q.w.cell? ⟨tb, 1, none⟩ = some (.int .i64 (first : Int)) := fun q => (blk3 q.h.1).2.1
    have hne : Nonempty (SatW (StF tb b7 (tabC bb first n) pg)) := ⟨⟨_, (show StF tb b7 (tabC bb first n) pg w3.drew from ⟨H3.out.1.1, H3.out.2.1⟩)⟩⟩
    refine wp_region_mix [(0, true), (1, true), (2, true), (3, true), (4, true), (5, true), (6, true), (7, true), (8, true), (9, true), (10, true), (11, false), (12, false), (13, true)] 13 (fun w' => ∃ p : SatW (StF tb b7 (tabC bb first n) pg), w' = p.w) (by kernel_rfl) (by kernel_rfl) (fun _ _ d _ _ h => by cases d <;> exact h) (sat_of (show StF tb b7 (tabC bb first n) pg w3.drew from ⟨H3.out.1.1, H3.out.2.1⟩)) ?_
    (repeat (with_reducible refine mix_q ?_; simp only [List.drop_succ_cons, List.drop_zero, List.take_succ_cons, List.take_zero]; go_big_quiet_step (fail); with_reducible refine wpQuiet_nil ?_))
    with_reducible refine mix_q ?_
    simp only [List.drop_succ_cons, List.drop_zero, List.take_succ_cons, List.take_zero]
    go_big_quiet_want
    refine quiet_page (.tmp 7) rfl b7 pg rfl (fun w' hw' => by obtain ⟨q, rfl⟩ := hw'; exact q.h.2) HPK.out.1 ?_
    simp only [Act.put, List.setIfInBounds_toArray, List.set_cons_zero, List.set_cons_succ]
    go_big_quiet_on
    with_reducible refine wpQuiet_nil ?_
    with_reducible refine mix_a ?_; simp only [List.drop_succ_cons, List.drop_zero, List.take_succ_cons, List.take_zero]
    have hWB := HWB.out w3.drew (H3.out.1.2.1.below (Below.refl _ _).drew)
    rw [show ((first + i : Nat) : Int) = (first : Int) + (i : Int) by omega] at hWB
    go_wp2_with fail
    refine hWB.mono ?_
    clear hWB HWB
    rintro e wy ⟨rfl, hby, hky⟩
    have hky' := (Keeps.drew _ w3).trans hky
    have HY : Hid (TabI wy tb (fun k => N k ∨ k = b7) bb first n (B.wrote (first + i) pg) ∧ wy.heap[b7]? = some (.cells (v8a pg) 37) ∧ Keeps N w wy) := Lib.hid ⟨⟨hky'.blk (.inr rfl) H3.out.1.1, hby, H3.out.1.2.2.1, by rw [BookS.wrote_n]; exact H3.out.1.2.2.2.1, H3.out.1.2.2.2.2⟩, hky'.blk (.inl (.inr rfl)) H3.out.2.1, H3.out.2.2.trans (hky'.mono (fun k _ hk => .inl (.inl hk)))⟩
    clear hby hky hky' H3
    try dsimp only
    go_wp2_with fail
    try with_reducible refine wpList_nil ?_
    with_reducible refine mixQ_normal ?_
    refine ⟨fun _ => sat_of (F := StF tb b7 (tabC bb first n) pg) ⟨HY.out.1.1, HY.out.2.1⟩, ?_⟩
    with_reducible refine mix_a ?_; simp only [List.drop_succ_cons, List.drop_zero, List.take_succ_cons, List.take_zero]
    go_wp2_with fail
    refine (woe_nil _ wy).mono ?_
    rintro e wz ⟨rfl, rfl⟩
    try dsimp only
    go_wp2_with fail
    try with_reducible refine wpList_nil ?_
    with_reducible refine mixQ_normal ?_
    refine ⟨fun _ => sat_of (F := StF tb b7 (tabC bb first n) pg) ⟨HY.out.1.1, HY.out.2.1⟩, ?_⟩
    (repeat (with_reducible refine mix_q ?_; simp only [List.drop_succ_cons, List.drop_zero, List.take_succ_cons, List.take_zero]; go_big_quiet_step (fail); with_reducible refine wpQuiet_nil ?_))
    with_reducible refine mix_nil ?_
    go_wp2_with fail
    go_ret
    exact ⟨rfl, by rw [HPG.out]; exact HY.out.1.drop (fun k hk => .inl hk), HY.out.2.2⟩
end Go.Proofs.YtajmcplanlibnaaGreatDoor
