/- The document's depot: a new one; a block is put, dropped; the live slots of a container; two lists compared. -/
import Derived.Test.YtajmcplanlibnaaGreatDoorKU4
set_option linter.unusedSimpArgs false
set_option linter.unusedVariables false
set_option linter.unnecessarySimpa false
namespace Go.Proofs.YtajmcplanlibnaaGreatDoor
open Go.RowKit Go.Maps
def pgSet (blk : Nat → List Int) (k : Nat) (p : List Int) : Nat → List Int := fun s => if s = k then p else blk s
theorem pgRows_set (blk : Nat → List Int) (n k : Nat) (p : List Int) : (pgRows blk n).set k p = pgRows (pgSet blk k p) n := by
  unfold pgRows pgSet
  refine List.ext_getElem? (fun i => ?_)
  rw [List.getElem?_set]
  simp only [List.getElem?_map, List.length_map, List.length_range]
  by_cases e : k = i
  · subst e
    rw [if_pos rfl]
    split
    · rename_i hl
      simp [hl]
    · rename_i hl
      rw [List.getElem?_eq_none (by simpa using hl)]; rfl
  · rw [if_neg e]
    cases hg : (List.range (n * 4))[i]? with
    | none => rfl
    | some j =>
      have : j = i := by
        obtain ⟨h3, h4⟩ := List.getElem?_eq_some_iff.1 hg
        rw [List.getElem_range] at h4; exact h4.symm
      subst this
      simp only [Option.map_some]
      rw [if_neg (fun h => e h.symm)]
theorem pgRows_length (blk : Nat → List Int) (n : Nat) : (pgRows blk n).length = n * 4 := by unfold pgRows; simp
theorem pgRows_get (blk : Nat → List Int) (n s : Nat) (hs : s < n * 4) : (pgRows blk n).getD s [] = blk s := by
  unfold pgRows
  simp [List.getD, hs]
theorem pgRows_ok {blk : Nat → List Int} {n : Nat} (h : ∀ s, s < n * 4 → PgOk (blk s)) : ∀ p ∈ pgRows blk n, PgOk p := fun p hp => by
  unfold pgRows at hp
  obtain ⟨s, hs, rfl⟩ := List.mem_map.1 hp
  exact h s (List.mem_range.1 hs)
theorem RefI.page {mb sb qb n : Nat} {st : Nat → Int} {blk : Nat → List Int} {w : World} (h : RefI mb sb qb n st blk w) (s : Nat) (hs : s < n * 4) : w.rangeAt qb (s * 64) (v8 (blk s)) := by
  have := firm_range (rest := []) (by rw [List.append_nil]; exact h.pg) (pgRows_ok h.ok) s (by rw [pgRows_length]; exact hs)
  rwa [pgRows_get blk n s hs] at this
theorem blk_ne_of {w : World} {i j T U : Nat} {cs ds : Array Value} (hi : w.heap[i]? = some (.cells cs T)) (hj : w.heap[j]? = some (.cells ds U)) (h : T ≠ U) : i ≠ j := fun e => by
  subst e
  rw [hi] at hj
  simp only [Option.some.injEq, Obj.cells.injEq] at hj
  exact h hj.2.1
theorem RefI.ne {mb sb qb n : Nat} {st : Nat → Int} {blk : Nat → List Int} {w : World} (h : RefI mb sb qb n st blk w) : mb ≠ sb ∧ mb ≠ qb ∧ sb ≠ qb :=
  ⟨blk_ne_of h.cells h.st (by decide), blk_ne_of h.cells h.pg (by decide), blk_ne_of h.st h.pg (by decide)⟩
/-- What a write to the document's depot leaves as it was. -/
def NRf (sb qb : Nat) : Nat → Prop := fun k => k ≠ sb ∧ k ≠ qb
theorem RefI.stored {mb sb qb n : Nat} {st : Nat → Int} {blk : Nat → List Int} {w : World} (h : RefI mb sb qb n st blk w) (s : Nat) (v : Int) : RefI mb sb qb n (stSet st s v) blk (w.setCell ⟨sb, s, none⟩ (.int .i64 v)) := by
  obtain ⟨h1, h2, h3⟩ := h.ne
  exact ⟨heap_set_ne h1.symm h.cells, st_set h.st s v, heap_set_ne h3 h.pg, h.ok, h.lt⟩
theorem Keeps.stored (sb qb s : Nat) (v : Value) (w : World) : Keeps (NRf sb qb) w (w.setCell ⟨sb, s, none⟩ v) := Keeps.set w sb s v (fun h => h.1 rfl)
theorem made_ints (n : Nat) : madeCells #[Value.int .i64 0] (n * 4) = stRow (fun _ => 0) n := by
  apply Array.ext'
  simp only [madeCells, stRow, Array.toList_map, Array.toList_range]
  apply List.ext_getElem
  · simp
  · intro i h1 h2
    simp [Nat.mod_one]
theorem pgRows_zer (n : Nat) : (pgRows (fun _ => zer 64) n).flatten = zer (n * 4 * 64) := by
  unfold pgRows
  rw [List.map_const', List.length_range, flat_zer]
def NwS (w : World) (n s q : Nat) (wx : World) : Prop := wx.heap[s]? = some (.cells (stRow (fun _ => 0) n) 3) ∧ wx.heap[q]? = some (.cells (v8a (pgRows (fun _ => zer 64) n).flatten) 37) ∧ w.heap.size ≤ s ∧ w.heap.size ≤ q ∧ Below w.heap.size w wx
set_option maxRecDepth 100000 in
set_option maxHeartbeats 1000000 in
theorem refNew_any (n : Nat) (hn : 1 ≤ n ∧ n ≤ 64) (w : World) :
    Calls Tryz.prog 44 #[.int .i64 (n : Int)] w fun e w' => (∃ mb sb qb, e = .returned (.pointer (some ⟨mb, 0, none⟩)) ∧ w.heap.size ≤ mb ∧ w.heap.size ≤ sb ∧ w.heap.size ≤ qb ∧ RefI mb sb qb n (fun _ => 0) (fun _ => zer 64) w') ∧ Below w.heap.size w w' := by
  obtain ⟨i0, hi0', hz0, hz1, hz2⟩ := info_parts info_pg
  obtain ⟨i1, hi1', hy0, hy1, hy2⟩ := info_parts info_int
  have hmk : ∀ wx : World, (Instr.makeSlice 52 (.int .i64 (4 * (n : Int))) (.int .i64 (4 * (n : Int)))).run Tryz.prog wx = .ok (.slice (some ⟨wx.heap.size, 0, none⟩) (n * 4) (n * 4)) (wx.alloc (.cells (v8a (pgRows (fun _ => zer 64) n).flatten) 37)) := fun wx => by
    have h := run_make (P := Tryz.prog) wx 52 37 i0 (.agg (v8a (zer 64))) Tryz.underlying52 hi0' hz0 .i64 .i64 ((n * 4 : Nat) : Int) ((n * 4 : Nat) : Int) (by omega) (Int.le_refl _) (by rw [hz2]; omega) (by omega)
    simp only [Int.toNat_natCast, hz1] at h
    rw [show 4 * (n : Int) = ((n * 4 : Nat) : Int) by omega, h, show (Value.agg (v8a (zer 64))).cells = v8a (zer 64) from rfl, made_zer, pgRows_zer]
  have hms : ∀ wx : World, (Instr.makeSlice 33 (.int .i64 (4 * (n : Int))) (.int .i64 (4 * (n : Int)))).run Tryz.prog wx = .ok (.slice (some ⟨wx.heap.size, 0, none⟩) (n * 4) (n * 4)) (wx.alloc (.cells (stRow (fun _ => 0) n) 3)) := fun wx => by
    have h := run_make (P := Tryz.prog) wx 33 3 i1 (.int .i64 0) Tryz.underlying33 hi1' hy0 .i64 .i64 ((n * 4 : Nat) : Int) ((n * 4 : Nat) : Int) (by omega) (Int.le_refl _) (by rw [hy2]; omega) (by omega)
    simp only [Int.toNat_natCast, hy1] at h
    rw [show 4 * (n : Int) = ((n * 4 : Nat) : Int) by omega, h, show (Value.int .i64 0).cells = #[Value.int .i64 0] from rfl, Nat.mul_one, made_ints]
  obtain ⟨hn1, hn2⟩ := hn
  have hj1 : (1 : Int) ≤ n := by omega
  have hj2 : (n : Int) ≤ 64 := by omega
  clear hi0' hz0 hz1 hz2 hi1' hy0 hy1 hy2
  go_enter Tryz.func44, Tryz.ntmps44
  go_wp2_with fail
  refine wp_region_plan (.quiet 0 (.quiet 1 (.quiet 3 (.quiet 4 (.two 2 5 (.one 5 (.quiet 6 (.one 7 (.quiet 8 .nil)))) (.one 2 (.quiet 6 (.one 7 (.quiet 8 .nil))))))))) (fun w' => ∃ p : Regrown, w' = Go.Sort.grow (redrawn w p.d) p.os) (by kernel_rfl) (by kernel_rfl) (fun _ _ d _ _ h => by cases d <;> exact h) (grows_drew _) ?_
  (repeat (with_reducible refine plan_q ?_; simp only [List.drop_succ_cons, List.drop_zero, List.take_succ_cons, List.take_zero]; go_big_quiet_step (fail); with_reducible refine wpQuiet_nil ?_))
  have hbd : Below w.heap.size w w.drew := (Below.refl _ _).drew
  have hbo : ∀ o o' : Obj, Below w.heap.size w ((w.alloc o).alloc o').drew := fun o o' => (((Below.refl _ _).alloc (Nat.le_refl _) o).alloc (by simp) o').drew
  have hbo1 : ∀ o : Obj, Below w.heap.size w (w.alloc o).drew := fun o => ((Below.refl _ _).alloc (Nat.le_refl _) o).drew
  have hle : w.heap.size ≤ w.heap.size + 1 := Nat.le_succ _
  have hnew : ∀ o o' : Obj, ((w.alloc o).alloc o').drew.heap[w.heap.size]? = some o := fun o o' => by
    show ((w.alloc o).alloc o').heap[_]? = _
    rw [heap_alloc_old _ _ (by simp)]
    exact heap_alloc_new w o
  have hnew1 : ∀ o o' : Obj, ((w.alloc o).alloc o').drew.heap[w.heap.size + 1]? = some o' := fun o o' => by
    show ((w.alloc o).alloc o').heap[_]? = _
    have h := heap_alloc_new (w.alloc o) o'
    rwa [World.size_alloc] at h
  apply tail_cut
  · intro TAIL
    with_reducible refine plan_two ?_ ?_
    · simp only [List.drop_succ_cons, List.drop_zero, List.take_succ_cons, List.take_zero]
      go_wp2_with fail
      (try with_reducible refine wpList_nil ?_); with_reducible refine mixQ_normal ?_
      refine ⟨grows_of_below (hbo1 _), ?_⟩
      with_reducible refine plan_a ?_; simp only [List.drop_succ_cons, List.drop_zero, List.take_succ_cons, List.take_zero]
      go_wp2_with fail
      (try with_reducible refine wpList_nil ?_); with_reducible refine mixQ_normal ?_
      refine ⟨grows_of_below (hbo _ _), ?_⟩
      refine gen_plan (fun wx => Hid (NwS w n w.heap.size (w.heap.size + 1) wx)) (Lib.hid ⟨hnew _ _, hnew1 _ _, Nat.le_refl _, hle, hbo _ _⟩) ?_
      generalize w.heap.size + 1 = q
      generalize w.heap.size = s
      intro wx HN
      revert q s wx
      exact TAIL
    · simp only [List.drop_succ_cons, List.drop_zero, List.take_succ_cons, List.take_zero]
      go_wp2_with fail
      (try with_reducible refine wpList_nil ?_); with_reducible refine mixQ_normal ?_
      refine ⟨grows_of_below (hbo1 _), ?_⟩
      with_reducible refine plan_a ?_; simp only [List.drop_succ_cons, List.drop_zero, List.take_succ_cons, List.take_zero]
      go_wp2_with fail
      (try with_reducible refine wpList_nil ?_); with_reducible refine mixQ_normal ?_
      refine ⟨grows_of_below (hbo _ _), ?_⟩
      refine gen_plan (fun wx => Hid (NwS w n (w.heap.size + 1) w.heap.size wx)) (Lib.hid ⟨hnew1 _ _, hnew _ _, hle, Nat.le_refl _, hbo _ _⟩) ?_
      intro wx HN
      exact TAIL _ _ wx HN
  · intro q s wx HN
    (repeat (with_reducible refine plan_q ?_; simp only [List.drop_succ_cons, List.drop_zero, List.take_succ_cons, List.take_zero]; go_big_quiet_step (fail); with_reducible refine wpQuiet_nil ?_))
    with_reducible refine plan_a ?_; simp only [List.drop_succ_cons, List.drop_zero, List.take_succ_cons, List.take_zero]
    go_wp2_with fail
    (try with_reducible refine wpList_nil ?_); with_reducible refine mixQ_normal ?_
    have hbz : ∀ o : Obj, Below w.heap.size w (wx.alloc o) := fun o => HN.out.2.2.2.2.alloc HN.out.2.2.2.2.size o
    refine ⟨grows_of_below (hbz _), ?_⟩
    (repeat (with_reducible refine plan_q ?_; simp only [List.drop_succ_cons, List.drop_zero, List.take_succ_cons, List.take_zero]; go_big_quiet_step (fail); with_reducible refine wpQuiet_nil ?_))
    with_reducible refine plan_nil ?_
    go_wp2_with fail
    go_ret
    refine ⟨⟨wx.heap.size, s, q, rfl, HN.out.2.2.2.2.size, HN.out.2.2.1, HN.out.2.2.2.1, ⟨heap_alloc_new wx _, ?_, ?_, fun _ _ => zer_pg, hn2⟩⟩, hbz _⟩
    · rw [heap_alloc_old _ _ (lt_of_blk HN.out.1)]; exact HN.out.1
    · rw [heap_alloc_old _ _ (lt_of_blk HN.out.2.1)]; exact HN.out.2.1
section
variable {mb sb qb n : Nat} {st : Nat → Int} {blk : Nat → List Int}
set_option maxRecDepth 100000 in
set_option maxHeartbeats 2000000 in
theorem refPut_any (s : Nat) (hs : s < n * 4) (p : List Int) (hp : PgOk p) (w : World) (h : RefI mb sb qb n st blk w) :
    Calls Tryz.prog 108 #[.pointer (some ⟨mb, 0, none⟩), .int .i64 (s : Int), .agg (v8a p)] w fun e w' => e = .returned (.tuple #[]) ∧ RefI mb sb qb n (stSet st s 1) (pgSet blk s p) w' ∧ Keeps (NRf sb qb) w w' := by
  have H := Lib.hid h
  obtain ⟨z0, z1⟩ := ref_cells h.cells
  obtain ⟨c0, f0⟩ := st_cell h.st s hs
  have hn := h.lt
  have hp64 := hp.1
  have HPG := Lib.hid hp
  have hs0 : (0 : Int) ≤ s := by omega
  have hs1 : (s : Int) < n * 4 := by omega
  have HS := Lib.hid hs
  have hb0 : ∀ o : Obj, Below w.heap.size w (w.alloc o) := fun o => (Below.refl _ _).alloc (Nat.le_refl _) _
  clear h hs hp
  go_enter Tryz.func108, Tryz.ntmps108
  repeat ((fail_if_success (with_reducible refine stop_at 6 rfl ?_)); (first | go_values | go_skip | go_guarded | go_step | go_upon))
  refine gen_world (fun wx => Hid (wx.heap[w.heap.size]? = some (.cells (v8a p) 37) ∧ w.heap.size ≠ qb ∧ RefI mb sb qb n st blk wx ∧ Keeps (NRf sb qb) w wx)) (Lib.hid ⟨heap_alloc_new w (.cells (v8a p) 37), by have := lt_of_blk H.out.pg; omega, H.out.below (hb0 _), Keeps.of_below (hb0 _)⟩) ?_
  clear hb0 z0 z1 c0 f0
  generalize w.heap.size = b5
  intro w1 H1
  obtain ⟨z0, z1⟩ := ref_cells H1.out.2.2.1.cells
  obtain ⟨c0, f0⟩ := st_cell H1.out.2.2.1.st s HS.out
  go_wp2_with fail
  refine gen_code (fun wx => Hid (wx.heap[b5]? = some (.cells (v8a p) 37) ∧ RefI mb sb qb n (stSet st s 1) blk wx ∧ Keeps (NRf sb qb) w wx)) (Lib.hid ⟨heap_set_ne (blk_ne_of H1.out.1 H1.out.2.2.1.st (by decide)).symm H1.out.1, H1.out.2.2.1.stored s 1, H1.out.2.2.2.trans (Keeps.stored sb qb s _ _)⟩) ?_
  clear z0 z1 c0 f0 H1
  intro w2 H2
  try simp only [Act.put]
  obtain ⟨z0, z1⟩ := ref_cells H2.out.2.1.cells
  have r1 := cell_regrown z1
  have HB := Lib.hid (blk_regrown H2.out.1)
  clear z0
  refine wp_region_qlast 7 (fun w' => ∃ p : Regrown, w' = Go.Sort.grow (redrawn w2 p.d) p.os) (by kernel_rfl) (by kernel_rfl) (fun _ _ d _ _ h => by cases d <;> exact h) (grows_drew _) ?_
  simp only [List.take_succ_cons, List.take_zero]
  repeat (first | go_big_quiet_step (fail) | (go_big_quiet_want; refine quiet_page (.tmp 5) rfl b5 p rfl HB.out hp64 ?_; simp only [Act.put, List.setIfInBounds_toArray, List.set_cons_zero, List.set_cons_succ]; go_big_quiet_on))
  with_reducible refine wpQuiet_nil ?_
  with_reducible refine mix_a ?_
  simp only [List.drop_succ_cons, List.drop_zero, List.take_succ_cons, List.take_zero]
  have hlv : (v8 p).toArray.size = 64 := by simp [v8, hp64]
  refine wpList_store_mid rfl 37 (.tmp 18) (.tmp 17) rfl qb (s * 64) (v8 p).toArray rfl rfl ?u1 ?u2 ?u3 ?_
  case u1 =>
    rw [hlv]
    refine blk_there (w := w2.drew) (H2.out.2.1.pg) ?_
    have hl := flat64 _ (pgRows_ok H2.out.2.1.ok)
    rw [pgRows_length] at hl
    have := HS.out
    unfold v8a
    rw [List.size_toArray, v8_length, hl]
    omega
  case u2 => rw [hlv]; exact info_pgs
  case u3 => exact all_oneCell_toArray (v8_one p)
  simp only [Act.put]
  have hne := H2.out.2.1.ne
  have HF2 : Hid (RefI mb sb qb n (stSet st s 1) (pgSet blk s p) (w2.drew.setCells qb (s * 64) (v8 p).toArray.toList) ∧ Keeps (NRf sb qb) w (w2.drew.setCells qb (s * 64) (v8 p).toArray.toList)) := Lib.hid (by
    have hg := setCells_grown qb (v8 p).toArray.toList (s * 64) w2.drew
    have hkq : Keeps (fun k => k ≠ qb) w2 (w2.drew.setCells qb (s * 64) (v8 p).toArray.toList) := (Keeps.drew _ w2).trans (Keeps.of_grown hg (fun k hk => by cases hk; simp))
    have hR := H2.out.2.1
    refine ⟨⟨hkq.blk hne.2.1 hR.cells, hkq.blk hne.2.2 hR.st, ?_, fun t ht => ?_, hn⟩, H2.out.2.2.trans (hkq.mono (fun k _ hk => hk.2))⟩
    · rw [← pgRows_set]
      have hps := page_stored (w := w2.drew) (rest := []) (by rw [List.append_nil]; exact hR.pg) (pgRows_ok hR.ok) (by rw [pgRows_length]; exact HS.out) HPG.out
      rw [List.append_nil] at hps
      exact hps
    · unfold pgSet
      split
      · exact HPG.out
      · exact hR.ok t ht)
  generalize (w2.drew.setCells qb (s * 64) (v8 p).toArray.toList) = wy at HF2 ⊢
  with_reducible refine wpList_nil ?_
  refine mixQ_normal ⟨fun h => absurd h (by simp), mix_nil ?_⟩
  go_wp2_with fail
  go_end0
  exact ⟨rfl, HF2.out.1, HF2.out.2⟩
set_option maxRecDepth 100000 in
set_option maxHeartbeats 2000000 in
theorem refDrop_any (s : Nat) (hs : s < n * 4) (hl : st s = 1) (w : World) (h : RefI mb sb qb n st blk w) :
    Calls Tryz.prog 109 #[.pointer (some ⟨mb, 0, none⟩), .int .i64 (s : Int)] w fun e w' => e = .returned (.int .i64 0) ∧ RefI mb sb qb n (dropT st s) blk w' ∧ Keeps (NRf sb qb) w w' := by
  have H := Lib.hid h
  have hH := refHas_any (s : Int) w h
  have e0 : hasR st n (s : Int) = 0 := by
    unfold hasR
    rw [if_neg (by omega), Int.toNat_natCast, if_pos hl]
  rw [e0] at hH
  have hn := h.lt
  have hs0 : (0 : Int) ≤ s := by omega
  have hs1 : (s : Int) < n * 4 := by omega
  have HS := Lib.hid hs
  have HO := Lib.hid (cnt4_drop st s)
  clear h hs hl e0
  go_enter Tryz.func109, Tryz.ntmps109
  go_wp2_with fail
  refine hH.mono ?_
  clear hH
  rintro e w0 ⟨rfl, rfl⟩
  obtain ⟨z0, z1⟩ := ref_cells H.out.cells
  obtain ⟨c0, f0⟩ := st_cell H.out.st s HS.out
  try dsimp only
  repeat ((fail_if_success (with_reducible refine stop_at 19 rfl ?_)); (first | go_values | go_skip | go_guarded | go_step | go_upon))
  refine gen_world (fun wx => Hid (RefI mb sb qb n (stSet st s 2) blk wx ∧ Keeps (NRf sb qb) w wx)) (Lib.hid ⟨H.out.stored s 2, Keeps.stored sb qb s _ _⟩) ?_
  clear z0 z1 c0 f0
  intro w1 H1
  have hC := refCount_any ((s / 4 : Nat) : Int) 1 w1 H1.out.1
  rw [cntR_box _ _ _ _, if_pos (by have := HS.out; omega), show ((s / 4 : Nat) : Int) = (s : Int) / 4 by omega] at hC
  obtain ⟨c, hc⟩ : ∃ c, cnt4 (boxS (stSet st s 2) (s / 4)) 1 = c := ⟨_, rfl⟩
  rw [hc] at hC HO
  clear hc
  go_wp2_with fail
  refine hC.mono ?_
  clear hC
  rintro e w2 ⟨rfl, rfl⟩
  try dsimp only
  by_cases q : c = 0
  · subst q
    have HD := Lib.hid (dropT_free st s (HO.out.1 rfl))
    have H2 : Hid (RefI mb sb qb n (stClr (stSet st s 2) s 0) blk w1 ∧ Keeps (NRf sb qb) w w1) := Lib.hid ⟨by rw [stClr_zero]; exact H1.out.1, H1.out.2⟩
    clear H1 HO H
    go_wp2_with fail
    go_loopw [6] (fun iv wr => ∃ i : Nat, iv = .int .i64 (i : Int) ∧ i ≤ 4 ∧ Hid (RefI mb sb qb n (stClr (stSet st s 2) s i) blk wr ∧ Keeps (NRf sb qb) w wr)) (fun iv _ => 5 - (intOf iv).toNat)
    case atStart => exact ⟨0, rfl, by omega, H2⟩
    case round =>
      clear H2
      obtain ⟨i, rfl, hi, HR⟩ := hrel
      have hi0 : (0 : Int) ≤ i := by omega
      by_cases hlt : i < 4
      · have hi1 : (i : Int) < 4 := by omega
        obtain ⟨z0, z1⟩ := ref_cells HR.out.1.cells
        obtain ⟨c0, f0⟩ := st_cell HR.out.1.st (s / 4 * 4 + i) (by have := HS.out; omega)
        have hx0 : (0 : Int) ≤ (s : Int) / 4 * 4 + i := by omega
        have hx1 : (s : Int) / 4 * 4 + i < n * 4 := by have := HS.out; omega
        have HZ : Hid (RefI mb sb qb n (stClr (stSet st s 2) s (i + 1)) blk (wr.setCell ⟨sb, s / 4 * 4 + i, none⟩ (.int .i64 0)) ∧ Keeps (NRf sb qb) w (wr.setCell ⟨sb, s / 4 * 4 + i, none⟩ (.int .i64 0))) := Lib.hid ⟨by rw [← stClr_succ _ _ _ hlt]; exact HR.out.1.stored _ 0, HR.out.2.trans (Keeps.stored sb qb _ _ _)⟩
        clear HR
        go_wp2_with fail
        exact ⟨⟨i + 1, by push_cast; rfl, by omega, HZ⟩, by simp [intOf]; omega⟩
      · have hi1 : ¬ ((i : Int) < 4) := by omega
        have HI : Hid (i = 4) := Lib.hid (by omega)
        clear hlt hi
        go_wp2_with fail
        go_ret
        have h := HR.out
        rw [HI.out] at h
        rw [HD.out]
        exact ⟨rfl, h.1, h.2⟩
  · have HD := Lib.hid (dropT_stay st s (by
      cases ho : othB st s with
      | true => rfl
      | false => exact absurd (HO.out.2 ho) q))
    have q1 : ¬ ((c : Int) = 0) := by omega
    clear q HO H
    go_wp2_with fail
    go_ret
    rw [HD.out]
    exact ⟨rfl, H1.out.1, H1.out.2⟩
set_option maxRecDepth 100000 in
set_option maxHeartbeats 2000000 in
theorem refDrop_err (slot : Int) (k : Int) (hk : hasR st n slot = k) (h0 : k ≠ 0) (w : World) (h : RefI mb sb qb n st blk w) :
    Calls Tryz.prog 109 #[.pointer (some ⟨mb, 0, none⟩), .int .i64 slot] w fun e w' => e = .returned (.int .i64 k) ∧ w = w' := by
  have hH := refHas_any slot w h
  rw [hk] at hH
  clear h hk
  go_enter Tryz.func109, Tryz.ntmps109
  go_wp2_with fail
  refine hH.mono ?_
  clear hH
  rintro e w0 ⟨rfl, rfl⟩
  try dsimp only
  go_wp2_with fail
  go_ret
  exact ⟨rfl, by first | trivial | rfl⟩
set_option maxRecDepth 100000 in
set_option maxHeartbeats 4000000 in
theorem refSlots_any (box : Nat) (hbx : box < n) (w : World) (h : RefI mb sb qb n st blk w) :
    Calls Tryz.prog 120 #[.pointer (some ⟨mb, 0, none⟩), .int .i64 (box : Int)] w fun e w' => (∃ a c, e = .returned (.slice a (slots4 (boxS st box) box 4).length c) ∧ w'.ownsRow w.heap.size 3 1 (.slice a (slots4 (boxS st box) box 4).length c) (slots4 (boxS st box) box 4).length (intsN (slots4 (boxS st box) box 4))) ∧ Below w.heap.size w w' := by
  have HR := Lib.hid (fun wx (hb : Below w.heap.size w wx) => h.below hb)
  obtain ⟨i0, hi0', hz0, hz1, hz2⟩ := info_parts info_int
  have HI := Lib.hid (And.intro hi0' (And.intro hz0 (And.intro hz1 hz2)))
  have HG : Hid (∀ t, boxS st box t = st (box * 4 + t)) := Lib.hid (fun t => rfl)
  generalize boxS st box = g at HG ⊢
  have hn := h.lt
  have hx0 : (0 : Int) ≤ box := by omega
  have hx1 : (box : Int) < n := by omega
  have hbx' := Lib.hid hbx
  clear h hi0' hz0 hz1 hz2 hbx
  go_enter Tryz.func120, Tryz.ntmps120
  go_wp2_with fail
  go_loopw [5, 6] (fun lv jv wr => ∃ (j : Nat) (a : Option Addr) (c : Nat) (l : List Nat), jv = .int .i64 (j : Int) ∧ j ≤ 4 ∧ lv = .slice a l.length c ∧ Hid (l = slots4 g box j) ∧ Hid (wr.ownsRow w.heap.size 3 1 (.slice a l.length c) l.length (intsN l) ∧ Below w.heap.size w wr)) (fun _ jv _ => 5 - (intOf jv).toNat)
  case atStart => exact ⟨0, none, 0, [], rfl, by omega, rfl, Lib.hid rfl, Lib.hid ⟨World.ownsRow_nil _ _ _ _, Below.refl _ _⟩⟩
  case round =>
    obtain ⟨j, a, c, l, rfl, hj, rfl, HL, HO⟩ := hrel
    have hll : l.length ≤ 4 := by have := slots4_le g box j; rw [HL.out]; omega
    by_cases hjt : j < 4
    · have hj1 : (j : Int) < 4 := by omega
      have hj0 : (0 : Int) ≤ j := by omega
      have hR := HR.out wr HO.out.2
      obtain ⟨z0, z1⟩ := ref_cells hR.cells
      obtain ⟨c0, f0⟩ := st_cell hR.st (box * 4 + j) (by have := hbx'.out; omega)
      rw [← HG.out j] at c0
      clear hR
      have HNX := Lib.hid (slots4_succ g box j)
      rw [← HL.out] at HNX
      generalize g j = b at c0 HNX
      rw [show box * 4 + j = 4 * box + j by omega] at c0 f0
      have hy0 : (0 : Int) ≤ 4 * (box : Int) + j := by omega
      have hy1 : 4 * (box : Int) + j < n * 4 := by omega
      by_cases q : b = 1
      · subst q
        rw [if_pos rfl] at HNX
        repeat ((fail_if_success (with_reducible refine stop_at 28 rfl ?_)); (first | go_values | go_skip | go_guarded | go_step | go_upon))
        refine step_append_list rfl (.tmp 22) (.tmp 27) 33 rfl w.heap.size 3 i0 (.int .i64 0) 1 8 Tryz.underlying33 HI.out.1 HI.out.2.1 HI.out.2.2.1 HI.out.2.2.2 rfl (by decide) (.slice a l.length c) l.length (intsN l) rfl ?c0 (.slice (some ⟨wr.heap.size, 0, none⟩) 1 1) 1 [.int .i64 (4 * (box : Int) + (j : Int))] rfl (one_srcN wr [.int .i64 (4 * (box : Int) + (j : Int))] 3 1 rfl (by intro u hu; rw [List.mem_singleton] at hu; subst hu; rfl)) ?c1 ?c2 ?c3 ?_
        case c0 => exact own_below HO.out.1 ((Below.refl _ _).alloc (Nat.le_refl _) _)
        case c1 => unfold maxLen; omega
        case c2 => omega
        case c3 => have := HO.out.2.size; simp; omega
        intro v4 w4 ho4 hg4
        obtain ⟨a4, c4, rfl⟩ := own_slice ho4
        have hlen : (l ++ [box * 4 + j]).length = l.length + 1 := by simp
        rw [show (4 * (box : Int) + (j : Int)) = ((box * 4 + j : Nat) : Int) by push_cast; omega] at ho4
        have H4 : Hid (w4.ownsRow w.heap.size 3 1 (.slice a4 (l ++ [box * 4 + j]).length c4) (l ++ [box * 4 + j]).length (intsN (l ++ [box * 4 + j])) ∧ Below w.heap.size w w4) := Lib.hid ⟨by rw [hlen]; simpa [intsN] using ho4, (HO.out.2.trans (((Below.refl _ _).alloc (Nat.le_refl _) _).mono HO.out.2.size)).grown hg4 (by have := HO.out.2.size; simp; omega) (fun q hq => (HO.out.1.lt q hq).1)⟩
        clear ho4 hg4 HO
        simp only [Act.put, List.setIfInBounds_toArray, List.set_cons_zero, List.set_cons_succ]
        go_wp2_with fail
        exact ⟨⟨j + 1, a4, c4, l ++ [box * 4 + j], by push_cast; rfl, by omega, by rw [hlen], Lib.hid HNX.out.symm, H4⟩, by simp [intOf]; omega⟩
      · rw [if_neg q] at HNX
        go_wp2_with fail
        exact ⟨⟨j + 1, a, c, l, by push_cast; rfl, by omega, rfl, Lib.hid HNX.out.symm, HO⟩, by simp [intOf]; omega⟩
    · have hj1 : ¬ ((j : Int) < 4) := by omega
      have HJ : Hid (j = 4) := Lib.hid (by omega)
      clear hjt hj
      go_wp2_with fail
      go_ret
      have hl := HL.out
      rw [HJ.out] at hl
      rw [← hl]
      exact ⟨⟨a, c, rfl, HO.out.1⟩, HO.out.2⟩
end
end Go.Proofs.YtajmcplanlibnaaGreatDoor
