/- What is undone was never there, what is committed is there behind a crash: the law of layer 8, at whatever calls. -/
import Derived.Test.YtajmcplanlibnaaGreatDoorKX5
set_option linter.unusedSimpArgs false
set_option linter.unusedVariables false
set_option linter.unnecessarySimpa false
namespace Go.Proofs.YtajmcplanlibnaaGreatDoor
open Go.RowKit Go.Maps
/-- The blocks that a run keeps: the caller's, and the map's. -/
def NPr (w : World) (mb : Nat) : Nat → Prop := fun i => i < w.heap.size ∨ i = mb
def PuA (w : World) (g : Geo) (k tb bb mb : Nat) (wx : World) : Prop := (∃ M, EnO g k (NPr w mb) tb bb 10 mb M wx) ∧ Keeps (fun i => i < w.heap.size) w wx ∧ w.heap.size ≤ mb
def PuB (w : World) (g : Geo) (k tb bb mb : Nat) (S : BookS) (M : Nat → Option En) (wx : World) : Prop := TbU g k (NPr w mb) tb bb 10 S wx ∧ (MapIs Tryz.prog 3 wx mb (cntM M 10) (enL M) ∧ EtAt wx) ∧ Keeps (fun i => i < w.heap.size) w wx ∧ w.heap.size ≤ mb ∧ 0 < w.heap.size
theorem PuB.below {w : World} {g : Geo} {k tb bb mb : Nat} {S : BookS} {M : Nat → Option En} {wx wy : World} (h : PuB w g k tb bb mb S M wx) (hb : Below wx.heap.size wx wy) : PuB w g k tb bb mb S M wy :=
  ⟨h.1.below hb, ⟨h.2.1.1.below hb h.2.1.1.lt, h.2.1.2.below hb h.2.1.2.pos⟩, h.2.2.1.trans (Keeps.of_below hb), h.2.2.2⟩
theorem PuB.turn {w : World} {g : Geo} {k tb bb mb : Nat} {S : BookS} {M : Nat → Option En} {wx wy : World} (h : PuB w g k tb bb mb S M wx) (ht : TbU g k (NPr w mb) tb bb 10 S wy) (hk : Keeps (NPr w mb) wx wy) : PuB w g k tb bb mb S M wy :=
  ⟨ht, ⟨hk.map (.inr rfl) h.2.1.1, h.2.1.2.keeps hk (.inl h.2.2.2.2)⟩, h.2.2.1.trans (hk.mono (fun q _ hq => .inl hq)), h.2.2.2⟩
theorem cntM_none (n : Nat) : cntM (fun _ => none) n = 0 := by
  unfold cntM
  rw [List.length_eq_zero_iff, List.filter_eq_nil_iff]
  intro p _
  simp
theorem call8_cells {w : World} {b T : Nat} {k i d s r : Int} (h : w.heap[b]? = some (.cells #[.int .i64 k, .int .i64 i, .int .u8 d, .int .i64 s, .int .i64 r] T)) :
    w.cell? ⟨b, 1, none⟩ = some (.int .i64 i) ∧ w.cell? ⟨b, 2, none⟩ = some (.int .u8 d) ∧ w.cell? ⟨b, 3, none⟩ = some (.int .i64 s) ∧ w.cell? ⟨b, 4, none⟩ = some (.int .i64 r) := by
  refine ⟨?_, ?_, ?_, ?_⟩ <;> (rw [cell_of_row w b _ _ _ (0, 0) h]; rfl)
set_option maxRecDepth 100000 in
set_option maxHeartbeats 8000000 in
theorem pundone_any (a : Option Addr) (len cap : Nat) (K I D S R : Nat → Int) (a2 : Option Addr) (len2 cap2 : Nat) (K2 I2 D2 S2 R2 : Nat → Int) (hlen : len ≤ 140737488355328) (hlen2 : len2 ≤ 140737488355328) (hD : ∀ i, i < len → 0 ≤ D i ∧ D i < 256) (hD2 : ∀ i, i < len2 → 0 ≤ D2 i ∧ D2 i < 256) (w : World) (hks : Calls8At w a len K I D S R) (hks2 : Calls8At w a2 len2 K2 I2 D2 S2 R2) (hg : EtAt w) :
    Calls Tryz.prog 5 #[.slice a len cap, .slice a2 len2 cap2] w fun e w' => e = .returned (.bool true) ∧ Below w.heap.size w w' := by
  have hST := stands08_any (fun k => k < w.heap.size) w (fun i h => h)
  have HKS := Lib.hid hks
  have HKS2 := Lib.hid hks2
  have HET := Lib.hid hg
  have HW := Lib.hid hD
  have HW2 := Lib.hid hD2
  have hl1 : (len : Int) ≤ 140737488355328 := by omega
  have hl2 : (len2 : Int) ≤ 140737488355328 := by omega
  have hl0 : (0 : Int) ≤ len := by omega
  have hl02 : (0 : Int) ≤ len2 := by omega
  have hmm : ∀ wx : World, (Instr.makeMap 62 none).run Tryz.prog wx = .ok (.map (some wx.heap.size)) (wx.alloc (.map #[] 0)) := fun _ => by kernel_rfl
  clear hlen hlen2 hks hks2 hg hD hD2
  go_enter Tryz.func5, Tryz.ntmps5
  go_wp2_with fail
  refine hST.mono ?_
  clear hST
  rintro e w1 ⟨rfl, hk1⟩
  try dsimp only
  by_cases hout : (len : Int) + len2 > 100
  · have HK := Lib.hid hk1
    clear hk1
    go_wp2_with fail
    go_ret
    exact ⟨rfl, HK.out.below (Nat.le_refl _) (fun i hi => hi)⟩
  have hsz1 := hk1.size
  have hND := diskNew_any 200 (by decide) (fun k => k < w.heap.size) w1 (fun i hi => by omega)
  have HK1 := Lib.hid hk1
  clear hk1
  go_wp2_with fail
  refine hND.mono ?_
  clear hND
  rintro e w2 ⟨⟨db, rfl, hdb, hD⟩, hb2⟩
  have hs2 := hb2.size
  have hMT := g_fresh 100 98 200 db (by decide) (by decide) (by decide) (by decide) (by decide) (fun k => k < w.heap.size) w2 (by omega) hD
  have HK2 : Hid (Keeps (fun k => k < w.heap.size) w w2) := Lib.hid (HK1.out.trans (Keeps.of_below hb2))
  clear hD hb2 HK1
  try dsimp only
  go_wp2_with fail
  refine hMT.mono ?_
  clear hMT
  rintro e w3 ⟨⟨bb, rfl, hbb, hB, hG⟩, hk3⟩
  have HK3 : Hid (Keeps (fun k => k < w.heap.size) w w3) := Lib.hid (HK2.out.trans hk3)
  have HG := Lib.hid hG
  have hPN := printsNew_any bb 5 10 (fun k => k < w.heap.size) (fr 100 98 200 db) ⟨by decide, by rw [fr_n]; decide⟩ w3 hB
  have hs3 := hk3.size
  clear hB hG hk3 HK2
  try dsimp only
  go_wp2_with fail
  refine hPN.mono ?_
  clear hPN
  rintro e w4 ⟨⟨tb, rfl, htb, hT⟩, hb4⟩
  have hs4 := hb4.size
  have ha4 : ∀ o : Obj, Below w4.heap.size w4 (w4.alloc o) := fun o => (Below.refl _ _).alloc (Nat.le_refl _) _
  obtain ⟨g, hg⟩ : ∃ g : Geo, g = ⟨100, 98, 200, db, 5⟩ := ⟨_, rfl⟩
  have H4 : Hid (PuA w g 1 tb bb w4.heap.size (w4.alloc (.map #[] 0))) := Lib.hid ⟨⟨fun _ => none, ⟨fr 100 98 200 db, fr_opn _ _ _ _, by
      rw [hg]
      exact hT.keep (ha4 _) (fun k hk => by
        rcases hk with hk | rfl
        · exact ⟨by simp; omega, .inl hk⟩
        · exact ⟨by simp, .inr (Nat.le_refl _)⟩), by
      rw [hg]
      exact EnX.start _ 10 (by rw [fr_n]; show 5 + 10 ≤ 98; decide) (fr_opn _ _ _ _) (fun p hp => fr_view 100 98 200 db (by decide) (by decide) (by decide) (by decide) _ (by show 5 + p < 98; omega)), GdT.of_opn (by rw [hg]; exact HG.out) (fr_opn _ _ _ _), by rw [hg]; show 5 + 10 ≤ 256; decide⟩, by rw [cntM_none, enL_none]; exact mapIs_made _ _ _, .inr rfl, .inl HET.out.pos, HET.out.keeps (HK3.out.trans (Keeps.of_below (hb4.trans ((ha4 _).mono hs4)))) HET.out.pos⟩, HK3.out.trans (Keeps.of_below (hb4.trans ((ha4 _).mono hs4))), by omega⟩
  have HGE : Hid (g.n = 98 ∧ g.size = 100 ∧ g.S = 200 ∧ g.fs = 5 ∧ g.db = db) := Lib.hid (by rw [hg]; exact ⟨rfl, rfl, rfl, rfl, rfl⟩)
  clear hT hb4 ha4 HK3 HG hg
  try dsimp only
  go_wp2_with fail
  refine gen_code (fun wx => Hid (PuA w g 1 tb bb w4.heap.size wx)) H4 ?_
  clear H4
  generalize w4.heap.size = mb
  intro w5 H5
  try simp only [Act.put]
  go_wp2_with fail
  go_loopw [45] (fun iv wr => ∃ i : Nat, iv = .int .i64 (i : Int) ∧ i ≤ len ∧ Hid (PuA w g (1 + i) tb bb mb wr)) (fun iv _ => 101 - (intOf iv).toNat)
  case atStart => exact ⟨0, rfl, by omega, H5⟩
  case round => as_aux_lemma =>
    clear H5
    obtain ⟨i, rfl, hi, H⟩ := hrel
    have hi0 : (0 : Int) ≤ i := by omega
    by_cases hit : i < len
    · have hi1 : (i : Int) < len := by omega
      obtain ⟨b, off, rfl, hbs, hc⟩ := (HKS.out.keeps H.out.2.1) i hit
      have hWi := HW.out i hit
      have HC := Lib.hid hc
      clear hc
      generalize K i = xk at HC
      generalize I i = xi at HC
      generalize D i = xd at HC hWi
      generalize S i = xs at HC
      generalize R i = xr at HC
      go_upto_region 12 with (first | (refine call8_load rfl (.tmp 47) rfl b (off + i * 5) xk xi xd xs xr (by simp [Act.eval]) HC.out ?_) | (refine call8_store rfl (.tmp 13) (.tmp 48) rfl wr.heap.size xk xi xd xs xr 0 0 0 0 0 rfl rfl (heap_alloc_new wr _) ?_))
      have hbx : ∀ o : Obj, Below wr.heap.size wr ((wr.alloc o).setRow wr.heap.size #[.int .i64 xk, .int .i64 xi, .int .u8 xd, .int .i64 xs, .int .i64 xr]) := fun o => below_setRow ((Below.refl _ _).alloc (Nat.le_refl _) _) (Nat.le_refl _) _
      obtain ⟨⟨M, hS⟩, hrest⟩ := H.out
      refine gen_code (fun wx => Hid (wx.heap[wr.heap.size]? = some (.cells #[.int .i64 xk, .int .i64 xi, .int .u8 xd, .int .i64 xs, .int .i64 xr] 64) ∧ EnO g (1 + i) (NPr w mb) tb bb 10 mb M wx ∧ Keeps (fun i => i < w.heap.size) w wx)) (Lib.hid ⟨setRow_heap _ _ _ _ _ (0, 0) (heap_alloc_new wr _), hS.below (hbx _), hrest.1.trans (Keeps.of_below (hbx _))⟩) ?_
      have HMB := Lib.hid hrest.2
      clear hbx hS hrest H HC
      generalize wr.heap.size = cb
      intro w4 H4
      try simp only [Act.put]
      have hRun : Calls Tryz.prog 32 #[.pointer (some ⟨tb, 0, none⟩), .map (some mb), .int .i64 10, .agg #[.int .i64 xk, .int .i64 xi, .int .u8 xd, .int .i64 xs, .int .i64 xr]] w4 (RnP g (1 + i) (NPr w mb) tb bb 10 mb w4) := run_any (n := 10) (by decide) xk xi xd xs xr hWi w4 H4.out.2.1.toS
      go_wp2_with (refine call8_load rfl (.tmp 13) rfl cb 0 xk xi xd xs xr rfl (call8_range H4.out.1) ?_)
      refine hRun.mono ?_
      clear hRun
      rintro e w5 ⟨rfl, M', hS5, hk5⟩
      have HK5 : Hid (Keeps (fun i => i < w.heap.size) w w5) := Lib.hid (H4.out.2.2.trans (hk5.mono (fun i _ hi => ⟨.inl hi, by have := HMB.out; omega⟩)))
      have hCM := ens_commit (by omega) (by decide) hS5
      clear hS5 hk5 H4
      try dsimp only
      go_wp2_with fail
      refine hCM.mono ?_
      clear hCM
      rintro e w6 ⟨rfl, hS6, hk6⟩
      have H6 : Hid (PuA w g (1 + (i + 1)) tb bb mb w6) := Lib.hid ⟨⟨M', hS6⟩, HK5.out.trans (hk6.mono (fun q _ hq => .inl hq)), HMB.out⟩
      clear hS6 hk6 HK5
      try dsimp only
      go_wp2_with fail
      exact ⟨⟨i + 1, by push_cast; rfl, by omega, H6⟩, by simp [intOf]; omega⟩
    · obtain rfl : i = len := by omega
      obtain ⟨⟨M, ⟨B, hbo, hBT, hBE, hBG, hB6⟩, hMp, hN, hN0, het⟩, hKp, hmb⟩ := H.out
      have hSY := tb_sync hbo hBT hBE hBG
      have H1 : Hid (MapIs Tryz.prog 3 wr mb (cntM M 10) (enL M) ∧ EtAt wr ∧ Keeps (fun i => i < w.heap.size) w wr ∧ w.heap.size ≤ mb ∧ g.fs + 10 ≤ 256) := Lib.hid ⟨hMp, het, hKp, hmb, hB6⟩
      clear H hbo hBT hBE hBG hB6 hMp hN hN0 het hKp hmb HKS HW
      go_wp2_with fail
      refine hSY.mono ?_
      clear hSY
      rintro e w2 ⟨rfl, ⟨T, hFS, hT⟩, hk2⟩
      have HFS := Lib.hid hFS
      have H2 : Hid (PuB w g (1 + i) tb bb mb T M w2) := Lib.hid ⟨⟨T, M, hT, hFS.ent, hFS.good, hFS.shut⟩, ⟨hk2.map (.inr rfl) H1.out.1, H1.out.2.1.keeps hk2 (.inl HET.out.pos)⟩, H1.out.2.2.1.trans (hk2.mono (fun q _ hq => .inl hq)), H1.out.2.2.2.1, HET.out.pos⟩
      have h56 := H1.out.2.2.2.2
      have hi100 : i ≤ 100 := by omega
      clear hFS hT hk2 H1 B
      have hk101 : 1 + i ≤ 101 := by omega
      generalize 1 + i = k at HFS H2 hk101
      try dsimp only
      go_wp2_with fail
      go_loopw [65] (fun jv wr => ∃ j : Nat, jv = .int .i64 (j : Int) ∧ j ≤ len2 ∧ Hid (PuB w g k tb bb mb T M wr)) (fun jv _ => 101 - (intOf jv).toNat)
      case atStart => exact ⟨0, rfl, by omega, H2⟩
      case round => as_aux_lemma =>
        clear H2
        obtain ⟨j, rfl, hj, H⟩ := hrel
        have hj0 : (0 : Int) ≤ j := by omega
        by_cases hjt : j < len2
        · have hj1 : (j : Int) < len2 := by omega
          obtain ⟨b, off, rfl, hbs, hc⟩ := (HKS2.out.keeps H.out.2.2.1) j hjt
          have hWi := HW2.out j hjt
          have HC := Lib.hid hc
          clear hc
          generalize K2 j = xk at HC
          generalize I2 j = xi at HC
          generalize D2 j = xd at HC hWi
          generalize S2 j = xs at HC
          generalize R2 j = xr at HC
          go_upto_region 20 with (first | (refine call8_load rfl (.tmp 67) rfl b (off + j * 5) xk xi xd xs xr (by simp [Act.eval]) HC.out ?_) | (refine call8_store rfl (.tmp 15) (.tmp 68) rfl wr.heap.size xk xi xd xs xr 0 0 0 0 0 rfl rfl (heap_alloc_new wr _) ?_))
          have hbx : ∀ o : Obj, Below wr.heap.size wr ((wr.alloc o).setRow wr.heap.size #[.int .i64 xk, .int .i64 xi, .int .u8 xd, .int .i64 xs, .int .i64 xr]) := fun o => below_setRow ((Below.refl _ _).alloc (Nat.le_refl _) _) (Nat.le_refl _) _
          refine gen_code (fun wx => Hid (wx.heap[wr.heap.size]? = some (.cells #[.int .i64 xk, .int .i64 xi, .int .u8 xd, .int .i64 xs, .int .i64 xr] 64) ∧ PuB w g k tb bb mb T M wx)) (Lib.hid ⟨setRow_heap _ _ _ _ _ (0, 0) (heap_alloc_new wr _), H.out.below (hbx _)⟩) ?_
          clear hbx H HC
          generalize wr.heap.size = cb
          intro w4 H4
          try simp only [Act.put]
          have HDG := Lib.hid (digX_ok xd hWi)
          have hDI := Lib.hid (fun wx => digest_any xd hWi wx)
          obtain ⟨z1, z2, z3, z4⟩ := call8_cells H4.out.1
          have r1 := cell_regrown z1
          have r2 := cell_regrown z2
          have r3 := cell_regrown z3
          have r4 := cell_regrown z4
          clear z1 z2 z3 z4
          refine wp_region_mix [(0, true), (1, true), (2, true), (3, true), (4, true), (6, true), (7, true), (8, true), (9, true), (5, false), (10, true), (11, false)] 11 (fun w' => ∃ p : Regrown, w' = Go.Sort.grow (redrawn w4 p.d) p.os) (by kernel_rfl) (by kernel_rfl) (fun _ _ d _ _ h => by cases d <;> exact h) (grows_drew _) ?_
          (repeat (with_reducible refine mix_q ?_; simp only [List.drop_succ_cons, List.drop_zero, List.take_succ_cons, List.take_zero]; go_big_quiet_step (fail); with_reducible refine wpQuiet_nil ?_))
          with_reducible refine mix_a ?_; simp only [List.drop_succ_cons, List.drop_zero, List.take_succ_cons, List.take_zero]
          go_wp2_with fail
          refine (hDI.out w4.drew).mono ?_
          rintro e wa ⟨rfl, hba⟩
          have hba2 : Below w4.heap.size w4 wa := (Below.refl _ _).drew.trans hba
          try dsimp only
          go_wp2_with fail
          try with_reducible refine wpList_nil ?_
          with_reducible refine mixQ_normal ?_
          refine ⟨fun _ => grows_of_below hba2, ?_⟩
          with_reducible refine mix_q ?_
          simp only [List.drop_succ_cons, List.drop_zero, List.take_succ_cons, List.take_zero]
          go_big_quiet_want
          refine quiet_build_to 70 _ rfl (entC (digX xd) xs xr) (by simp only [List.map_toArray, List.map_cons, List.map_nil]; exact built_ent (digX xd) xs xr HDG.out.1) ?_
          simp only [Act.put, List.setIfInBounds_toArray, List.set_cons_zero, List.set_cons_succ]
          go_big_quiet_on
          with_reducible refine wpQuiet_nil ?_
          with_reducible refine mix_a ?_; simp only [List.drop_succ_cons, List.drop_zero, List.take_succ_cons, List.take_zero]
          have hSet := tbu_try (by decide) h56 (digX xd) HDG.out xi xs xr (H4.out.2.below hba2).1
          go_wp2_with fail
          refine hSet.mono ?_
          rintro e wb ⟨⟨v, rfl⟩, hU, hk⟩
          have H5 : Hid (PuB w g k tb bb mb T M wb) := Lib.hid ((H4.out.2.below hba2).turn hU hk)
          clear hSet hU hk hba hba2 H4 r1 r2 r3 r4 hDI HDG
          try dsimp only
          go_wp2_with fail
          try with_reducible refine wpList_nil ?_
          refine mixQ_normal ⟨fun h => absurd h (by simp), mix_nil ?_⟩
          go_wp2_with fail
          exact ⟨⟨j + 1, by push_cast; rfl, by omega, H5⟩, by simp [intOf]; omega⟩
        · obtain rfl : j = len2 := by omega
          have hUN := tbu_undo H.out.1
          have H1 := Lib.hid H.out.2
          clear H HKS2 HW2
          go_wp2_with fail
          refine hUN.mono ?_
          clear hUN
          rintro e w2 ⟨rfl, hT, hk2⟩
          have HT := Lib.hid hT
          have H2 : Hid ((MapIs Tryz.prog 3 w2 mb (cntM M 10) (enL M) ∧ EtAt w2) ∧ Keeps (fun i => i < w.heap.size) w w2) := Lib.hid ⟨⟨hk2.map (.inr rfl) H1.out.1.1, H1.out.1.2.keeps hk2 (.inl H1.out.2.2.2)⟩, H1.out.2.1.trans (hk2.mono (fun q _ hq => .inl hq))⟩
          have hmb := H1.out.2.2.1
          have hw0 := H1.out.2.2.2
          have hCR := g_crash w2 hT.2.1 HFS.out.good.1 HFS.out.cache
          rw [HGE.out.2.2.2.2] at hCR
          clear hT hk2 H1
          try dsimp only
          go_wp2_with fail
          refine hCR.mono ?_
          clear hCR
          rintro e w3 ⟨⟨eb, rfl, heb, hD⟩, hb3⟩
          have hs3 := hb3.size
          have hMT : Calls Tryz.prog 13 #[.pointer (some ⟨eb, 0, none⟩), .int .i64 100] w3 _ := g_mount (N := fun q => q < w2.heap.size) (n := 98) (S := 200) (size := 100) (k := k) (db := g.db) (by omega) (by decide) w3 (fun hq => by omega) hD (by rw [← HGE.out.1, ← HGE.out.2.1, ← HGE.out.2.2.1]; exact HFS.out.good.1) HFS.out.opn
          have HB3 := Lib.hid hb3
          clear hD hb3
          try dsimp only
          go_wp2_with fail
          refine hMT.mono ?_
          clear hMT
          rintro e w4 ⟨⟨bb2, rfl, _, hB, hG⟩, hk4⟩
          have HB4 : Hid (Below w2.heap.size w2 w4) := Lib.hid (((Keeps.of_below (N := fun q => q < w2.heap.size) HB3.out).trans hk4).below (Nat.le_refl _) (fun i hi => hi))
          obtain ⟨U, hU⟩ : ∃ U, (BookS.moved T eb).homed = U := ⟨_, rfl⟩
          have hUb : ∀ i, i < 98 → U.view i = T.view i := fun i hi => by
            rw [← hU, BookS.base_view (B := (BookS.moved T eb).homed) (by rw [BookS.homed_opn]; exact HFS.out.opn), BookS.base_view HFS.out.opn]
            exact g_mount_base HFS.out.good.1 eb i (by rw [HGE.out.1]; exact hi)
          have hUo : U.opn = none := by rw [← hU, BookS.homed_opn]; exact HFS.out.opn
          rw [hU] at hB hG
          have HU := Lib.hid (And.intro hUb (And.intro hUo hG))
          have hPN := printsNew_any bb2 5 10 (fun q => q < w2.heap.size) U ⟨by decide, by rw [hG.n]; decide⟩ w4 hB
          clear hU hUb hUo hB hG hk4 HB3
          try dsimp only
          go_wp2_with fail
          refine hPN.mono ?_
          clear hPN
          rintro e w5 ⟨⟨tb2, rfl, _, hT2⟩, hb5⟩
          have HT2 := Lib.hid hT2
          have HB5 : Hid (Below w2.heap.size w2 w5) := Lib.hid (HB4.out.trans (hb5.mono HB4.out.size))
          clear hT2 hb5 HB4
          have hR1 : Calls Tryz.prog 36 #[.pointer (some ⟨tb, 0, none⟩), .map (some mb), .int .i64 10] w5 _ := right_any (g := g) (k0 := k) (n := 10) (N := NPr w mb) (M := M) (bb := bb) (by decide) (by decide) w5 ⟨⟨T, HT.out.below HB5.out, HFS.out.ent, HFS.out.good, h56⟩, H2.out.1.1.below HB5.out H2.out.1.1.lt, .inr rfl, .inl hw0, H2.out.1.2.below HB5.out H2.out.1.2.pos⟩
          try dsimp only
          go_wp2_with fail
          refine hR1.mono ?_
          clear hR1
          rintro e w6 ⟨rfl, hb6⟩
          have HB6 : Hid (Below w2.heap.size w2 w6) := Lib.hid (HB5.out.trans (hb6.mono HB5.out.size))
          have hT6 := HT2.out.below hb6
          have hR2 : Calls Tryz.prog 36 #[.pointer (some ⟨tb2, 0, none⟩), .map (some mb), .int .i64 10] w6 _ := right_any (g := ⟨100, 98, 200, eb, 5⟩) (k0 := k + 1) (n := 10) (N := fun q => q < w2.heap.size) (M := M) (bb := bb2) (by decide) (by decide) w6 ⟨⟨U, hT6, by
            have h := HFS.out.ent
            rw [HGE.out.2.2.2.1] at h
            have hTn : T.n = 98 := HFS.out.good.1.n.trans HGE.out.1
            exact h.congr (HU.out.2.2.n.trans hTn.symm) HU.out.2.1 (fun i hi => HU.out.1 i (by omega)), GdT.of_opn HU.out.2.2 HU.out.2.1, by show 5 + 10 ≤ 256; decide⟩, H2.out.1.1.below HB6.out H2.out.1.1.lt, H2.out.1.1.lt, by show 0 < w2.heap.size; exact Nat.lt_of_lt_of_le hw0 H2.out.2.size, H2.out.1.2.below HB6.out H2.out.1.2.pos⟩
          clear hb6 hT6 HT2 HB5
          try dsimp only
          go_wp2_with fail
          refine hR2.mono ?_
          clear hR2
          rintro e w7 ⟨rfl, hb7⟩
          have HF := Lib.hid (H2.out.2.trans (Keeps.of_below (HB6.out.trans (hb7.mono HB6.out.size))))
          clear hb7 HB6
          try dsimp only
          go_wp2_with fail
          go_ret
          exact ⟨rfl, HF.out.below (Nat.le_refl _) (fun i hi => hi)⟩
end Go.Proofs.YtajmcplanlibnaaGreatDoor
