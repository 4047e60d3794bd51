/- A book that is none; sizes that are none; numbers of errors. -/
import Derived.Test.YtbbpfeghoikjlaaGreatDoorKV9
import Derived.Test.YtbbpfeghoikjlaaGreatDoorKA0
import Derived.Deep.DeepCutAuto
import Derived.Test.YtbbpfeghoikjlaaGreatDoorR0
set_option linter.unusedSimpArgs false
set_option linter.unusedVariables false
set_option linter.unnecessarySimpa false
namespace Go.Proofs.YtbbpfeghoikjlaaGreatDoor
open Go.RowKit Go.Maps
set_option maxRecDepth 100000 in
theorem num06_err (v : Value) (n : Int) (w : World) (hv : ErrV w v n) (hg : EtAt w) : Calls Tryz.prog 18 #[v] w fun e w' => e = .returned (.int .i64 n) ∧ Below w.heap.size w w' := by
  obtain ⟨te, xe, rfl⟩ := hv.iface
  obtain ⟨k, hk⟩ := hv
  have hb0 : Below w.heap.size w (w.alloc (.cells #[.int .i64 0] 95)) := (Below.refl _ _).alloc (Nat.le_refl _) _
  have hA := as_any k (.iface te xe) n w.heap.size (.int .i64 0) (w.alloc (.cells #[.int .i64 0] 95)) (hk.below hb0) (hg.below hb0 hg.pos) (heap_alloc_new _ _)
  clear hk
  go_enter Tryz.func18, Tryz.ntmps18
  go_wp2_with fail
  refine hA.mono ?_
  rintro e w2 ⟨rfl, hx, hb⟩
  have z0 : w2.cell? ⟨w.heap.size, 0, none⟩ = some (.int .i64 n) := by simp [World.cell?, hx]
  try dsimp only
  go_wp2_with fail
  go_ret
  exact ⟨rfl, hb0.trans hb⟩
set_option maxRecDepth 100000 in
theorem undo_nil (w : World) : Calls Tryz.prog 17 #[.pointer none] w fun e w' => e = .returned (.tuple #[]) ∧ w = w' := by
  go_enter Tryz.func17, Tryz.ntmps17
  go_wp2_with fail
  go_end0
  exact ⟨rfl, rfl⟩
set_option maxRecDepth 100000 in
theorem pages_nil (w : World) : Calls Tryz.prog 19 #[.pointer none] w fun e w' => e = .returned (.int .i64 0) ∧ w = w' := by
  go_enter Tryz.func19, Tryz.ntmps19
  go_wp2_with fail
  go_ret
  exact ⟨rfl, rfl⟩
set_option maxRecDepth 100000 in
theorem commit_nil (w : World) : Calls Tryz.prog 13 #[.pointer none] w fun e w' => (∃ t x, e = .returned (.iface t x) ∧ ErrV w' (.iface t x) 10) ∧ Below w.heap.size w w' := by
  go_enter Tryz.func13, Tryz.ntmps13
  go_wp2_with fail
  refine (woe_num _ 10 _).mono ?_
  rintro e w3 ⟨⟨t, x, rfl, he⟩, hb3⟩
  have HE := Lib.hid he
  try dsimp only
  go_wp2_with fail
  go_ret
  exact ⟨⟨t, x, rfl, HE.out⟩, hb3⟩
set_option maxRecDepth 100000 in
theorem sync_nil (w : World) : Calls Tryz.prog 14 #[.pointer none] w fun e w' => (∃ t x, e = .returned (.iface t x) ∧ ErrV w' (.iface t x) 10) ∧ Below w.heap.size w w' := by
  go_enter Tryz.func14, Tryz.ntmps14
  go_wp2_with fail
  refine (woe_num _ 10 _).mono ?_
  rintro e w3 ⟨⟨t, x, rfl, he⟩, hb3⟩
  have HE := Lib.hid he
  try dsimp only
  go_wp2_with fail
  go_ret
  exact ⟨⟨t, x, rfl, HE.out⟩, hb3⟩
theorem built_pg0 : Tryz.prog.built 32 [] = some (v8a (zer 64)) := by kernel_rfl
set_option maxRecDepth 100000 in
set_option maxHeartbeats 1000000 in
theorem read_nil (i : Int) (w : World) : Calls Tryz.prog 15 #[.pointer none, .int .i64 i] w fun e w' => (∃ t x, e = .returned (.tuple #[.agg (v8a (zer 64)), .iface t x]) ∧ ErrV w' (.iface t x) 10) ∧ Below w.heap.size w w' := by
  go_enter Tryz.func15, Tryz.ntmps15
  go_upto_region 1 with fail
  refine gen_code (fun wx => Hid (wx.heap[w.heap.size]? = some (.cells (v8a (zer 64)) 32) ∧ Below w.heap.size w wx)) (Lib.hid ⟨heap_alloc_new w (.cells (v8a (zer 64)) 32), (Below.refl _ _).alloc (Nat.le_refl _) _⟩) ?_
  intro w1 H1
  go_wp2_with (refine wpList_build_to rfl 32 _ rfl (v8a (zer 64)) built_pg0 ?_)
  refine (woe_num _ 10 _).mono ?_
  rintro e w3 ⟨⟨t, x, rfl, he⟩, hb3⟩
  have HE := Lib.hid he
  have H3 : Hid (w3.heap[w.heap.size]? = some (.cells (v8a (zer 64)) 32) ∧ Below w.heap.size w w3) := Lib.hid ⟨(hb3.block _ (lt_of_blk H1.out.1)).trans H1.out.1, H1.out.2.trans (hb3.mono H1.out.2.size)⟩
  clear he hb3 H1
  try dsimp only
  go_wp2_with (refine page_store rfl (.tmp 4) (.tmp 21) rfl w.heap.size (zer 64) (zer 64) rfl rfl H3.out.1 rfl rfl ?_)
  refine bodyPost_ret (results_cell_slot Tryz.results15 _ _ w.heap.size 32 (v8a (zer 64)) (0, 0) _ rfl (.iface t x) rfl (setRow_heap _ _ _ _ _ (0, 0) H3.out.1) Tryz.underlying32 rfl info_pgs) rfl ⟨⟨t, x, rfl, ?_⟩, below_setRow H3.out.2 (Nat.le_refl _) _⟩
  exact HE.out.setRow H3.out.1 (by decide) _
set_option maxRecDepth 100000 in
set_option maxHeartbeats 1000000 in
theorem write_nil (i : Int) (p : List Int) (hp : p.length = 64) (w : World) : Calls Tryz.prog 12 #[.pointer none, .int .i64 i, .agg (v8a p)] w fun e w' => (∃ t x, e = .returned (.iface t x) ∧ ErrV w' (.iface t x) 10) ∧ Below w.heap.size w w' := by
  go_enter Tryz.func12, Tryz.ntmps12
  go_upto_region 1 with fail
  refine gen_code (fun wx => Hid (Below w.heap.size w wx)) (Lib.hid ((Below.refl _ _).alloc (Nat.le_refl _) _)) ?_
  intro w1 H1
  go_wp2_with fail
  refine (read_nil i w1).mono ?_
  rintro e w2 ⟨⟨t, x, rfl, he⟩, hb2⟩
  have HE := Lib.hid he
  have HB := Lib.hid hb2
  clear he hb2
  try dsimp only
  go_upto_region 2 with (refine page_store rfl (.tmp 7) (.tmp 15) rfl w2.heap.size (zer 64) (zer 64) rfl rfl (heap_alloc_new w2 _) rfl rfl ?_)
  have hbx : ∀ o : Obj, Below w2.heap.size w2 ((w2.alloc o).setRow w2.heap.size (v8a (zer 64))) := fun o => below_setRow ((Below.refl _ _).alloc (Nat.le_refl _) _) (Nat.le_refl _) _
  refine gen_code (fun wx => Hid (ErrV wx (.iface t x) 10 ∧ Below w.heap.size w wx)) (Lib.hid ⟨HE.out.below (hbx _), H1.out.trans ((HB.out.trans ((hbx _).mono HB.out.size)).mono H1.out.size)⟩) ?_
  clear hbx HE HB
  intro w3 H3
  try simp only [Act.put]
  go_wp2_with fail
  go_ret
  exact ⟨⟨t, x, rfl, H3.out.1⟩, H3.out.2⟩
set_option maxRecDepth 100000 in
theorem new_bad (n : Int) (hn : n < 1 ∨ 4096 < n) (w : World) : Calls Tryz.prog 10 #[.int .i64 n] w fun e w' => (∃ t x, e = .returned (.tuple #[.pointer none, .iface t x]) ∧ ErrV w' (.iface t x) 1) ∧ Below w.heap.size w w' := by
  go_enter Tryz.func10, Tryz.ntmps10
  by_cases h1 : n < 1
  · go_wp2_with fail
    refine (woe_num _ 1 _).mono ?_
    rintro e w3 ⟨⟨t, x, rfl, he⟩, hb3⟩
    have HE := Lib.hid he
    try dsimp only
    go_wp2_with fail
    go_ret2
    exact ⟨⟨t, x, rfl, HE.out⟩, hb3⟩
  · have h2 : 4096 < n := by omega
    have h3 : decide (n < 1) = false := decide_eq_false h1
    go_wp2_with fail
    refine (woe_num _ 1 _).mono ?_
    rintro e w3 ⟨⟨t, x, rfl, he⟩, hb3⟩
    have HE := Lib.hid he
    try dsimp only
    go_wp2_with fail
    go_ret2
    exact ⟨⟨t, x, rfl, HE.out⟩, hb3⟩
set_option maxRecDepth 100000 in
theorem mount_nil (size : Int) (w : World) : Calls Tryz.prog 11 #[.pointer none, .int .i64 size] w fun e w' => (∃ t x, e = .returned (.tuple #[.pointer none, .iface t x]) ∧ ErrV w' (.iface t x) 1) ∧ Below w.heap.size w w' := by
  go_enter Tryz.func11, Tryz.ntmps11
  go_wp2_with fail
  refine (woe_num _ 1 _).mono ?_
  rintro e w3 ⟨⟨t, x, rfl, he⟩, hb3⟩
  have HE := Lib.hid he
  try dsimp only
  go_wp2_with fail
  go_ret2
  exact ⟨⟨t, x, rfl, HE.out⟩, hb3⟩
set_option maxRecDepth 100000 in
set_option maxHeartbeats 1000000 in
theorem mount_bad (db : Nat) (N : Nat → Prop) (d : DiskS) (size : Int) (w : World) (h : DiskI w db N d) (hs : size < 96 ∨ 4096 < size ∨ (d.firm.length : Int) < size + 3) : Calls Tryz.prog 11 #[.pointer (some ⟨db, 0, none⟩), .int .i64 size] w fun e w' => (∃ t x, e = .returned (.tuple #[.pointer none, .iface t x]) ∧ ErrV w' (.iface t x) 1) ∧ Below w.heap.size w w' := by
  have hSZ := diskSize_any db N d w h
  have hfl := h.isOk.1
  clear h
  have g4 : (d.firm.length : Int) ≤ 4096 := by omega
  go_enter Tryz.func11, Tryz.ntmps11
  by_cases h1 : size < 96
  · go_wp2_with fail
    refine (woe_num _ 1 _).mono ?_
    rintro e w3 ⟨⟨t, x, rfl, he⟩, hb3⟩
    have HE := Lib.hid he
    try dsimp only
    go_wp2_with fail
    go_ret2
    exact ⟨⟨t, x, rfl, HE.out⟩, hb3⟩
  · have d1 : decide (size < 96) = false := decide_eq_false h1
    by_cases h2 : 4096 < size
    · have d2 : size > 4096 := h2
      go_wp2_with fail
      refine (woe_num _ 1 _).mono ?_
      rintro e w3 ⟨⟨t, x, rfl, he⟩, hb3⟩
      have HE := Lib.hid he
      try dsimp only
      go_wp2_with fail
      go_ret2
      exact ⟨⟨t, x, rfl, HE.out⟩, hb3⟩
    · have d2 : decide (size > 4096) = false := decide_eq_false h2
      have d3 : decide (4096 < size) = false := decide_eq_false h2
      have h3 : (d.firm.length : Int) < 2 + size + 1 := by omega
      have h4 : (96 : Int) ≤ size := by omega
      have h5 : size ≤ 4096 := by omega
      go_wp2_with fail
      refine hSZ.mono ?_
      rintro e w1 ⟨rfl, rfl⟩
      try dsimp only
      go_wp2_with fail
      refine (woe_num _ 1 _).mono ?_
      rintro e w3 ⟨⟨t, x, rfl, he⟩, hb3⟩
      have HE := Lib.hid he
      try dsimp only
      go_wp2_with fail
      go_ret2
      exact ⟨⟨t, x, rfl, HE.out⟩, hb3⟩
end Go.Proofs.YtbbpfeghoikjlaaGreatDoor
set_option linter.unnecessarySimpa false
namespace Go.Proofs.YtbbpfeghoikjlaaGreatDoor
open Go.RowKit Go.Maps
def NnS (w : World) (e1 f : Value) (nf : Int) (wx : World) : Prop := EtAt wx ∧ Below w.heap.size w wx ∧ ErrV wx e1 10 ∧ (ErrV wx f nf ∨ (f = .nilIface ∧ nf = 0))
theorem NnS.below {w wx wy : World} {e1 f : Value} {nf : Int} (h : NnS w e1 f nf wx) (hb : Below wx.heap.size wx wy) : NnS w e1 f nf wy :=
  ⟨h.1.below hb h.1.pos, h.2.1.trans (hb.mono h.2.1.size), h.2.2.1.below hb, h.2.2.2.imp (fun q => q.below hb) id⟩
theorem NnS.numf {w wx : World} {e1 f : Value} {nf : Int} (h : NnS w e1 f nf wx) : Calls Tryz.prog 18 #[f] wx fun e w' => e = .returned (.int .i64 nf) ∧ Below wx.heap.size wx w' := by
  rcases h.2.2.2 with q | ⟨rfl, rfl⟩
  · exact num06_err f nf wx q h.1
  · exact (num06_nil wx).mono fun e w' ⟨h1, h2⟩ => ⟨h1, by rw [h2]; exact Below.refl _ _⟩
set_option maxRecDepth 100000 in
set_option maxHeartbeats 8000000 in
theorem none06_any (size sectors i : Int) (hs : -9223372036854775808 ≤ size ∧ size < 9223372036854775808) (hq : -9223372036854775808 ≤ sectors ∧ sectors < 9223372036854775808) (w : World) (hg : EtAt w) :
    Calls Tryz.prog 4 #[.int .i64 size, .int .i64 sectors, .int .i64 i] w fun e w' => e = .returned (.bool true) ∧ Below w.heap.size w w' := by
  have hST := stands06_any (fun k => k < w.heap.size) w (fun i hi => hi)
  have HG0 := Lib.hid hg
  clear hg
  go_enter Tryz.func4, Tryz.ntmps4
  go_wp2_with fail
  refine hST.mono ?_
  clear hST
  rintro e w1 ⟨rfl, hk1⟩
  have HB1 : Hid (Below w.heap.size w w1) := Lib.hid (hk1.below (Nat.le_refl _) (fun i hi => hi))
  have HG1 : Hid (EtAt w1) := Lib.hid (HG0.out.below HB1.out HG0.out.pos)
  clear hk1 HG0
  try dsimp only
  go_wp2_with fail
  refine (undo_nil w1).mono ?_
  rintro e w2 ⟨rfl, rfl⟩
  try dsimp only
  go_wp2_with fail
  refine (read_nil i w1).mono ?_
  rintro e w2 ⟨⟨t1, x1, rfl, he⟩, hb2⟩
  have HE := Lib.hid he
  have HB2 := Lib.hid hb2
  clear he hb2
  try dsimp only
  go_upto_region 6 with (refine page_store rfl (.tmp 8) (.tmp 23) rfl w2.heap.size (zer 64) (zer 64) rfl rfl (heap_alloc_new w2 _) rfl rfl ?_)
  have hbx : ∀ o : Obj, Below w2.heap.size w2 ((w2.alloc o).setRow w2.heap.size (v8a (zer 64))) := fun o => below_setRow ((Below.refl _ _).alloc (Nat.le_refl _) _) (Nat.le_refl _) _
  have hbx1 : ∀ o : Obj, Below w1.heap.size w1 ((w2.alloc o).setRow w2.heap.size (v8a (zer 64))) := fun o => HB2.out.trans ((hbx o).mono HB2.out.size)
  obtain ⟨e1, he1⟩ : ∃ e1, Value.iface t1 x1 = e1 := ⟨_, rfl⟩
  rw [he1] at HE ⊢
  clear he1
  refine gen_code (fun wx => Hid (NnS w e1 .nilIface 0 wx)) (Lib.hid ⟨HG1.out.below (hbx1 _) HG1.out.pos, HB1.out.trans ((hbx1 _).mono HB1.out.size), HE.out.below (hbx _), .inr ⟨rfl, rfl⟩⟩) ?_
  clear hbx hbx1 HE HB2 HB1 HG1
  intro w3 H3
  try simp only [Act.put]
  by_cases hsec : 1 ≤ sectors ∧ sectors ≤ 4096
  · obtain ⟨S, rfl⟩ : ∃ S : Nat, sectors = (S : Int) := Int.eq_ofNat_of_zero_le (by omega)
    have hND := diskNew_any S (by omega) (fun k => k < w3.heap.size) w3 (fun i hi => hi)
    go_wp2_with fail
    refine hND.mono ?_
    clear hND
    rintro e w4 ⟨⟨db, rfl, hdb, hD⟩, hb4⟩
    have H4 := Lib.hid (H3.out.below hb4)
    have h34 := hb4.size
    by_cases hok : 96 ≤ size ∧ size ≤ 4096 ∧ size + 3 ≤ S
    · obtain ⟨z, rfl⟩ : ∃ z : Nat, size = (z : Int) := Int.eq_ofNat_of_zero_le (by omega)
      have hMT := g_fresh z (min 2048 (S - 2 - z)) S db (by omega) (by omega) (by omega) (by omega) rfl (fun k => k < w3.heap.size) w4 (by omega) hD
      clear hD
      try dsimp only
      go_wp2_with fail
      refine hMT.mono ?_
      clear hMT
      rintro e w5 ⟨⟨bb, rfl, _, _, _⟩, hk5⟩
      have hb35 : Below w3.heap.size w3 w5 := hb4.trans (hk5.below h34 (fun i hi => hi))
      have H5 := Lib.hid (H3.out.below hb35)
      clear hb35 hk5 hb4 H4 H3
      have q1 : (96 : Int) ≤ z := by omega
      have q2 : (z : Int) ≤ 4096 := by omega
      have q3 : 3 + (z : Int) ≤ S := by omega
      try dsimp only
      go_upto_region 11 with fail
      clear q1 q2 q3
      go_wp2_with fail
      refine (num06_err e1 10 w5 H5.out.2.2.1 H5.out.1).mono ?_
      rintro e wa ⟨rfl, hb⟩
      have HA := Lib.hid (H5.out.below hb)
      clear hb H5
      try dsimp only
      go_wp2_with (refine build_g2 rfl 32 #[] rfl (v8a (zer 64)) built_pg0 ?_)
      refine (write_nil i (zer 64) rfl wa).mono ?_
      rintro e wb ⟨⟨t2, x2, rfl, he⟩, hb⟩
      have HB := Lib.hid (HA.out.below hb)
      have HE := Lib.hid he
      clear hb he HA
      try dsimp only
      go_wp2_with fail
      refine (num06_err (.iface t2 x2) 10 wb HE.out HB.out.1).mono ?_
      rintro e wc ⟨rfl, hb⟩
      have HC := Lib.hid (HB.out.below hb)
      clear hb HE HB
      try dsimp only
      go_wp2_with fail
      refine (commit_nil wc).mono ?_
      rintro e wd ⟨⟨t3, x3, rfl, he⟩, hb⟩
      have HD := Lib.hid (HC.out.below hb)
      have HE := Lib.hid he
      clear hb he HC
      try dsimp only
      go_wp2_with fail
      refine (num06_err (.iface t3 x3) 10 wd HE.out HD.out.1).mono ?_
      rintro e we ⟨rfl, hb⟩
      have HF := Lib.hid (HD.out.below hb)
      clear hb HE HD
      try dsimp only
      go_wp2_with fail
      refine (sync_nil we).mono ?_
      rintro e wf ⟨⟨t4, x4, rfl, he⟩, hb⟩
      have HG := Lib.hid (HF.out.below hb)
      have HE := Lib.hid he
      clear hb he HF
      try dsimp only
      go_wp2_with fail
      refine (num06_err (.iface t4 x4) 10 wf HE.out HG.out.1).mono ?_
      rintro e wg ⟨rfl, hb⟩
      have HH := Lib.hid (HG.out.below hb)
      clear hb HE HG
      try dsimp only
      go_wp2_with fail
      refine (pages_nil wg).mono ?_
      rintro e wg2 ⟨rfl, rfl⟩
      try dsimp only
      go_wp2_with fail
      refine (HH.out.numf).mono ?_
      rintro e wh ⟨rfl, hb⟩
      have HJ := Lib.hid (HH.out.below hb)
      clear hb HH
      try dsimp only
      go_wp2_with fail
      go_ret
      exact ⟨rfl, HJ.out.2.1⟩
    · have hMT := mount_bad db (fun k => k < w3.heap.size) ⟨List.replicate S (zer 64), []⟩ size w4 hD (by rw [List.length_replicate]; omega)
      clear hD
      try dsimp only
      go_wp2_with fail
      refine hMT.mono ?_
      clear hMT
      rintro e w5 ⟨⟨t5, x5, rfl, he⟩, hb5⟩
      have H5 : Hid (NnS w e1 (.iface t5 x5) 1 w5) := Lib.hid (by
        have h := H4.out.below hb5
        exact ⟨h.1, h.2.1, h.2.2.1, .inl he⟩)
      clear he hb5 hb4 H4 H3
      try dsimp only
      go_upto_region 10 with fail
      go_cut [14] (fun s wx => s = .bool false ∧ wx = w5)
      case first =>
        by_cases k1 : 96 ≤ size
        · by_cases k2 : size ≤ 4096
          · have k3 : ¬ (3 + size ≤ (S : Int)) := by omega
            have k4 : decide ((S : Int) ≥ 3 + size) = false := decide_eq_false (by omega)
            go_wp2_with fail
            go_meet
            exact ⟨rfl, rfl⟩
          · have k3 : decide (size ≤ 4096) = false := decide_eq_false k2
            go_wp2_with fail
            go_meet
            exact ⟨rfl, rfl⟩
        · have k3 : decide (size ≥ 96) = false := decide_eq_false (by omega)
          have k4 : decide (96 ≤ size) = false := decide_eq_false (by omega)
          go_wp2_with fail
          go_meet
          exact ⟨rfl, rfl⟩
      case rest =>
        obtain ⟨rfl, rfl⟩ := hcut
        go_wp2_with fail
        refine (num06_err e1 10 _ H5.out.2.2.1 H5.out.1).mono ?_
        rintro e wa ⟨rfl, hb⟩
        have HA := Lib.hid (H5.out.below hb)
        clear hb H5
        try dsimp only
        go_wp2_with (refine build_g2 rfl 32 #[] rfl (v8a (zer 64)) built_pg0 ?_)
        refine (write_nil i (zer 64) rfl wa).mono ?_
        rintro e wb ⟨⟨t2, x2, rfl, he⟩, hb⟩
        have HB := Lib.hid (HA.out.below hb)
        have HE := Lib.hid he
        clear hb he HA
        try dsimp only
        go_wp2_with fail
        refine (num06_err (.iface t2 x2) 10 wb HE.out HB.out.1).mono ?_
        rintro e wc ⟨rfl, hb⟩
        have HC := Lib.hid (HB.out.below hb)
        clear hb HE HB
        try dsimp only
        go_wp2_with fail
        refine (commit_nil wc).mono ?_
        rintro e wd ⟨⟨t3, x3, rfl, he⟩, hb⟩
        have HD := Lib.hid (HC.out.below hb)
        have HE := Lib.hid he
        clear hb he HC
        try dsimp only
        go_wp2_with fail
        refine (num06_err (.iface t3 x3) 10 wd HE.out HD.out.1).mono ?_
        rintro e we ⟨rfl, hb⟩
        have HF := Lib.hid (HD.out.below hb)
        clear hb HE HD
        try dsimp only
        go_wp2_with fail
        refine (sync_nil we).mono ?_
        rintro e wf ⟨⟨t4, x4, rfl, he⟩, hb⟩
        have HG := Lib.hid (HF.out.below hb)
        have HE := Lib.hid he
        clear hb he HF
        try dsimp only
        go_wp2_with fail
        refine (num06_err (.iface t4 x4) 10 wf HE.out HG.out.1).mono ?_
        rintro e wg ⟨rfl, hb⟩
        have HH := Lib.hid (HG.out.below hb)
        clear hb HE HG
        try dsimp only
        go_wp2_with fail
        refine (pages_nil wg).mono ?_
        rintro e wg2 ⟨rfl, rfl⟩
        try dsimp only
        go_wp2_with fail
        refine (HH.out.numf).mono ?_
        rintro e wh ⟨rfl, hb⟩
        have HJ := Lib.hid (HH.out.below hb)
        clear hb HH
        try dsimp only
        go_wp2_with fail
        refine (HJ.out.numf).mono ?_
        rintro e wi ⟨rfl, hb⟩
        have HK := Lib.hid (HJ.out.below hb)
        clear hb HJ
        try dsimp only
        go_wp2_with fail
        go_ret
        exact ⟨rfl, HK.out.2.1⟩
  · have hND := new_bad sectors (by omega) w3
    go_wp2_with fail
    refine hND.mono ?_
    clear hND
    rintro e w4 ⟨⟨t4, x4, rfl, he⟩, hb4⟩
    have H4 := Lib.hid (H3.out.below hb4)
    clear he hb4 H3
    try dsimp only
    go_wp2_with fail
    refine (mount_nil size w4).mono ?_
    rintro e w5 ⟨⟨t5, x5, rfl, he⟩, hb5⟩
    have HE := Lib.hid he
    have H5 := Lib.hid (H4.out.below hb5)
    clear he hb5 H4
    try dsimp only
    go_wp2_with fail
    refine (num06_err (.iface t5 x5) 1 w5 HE.out H5.out.1).mono ?_
    rintro e w6 ⟨rfl, hb6⟩
    have H6 := Lib.hid (H5.out.below hb6)
    clear hb6 H5 HE
    try dsimp only
    go_wp2_with fail
    go_ret
    exact ⟨rfl, H6.out.2.1⟩
end Go.Proofs.YtbbpfeghoikjlaaGreatDoor
set_option linter.unnecessarySimpa false
namespace Go.Proofs.YtbbpfeghoikjlaaGreatDoor
open Go.ChangeShapes Go.WideShapes Go.ChangeAt Go.RowKit Go.Lib
set_option maxRecDepth 100000 in
theorem pagesNone_lifted (os : Os) (started : os.Started) (H : Type) (enc : TypeId × Value → H) :
    ReturnsInHanded {} Tryz.checked os 4 .any (fun w args => (Rows.pagesNoneSpec.pre enc Tryz.prog Tryz.f4 [] false w args ∧ laidMetH Tryz.prog laidE w) ∧ sizedMet enc Tryz.prog Tryz.f4 (OpenSpec.ofChange Rows.pagesNoneSpec) false w args)
      (Rows.pagesNoneSpec.post enc Tryz.prog Tryz.f4 false true false false) := by
  refine returnsInHanded_of_change_and (C := Tryz.checked) (X := fun w _ => laidMetH Tryz.prog laidE w) (fun _ _ _ hh h => h.of_heap hh) Tryz.own started (by kernel_rfl) Tryz.func4
    (ChangeSpec.witness_at (enc := enc) (C := Tryz.checked) (os := os) (X := fun w _ => laidMetH Tryz.prog laidE w) false (laidWorld os) #[.int .i64 0, .int .i64 0, .int .i64 0] 8 rfl (by kernel_rfl) (by kernel_rfl) (by kernel_rfl) (by kernel_rfl) (by kernel_rfl) (laidWorld_met os _)) ?_
  intro W base args ds gs before hval0 hW _ _ hL _
  have hval : ∀ (j : Nat) t v, Tryz.f4.params[j]? = some t → args[j]? = some v → Value.okWide Tryz.prog W .any base t v := hval0
  have hW' := hW
  obtain ⟨p, q, hA0, hV0, rfl, _, _⟩ := hW
  have hA : DataW.TrodAll enc Tryz.prog W 0 (fun _ => true) true Tryz.f4.params.toList args.toList ds p := hA0
  rw [Tryz.params4] at hA hval
  obtain ⟨v0, v1, v2, d0, d1, d2, p0, p1, p2, rfl, rfl, rfl, h0, h1, h2⟩ := trodAll_three hA
  obtain ⟨rfl, rfl⟩ := trodVars_none hV0
  clear hA0 hV0 hval0
  simp only [List.append_nil] at hW'
  have hW1 := hW'
  have hlt : ∀ x ∈ p0 ++ (p1 ++ p2), x.block < W.heap.size := fun x hx => by simpa using hW'.lt x (by simpa using hx)
  have hargs : ∀ (W' : World), Below W.heap.size W W' → DataW.TrodAll enc Tryz.prog W' 0 (fun b => decide (b < W.heap.size)) true [3, 3, 3] [v0, v1, v2] [d0, d1, d2] (p0 ++ (p1 ++ p2)) := fun W' hn =>
    trodAll_mk3 (Below.trod Tryz.laidOut (by kernel_rfl) (of_decide_eq_true (by kernel_rfl)) h0 hn (fun x hx => hlt x (by simp [hx]))) (Below.trod Tryz.laidOut (by kernel_rfl) (of_decide_eq_true (by kernel_rfl)) h1 hn (fun x hx => hlt x (by simp [hx]))) (Below.trod Tryz.laidOut (by kernel_rfl) (of_decide_eq_true (by kernel_rfl)) h2 hn (fun x hx => hlt x (by simp [hx])))
  have emin : IntKind.i64.min = -9223372036854775808 := rfl
  have emax : IntKind.i64.max = 9223372036854775807 := rfl
  have bmin : IntKind.u8.min = 0 := rfl
  have bmax : IntKind.u8.max = 255 := rfl
  obtain ⟨n0, rfl, rfl, rfl, w0⟩ := open_int Tryz.underlying3 (hval 0 3 v0 rfl rfl) h0
  obtain ⟨n1, rfl, rfl, rfl, w1⟩ := open_int Tryz.underlying3 (hval 1 3 v1 rfl rfl) h1
  obtain ⟨n2, rfl, rfl, rfl, w2⟩ := open_int Tryz.underlying3 (hval 2 3 v2 rfl rfl) h2
  have et : EtAt W := by
    have h := handle_of_laid hL
    rw [show typeHandle Tryz.prog 26 = .pointer (some ⟨1, 26, none⟩) by kernel_rfl] at h
    exact h
  have hq : Calls Tryz.prog 4 #[.int .i64 n0, .int .i64 n1, .int .i64 n2] W fun e w' => e = .returned (.bool true) ∧ Below W.heap.size W w' :=
    none06_any n0 n1 n2 (by have := w0; simp [Lit.wf, emin, emax] at this; omega) (by have := w1; simp [Lit.wf, emin, emax] at this; omega) W et
  refine hq.mono fun e W' ⟨he, hb⟩ => ?_
  subst he
  exact ⟨_, rfl, ⟨_, _, _, [], _, [], hW1, trodAll_mk1 (shut_bool Tryz.underlying4 true), hargs _ hb, rfl, hb.frame _, fun h => by cases h⟩⟩
theorem pagesNone_holds : Rows.PagesNoneSaid :=
  OpenClaim.holds_of_wide 4 Tryz.f4 rfl rfl rfl rfl rfl rfl rfl ⟨rfl, rfl, rfl, rfl, rfl⟩ rfl rfl rfl rfl rfl (by kernel_rfl) Tryz.func4 (by kernel_rfl)
    (of_decide_eq_true (by kernel_rfl)) (by unfold Func.isWrapper; first | (rw [if_pos (by decide +kernel)]; kernel_rfl) | (rw [if_neg (by decide +kernel)]; exact ⟨rfl, rfl⟩))
    (fun os started H enc _ => pagesNone_lifted os started H enc)
end Go.Proofs.YtbbpfeghoikjlaaGreatDoor
