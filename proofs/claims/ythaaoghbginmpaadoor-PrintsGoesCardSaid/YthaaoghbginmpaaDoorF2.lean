/- PrintsFills: as many entries are taken as there are places; all of them are found. -/
import Derived.Test.YthaaoghbginmpaaDoorF2p
set_option linter.unusedSimpArgs false
set_option linter.unusedVariables false
set_option linter.unnecessarySimpa false
namespace Go.Proofs.YthaaoghbginmpaaDoor
set_option linter.unusedSimpArgs false
set_option linter.unusedVariables false
open Go.RowKit Go.Maps
theorem built_d2 (s x : Int) : Tryd.prog.built 27 [(0, .int .u8 s), (1, .int .u8 x)] = some (v8a (s :: x :: zer 30)) := by kernel_rfl
theorem built_d4 (s x : Int) : Tryd.prog.built 27 [(0, .int .u8 s), (1, .int .u8 9), (30, .int .u8 x), (31, .int .u8 x)] = some (v8a (s :: 9 :: (zer 28 ++ [x, x]))) := by kernel_rfl
theorem dg_build2 {ops : Array Oper} {rest : List Oper} {o : Oper} {a : Act} {w : World} {Q : Exit → Act → World → Prop} (hg : o.guard = none) (p0 p1 : Operand) (ho : o.op = .build 27 #[(0, p0), (1, p1)]) (s x : Int)
    (h0 : a.eval p0 = .int .u8 s) (h1 : a.eval p1 = .int .u8 x) (h : wpList Tryd.prog ops Q rest (a.put o.dst (.agg (v8a (s :: x :: zer 30)))) w) : wpList Tryd.prog ops Q (o :: rest) a w := by
  refine wpList_build_to hg _ _ ho _ ?_ h
  simp only [List.map_toArray, List.map_cons, List.map_nil, h0, h1]
  exact built_d2 s x
theorem dg_build4 {ops : Array Oper} {rest : List Oper} {o : Oper} {a : Act} {w : World} {Q : Exit → Act → World → Prop} (hg : o.guard = none) (p0 p2 p3 : Operand) (ho : o.op = .build 27 #[(0, p0), (1, .const (.int .u8 9)), (30, p2), (31, p3)]) (s x : Int)
    (h0 : a.eval p0 = .int .u8 s) (h2 : a.eval p2 = .int .u8 x) (h3 : a.eval p3 = .int .u8 x) (h : wpList Tryd.prog ops Q rest (a.put o.dst (.agg (v8a (s :: 9 :: (zer 28 ++ [x, x]))))) w) : wpList Tryd.prog ops Q (o :: rest) a w := by
  refine wpList_build_to hg _ _ ho _ ?_ h
  simp only [List.map_toArray, List.map_cons, List.map_nil, h0, h2, h3]
  exact built_d4 s x
theorem tmod_range (n m : Int) (hm : 0 < m) : -m < n.tmod m ∧ n.tmod m < m := by
  rcases Int.le_total 0 n with h | h
  · rw [Int.tmod_eq_emod_of_nonneg h]
    have h1 := Int.emod_nonneg n (show m ≠ 0 by omega)
    have h2 := Int.emod_lt_of_pos n hm
    omega
  · have e : n.tmod m = -((-n).tmod m) := by rw [Int.neg_tmod]; simp
    rw [e, Int.tmod_eq_emod_of_nonneg (show 0 ≤ -n by omega)]
    have h1 := Int.emod_nonneg (-n) (show m ≠ 0 by omega)
    have h2 := Int.emod_lt_of_pos (-n) hm
    omega
def NoN : Nat → Prop := fun _ => False
theorem TabI.frame {w w' : World} {tb : Nat} {N : Nat → Prop} {bb first n : Nat} {B : BookS} (h : TabI w tb N bb first n B) (hk : Keeps (fun k => ¬ N k) w w') : TabI w' tb N bb first n B := by
  obtain ⟨h1, ⟨db, rb, nb, ov, hX⟩, h3, h4⟩ := h
  exact ⟨hk.blk h3 h1, ⟨db, rb, nb, ov, hX.frame (hk.mono (fun k _ hn h => hn (.inl h)))⟩, h3, h4⟩
theorem St8.remake {tb bb b3 : Nat} {N : Nat → Prop} {w0 wx : World} {n : Nat} {B : BookS} {d : List Int} (h : St8 tb bb b3 N w0 n B d wx) (hN : ¬ N b3) (d' : List Int) : St8 tb bb b3 N w0 n B d' (wx.setRow b3 (v8a d')) := by
  have hg : Keeps (fun k => k ≠ b3) wx (wx.setRow b3 (v8a d')) := Keeps.of_grown (grown_row wx b3 _) (fun k hk e => by cases hk; exact e rfl)
  exact ⟨h.1.frame (hg.mono (fun k _ hn e => hn (.inr e))), setRow_heap _ _ _ _ _ (0, 0) h.2.1, h.2.2.trans (hg.mono (fun k _ hk e => hN (e ▸ hk)))⟩
def FlX (w : World) (tb bb n : Nat) (seed : Int) (alike : Bool) (i : Nat) (wx : World) : Prop := ∃ B g, TabI wx tb (fun k => k < w.heap.size) bb 3 n B ∧ FillX B n (digF seed alike) i g ∧ B.cnt ≤ i ∧ Keeps (fun k => k < w.heap.size) w wx
set_option maxRecDepth 100000 in
set_option maxHeartbeats 4000000 in
theorem fills_alike (n : Int) (seed : Int) (hs : 0 ≤ seed ∧ seed < 256) (hn : -9223372036854775808 ≤ n ∧ n ≤ 9223372036854775807) (w : World) :
    Calls Tryd.prog 3 #[.int .i64 n, .bool true, .int .u8 seed] w fun e w' => e = .returned (.bool true) ∧ Below w.heap.size w w' := by
  have hST := stands08_any (fun k => k < w.heap.size) w (fun i h => h)
  obtain ⟨hs0, hs1⟩ := hs
  obtain ⟨hn0, hn1⟩ := hn
  go_enter Tryd.func3, Tryd.ntmps3
  go_wp2_with fail
  refine hST.mono ?_
  clear hST
  rintro e w1 ⟨rfl, hk1⟩
  try dsimp only
  have hm1 := tmod_range n 40 (by decide)
  repeat ((fail_if_success (with_reducible refine stop_at 31 rfl ?_)); (first | go_values | go_skip | go_guarded | go_step | go_upon))
  obtain ⟨n', hn'⟩ : ∃ n' : Nat, n.tmod 40 % 40 + 1 = (n' : Int) := ⟨(n.tmod 40 % 40 + 1).toNat, by omega⟩
  have hn'1 : 1 ≤ n' ∧ n' ≤ 40 := by omega
  rw [show (n.tmod 40 + 40) % 40 = n.tmod 40 % 40 by omega, hn']
  generalize n.tmod 40 % 40 = q40 at *
  obtain ⟨h1, h2⟩ := hn'1
  clear hm1 hn' hn0 hn1
  have hFR := fresh08_any n' ⟨h1, by omega⟩ (fun k => k < w.heap.size) w1 (fun i h => Nat.lt_of_lt_of_le h hk1.size)
  have i1 : (1 : Int) ≤ n' := by omega
  have i2 : (n' : Int) ≤ 40 := by omega
  go_wp2_with fail
  refine hFR.mono ?_
  clear hFR
  rintro e w2 ⟨⟨bb, tb, rfl, hT⟩, hk2⟩
  have H2 : Hid (FlX w tb bb n' seed true 0 w2) := Lib.hid ⟨freshB, _, hT, FillX.start n' (by omega) _, by rw [freshB_cnt]; exact Nat.le_refl _, hk1.trans hk2⟩
  clear hT hk1 hk2
  have HDL : Hid (∀ j : Nat, j < 256 → (digF seed true j).length = 32 ∧ U8s (digF seed true j)) := Lib.hid (fun j hj => digF_ok seed ⟨hs0, hs1⟩ true j hj)
  try dsimp only
  go_wp2_with fail
  go_loopw [9, 37] (fun _ iv wr => ∃ i : Nat, iv = .int .i64 i ∧ i ≤ n' + 2 ∧ Hid (FlX w tb bb n' seed true (min i n') wr)) (fun _ iv _ => n' + 2 - (intOf iv).toNat)
  case atStart => exact ⟨0, rfl, by omega, by rw [show min 0 n' = 0 by omega]; exact H2⟩
  case round =>
    clear H2
    obtain ⟨i, rfl, hi, H⟩ := hrel
    by_cases hlt : i < n' + 2
    · have i3 : (0 : Int) ≤ i := by omega
      have i4 : (i : Int) < n' + 2 := by omega
      have i5 : (i : Int) < 256 := by omega
      obtain ⟨B, g, hT, hF, hc, hkw⟩ := H.out
      have HT := Lib.hid hT
      have HF := Lib.hid hF
      have HC := Lib.hid hc
      have hb3w : ¬ (wr.heap.size < w.heap.size) := by have := hkw.size; omega
      have HKW := Lib.hid hkw
      clear hT hF hc H hkw
      have hdk := (HDL.out i (by omega))
      repeat ((fail_if_success (with_reducible refine stop_at 43 rfl ?_)); (first | go_values | go_skip | go_guarded | go_step | go_upon))
      refine dg_build2 rfl (.tmp 40) (.tmp 42) rfl seed (i : Int) rfl rfl ?_
      simp only [Act.put, List.setIfInBounds_toArray, List.set_cons_zero, List.set_cons_succ]
      repeat ((fail_if_success (with_reducible refine stop_at 44 rfl ?_)); (first | (refine dg_store rfl (.tmp 10) (.tmp 43) rfl wr.heap.size (seed :: (i : Int) :: zer 30) (zer 32) rfl rfl (heap_alloc_new wr _) rfl rfl ?_) | go_values | go_skip | go_guarded | go_step | go_upon))
      refine gen_world (fun wx => Hid (St8 tb bb wr.heap.size (fun k => k < w.heap.size) w n' B (seed :: (i : Int) :: zer 30) wx)) (Lib.hid (St8.make HT.out HKW.out _ _)) ?_
      generalize wr.heap.size = b3 at hb3w ⊢
      intro w3 H3
      simp only [Act.put, List.setIfInBounds_toArray, List.set_cons_zero, List.set_cons_succ]
      repeat ((fail_if_success (with_reducible refine stop_at 50 rfl ?_)); (first | go_values | go_skip | go_guarded | go_step | go_upon))
      refine dg_build4 rfl (.tmp 45) (.tmp 47) (.tmp 49) rfl seed (i : Int) rfl rfl rfl ?_
      simp only [Act.put, List.setIfInBounds_toArray, List.set_cons_zero, List.set_cons_succ]
      refine dg_store rfl (.tmp 10) (.tmp 50) rfl b3 (digF seed true i) (seed :: (i : Int) :: zer 30) rfl rfl H3.out.2.1 hdk.1 rfl ?_
      refine gen_world (fun wx => Hid (St8 tb bb b3 (fun k => k < w.heap.size) w n' B (digF seed true i) wx)) (Lib.hid (H3.out.remake hb3w _)) ?_
      clear H3
      intro w4 H4
      simp only [Act.put, List.setIfInBounds_toArray, List.set_cons_zero, List.set_cons_succ]
      have hdl : ∀ j, j < min i n' → (digF seed true j).length = 32 := fun j hj => (HDL.out j (by omega)).1
      have hFE := free_any tb _ bb 3 n' B (digF seed true i) hdk w4 H4.out.1
      obtain ⟨dd, hdd⟩ : ∃ dd, digF seed true i = dd := ⟨_, rfl⟩
      by_cases hin : i < n'
      · have hmi : min i n' = i := by omega
        have hmi1 : min (i + 1) n' = i + 1 := by omega
        rw [hmi] at HF HC hdl
        obtain ⟨k, hsk, hkn, hgk⟩ := HF.out.free_some hdl hin (dgN (digF seed true i))
        rw [hsk] at hFE
        have HFS := Lib.hid (HF.out.step hin hkn hgk)
        rw [hdd] at hFE H4 hdk HFS
        have hii : (i : Int) < n' := by omega
        have HKN := Lib.hid hkn
        clear hsk hkn hgk hdl
        go_wp2_with (refine dg_load rfl (.tmp 10) rfl b3 0 dd rfl (row_range H4.out.2.1) hdk.1 ?_)
        refine hFE.mono ?_
        clear hFE
        rintro e w5 ⟨he, hb5⟩
        have H5 := Lib.hid (H4.out.below hb5)
        clear hb5 H4
        obtain rfl : e = .returned (.tuple #[.int .i64 (k : Int), .nilIface]) := he
        have hST := set_any tb _ bb 3 n' B k HKN.out dd (i : Int) 1 hdk (by omega) (by decide) (.inr (.inr (by have := HC.out; unfold BookS.cnt at this; omega))) w5 H5.out.1
        try dsimp only
        go_wp2_with (first | (refine dg_load_g rfl (.tmp 10) rfl b3 0 dd rfl (row_range H5.out.2.1) hdk.1 ?_) | (refine ent_build_g rfl (.tmp 68) (.tmp 69) (.const (.int .i64 1)) rfl dd (i : Int) 1 hdk.1 rfl rfl rfl ?_))
        refine hST.mono ?_
        clear hST
        rintro e w6 ⟨rfl, hT6, hk6⟩
        have H6 : Hid (FlX w tb bb n' seed true (min (i + 1) n') w6) := Lib.hid (by
          rw [hmi1]
          exact ⟨_, _, hT6.drop (fun k h => .inl h), HFS.out, Nat.le_trans (BookS.wrote_cnt B _ _ (by have := H5.out.1.2.2.2.1; have := HKN.out; omega)) (by have := HC.out; omega), H5.out.2.2.trans (hk6.mono (fun k _ hk => .inl hk))⟩)
        clear hT6 hk6 H5
        try dsimp only
        go_wp2_with fail
        exact ⟨⟨i + 1, by go_num, by omega, H6⟩, by simp [intOf]; omega⟩
      · have hmi : min i n' = n' := by omega
        have hmi1 : min (i + 1) n' = n' := by omega
        rw [hmi] at HF HC hdl
        have hsk := HF.out.free_none hdl (dgN (digF seed true i))
        rw [hsk] at hFE
        rw [hdd] at hFE H4 hdk
        have hii : ¬ (i : Int) < n' := by omega
        clear hsk hdl
        go_wp2_with (refine dg_load rfl (.tmp 10) rfl b3 0 dd rfl (row_range H4.out.2.1) hdk.1 ?_)
        refine hFE.mono ?_
        clear hFE
        rintro e w5 ⟨⟨t, x, rfl, _⟩, hb5⟩
        have H5 := Lib.hid (H4.out.below hb5)
        clear hb5 H4
        have hdf : decide ((i : Int) < n') = false := decide_eq_false (by omega)
        try dsimp only
        go_wp2_with fail
        exact ⟨⟨i + 1, by go_num, by omega, Lib.hid (by rw [hmi1]; exact ⟨_, _, H5.out.1.drop (fun k h => .inl h), HF.out, HC.out, H5.out.2.2⟩)⟩, by simp [intOf]; omega⟩
    · have hnl : ¬ (i : Int) < n' + 2 := by omega
      have hdn : decide ((i : Int) < n' + 2) = false := decide_eq_false hnl
      rw [show min i n' = n' by omega] at H
      go_wp2_with fail
      go_loopw [13, 76] (fun _ iv wr => ∃ i : Nat, iv = .int .i64 i ∧ i ≤ n' ∧ Hid (FlX w tb bb n' seed true n' wr)) (fun _ iv _ => n' - (intOf iv).toNat)
      case atStart => exact ⟨0, rfl, by omega, H⟩
      case round =>
        clear H
        obtain ⟨i, rfl, hi, H⟩ := hrel
        by_cases hlt : i < n'
        · have i3 : (0 : Int) ≤ i := by omega
          have i4 : (i : Int) < n' := by omega
          have i5 : (i : Int) < 256 := by omega
          obtain ⟨B, g, hT, hF, hc, hkw⟩ := H.out
          have HT := Lib.hid hT
          have HF := Lib.hid hF
          have HC := Lib.hid hc
          have hb3w : ¬ (wr.heap.size < w.heap.size) := by have := hkw.size; omega
          have HKW := Lib.hid hkw
          clear hT hF hc H hkw
          have hdk := (HDL.out i (by omega))
          repeat ((fail_if_success (with_reducible refine stop_at 82 rfl ?_)); (first | go_values | go_skip | go_guarded | go_step | go_upon))
          refine dg_build2 rfl (.tmp 79) (.tmp 81) rfl seed (i : Int) rfl rfl ?_
          simp only [Act.put, List.setIfInBounds_toArray, List.set_cons_zero, List.set_cons_succ]
          repeat ((fail_if_success (with_reducible refine stop_at 83 rfl ?_)); (first | (refine dg_store rfl (.tmp 14) (.tmp 82) rfl wr.heap.size (seed :: (i : Int) :: zer 30) (zer 32) rfl rfl (heap_alloc_new wr _) rfl rfl ?_) | go_values | go_skip | go_guarded | go_step | go_upon))
          refine gen_world (fun wx => Hid (St8 tb bb wr.heap.size (fun k => k < w.heap.size) w n' B (seed :: (i : Int) :: zer 30) wx)) (Lib.hid (St8.make HT.out HKW.out _ _)) ?_
          generalize wr.heap.size = b3 at hb3w ⊢
          intro w3 H3
          simp only [Act.put, List.setIfInBounds_toArray, List.set_cons_zero, List.set_cons_succ]
          repeat ((fail_if_success (with_reducible refine stop_at 89 rfl ?_)); (first | go_values | go_skip | go_guarded | go_step | go_upon))
          refine dg_build4 rfl (.tmp 84) (.tmp 86) (.tmp 88) rfl seed (i : Int) rfl rfl rfl ?_
          simp only [Act.put, List.setIfInBounds_toArray, List.set_cons_zero, List.set_cons_succ]
          refine dg_store rfl (.tmp 14) (.tmp 89) rfl b3 (digF seed true i) (seed :: (i : Int) :: zer 30) rfl rfl H3.out.2.1 hdk.1 rfl ?_
          refine gen_world (fun wx => Hid (St8 tb bb b3 (fun k => k < w.heap.size) w n' B (digF seed true i) wx)) (Lib.hid (H3.out.remake hb3w _)) ?_
          clear H3
          intro w4 H4
          simp only [Act.put, List.setIfInBounds_toArray, List.set_cons_zero, List.set_cons_succ]
          have hdl : ∀ j, j < n' → (digF seed true j).length = 32 := fun j hj => (HDL.out j (by omega)).1
          have hFI := find_any tb _ bb 3 n' B (digF seed true i) hdk w4 H4.out.1
          obtain ⟨k, hsk, hkn, hgk, hvk⟩ := HF.out.find hdl (fun _ _ h => digF_inj h) (by omega) i hlt (dgN (digF seed true i))
          rw [hsk] at hFI
          obtain ⟨k2, hsk2, hkn2, hgk2⟩ := HF.out.slot hdl (by omega) i hlt (dgN (zer 32))
          obtain rfl : k2 = k := HF.out.inj k2 k i hkn2 hkn hgk2 hgk
          have HS2 := Lib.hid hsk2
          have HV := Lib.hid hvk
          have HKN := Lib.hid hkn
          clear hsk hkn hgk hvk hsk2 hkn2 hgk2 hdl
          obtain ⟨dd, hdd⟩ : ∃ dd, digF seed true i = dd := ⟨_, rfl⟩
          rw [hdd] at hFI H4 hdk HV
          go_wp2_with (refine dg_load rfl (.tmp 14) rfl b3 0 dd rfl (row_range H4.out.2.1) hdk.1 ?_)
          refine hFI.mono ?_
          clear hFI
          rintro e w5 ⟨rfl, hb5⟩
          have H5 := Lib.hid (H4.out.below hb5)
          clear hb5 H4
          simp only [Option.getD_some, Option.isSome_some]
          have hGT := get_any tb _ bb 3 n' B k2 HKN.out w5 H5.out.1
          have hGG : ∀ e wx, GetP (B.view (3 + k2)) e wx → e = .returned (.tuple #[.agg (entC dd (i : Int) 1), .nilIface]) := fun e wx h => by
            rw [HV.out] at h
            unfold GetP at h
            rw [setP_is dd _ 1 hdk.1] at h
            rw [setP_dg dd _ 1 hdk.1 (by decide), setP_slot dd _ 1 hdk.1 (by decide) (by omega), setP_refs dd _ 1 hdk.1 (by decide) (by decide)] at h
            exact h
          try dsimp only
          go_wp2_with fail
          refine hGT.mono ?_
          clear hGT
          rintro e w6 ⟨he, hb6⟩
          have H6 := Lib.hid (H5.out.below hb6)
          clear hb6 H5
          obtain rfl := hGG _ _ he
          clear he hGG
          try dsimp only
          repeat ((fail_if_success (with_reducible refine stop_at 104 rfl ?_)); (first | (refine ent_store rfl (.tmp 18) (.tmp 101) rfl w6.heap.size dd (zer 32) (i : Int) 1 0 0 rfl rfl (heap_alloc_new w6 _) hdk.1 rfl ?_) | go_values | go_skip | go_guarded | go_step | go_upon))
          have hbx : ∀ o : Obj, Below w6.heap.size w6 ((w6.alloc o).setRow w6.heap.size (entC dd (i : Int) 1)) := fun o => below_setRow ((Below.refl _ _).alloc (Nat.le_refl _) _) (Nat.le_refl _) _
          refine gen_world (fun wx => Hid (St8 tb bb b3 (fun k => k < w.heap.size) w n' B dd wx ∧ wx.heap[w6.heap.size]? = some (.cells (entC dd (i : Int) 1) 34))) (Lib.hid ⟨H6.out.below (hbx _), setRow_heap _ _ _ _ _ (0, 0) (heap_alloc_new w6 _)⟩) ?_
          clear hbx H6
          generalize w6.heap.size = b18
          intro w7 H7
          have hSL := slot_any tb _ bb 3 n' B (i : Int) w7 H7.out.1.1
          rw [HS2.out] at hSL
          go_wp2_with fail
          refine hSL.mono ?_
          clear hSL
          rintro e w8 ⟨rfl, hb8⟩
          have H8 : Hid (St8 tb bb b3 (fun k => k < w.heap.size) w n' B dd w8 ∧ w8.heap[b18]? = some (.cells (entC dd (i : Int) 1) 34)) := Lib.hid ⟨H7.out.1.below hb8, (hb8.block _ (lt_of_blk H7.out.2)).trans H7.out.2⟩
          clear hb8 H7
          obtain ⟨c1, c2⟩ := ent_cells hdk.1 H8.out.2
          simp only [Option.getD_some, Option.isSome_some]
          try dsimp only
          go_wp2_with fail
          exact ⟨⟨i + 1, by go_num, by omega, Lib.hid ⟨_, _, H8.out.1.1.drop (fun k h => .inl h), HF.out, HC.out, H8.out.1.2.2⟩⟩, by simp [intOf]; omega⟩
        · obtain rfl : i = n' := by omega
          go_wp2_with fail
          go_ret
          obtain ⟨_, _, _, _, _, hkw⟩ := H.out
          exact ⟨rfl, hkw.below (Nat.le_refl _) (fun i hi => hi)⟩
set_option maxRecDepth 100000 in
set_option maxHeartbeats 4000000 in
theorem fills_unlike (n : Int) (seed : Int) (hs : 0 ≤ seed ∧ seed < 256) (hn : -9223372036854775808 ≤ n ∧ n ≤ 9223372036854775807) (w : World) :
    Calls Tryd.prog 3 #[.int .i64 n, .bool false, .int .u8 seed] w fun e w' => e = .returned (.bool true) ∧ Below w.heap.size w w' := by
  have hST := stands08_any (fun k => k < w.heap.size) w (fun i h => h)
  obtain ⟨hs0, hs1⟩ := hs
  obtain ⟨hn0, hn1⟩ := hn
  go_enter Tryd.func3, Tryd.ntmps3
  go_wp2_with fail
  refine hST.mono ?_
  clear hST
  rintro e w1 ⟨rfl, hk1⟩
  try dsimp only
  have hm1 := tmod_range n 40 (by decide)
  repeat ((fail_if_success (with_reducible refine stop_at 31 rfl ?_)); (first | go_values | go_skip | go_guarded | go_step | go_upon))
  obtain ⟨n', hn'⟩ : ∃ n' : Nat, n.tmod 40 % 40 + 1 = (n' : Int) := ⟨(n.tmod 40 % 40 + 1).toNat, by omega⟩
  have hn'1 : 1 ≤ n' ∧ n' ≤ 40 := by omega
  rw [show (n.tmod 40 + 40) % 40 = n.tmod 40 % 40 by omega, hn']
  generalize n.tmod 40 % 40 = q40 at *
  obtain ⟨h1, h2⟩ := hn'1
  clear hm1 hn' hn0 hn1
  have hFR := fresh08_any n' ⟨h1, by omega⟩ (fun k => k < w.heap.size) w1 (fun i h => Nat.lt_of_lt_of_le h hk1.size)
  have i1 : (1 : Int) ≤ n' := by omega
  have i2 : (n' : Int) ≤ 40 := by omega
  go_wp2_with fail
  refine hFR.mono ?_
  clear hFR
  rintro e w2 ⟨⟨bb, tb, rfl, hT⟩, hk2⟩
  have H2 : Hid (FlX w tb bb n' seed false 0 w2) := Lib.hid ⟨freshB, _, hT, FillX.start n' (by omega) _, by rw [freshB_cnt]; exact Nat.le_refl _, hk1.trans hk2⟩
  clear hT hk1 hk2
  have HDL : Hid (∀ j : Nat, j < 256 → (digF seed false j).length = 32 ∧ U8s (digF seed false j)) := Lib.hid (fun j hj => digF_ok seed ⟨hs0, hs1⟩ false j hj)
  try dsimp only
  go_wp2_with fail
  go_loopw [9, 37] (fun _ iv wr => ∃ i : Nat, iv = .int .i64 i ∧ i ≤ n' + 2 ∧ Hid (FlX w tb bb n' seed false (min i n') wr)) (fun _ iv _ => n' + 2 - (intOf iv).toNat)
  case atStart => exact ⟨0, rfl, by omega, by rw [show min 0 n' = 0 by omega]; exact H2⟩
  case round =>
    clear H2
    obtain ⟨i, rfl, hi, H⟩ := hrel
    by_cases hlt : i < n' + 2
    · have i3 : (0 : Int) ≤ i := by omega
      have i4 : (i : Int) < n' + 2 := by omega
      have i5 : (i : Int) < 256 := by omega
      obtain ⟨B, g, hT, hF, hc, hkw⟩ := H.out
      have HT := Lib.hid hT
      have HF := Lib.hid hF
      have HC := Lib.hid hc
      have hb3w : ¬ (wr.heap.size < w.heap.size) := by have := hkw.size; omega
      have HKW := Lib.hid hkw
      clear hT hF hc H hkw
      have hdk := (HDL.out i (by omega))
      repeat ((fail_if_success (with_reducible refine stop_at 43 rfl ?_)); (first | go_values | go_skip | go_guarded | go_step | go_upon))
      refine dg_build2 rfl (.tmp 40) (.tmp 42) rfl seed (i : Int) rfl rfl ?_
      simp only [Act.put, List.setIfInBounds_toArray, List.set_cons_zero, List.set_cons_succ]
      repeat ((fail_if_success (with_reducible refine stop_at 44 rfl ?_)); (first | (refine dg_store rfl (.tmp 10) (.tmp 43) rfl wr.heap.size (seed :: (i : Int) :: zer 30) (zer 32) rfl rfl (heap_alloc_new wr _) rfl rfl ?_) | go_values | go_skip | go_guarded | go_step | go_upon))
      refine gen_world (fun wx => Hid (St8 tb bb wr.heap.size (fun k => k < w.heap.size) w n' B (seed :: (i : Int) :: zer 30) wx)) (Lib.hid (St8.make HT.out HKW.out _ _)) ?_
      generalize wr.heap.size = b3 at hb3w ⊢
      intro w3 H3
      simp only [Act.put, List.setIfInBounds_toArray, List.set_cons_zero, List.set_cons_succ]
      have H4 : Hid (St8 tb bb b3 (fun k => k < w.heap.size) w n' B (digF seed false i) w3) := H3
      clear H3
      revert w3
      intro w4 H4
      have hdl : ∀ j, j < min i n' → (digF seed false j).length = 32 := fun j hj => (HDL.out j (by omega)).1
      have hFE := free_any tb _ bb 3 n' B (digF seed false i) hdk w4 H4.out.1
      obtain ⟨dd, hdd⟩ : ∃ dd, digF seed false i = dd := ⟨_, rfl⟩
      by_cases hin : i < n'
      · have hmi : min i n' = i := by omega
        have hmi1 : min (i + 1) n' = i + 1 := by omega
        rw [hmi] at HF HC hdl
        obtain ⟨k, hsk, hkn, hgk⟩ := HF.out.free_some hdl hin (dgN (digF seed false i))
        rw [hsk] at hFE
        have HFS := Lib.hid (HF.out.step hin hkn hgk)
        rw [hdd] at hFE H4 hdk HFS
        have hii : (i : Int) < n' := by omega
        have HKN := Lib.hid hkn
        clear hsk hkn hgk hdl
        go_wp2_with (refine dg_load rfl (.tmp 10) rfl b3 0 dd rfl (row_range H4.out.2.1) hdk.1 ?_)
        refine hFE.mono ?_
        clear hFE
        rintro e w5 ⟨he, hb5⟩
        have H5 := Lib.hid (H4.out.below hb5)
        clear hb5 H4
        obtain rfl : e = .returned (.tuple #[.int .i64 (k : Int), .nilIface]) := he
        have hST := set_any tb _ bb 3 n' B k HKN.out dd (i : Int) 1 hdk (by omega) (by decide) (.inr (.inr (by have := HC.out; unfold BookS.cnt at this; omega))) w5 H5.out.1
        try dsimp only
        go_wp2_with (first | (refine dg_load_g rfl (.tmp 10) rfl b3 0 dd rfl (row_range H5.out.2.1) hdk.1 ?_) | (refine ent_build_g rfl (.tmp 68) (.tmp 69) (.const (.int .i64 1)) rfl dd (i : Int) 1 hdk.1 rfl rfl rfl ?_))
        refine hST.mono ?_
        clear hST
        rintro e w6 ⟨rfl, hT6, hk6⟩
        have H6 : Hid (FlX w tb bb n' seed false (min (i + 1) n') w6) := Lib.hid (by
          rw [hmi1]
          exact ⟨_, _, hT6.drop (fun k h => .inl h), HFS.out, Nat.le_trans (BookS.wrote_cnt B _ _ (by have := H5.out.1.2.2.2.1; have := HKN.out; omega)) (by have := HC.out; omega), H5.out.2.2.trans (hk6.mono (fun k _ hk => .inl hk))⟩)
        clear hT6 hk6 H5
        try dsimp only
        go_wp2_with fail
        exact ⟨⟨i + 1, by go_num, by omega, H6⟩, by simp [intOf]; omega⟩
      · have hmi : min i n' = n' := by omega
        have hmi1 : min (i + 1) n' = n' := by omega
        rw [hmi] at HF HC hdl
        have hsk := HF.out.free_none hdl (dgN (digF seed false i))
        rw [hsk] at hFE
        rw [hdd] at hFE H4 hdk
        have hii : ¬ (i : Int) < n' := by omega
        clear hsk hdl
        go_wp2_with (refine dg_load rfl (.tmp 10) rfl b3 0 dd rfl (row_range H4.out.2.1) hdk.1 ?_)
        refine hFE.mono ?_
        clear hFE
        rintro e w5 ⟨⟨t, x, rfl, _⟩, hb5⟩
        have H5 := Lib.hid (H4.out.below hb5)
        clear hb5 H4
        have hdf : decide ((i : Int) < n') = false := decide_eq_false (by omega)
        try dsimp only
        go_wp2_with fail
        exact ⟨⟨i + 1, by go_num, by omega, Lib.hid (by rw [hmi1]; exact ⟨_, _, H5.out.1.drop (fun k h => .inl h), HF.out, HC.out, H5.out.2.2⟩)⟩, by simp [intOf]; omega⟩
    · have hnl : ¬ (i : Int) < n' + 2 := by omega
      have hdn : decide ((i : Int) < n' + 2) = false := decide_eq_false hnl
      rw [show min i n' = n' by omega] at H
      go_wp2_with fail
      go_loopw [13, 76] (fun _ iv wr => ∃ i : Nat, iv = .int .i64 i ∧ i ≤ n' ∧ Hid (FlX w tb bb n' seed false n' wr)) (fun _ iv _ => n' - (intOf iv).toNat)
      case atStart => exact ⟨0, rfl, by omega, H⟩
      case round =>
        clear H
        obtain ⟨i, rfl, hi, H⟩ := hrel
        by_cases hlt : i < n'
        · have i3 : (0 : Int) ≤ i := by omega
          have i4 : (i : Int) < n' := by omega
          have i5 : (i : Int) < 256 := by omega
          obtain ⟨B, g, hT, hF, hc, hkw⟩ := H.out
          have HT := Lib.hid hT
          have HF := Lib.hid hF
          have HC := Lib.hid hc
          have hb3w : ¬ (wr.heap.size < w.heap.size) := by have := hkw.size; omega
          have HKW := Lib.hid hkw
          clear hT hF hc H hkw
          have hdk := (HDL.out i (by omega))
          repeat ((fail_if_success (with_reducible refine stop_at 82 rfl ?_)); (first | go_values | go_skip | go_guarded | go_step | go_upon))
          refine dg_build2 rfl (.tmp 79) (.tmp 81) rfl seed (i : Int) rfl rfl ?_
          simp only [Act.put, List.setIfInBounds_toArray, List.set_cons_zero, List.set_cons_succ]
          repeat ((fail_if_success (with_reducible refine stop_at 83 rfl ?_)); (first | (refine dg_store rfl (.tmp 14) (.tmp 82) rfl wr.heap.size (seed :: (i : Int) :: zer 30) (zer 32) rfl rfl (heap_alloc_new wr _) rfl rfl ?_) | go_values | go_skip | go_guarded | go_step | go_upon))
          refine gen_world (fun wx => Hid (St8 tb bb wr.heap.size (fun k => k < w.heap.size) w n' B (seed :: (i : Int) :: zer 30) wx)) (Lib.hid (St8.make HT.out HKW.out _ _)) ?_
          generalize wr.heap.size = b3 at hb3w ⊢
          intro w3 H3
          simp only [Act.put, List.setIfInBounds_toArray, List.set_cons_zero, List.set_cons_succ]
          have H4 : Hid (St8 tb bb b3 (fun k => k < w.heap.size) w n' B (digF seed false i) w3) := H3
          clear H3
          revert w3
          intro w4 H4
          have hdl : ∀ j, j < n' → (digF seed false j).length = 32 := fun j hj => (HDL.out j (by omega)).1
          have hFI := find_any tb _ bb 3 n' B (digF seed false i) hdk w4 H4.out.1
          obtain ⟨k, hsk, hkn, hgk, hvk⟩ := HF.out.find hdl (fun _ _ h => digF_inj h) (by omega) i hlt (dgN (digF seed false i))
          rw [hsk] at hFI
          obtain ⟨k2, hsk2, hkn2, hgk2⟩ := HF.out.slot hdl (by omega) i hlt (dgN (zer 32))
          obtain rfl : k2 = k := HF.out.inj k2 k i hkn2 hkn hgk2 hgk
          have HS2 := Lib.hid hsk2
          have HV := Lib.hid hvk
          have HKN := Lib.hid hkn
          clear hsk hkn hgk hvk hsk2 hkn2 hgk2 hdl
          obtain ⟨dd, hdd⟩ : ∃ dd, digF seed false i = dd := ⟨_, rfl⟩
          rw [hdd] at hFI H4 hdk HV
          go_wp2_with (refine dg_load rfl (.tmp 14) rfl b3 0 dd rfl (row_range H4.out.2.1) hdk.1 ?_)
          refine hFI.mono ?_
          clear hFI
          rintro e w5 ⟨rfl, hb5⟩
          have H5 := Lib.hid (H4.out.below hb5)
          clear hb5 H4
          simp only [Option.getD_some, Option.isSome_some]
          have hGT := get_any tb _ bb 3 n' B k2 HKN.out w5 H5.out.1
          have hGG : ∀ e wx, GetP (B.view (3 + k2)) e wx → e = .returned (.tuple #[.agg (entC dd (i : Int) 1), .nilIface]) := fun e wx h => by
            rw [HV.out] at h
            unfold GetP at h
            rw [setP_is dd _ 1 hdk.1] at h
            rw [setP_dg dd _ 1 hdk.1 (by decide), setP_slot dd _ 1 hdk.1 (by decide) (by omega), setP_refs dd _ 1 hdk.1 (by decide) (by decide)] at h
            exact h
          try dsimp only
          go_wp2_with fail
          refine hGT.mono ?_
          clear hGT
          rintro e w6 ⟨he, hb6⟩
          have H6 := Lib.hid (H5.out.below hb6)
          clear hb6 H5
          obtain rfl := hGG _ _ he
          clear he hGG
          try dsimp only
          repeat ((fail_if_success (with_reducible refine stop_at 104 rfl ?_)); (first | (refine ent_store rfl (.tmp 18) (.tmp 101) rfl w6.heap.size dd (zer 32) (i : Int) 1 0 0 rfl rfl (heap_alloc_new w6 _) hdk.1 rfl ?_) | go_values | go_skip | go_guarded | go_step | go_upon))
          have hbx : ∀ o : Obj, Below w6.heap.size w6 ((w6.alloc o).setRow w6.heap.size (entC dd (i : Int) 1)) := fun o => below_setRow ((Below.refl _ _).alloc (Nat.le_refl _) _) (Nat.le_refl _) _
          refine gen_world (fun wx => Hid (St8 tb bb b3 (fun k => k < w.heap.size) w n' B dd wx ∧ wx.heap[w6.heap.size]? = some (.cells (entC dd (i : Int) 1) 34))) (Lib.hid ⟨H6.out.below (hbx _), setRow_heap _ _ _ _ _ (0, 0) (heap_alloc_new w6 _)⟩) ?_
          clear hbx H6
          generalize w6.heap.size = b18
          intro w7 H7
          have hSL := slot_any tb _ bb 3 n' B (i : Int) w7 H7.out.1.1
          rw [HS2.out] at hSL
          go_wp2_with fail
          refine hSL.mono ?_
          clear hSL
          rintro e w8 ⟨rfl, hb8⟩
          have H8 : Hid (St8 tb bb b3 (fun k => k < w.heap.size) w n' B dd w8 ∧ w8.heap[b18]? = some (.cells (entC dd (i : Int) 1) 34)) := Lib.hid ⟨H7.out.1.below hb8, (hb8.block _ (lt_of_blk H7.out.2)).trans H7.out.2⟩
          clear hb8 H7
          obtain ⟨c1, c2⟩ := ent_cells hdk.1 H8.out.2
          simp only [Option.getD_some, Option.isSome_some]
          try dsimp only
          go_wp2_with fail
          exact ⟨⟨i + 1, by go_num, by omega, Lib.hid ⟨_, _, H8.out.1.1.drop (fun k h => .inl h), HF.out, HC.out, H8.out.1.2.2⟩⟩, by simp [intOf]; omega⟩
        · obtain rfl : i = n' := by omega
          go_wp2_with fail
          go_ret
          obtain ⟨_, _, _, _, _, hkw⟩ := H.out
          exact ⟨rfl, hkw.below (Nat.le_refl _) (fun i hi => hi)⟩
end Go.Proofs.YthaaoghbginmpaaDoor
