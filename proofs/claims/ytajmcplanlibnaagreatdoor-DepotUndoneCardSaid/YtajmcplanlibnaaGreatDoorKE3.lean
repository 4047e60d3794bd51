/- Prints: the first place that is wanted, from a home around. Printed by mkE3.py. -/
import Derived.Test.YtajmcplanlibnaaGreatDoorKE2
set_option linter.unusedSimpArgs false
set_option linter.unusedVariables false
set_option linter.unnecessarySimpa false
namespace Go.Proofs.YtajmcplanlibnaaGreatDoor
open Go.RowKit Go.Maps
def seekO (h n : Nat) (Q : Nat → Bool) : Option Nat := ((List.range n).map fun k => (h + k) % n).find? Q
theorem seekO_found {h n k : Nat} {Q : Nat → Bool} (hk : k < n) (hno : ∀ j, j < k → Q ((h + j) % n) = false) (hy : Q ((h + k) % n) = true) : seekO h n Q = some ((h + k) % n) := by
  unfold seekO
  have e : List.range n = List.range k ++ (List.range (n - k)).map (k + ·) := by
    rw [← List.range_add, show k + (n - k) = n by omega]
  rw [e, List.map_append, List.find?_append]
  have h1 : ((List.range k).map fun k => (h + k) % n).find? Q = none := by
    rw [List.find?_eq_none]
    intro x hx
    obtain ⟨j, hj, rfl⟩ := List.mem_map.1 hx
    rw [hno j (List.mem_range.1 hj)]; simp
  rw [h1]
  obtain ⟨m, hm⟩ : ∃ m, n - k = m + 1 := ⟨n - k - 1, by omega⟩
  rw [hm, List.range_succ_eq_map]
  simp [hy]
theorem seekO_none {h n : Nat} {Q : Nat → Bool} (hno : ∀ j, j < n → Q ((h + j) % n) = false) : seekO h n Q = none := by
  unfold seekO
  rw [List.find?_eq_none]
  intro x hx
  obtain ⟨j, hj, rfl⟩ := List.mem_map.1 hx
  rw [hno j (List.mem_range.1 hj)]; simp
theorem seekO_spec {h n i : Nat} {Q : Nat → Bool} (hs : seekO h n Q = some i) : i < n ∧ Q i = true := by
  unfold seekO at hs
  have h1 := List.mem_of_find?_eq_some hs
  have h2 := List.find?_some hs
  obtain ⟨j, hj, rfl⟩ := List.mem_map.1 h1
  have := List.mem_range.1 hj
  exact ⟨Nat.mod_lt _ (by omega), h2⟩
theorem seekO_no {h n : Nat} {Q : Nat → Bool} (hs : seekO h n Q = none) (i : Nat) (hi : i < n) : Q i = false := by
  unfold seekO at hs
  rw [List.find?_eq_none] at hs
  have hn : 0 < n := by omega
  have hm : i ∈ (List.range n).map fun k => (h + k) % n := by
    refine List.mem_map.2 ⟨(i + n - h % n) % n, List.mem_range.2 (Nat.mod_lt _ hn), ?_⟩
    have h1 := Nat.mod_lt h hn
    show (h + (i + n - h % n) % n) % n = i
    rw [Nat.add_mod, Nat.mod_mod, ← Nat.add_mod]
    have e : h + (i + n - h % n) = i + n + n * (h / n) := by
      have := Nat.div_add_mod h n
      omega
    rw [e, Nat.add_mul_mod_self_left, Nat.add_mod_right, Nat.mod_eq_of_lt hi]
  have := hs i hm
  simpa using this
theorem ent_load_g {ops : Array Oper} {rest : List Oper} {o : Oper} {a : Act} {w : World} {Q : Exit → Act → World → Prop} (hw : Region.wanted o (yielded ops a.tmps) = true) (x : Operand) (ho : o.op = .load 70 x) (g : Nat) (dg : List Int) (sl rf : Int) (hx : a.eval x = .pointer (some ⟨g, 0, none⟩)) (hg : w.heap[g]? = some (.cells (entC dg sl rf) 70)) (hp : dg.length = 32)
    (h : wpList Tryz.prog ops Q rest (a.put o.dst (.agg (entC dg sl rf))) w) : wpList Tryz.prog ops Q (o :: rest) a w := by
  refine wpList_step fun K hK => ?_
  rw [if_pos hw]
  exact wp_load_row _ x ho g hx _ (entC dg sl rf) (0, 0) _ hg Tryz.underlying70 rfl (by rw [entC_size hp]; exact info_ents) (hK _ _ h)
def SkX (w : World) (box : Nat) (d : List Int) (wx : World) : Prop := wx.heap[box]? = some (.cells (v8a d) 67) ∧ Below w.heap.size w wx
theorem SkX.below {w wx wy : World} {box : Nat} {d : List Int} (h : SkX w box d wx) (hb : Below wx.heap.size wx wy) : SkX w box d wy := ⟨(hb.block _ (lt_of_blk h.1)).trans h.1, h.2.trans (hb.mono h.2.size)⟩
theorem look_len {B : BookS} (h : B.ok) {i : Nat} (hi : i < B.n) (hl : isEnt (B.view i) = true) : lookC (B.view i) = entC (pDg (B.view i)) (pSlot (B.view i)) (pRefs (B.view i)) ∧ (pDg (B.view i)).length = 32 := by
  refine ⟨by unfold lookC; rw [hl]; rfl, pDg_length (BookS.view_ok h i hi).1⟩
set_option maxRecDepth 100000 in
set_option maxHeartbeats 4000000 in
theorem seekFind_any (tb : Nat) (N : Nat → Prop) (bb first n : Nat) (B : BookS) (d : List Int) (hd : d.length = 32 ∧ U8s d) (cb : Nat) (w : World) (h : TabI w tb N bb first n B) (hc : w.heap[cb]? = some (.cells (v8a d) 67)) :
    Calls Tryz.prog 169 #[.pointer (some ⟨tb, 0, none⟩), .func (.func 171) #[] #[.pointer (some ⟨cb, 0, none⟩)], .nilFunc, .agg (v8a d)] w fun e w' => e = .returned (.tuple #[.int .i64 (((seekO (dgN d) n (fun i => isEnt (B.view (first + i)) && (decide (pDg (B.view (first + i)) = d) && decide (pRefs (B.view (first + i)) < 15)))).getD 0 : Nat) : Int), .bool (seekO (dgN d) n (fun i => isEnt (B.view (first + i)) && (decide (pDg (B.view (first + i)) = d) && decide (pRefs (B.view (first + i)) < 15)))).isSome, .nilIface]) ∧ Below w.heap.size w w' := by
  have HT := Lib.hid h
  have hok := h.2.1.isOk
  have HOK := Lib.hid hok
  have hn1 := h.2.2.2.1
  have hn0 := h.2.2.2.2
  have hn2 := hok.n.2
  clear h hok
  obtain ⟨Q, hQ⟩ : ∃ Q : Nat → Bool, Q = fun i => isEnt (B.view (first + i)) && (decide (pDg (B.view (first + i)) = d) && decide (pRefs (B.view (first + i)) < 15)) := ⟨_, rfl⟩
  rw [← hQ]
  have HQ := Lib.hid hQ
  clear hQ
  have hb0 : ∀ o : Obj, Below w.heap.size w (w.alloc o) := fun o => (Below.refl _ _).alloc (Nat.le_refl _) _
  have HC := Lib.hid hc
  clear hc
  have hq1 : ∀ wx : World, (binOp .neq 23 .nilFunc .nilFunc).run Tryz.prog wx = .ok (.bool false) wx := fun _ => by kernel_rfl
  have hq2 : ∀ wx : World, (binOp .neq 291 (.func (.func 171) #[] #[.pointer (some ⟨cb, 0, none⟩)]) .nilFunc).run Tryz.prog wx = .ok (.bool true) wx := fun _ => by kernel_rfl
  go_enter Tryz.func169, Tryz.ntmps169
  repeat ((fail_if_success (with_reducible refine stop_pos "prints.go:86" rfl ?_)); (first | go_values | go_skip | go_guarded | go_step | go_upon))
  refine gen_world (fun wx => Hid (SkX w w.heap.size d wx)) (Lib.hid ⟨heap_alloc_new w (.cells (v8a d) 67), hb0 _⟩) ?_
  clear hb0
  generalize w.heap.size = box
  intro w1 H1
  obtain ⟨z0, z1, z2⟩ := blk3 ((HT.out.below H1.out.2).1)
  go_wp2_with fail
  go_loopw [11, 24] (fun _ kv wr => ∃ k : Nat, kv = .int .i64 k ∧ k ≤ n ∧ (∀ j, j < k → Q ((dgN d + j) % n) = false) ∧ Hid (SkX w box d wr)) (fun _ kv _ => n - (intOf kv).toNat)
  case atStart => exact ⟨0, rfl, by omega, fun j hj => by omega, H1⟩
  case round =>
    clear H1 z0 z1 z2
    obtain ⟨k, rfl, hk, hno, H⟩ := hrel
    have HNO := Lib.hid hno
    clear hno
    by_cases hlt : k < n
    · have hk0 : (0 : Int) ≤ k := by omega
      have hk1 : (k : Int) < n := by omega
      have hn3 : (n : Int) ≤ 2048 := by omega
      have hn4 : (n : Int) ≠ 0 := by omega
      have hh0 : dgN d % n < n := Nat.mod_lt _ (by omega)
      have HEI : Hid (((dgN d % n : Nat) + (k : Int)) % (n : Int) = (((dgN d + k) % n : Nat) : Int)) := Lib.hid (by
        rw [← Int.natCast_add, ← Int.natCast_emod, Nat.mod_add_mod])
      obtain ⟨ii, hii⟩ : ∃ ii : Nat, (dgN d + k) % n = ii := ⟨_, rfl⟩
      have hil : ii < n := by rw [← hii]; exact Nat.mod_lt _ (by omega)
      have HII := Lib.hid hii
      rw [hii] at HEI
      clear hii
      have hHM := thome_any tb N bb first n B d hd wr.drew (HT.out.below H.out.2.drew) (by omega)
      obtain ⟨hm, hhm⟩ : ∃ hm : Nat, dgN d % n = hm := ⟨_, rfl⟩
      rw [hhm] at hHM hh0 HEI
      clear hhm
      obtain ⟨z0, z1, z2⟩ := blk3 ((HT.out.below H.out.2).1)
      have r2 := cell_regrown z2
      go_wp2_with fail
      refine wp_region_mix [(0, true), (1, true), (3, true), (5, true), (6, true), (7, true), (8, true), (2, false), (4, true), (9, true), (10, true)] 10 (fun w' => ∃ p : Regrown, w' = Go.Sort.grow (redrawn wr p.d) p.os) (by kernel_rfl) (by kernel_rfl) (fun _ _ d _ _ h => by cases d <;> exact h) (grows_drew _) ?_
      with_reducible refine mix_q ?_
      simp only [List.drop_succ_cons, List.drop_zero, List.take_succ_cons, List.take_zero]
      go_big_quiet_step (fail)
      with_reducible refine wpQuiet_nil ?_
      with_reducible refine mix_q ?_
      simp only [List.drop_succ_cons, List.drop_zero, List.take_succ_cons, List.take_zero]
      go_big_quiet_want
      refine quiet_dg (.tmp 7) rfl box d rfl (blk_regrown H.out.1) hd.1 ?_
      simp only [Act.put, List.setIfInBounds_toArray, List.set_cons_zero, List.set_cons_succ]
      go_big_quiet_on
      with_reducible refine wpQuiet_nil ?_
      (repeat (with_reducible refine mix_q ?_; simp only [List.drop_succ_cons, List.drop_zero, List.take_succ_cons, List.take_zero]; go_big_quiet_step (fail); with_reducible refine wpQuiet_nil ?_))
      with_reducible refine mix_a ?_; simp only [List.drop_succ_cons, List.drop_zero, List.take_succ_cons, List.take_zero]
      go_wp2_with fail
      refine hHM.mono ?_
      clear hHM
      rintro e w2 ⟨rfl, hb2⟩
      have hb2' : Below wr.heap.size wr w2 := (Below.refl _ _).drew.trans hb2
      have H2 := Lib.hid (H.out.below hb2')
      try dsimp only
      go_wp2_with fail
      try with_reducible refine wpList_nil ?_
      with_reducible refine mixQ_normal ?_
      refine ⟨fun _ => grows_of_below hb2', ?_⟩
      clear hb2 hb2' H
      have hm0 : (0 : Int) ≤ hm := by omega
      have hmn : (hm : Int) < n := by omega
      have htm : ((hm : Int) + k).tmod n = (ii : Int) := by rw [Int.tmod_eq_emod_of_nonneg (by omega), HEI.out]
      (repeat (with_reducible refine mix_q ?_; simp only [List.drop_succ_cons, List.drop_zero, List.take_succ_cons, List.take_zero]; go_big_quiet_step (fail); with_reducible refine wpQuiet_nil ?_))
      with_reducible refine mix_nil ?_
      have HF : Hid (Q ii = true → seekO (dgN d) n Q = some ii) := Lib.hid (fun hy => by rw [← HII.out]; exact seekO_found hlt HNO.out (by rw [HII.out]; exact hy))
      have HNX : Hid (Q ii = false → ∀ j, j < k + 1 → Q ((dgN d + j) % n) = false) := Lib.hid (fun hn j hj => by
        by_cases e : j = k
        · subst e; rw [HII.out]; exact hn
        · exact HNO.out j (by omega))
      have hLK := look_any tb N bb first n B ii hil w2 (HT.out.below H2.out.2)
      have hQi : Q ii = (fun i => isEnt (B.view (first + i)) && (decide (pDg (B.view (first + i)) = d) && decide (pRefs (B.view (first + i)) < 15))) ii := congrFun HQ.out ii
      dsimp only at hQi
      have HPK : Hid (PgOk (B.view (first + ii))) := Lib.hid (BookS.view_ok HOK.out _ (by omega))
      generalize B.view (first + ii) = pg at hLK hQi HPK
      clear htm hm0 hmn r2 z0 z1 z2 hh0
      go_wp2_with fail
      refine hLK.mono ?_
      clear hLK
      rintro e w3 ⟨rfl, hb3⟩
      have H3 := Lib.hid (H2.out.below hb3)
      clear hb3 H2
      obtain ⟨dg, sl, rf, hlk, hdg, hdgp⟩ : ∃ dg sl rf, lookC pg = entC dg sl rf ∧ dg.length = 32 ∧ (isEnt pg = true → dg = pDg pg ∧ sl = pSlot pg ∧ rf = pRefs pg) := by
        cases he : isEnt pg with
        | true => exact ⟨_, _, _, by unfold lookC; rw [he]; rfl, pDg_length HPK.out.1, fun _ => ⟨rfl, rfl, rfl⟩⟩
        | false => exact ⟨zer 32, 0, 0, by unfold lookC; rw [he]; rfl, rfl, fun h => by cases h⟩
      rw [hlk]
      have HDP := Lib.hid hdgp
      clear hlk hdgp
      try dsimp only
      repeat ((fail_if_success (with_reducible refine stop_at 45 rfl ?_)); (first | (refine ent_store rfl (.tmp 13) (.tmp 41) rfl w3.heap.size dg (zer 32) sl rf 0 0 rfl rfl (heap_alloc_new w3 _) hdg rfl ?_) | go_values | go_skip | go_guarded | go_step | go_upon))
      have hbx : ∀ o : Obj, Below w3.heap.size w3 ((w3.alloc o).setRow w3.heap.size (entC dg sl rf)) := fun o => below_setRow ((Below.refl _ _).alloc (Nat.le_refl _) _) (Nat.le_refl _) _
      refine gen_world (fun wx => Hid (SkX w box d wx ∧ wx.heap[w3.heap.size]? = some (.cells (entC dg sl rf) 70))) (Lib.hid ⟨H3.out.below (hbx _), setRow_heap _ _ _ _ _ (0, 0) (heap_alloc_new w3 _)⟩) ?_
      clear hbx H3
      generalize w3.heap.size = b13
      intro w4 H4
      have HQI := Lib.hid hQi
      clear hQi
      cases he : isEnt pg with
      | true =>
        obtain ⟨rfl, rfl, rfl⟩ := HDP.out he
        have hcb4 := (H4.out.1.2.block _ (lt_of_blk HC.out)).trans HC.out
        go_wp2_with (refine ent_load_g rfl (.tmp 13) rfl b13 _ _ _ rfl H4.out.2 hdg ?_)
        refine (findFn_any cb d (pDg pg) (pSlot pg) (pRefs pg) hd.1 hdg w4 hcb4).mono ?_
        rintro e w5 ⟨rfl, hb5⟩
        have H5 := Lib.hid (H4.out.1.below hb5)
        clear hb5 hcb4 H4
        obtain ⟨b, hb⟩ : ∃ b, (decide (pDg pg = d) && decide (pRefs pg < 15)) = b := ⟨_, rfl⟩
        rw [hb]
        have HQb : Hid (Q ii = b) := Lib.hid (by rw [HQI.out, he, hb]; rfl)
        clear hb
        cases b with
        | false =>
          try dsimp only
          go_wp2_with fail
          exact ⟨⟨k + 1, by go_num, by omega, HNX.out HQb.out, H5⟩, by simp [intOf]; omega⟩
        | true =>
          try dsimp only
          go_wp2_with fail
          go_ret3
          exact ⟨by rw [HF.out HQb.out]; rfl, H5.out.2⟩
      | false =>
        have HQb : Hid (Q ii = false) := Lib.hid (by rw [HQI.out, he]; rfl)
        go_wp2_with fail
        exact ⟨⟨k + 1, by go_num, by omega, HNX.out HQb.out, Lib.hid H4.out.1⟩, by simp [intOf]; omega⟩
    · obtain rfl : k = n := by omega
      go_wp2_with fail
      go_ret3
      exact ⟨by rw [seekO_none HNO.out]; rfl, H.out.2⟩
set_option maxRecDepth 100000 in
set_option maxHeartbeats 4000000 in
theorem seekSlot_any (tb : Nat) (N : Nat → Prop) (bb first n : Nat) (B : BookS) (d : List Int) (hd : d.length = 32 ∧ U8s d) (cb : Nat) (s : Int) (w : World) (h : TabI w tb N bb first n B) (hc : w.heap[cb]? = some (.cells #[.int .i64 s] 3)) :
    Calls Tryz.prog 169 #[.pointer (some ⟨tb, 0, none⟩), .func (.func 174) #[] #[.pointer (some ⟨cb, 0, none⟩)], .nilFunc, .agg (v8a d)] w fun e w' => e = .returned (.tuple #[.int .i64 (((seekO (dgN d) n (fun i => isEnt (B.view (first + i)) && decide (pSlot (B.view (first + i)) = s))).getD 0 : Nat) : Int), .bool (seekO (dgN d) n (fun i => isEnt (B.view (first + i)) && decide (pSlot (B.view (first + i)) = s))).isSome, .nilIface]) ∧ Below w.heap.size w w' := by
  have HT := Lib.hid h
  have hok := h.2.1.isOk
  have HOK := Lib.hid hok
  have hn1 := h.2.2.2.1
  have hn0 := h.2.2.2.2
  have hn2 := hok.n.2
  clear h hok
  obtain ⟨Q, hQ⟩ : ∃ Q : Nat → Bool, Q = fun i => isEnt (B.view (first + i)) && decide (pSlot (B.view (first + i)) = s) := ⟨_, rfl⟩
  rw [← hQ]
  have HQ := Lib.hid hQ
  clear hQ
  have hb0 : ∀ o : Obj, Below w.heap.size w (w.alloc o) := fun o => (Below.refl _ _).alloc (Nat.le_refl _) _
  have HC := Lib.hid hc
  clear hc
  have hq1 : ∀ wx : World, (binOp .neq 23 .nilFunc .nilFunc).run Tryz.prog wx = .ok (.bool false) wx := fun _ => by kernel_rfl
  have hq2 : ∀ wx : World, (binOp .neq 291 (.func (.func 174) #[] #[.pointer (some ⟨cb, 0, none⟩)]) .nilFunc).run Tryz.prog wx = .ok (.bool true) wx := fun _ => by kernel_rfl
  go_enter Tryz.func169, Tryz.ntmps169
  repeat ((fail_if_success (with_reducible refine stop_pos "prints.go:86" rfl ?_)); (first | go_values | go_skip | go_guarded | go_step | go_upon))
  refine gen_world (fun wx => Hid (SkX w w.heap.size d wx)) (Lib.hid ⟨heap_alloc_new w (.cells (v8a d) 67), hb0 _⟩) ?_
  clear hb0
  generalize w.heap.size = box
  intro w1 H1
  obtain ⟨z0, z1, z2⟩ := blk3 ((HT.out.below H1.out.2).1)
  go_wp2_with fail
  go_loopw [11, 24] (fun _ kv wr => ∃ k : Nat, kv = .int .i64 k ∧ k ≤ n ∧ (∀ j, j < k → Q ((dgN d + j) % n) = false) ∧ Hid (SkX w box d wr)) (fun _ kv _ => n - (intOf kv).toNat)
  case atStart => exact ⟨0, rfl, by omega, fun j hj => by omega, H1⟩
  case round =>
    clear H1 z0 z1 z2
    obtain ⟨k, rfl, hk, hno, H⟩ := hrel
    have HNO := Lib.hid hno
    clear hno
    by_cases hlt : k < n
    · have hk0 : (0 : Int) ≤ k := by omega
      have hk1 : (k : Int) < n := by omega
      have hn3 : (n : Int) ≤ 2048 := by omega
      have hn4 : (n : Int) ≠ 0 := by omega
      have hh0 : dgN d % n < n := Nat.mod_lt _ (by omega)
      have HEI : Hid (((dgN d % n : Nat) + (k : Int)) % (n : Int) = (((dgN d + k) % n : Nat) : Int)) := Lib.hid (by
        rw [← Int.natCast_add, ← Int.natCast_emod, Nat.mod_add_mod])
      obtain ⟨ii, hii⟩ : ∃ ii : Nat, (dgN d + k) % n = ii := ⟨_, rfl⟩
      have hil : ii < n := by rw [← hii]; exact Nat.mod_lt _ (by omega)
      have HII := Lib.hid hii
      rw [hii] at HEI
      clear hii
      have hHM := thome_any tb N bb first n B d hd wr.drew (HT.out.below H.out.2.drew) (by omega)
      obtain ⟨hm, hhm⟩ : ∃ hm : Nat, dgN d % n = hm := ⟨_, rfl⟩
      rw [hhm] at hHM hh0 HEI
      clear hhm
      obtain ⟨z0, z1, z2⟩ := blk3 ((HT.out.below H.out.2).1)
      have r2 := cell_regrown z2
      go_wp2_with fail
      refine wp_region_mix [(0, true), (1, true), (3, true), (5, true), (6, true), (7, true), (8, true), (2, false), (4, true), (9, true), (10, true)] 10 (fun w' => ∃ p : Regrown, w' = Go.Sort.grow (redrawn wr p.d) p.os) (by kernel_rfl) (by kernel_rfl) (fun _ _ d _ _ h => by cases d <;> exact h) (grows_drew _) ?_
      with_reducible refine mix_q ?_
      simp only [List.drop_succ_cons, List.drop_zero, List.take_succ_cons, List.take_zero]
      go_big_quiet_step (fail)
      with_reducible refine wpQuiet_nil ?_
      with_reducible refine mix_q ?_
      simp only [List.drop_succ_cons, List.drop_zero, List.take_succ_cons, List.take_zero]
      go_big_quiet_want
      refine quiet_dg (.tmp 7) rfl box d rfl (blk_regrown H.out.1) hd.1 ?_
      simp only [Act.put, List.setIfInBounds_toArray, List.set_cons_zero, List.set_cons_succ]
      go_big_quiet_on
      with_reducible refine wpQuiet_nil ?_
      (repeat (with_reducible refine mix_q ?_; simp only [List.drop_succ_cons, List.drop_zero, List.take_succ_cons, List.take_zero]; go_big_quiet_step (fail); with_reducible refine wpQuiet_nil ?_))
      with_reducible refine mix_a ?_; simp only [List.drop_succ_cons, List.drop_zero, List.take_succ_cons, List.take_zero]
      go_wp2_with fail
      refine hHM.mono ?_
      clear hHM
      rintro e w2 ⟨rfl, hb2⟩
      have hb2' : Below wr.heap.size wr w2 := (Below.refl _ _).drew.trans hb2
      have H2 := Lib.hid (H.out.below hb2')
      try dsimp only
      go_wp2_with fail
      try with_reducible refine wpList_nil ?_
      with_reducible refine mixQ_normal ?_
      refine ⟨fun _ => grows_of_below hb2', ?_⟩
      clear hb2 hb2' H
      have hm0 : (0 : Int) ≤ hm := by omega
      have hmn : (hm : Int) < n := by omega
      have htm : ((hm : Int) + k).tmod n = (ii : Int) := by rw [Int.tmod_eq_emod_of_nonneg (by omega), HEI.out]
      (repeat (with_reducible refine mix_q ?_; simp only [List.drop_succ_cons, List.drop_zero, List.take_succ_cons, List.take_zero]; go_big_quiet_step (fail); with_reducible refine wpQuiet_nil ?_))
      with_reducible refine mix_nil ?_
      have HF : Hid (Q ii = true → seekO (dgN d) n Q = some ii) := Lib.hid (fun hy => by rw [← HII.out]; exact seekO_found hlt HNO.out (by rw [HII.out]; exact hy))
      have HNX : Hid (Q ii = false → ∀ j, j < k + 1 → Q ((dgN d + j) % n) = false) := Lib.hid (fun hn j hj => by
        by_cases e : j = k
        · subst e; rw [HII.out]; exact hn
        · exact HNO.out j (by omega))
      have hLK := look_any tb N bb first n B ii hil w2 (HT.out.below H2.out.2)
      have hQi : Q ii = (fun i => isEnt (B.view (first + i)) && decide (pSlot (B.view (first + i)) = s)) ii := congrFun HQ.out ii
      dsimp only at hQi
      have HPK : Hid (PgOk (B.view (first + ii))) := Lib.hid (BookS.view_ok HOK.out _ (by omega))
      generalize B.view (first + ii) = pg at hLK hQi HPK
      clear htm hm0 hmn r2 z0 z1 z2 hh0
      go_wp2_with fail
      refine hLK.mono ?_
      clear hLK
      rintro e w3 ⟨rfl, hb3⟩
      have H3 := Lib.hid (H2.out.below hb3)
      clear hb3 H2
      obtain ⟨dg, sl, rf, hlk, hdg, hdgp⟩ : ∃ dg sl rf, lookC pg = entC dg sl rf ∧ dg.length = 32 ∧ (isEnt pg = true → dg = pDg pg ∧ sl = pSlot pg ∧ rf = pRefs pg) := by
        cases he : isEnt pg with
        | true => exact ⟨_, _, _, by unfold lookC; rw [he]; rfl, pDg_length HPK.out.1, fun _ => ⟨rfl, rfl, rfl⟩⟩
        | false => exact ⟨zer 32, 0, 0, by unfold lookC; rw [he]; rfl, rfl, fun h => by cases h⟩
      rw [hlk]
      have HDP := Lib.hid hdgp
      clear hlk hdgp
      try dsimp only
      repeat ((fail_if_success (with_reducible refine stop_at 45 rfl ?_)); (first | (refine ent_store rfl (.tmp 13) (.tmp 41) rfl w3.heap.size dg (zer 32) sl rf 0 0 rfl rfl (heap_alloc_new w3 _) hdg rfl ?_) | go_values | go_skip | go_guarded | go_step | go_upon))
      have hbx : ∀ o : Obj, Below w3.heap.size w3 ((w3.alloc o).setRow w3.heap.size (entC dg sl rf)) := fun o => below_setRow ((Below.refl _ _).alloc (Nat.le_refl _) _) (Nat.le_refl _) _
      refine gen_world (fun wx => Hid (SkX w box d wx ∧ wx.heap[w3.heap.size]? = some (.cells (entC dg sl rf) 70))) (Lib.hid ⟨H3.out.below (hbx _), setRow_heap _ _ _ _ _ (0, 0) (heap_alloc_new w3 _)⟩) ?_
      clear hbx H3
      generalize w3.heap.size = b13
      intro w4 H4
      have HQI := Lib.hid hQi
      clear hQi
      cases he : isEnt pg with
      | true =>
        obtain ⟨rfl, rfl, rfl⟩ := HDP.out he
        have hcb4 := (H4.out.1.2.block _ (lt_of_blk HC.out)).trans HC.out
        go_wp2_with (refine ent_load_g rfl (.tmp 13) rfl b13 _ _ _ rfl H4.out.2 hdg ?_)
        refine (slotFn_any cb s (pDg pg) (pSlot pg) (pRefs pg) hdg w4 hcb4).mono ?_
        rintro e w5 ⟨rfl, hb5⟩
        have H5 := Lib.hid (H4.out.1.below hb5)
        clear hb5 hcb4 H4
        obtain ⟨b, hb⟩ : ∃ b, decide (pSlot pg = s) = b := ⟨_, rfl⟩
        rw [hb]
        have HQb : Hid (Q ii = b) := Lib.hid (by rw [HQI.out, he, hb]; rfl)
        clear hb
        cases b with
        | false =>
          try dsimp only
          go_wp2_with fail
          exact ⟨⟨k + 1, by go_num, by omega, HNX.out HQb.out, H5⟩, by simp [intOf]; omega⟩
        | true =>
          try dsimp only
          go_wp2_with fail
          go_ret3
          exact ⟨by rw [HF.out HQb.out]; rfl, H5.out.2⟩
      | false =>
        have HQb : Hid (Q ii = false) := Lib.hid (by rw [HQI.out, he]; rfl)
        go_wp2_with fail
        exact ⟨⟨k + 1, by go_num, by omega, HNX.out HQb.out, Lib.hid H4.out.1⟩, by simp [intOf]; omega⟩
    · obtain rfl : k = n := by omega
      go_wp2_with fail
      go_ret3
      exact ⟨by rw [seekO_none HNO.out]; rfl, H.out.2⟩
set_option maxRecDepth 100000 in
set_option maxHeartbeats 4000000 in
theorem seekFree_any (tb : Nat) (N : Nat → Prop) (bb first n : Nat) (B : BookS) (d : List Int) (hd : d.length = 32 ∧ U8s d) (w : World) (h : TabI w tb N bb first n B) :
    Calls Tryz.prog 169 #[.pointer (some ⟨tb, 0, none⟩), .nilFunc, .func (.func 170) #[] #[], .agg (v8a d)] w fun e w' => e = .returned (.tuple #[.int .i64 (((seekO (dgN d) n (fun i => !isEnt (B.view (first + i)))).getD 0 : Nat) : Int), .bool (seekO (dgN d) n (fun i => !isEnt (B.view (first + i)))).isSome, .nilIface]) ∧ Below w.heap.size w w' := by
  have HT := Lib.hid h
  have hok := h.2.1.isOk
  have HOK := Lib.hid hok
  have hn1 := h.2.2.2.1
  have hn0 := h.2.2.2.2
  have hn2 := hok.n.2
  clear h hok
  obtain ⟨Q, hQ⟩ : ∃ Q : Nat → Bool, Q = fun i => !isEnt (B.view (first + i)) := ⟨_, rfl⟩
  rw [← hQ]
  have HQ := Lib.hid hQ
  clear hQ
  have hb0 : ∀ o : Obj, Below w.heap.size w (w.alloc o) := fun o => (Below.refl _ _).alloc (Nat.le_refl _) _
  have hq1 : ∀ wx : World, (binOp .neq 291 .nilFunc .nilFunc).run Tryz.prog wx = .ok (.bool false) wx := fun _ => by kernel_rfl
  have hq2 : ∀ wx : World, (binOp .neq 23 (.func (.func 170) #[] #[]) .nilFunc).run Tryz.prog wx = .ok (.bool true) wx := fun _ => by kernel_rfl
  go_enter Tryz.func169, Tryz.ntmps169
  repeat ((fail_if_success (with_reducible refine stop_pos "prints.go:86" rfl ?_)); (first | go_values | go_skip | go_guarded | go_step | go_upon))
  refine gen_world (fun wx => Hid (SkX w w.heap.size d wx)) (Lib.hid ⟨heap_alloc_new w (.cells (v8a d) 67), hb0 _⟩) ?_
  clear hb0
  generalize w.heap.size = box
  intro w1 H1
  obtain ⟨z0, z1, z2⟩ := blk3 ((HT.out.below H1.out.2).1)
  go_wp2_with fail
  go_loopw [11, 24] (fun _ kv wr => ∃ k : Nat, kv = .int .i64 k ∧ k ≤ n ∧ (∀ j, j < k → Q ((dgN d + j) % n) = false) ∧ Hid (SkX w box d wr)) (fun _ kv _ => n - (intOf kv).toNat)
  case atStart => exact ⟨0, rfl, by omega, fun j hj => by omega, H1⟩
  case round =>
    clear H1 z0 z1 z2
    obtain ⟨k, rfl, hk, hno, H⟩ := hrel
    have HNO := Lib.hid hno
    clear hno
    by_cases hlt : k < n
    · have hk0 : (0 : Int) ≤ k := by omega
      have hk1 : (k : Int) < n := by omega
      have hn3 : (n : Int) ≤ 2048 := by omega
      have hn4 : (n : Int) ≠ 0 := by omega
      have hh0 : dgN d % n < n := Nat.mod_lt _ (by omega)
      have HEI : Hid (((dgN d % n : Nat) + (k : Int)) % (n : Int) = (((dgN d + k) % n : Nat) : Int)) := Lib.hid (by
        rw [← Int.natCast_add, ← Int.natCast_emod, Nat.mod_add_mod])
      obtain ⟨ii, hii⟩ : ∃ ii : Nat, (dgN d + k) % n = ii := ⟨_, rfl⟩
      have hil : ii < n := by rw [← hii]; exact Nat.mod_lt _ (by omega)
      have HII := Lib.hid hii
      rw [hii] at HEI
      clear hii
      have hHM := thome_any tb N bb first n B d hd wr.drew (HT.out.below H.out.2.drew) (by omega)
      obtain ⟨hm, hhm⟩ : ∃ hm : Nat, dgN d % n = hm := ⟨_, rfl⟩
      rw [hhm] at hHM hh0 HEI
      clear hhm
      obtain ⟨z0, z1, z2⟩ := blk3 ((HT.out.below H.out.2).1)
      have r2 := cell_regrown z2
      go_wp2_with fail
      refine wp_region_mix [(0, true), (1, true), (3, true), (5, true), (6, true), (7, true), (8, true), (2, false), (4, true), (9, true), (10, true)] 10 (fun w' => ∃ p : Regrown, w' = Go.Sort.grow (redrawn wr p.d) p.os) (by kernel_rfl) (by kernel_rfl) (fun _ _ d _ _ h => by cases d <;> exact h) (grows_drew _) ?_
      with_reducible refine mix_q ?_
      simp only [List.drop_succ_cons, List.drop_zero, List.take_succ_cons, List.take_zero]
      go_big_quiet_step (fail)
      with_reducible refine wpQuiet_nil ?_
      with_reducible refine mix_q ?_
      simp only [List.drop_succ_cons, List.drop_zero, List.take_succ_cons, List.take_zero]
      go_big_quiet_want
      refine quiet_dg (.tmp 7) rfl box d rfl (blk_regrown H.out.1) hd.1 ?_
      simp only [Act.put, List.setIfInBounds_toArray, List.set_cons_zero, List.set_cons_succ]
      go_big_quiet_on
      with_reducible refine wpQuiet_nil ?_
      (repeat (with_reducible refine mix_q ?_; simp only [List.drop_succ_cons, List.drop_zero, List.take_succ_cons, List.take_zero]; go_big_quiet_step (fail); with_reducible refine wpQuiet_nil ?_))
      with_reducible refine mix_a ?_; simp only [List.drop_succ_cons, List.drop_zero, List.take_succ_cons, List.take_zero]
      go_wp2_with fail
      refine hHM.mono ?_
      clear hHM
      rintro e w2 ⟨rfl, hb2⟩
      have hb2' : Below wr.heap.size wr w2 := (Below.refl _ _).drew.trans hb2
      have H2 := Lib.hid (H.out.below hb2')
      try dsimp only
      go_wp2_with fail
      try with_reducible refine wpList_nil ?_
      with_reducible refine mixQ_normal ?_
      refine ⟨fun _ => grows_of_below hb2', ?_⟩
      clear hb2 hb2' H
      have hm0 : (0 : Int) ≤ hm := by omega
      have hmn : (hm : Int) < n := by omega
      have htm : ((hm : Int) + k).tmod n = (ii : Int) := by rw [Int.tmod_eq_emod_of_nonneg (by omega), HEI.out]
      (repeat (with_reducible refine mix_q ?_; simp only [List.drop_succ_cons, List.drop_zero, List.take_succ_cons, List.take_zero]; go_big_quiet_step (fail); with_reducible refine wpQuiet_nil ?_))
      with_reducible refine mix_nil ?_
      have HF : Hid (Q ii = true → seekO (dgN d) n Q = some ii) := Lib.hid (fun hy => by rw [← HII.out]; exact seekO_found hlt HNO.out (by rw [HII.out]; exact hy))
      have HNX : Hid (Q ii = false → ∀ j, j < k + 1 → Q ((dgN d + j) % n) = false) := Lib.hid (fun hn j hj => by
        by_cases e : j = k
        · subst e; rw [HII.out]; exact hn
        · exact HNO.out j (by omega))
      have hLK := look_any tb N bb first n B ii hil w2 (HT.out.below H2.out.2)
      have hQi : Q ii = (fun i => !isEnt (B.view (first + i))) ii := congrFun HQ.out ii
      dsimp only at hQi
      have HPK : Hid (PgOk (B.view (first + ii))) := Lib.hid (BookS.view_ok HOK.out _ (by omega))
      generalize B.view (first + ii) = pg at hLK hQi HPK
      clear htm hm0 hmn r2 z0 z1 z2 hh0
      go_wp2_with fail
      refine hLK.mono ?_
      clear hLK
      rintro e w3 ⟨rfl, hb3⟩
      have H3 := Lib.hid (H2.out.below hb3)
      clear hb3 H2
      obtain ⟨dg, sl, rf, hlk, hdg, hdgp⟩ : ∃ dg sl rf, lookC pg = entC dg sl rf ∧ dg.length = 32 ∧ (isEnt pg = true → dg = pDg pg ∧ sl = pSlot pg ∧ rf = pRefs pg) := by
        cases he : isEnt pg with
        | true => exact ⟨_, _, _, by unfold lookC; rw [he]; rfl, pDg_length HPK.out.1, fun _ => ⟨rfl, rfl, rfl⟩⟩
        | false => exact ⟨zer 32, 0, 0, by unfold lookC; rw [he]; rfl, rfl, fun h => by cases h⟩
      rw [hlk]
      have HDP := Lib.hid hdgp
      clear hlk hdgp
      try dsimp only
      repeat ((fail_if_success (with_reducible refine stop_at 45 rfl ?_)); (first | (refine ent_store rfl (.tmp 13) (.tmp 41) rfl w3.heap.size dg (zer 32) sl rf 0 0 rfl rfl (heap_alloc_new w3 _) hdg rfl ?_) | go_values | go_skip | go_guarded | go_step | go_upon))
      have hbx : ∀ o : Obj, Below w3.heap.size w3 ((w3.alloc o).setRow w3.heap.size (entC dg sl rf)) := fun o => below_setRow ((Below.refl _ _).alloc (Nat.le_refl _) _) (Nat.le_refl _) _
      refine gen_world (fun wx => Hid (SkX w box d wx ∧ wx.heap[w3.heap.size]? = some (.cells (entC dg sl rf) 70))) (Lib.hid ⟨H3.out.below (hbx _), setRow_heap _ _ _ _ _ (0, 0) (heap_alloc_new w3 _)⟩) ?_
      clear hbx H3
      generalize w3.heap.size = b13
      intro w4 H4
      have HQI := Lib.hid hQi
      clear hQi
      cases he : isEnt pg with
      | true =>
        have HQb : Hid (Q ii = false) := Lib.hid (by rw [HQI.out, he]; rfl)
        go_wp2_with fail
        exact ⟨⟨k + 1, by go_num, by omega, HNX.out HQb.out, Lib.hid H4.out.1⟩, by simp [intOf]; omega⟩
      | false =>
        have HQb : Hid (Q ii = true) := Lib.hid (by rw [HQI.out, he]; rfl)
        go_wp2_with fail
        refine (freeFn_any w4).mono ?_
        rintro e w5 ⟨rfl, rfl⟩
        try dsimp only
        go_wp2_with fail
        go_ret3
        exact ⟨by rw [HF.out HQb.out]; rfl, H4.out.1.2⟩
    · obtain rfl : k = n := by omega
      go_wp2_with fail
      go_ret3
      exact ⟨by rw [seekO_none HNO.out]; rfl, H.out.2⟩
end Go.Proofs.YtajmcplanlibnaaGreatDoor
