/- The law's call of a table and of a map of entries: unlike answers there are none. -/
import Derived.Test.YtajmcplanlibnaaGreatDoorKX2
import Derived.Test.YtajmcplanlibnaaGreatDoorKA0
set_option linter.unusedSimpArgs false
set_option linter.unusedVariables false
set_option linter.unnecessarySimpa false
namespace Go.Proofs.YtajmcplanlibnaaGreatDoor
open Go.RowKit Go.Maps
def NB8 (N : Nat → Prop) (b : Nat) : Nat → Prop := fun q => N q ∨ q = b
/-- What a run keeps: the caller's, but for the map. -/
def NKm (N : Nat → Prop) (mb : Nat) : Nat → Prop := fun q => N q ∧ q ≠ mb
/-- A table, and a map with the same entries. -/
def EnS (g : Geo) (k : Nat) (N : Nat → Prop) (tb bb n mb : Nat) (M : Nat → Option En) (wx : World) : Prop := TbS g k N tb bb n M wx ∧ MapIs Tryz.prog 3 wx mb (cntM M n) (enL M) ∧ N mb ∧ N 0 ∧ EtAt wx
theorem EtAt.ne_map8 {w : World} (h : EtAt w) {k mb c : Nat} {f : Lit → Option Value} (hm : MapIs Tryz.prog k w mb c f) : mb ≠ 0 := by
  rintro rfl
  obtain ⟨D, ⟨es, clock, hb, _⟩, _⟩ := hm
  unfold EtAt at h
  simp [World.cell?, hb] at h
structure RnX (g : Geo) (k : Nat) (w : World) (N : Nat → Prop) (tb bb n mb b9 : Nat) (M M' : Nat → Option En) (dg : List Int) (sl rf : Int) (wx : World) : Prop where
  box : wx.heap[b9]? = some (.cells (entC dg sl rf) 70)
  tb : TbS g k (NB8 N b9) tb bb n M wx
  map : MapIs Tryz.prog 3 wx mb (cntM M' n) (enL M')
  nots : N mb ∧ N 0
  et : EtAt wx
  kept : Keeps (NKm N mb) w wx
section
variable {g : Geo} {k : Nat} {w wx wy : World} {N : Nat → Prop} {tb bb n mb b9 : Nat} {M M' : Nat → Option En} {dg : List Int} {sl rf : Int}
theorem EnS.below (h : EnS g k N tb bb n mb M wx) (hb : Below wx.heap.size wx wy) : EnS g k N tb bb n mb M wy :=
  ⟨h.1.below hb, h.2.1.below hb h.2.1.lt, h.2.2.1, h.2.2.2.1, h.2.2.2.2.below hb h.2.2.2.2.pos⟩
theorem RnX.start (h : EnS g k N tb bb n mb M w) (hb : Below w.heap.size w wx) (h9 : w.heap.size ≤ b9) (hx : wx.heap[b9]? = some (.cells (entC dg sl rf) 70)) : RnX g k w N tb bb n mb b9 M M dg sl rf wx :=
  ⟨hx, h.1.keep hb (fun i hi => by
    rcases hi with hi | rfl
    · exact ⟨Nat.lt_of_lt_of_le (h.1.N_lt i hi) hb.size, .inl hi⟩
    · exact ⟨lt_of_blk hx, .inr h9⟩), h.2.1.below hb h.2.1.lt, ⟨h.2.2.1, h.2.2.2.1⟩, h.2.2.2.2.below hb h.2.2.2.2.pos, Keeps.of_below hb⟩
theorem RnX.below (h : RnX g k w N tb bb n mb b9 M M' dg sl rf wx) (hb : Below wx.heap.size wx wy) : RnX g k w N tb bb n mb b9 M M' dg sl rf wy :=
  ⟨(hb.block _ (lt_of_blk h.box)).trans h.box, h.tb.below hb, h.map.below hb h.map.lt, h.nots, h.et.below hb h.et.pos, h.kept.trans (Keeps.of_below hb)⟩
theorem RnX.turn {M1 : Nat → Option En} (h : RnX g k w N tb bb n mb b9 M M' dg sl rf wx) (ht : TbS g k (NB8 N b9) tb bb n M1 wy) (hk : Keeps (NB8 N b9) wx wy) : RnX g k w N tb bb n mb b9 M1 M' dg sl rf wy :=
  ⟨hk.blk (.inr rfl) h.box, ht, hk.map (.inl h.nots.1) h.map, h.nots, h.et.keeps hk (.inl h.nots.2), h.kept.trans (hk.mono (fun i _ hi => .inl hi.1))⟩
theorem RnX.mapped {M1 : Nat → Option En} (h : RnX g k w N tb bb n mb b9 M M' dg sl rf wx) (hm : MapIs Tryz.prog 3 wy mb (cntM M1 n) (enL M1)) (ht : wx.mapTurned wy mb) : RnX g k w N tb bb n mb b9 M M1 dg sl rf wy := by
  have hk : Keeps (fun k => k ≠ mb) wx wy := Keeps.of_turned ht (by simp)
  exact ⟨hk.blk (fun e => blk_map_ne h.box h.map e.symm) h.box, h.tb.frame (hk.mono (fun i _ hi e => hi (.inl (e ▸ h.nots.1)))), hm, h.nots, h.et.keeps hk (fun e => h.et.ne_map8 h.map e.symm), h.kept.trans (hk.mono (fun i _ hi => hi.2))⟩
theorem RnX.del {p : Nat} {M2 : Nat → Option En} (h : RnX g k w N tb bb n mb b9 M2 M dg sl rf wx) (hp : p < n) (hm : MapIs Tryz.prog 3 wy mb (cntDel (enL M (.int .i64 (p : Int))).isSome (cntM M n)) (upd (enL M) (.int .i64 (p : Int)) none)) (ht : wx.mapTurned wy mb) : RnX g k w N tb bb n mb b9 M2 (setM M p none) dg sl rf wy := by
  refine h.mapped ?_ ht
  rw [enL_del] at hm
  have hc := cntM_set M n p none hp
  have e : cntDel (enL M (.int .i64 (p : Int))).isSome (cntM M n) = cntM (setM M p none) n := by
    rw [enL_at]
    unfold cntDel
    cases hmp : M p with
    | none => rw [hmp] at hc; simp at hc; simp [hc]
    | some e => rw [hmp] at hc; simp at hc; simp [← hc]
  rw [e] at hm
  exact hm
theorem RnX.put {p : Nat} {M2 : Nat → Option En} (h : RnX g k w N tb bb n mb b9 M2 M dg sl rf wx) (hp : p < n) (hm : MapIs Tryz.prog 3 wy mb (cntIf (enL M (.int .i64 (p : Int))).isSome (cntM M n)) (upd (enL M) (.int .i64 (p : Int)) (some (.agg (entC dg sl rf))))) (ht : wx.mapTurned wy mb) : RnX g k w N tb bb n mb b9 M2 (setM M p (some (dg, sl, rf))) dg sl rf wy := by
  refine h.mapped ?_ ht
  rw [enL_put] at hm
  have hc := cntM_set M n p (some (dg, sl, rf)) hp
  have e : cntIf (enL M (.int .i64 (p : Int))).isSome (cntM M n) = cntM (setM M p (some (dg, sl, rf))) n := by
    rw [enL_at]
    unfold cntIf
    cases hmp : M p with
    | none => rw [hmp] at hc; simp at hc; simp [hc]
    | some e => rw [hmp] at hc; simp at hc; simp [hc]
  rw [e] at hm
  exact hm
theorem RnX.fin (h : RnX g k w N tb bb n mb b9 M M dg sl rf wx) : EnS g k N tb bb n mb M wx ∧ Keeps (NKm N mb) w wx :=
  ⟨⟨h.tb.keep (Below.refl _ _) (fun i hi => ⟨h.tb.N_lt i (.inl hi), .inl (.inl hi)⟩), h.map, h.nots.1, h.nots.2, h.et⟩, h.kept⟩
/-- The box of the entry is stored. -/
theorem RnX.boxed {dg' : List Int} {sl' rf' : Int} (h : RnX g k w N tb bb n mb b9 M M' dg sl rf wx) (hg : wx.grownBy wy (some b9)) (hx : wy.heap[b9]? = some (.cells (entC dg' sl' rf') 70)) (hN : ¬ N b9) : RnX g k w N tb bb n mb b9 M M' dg' sl' rf' wy := by
  have hk : Keeps (fun k => k ≠ b9) wx wy := Keeps.of_grown hg (by simp)
  exact ⟨hx, h.tb.frame (hk.mono (fun i _ hi e => hi (.inr e))), hk.map (fun e => hN (e ▸ h.nots.1)) h.map, h.nots, h.et.keeps hk (fun e => hN (e ▸ h.nots.2)), h.kept.trans (hk.mono (fun i _ hi e => hN (e ▸ hi.1)))⟩
theorem rnCase0 (dg : List Int) (sl : Int) {rf : Int} (h : rf = 0) : (if 0 < rf then some (dg, sl, rf) else none : Option En) = none := by rw [if_neg (by omega)]
theorem rnCase1 (dg : List Int) (sl : Int) {rf : Int} (h : 0 < rf) : (if 0 < rf then some (dg, sl, rf) else none : Option En) = some (dg, sl, rf) := by rw [if_pos h]
/-- What a run comes to. -/
def RnP (g : Geo) (k : Nat) (N : Nat → Prop) (tb bb n mb : Nat) (w : World) (e : Ending) (w' : World) : Prop := e = .returned (.bool true) ∧ ∃ M', EnS g k N tb bb n mb M' w' ∧ Keeps (NKm N mb) w w'
set_option maxRecDepth 100000 in
set_option maxHeartbeats 4000000 in
theorem run0 (hn60 : Hid (n ≤ 60)) (xk xi xd xs xr : Int) (hd : 0 ≤ xd ∧ xd < 256) (k1 : ¬ xk = 1) (k2 : ¬ xk = 2) (k3 : ¬ xk = 3) (w : World) (h : EnS g k N tb bb n mb M w) :
    Calls Tryz.prog 32 #[.pointer (some ⟨tb, 0, none⟩), .map (some mb), .int .i64 (n : Int), .agg #[.int .i64 xk, .int .i64 xi, .int .u8 xd, .int .i64 xs, .int .i64 xr]] w (RnP g k N tb bb n mb w) := by
  have H := Lib.hid h
  have HDG := Lib.hid (digX_ok xd hd)
  have hdl := HDG.out.1
  have hn60' := hn60.out
  have hb0 : ∀ o : Obj, Below w.heap.size w (w.alloc o) := fun o => (Below.refl _ _).alloc (Nat.le_refl _) _
  obtain ⟨d0, d1⟩ := hd
  clear h
  go_enter Tryz.func32, Tryz.ntmps32
  repeat ((fail_if_success (with_reducible refine stop_at 18 rfl ?_)); (first | go_values | go_skip | go_guarded | go_step | go_upon))
  refine gen_code (fun wx => Hid (wx.heap[w.heap.size]? = some (.cells #[.int .i64 xk, .int .i64 xi, .int .u8 xd, .int .i64 xs, .int .i64 xr] 64) ∧ Below w.heap.size w wx)) (Lib.hid ⟨heap_alloc_new w _, hb0 _⟩) ?_
  clear hb0
  intro w1 H1
  obtain ⟨z0, z1, z2, z3, z4, y0, y1, y2, y3, y4⟩ := blk5 H1.out.1
  have r2 := cell_regrown z2
  have r3 := cell_regrown z3
  have r4 := cell_regrown z4
  clear z0 z1 z2 z3 z4 y0 y1 y2 y3 y4
  refine wp_region_plan (.quiet 0 (.quiet 1 (.quiet 3 (.quiet 4 (.quiet 5 (.quiet 6 (.two 2 8 (.quiet 7 (.one 8 (.one 9 .nil))) (.one 2 (.quiet 7 (.one 9 .nil))))))))))  (fun w' => ∃ p : Regrown, w' = Go.Sort.grow (redrawn w1 p.d) p.os) (by kernel_rfl) (by kernel_rfl) (fun _ _ d _ _ h => by cases d <;> exact h) (grows_drew _) ?_
  (repeat (with_reducible refine plan_q ?_; simp only [List.drop_succ_cons, List.drop_zero, List.take_succ_cons, List.take_zero]; go_big_quiet_step (fail); with_reducible refine wpQuiet_nil ?_))
  have hbd : Below w1.heap.size w1 w1.drew := (Below.refl _ _).drew
  have hle0 : w1.heap.size ≤ w1.heap.size := Nat.le_refl _
  apply tail_cut
  · intro TAIL
    with_reducible refine plan_two ?_ ?_
    · simp only [List.drop_succ_cons, List.drop_zero, List.take_succ_cons, List.take_zero]
      go_wp2_with fail
      refine (digest_any xd ⟨d0, d1⟩ w1.drew).mono ?_
      rintro e wa ⟨rfl, hba1⟩
      have hba2 : Below w1.heap.size w1 wa := hbd.trans hba1
      try dsimp only
      go_wp2_with fail
      (try with_reducible refine wpList_nil ?_); with_reducible refine mixQ_normal ?_
      refine ⟨grows_of_below hba2, ?_⟩
      with_reducible refine plan_q ?_
      simp only [List.drop_succ_cons, List.drop_zero, List.take_succ_cons, List.take_zero]
      go_big_quiet_want
      refine quiet_build_to 70 _ rfl (entC (digX xd) xs xr) (by simp only [List.map_toArray, List.map_cons, List.map_nil]; exact built_ent (digX xd) xs xr hdl) ?_
      simp only [Act.put, List.setIfInBounds_toArray, List.set_cons_zero, List.set_cons_succ]
      go_big_quiet_on
      with_reducible refine wpQuiet_nil ?_
      with_reducible refine plan_a ?_; simp only [List.drop_succ_cons, List.drop_zero, List.take_succ_cons, List.take_zero]
      have hbo : ∀ o : Obj, Below w1.heap.size w1 (wa.alloc o) := fun o => hba2.alloc hba2.size _
      have hsa := hba2.size
      go_wp2_with fail
      (try with_reducible refine wpList_nil ?_); with_reducible refine mixQ_normal ?_
      refine ⟨grows_of_below (hbo _), ?_⟩
      refine gen_plan (fun wx => Hid (wx.heap[wa.heap.size]? = some (.cells (entC (zer 32) 0 0) 70) ∧ Below w1.heap.size w1 wx)) (Lib.hid ⟨heap_alloc_new wa (.cells (entC (zer 32) 0 0) 70), hbo _⟩) ?_
      generalize wa.heap.size = b9 at hsa ⊢
      intro wb HA
      revert b9 wb
      exact TAIL
    · simp only [List.drop_succ_cons, List.drop_zero, List.take_succ_cons, List.take_zero]
      have hbo : ∀ o : Obj, Below w1.heap.size w1 (w1.drew.alloc o) := fun o => hbd.alloc (Nat.le_refl _) _
      go_wp2_with fail
      (try with_reducible refine wpList_nil ?_); with_reducible refine mixQ_normal ?_
      refine ⟨grows_of_below (hbo _), ?_⟩
      refine gen_plan (fun wx => Hid (wx.heap[w1.heap.size]? = some (.cells (entC (zer 32) 0 0) 70) ∧ Below w1.heap.size w1 wx)) (Lib.hid ⟨heap_alloc_new w1.drew (.cells (entC (zer 32) 0 0) 70), hbo _⟩) ?_
      intro wa HA
      with_reducible refine plan_a ?_; simp only [List.drop_succ_cons, List.drop_zero, List.take_succ_cons, List.take_zero]
      go_wp2_with fail
      refine (digest_any xd ⟨d0, d1⟩ wa).mono ?_
      rintro e wb ⟨rfl, hbb1⟩
      have hbb2 : Below w1.heap.size w1 wb := HA.out.2.trans (hbb1.mono HA.out.2.size)
      have HB : Hid (wb.heap[w1.heap.size]? = some (.cells (entC (zer 32) 0 0) 70) ∧ Below w1.heap.size w1 wb) := Lib.hid ⟨(hbb1.block _ (lt_of_blk HA.out.1)).trans HA.out.1, hbb2⟩
      try dsimp only
      go_wp2_with fail
      (try with_reducible refine wpList_nil ?_); with_reducible refine mixQ_normal ?_
      refine ⟨grows_of_below hbb2, ?_⟩
      with_reducible refine plan_q ?_
      simp only [List.drop_succ_cons, List.drop_zero, List.take_succ_cons, List.take_zero]
      go_big_quiet_want
      refine quiet_build_to 70 _ rfl (entC (digX xd) xs xr) (by simp only [List.map_toArray, List.map_cons, List.map_nil]; exact built_ent (digX xd) xs xr hdl) ?_
      simp only [Act.put, List.setIfInBounds_toArray, List.set_cons_zero, List.set_cons_succ]
      go_big_quiet_on
      with_reducible refine wpQuiet_nil ?_
      exact TAIL _ hle0 wb HB
  intro b9 hs9 wb HB
  with_reducible refine plan_a ?_; simp only [List.drop_succ_cons, List.drop_zero, List.take_succ_cons, List.take_zero]
  refine ent_store rfl (.tmp 9) (.tmp 25) rfl b9 (digX xd) (zer 32) xs xr 0 0 rfl rfl HB.out.1 hdl rfl ?_
  refine gen_world (fun wx => Hid (wx.heap[b9]? = some (.cells (entC (digX xd) xs xr) 70) ∧ Below w1.heap.size w1 wx)) (Lib.hid ⟨setRow_heap _ _ _ _ _ (0, 0) HB.out.1, below_setRow HB.out.2 hs9 _⟩) ?_
  intro w5 H5
  simp only [Act.put]
  with_reducible refine wpList_nil ?_
  with_reducible refine mixQ_normal ?_
  refine ⟨grows_of_below H5.out.2, ?_⟩
  with_reducible refine plan_nil ?_
  have H6 : Hid (w5.heap[w.heap.size]? = some (.cells #[.int .i64 xk, .int .i64 xi, .int .u8 xd, .int .i64 xs, .int .i64 xr] 64) ∧ RnX g k w N tb bb n mb b9 M M (digX xd) xs xr w5) := Lib.hid ⟨(H5.out.2.block _ (lt_of_blk H1.out.1)).trans H1.out.1, RnX.start H.out (H1.out.2.trans (H5.out.2.mono H1.out.2.size)) (Nat.le_trans H1.out.2.size hs9) H5.out.1⟩
  obtain ⟨z0, z1, z2, z3, z4, y0, y1, y2, y3, y4⟩ := blk5 H6.out.1
  have HX := Lib.hid H6.out.2
  have HB9 : Hid (¬ N b9) := Lib.hid (fun hN => by have h1 := H.out.1.N_lt _ hN; have h2 := H1.out.2.size; omega)
  clear H6 H5 HB H1 H z2 z3 z4 y0 y1 y2 y3 y4 r2 r3 r4 hbd hle0 hs9
  generalize digX xd = dg at HDG HX hdl ⊢
  try simp only [Act.put]
  by_cases hok : 0 ≤ xi ∧ xi < (n : Int) ∧ 0 ≤ xr ∧ xr ≤ 15 ∧ 0 ≤ xs ∧ xs < 256
  · obtain ⟨q0, q1, q2, q3, q4, q5⟩ := hok
    obtain ⟨pz, hp⟩ := Int.eq_ofNat_of_zero_le q0
    have hpn : pz < n := by omega
    have hS := tb_set hn60.out hpn HDG.out ⟨q4, q5⟩ ⟨q2, q3⟩ HX.out.tb
    have HPN := Lib.hid (And.intro hp hpn)
    rw [← hp] at hS
    obtain ⟨y0, y1⟩ := ent_cells HDG.out.1 HX.out.box
    clear hp hpn
    go_wp2_with (first | (refine ent_load rfl (.tmp 9) rfl b9 dg xs xr rfl HX.out.box HDG.out.1 ?_))
    refine hS.mono ?_
    clear hS y0 y1
    rintro e wa ⟨rfl, hT, hk⟩
    have HA := Lib.hid (HX.out.turn hT hk)
    clear hT hk HX
    obtain ⟨y0, y1⟩ := ent_cells HDG.out.1 HA.out.box
    try dsimp only
    by_cases h0 : xr = 0
    · have HC0 := Lib.hid (rnCase0 (dg) (xs) h0)
      have h0' : (xr == 0) = true := by simp [h0]
      clear h0
      go_wp2_with (first | (at_delete; refine wpList_del_is _ rfl _ _ 62 3 rfl 70 (int_keyed Tryz.underlying3) Tryz.underlying62 mb (cntM M n) (enL M) rfl HA.out.map (.int .i64 xi) (.int .i64 xi) rfl (by rw [HPN.out.1]; exact int_lit pz (by have := HPN.out.2; have := hn60.out; omega)) ?_))
      intro wb hm ht
      have HB := Lib.hid (HA.out.del HPN.out.2 (by rw [← HPN.out.1]; exact hm) ht)
      clear hm ht HA y0 y1
      try simp only [Act.put]
      go_wp2_with fail
      go_ret
      rw [HC0.out] at HB
      exact ⟨rfl, _, HB.out.fin⟩
    · have hpos : 0 < xr := by omega
      have HC0 := Lib.hid (rnCase1 (dg) (xs) hpos)
      have h0' : (xr == 0) = false := by simp [h0]
      clear h0 hpos
      go_wp2_with (first | (refine ent_load rfl (.tmp 9) rfl b9 dg xs xr rfl HA.out.box HDG.out.1 ?_) | (refine wpList_store_cnt _ rfl _ _ _ 62 rfl 3 70 (int_keyed Tryz.underlying3) Tryz.underlying62 mb (cntM M n) (enL M) rfl HA.out.map (by have := cntM_le M n; have := hn60.out; unfold maxLen; omega) (.int .i64 xi) (.agg (entC dg xs xr)) (.int .i64 xi) rfl rfl (by rw [HPN.out.1]; exact int_lit pz (by have := HPN.out.2; have := hn60.out; omega)) ?_))
      intro wb hm ht
      have HB := Lib.hid (HA.out.put HPN.out.2 (by rw [← HPN.out.1]; exact hm) ht)
      clear hm ht HA y0 y1
      try simp only [Act.put]
      go_wp2_with fail
      go_ret
      rw [HC0.out] at HB
      exact ⟨rfl, _, HB.out.fin⟩
  · have hS := tb_bad HDG.out.1 hok _ HX.out.tb
    have hbad := six_bad hok
    obtain ⟨y0, y1⟩ := ent_cells HDG.out.1 HX.out.box
    clear hok
    rcases hbad with q | ⟨q0, q⟩ | ⟨q0, q1, q⟩ | ⟨q0, q1, q2, q⟩ | ⟨q0, q1, q2, q3, q⟩ | ⟨q0, q1, q2, q3, q4, q⟩
    all_goals try (exfalso; omega)
    all_goals
      go_wp2_with (first | (refine ent_load rfl (.tmp 9) rfl b9 dg xs xr rfl HX.out.box HDG.out.1 ?_))
      refine hS.mono ?_
      rintro e wa ⟨⟨t, x, rfl, he⟩, hb⟩
      have HA := Lib.hid (HX.out.below hb)
      have hNU := num08_err (.iface t x) 1 wa he HA.out.et
      clear he hb
      try dsimp only
      go_wp2_with fail
      refine hNU.mono ?_
      clear hNU
      rintro e wb ⟨rfl, hb⟩
      have HB := Lib.hid (HA.out.below hb)
      clear hb HA
      try dsimp only
      go_wp2_with fail
      go_ret
      exact ⟨rfl, _, HB.out.fin⟩
set_option maxRecDepth 100000 in
set_option maxHeartbeats 4000000 in
theorem run1 (hn60 : Hid (n ≤ 60)) (xk xi xd xs xr : Int) (hd : 0 ≤ xd ∧ xd < 256) (k1 : xk = 1) (w : World) (h : EnS g k N tb bb n mb M w) :
    Calls Tryz.prog 32 #[.pointer (some ⟨tb, 0, none⟩), .map (some mb), .int .i64 (n : Int), .agg #[.int .i64 xk, .int .i64 xi, .int .u8 xd, .int .i64 xs, .int .i64 xr]] w (RnP g k N tb bb n mb w) := by
  subst k1
  have H := Lib.hid h
  have HDG := Lib.hid (digX_ok xd hd)
  have hdl := HDG.out.1
  have hn60' := hn60.out
  have hb0 : ∀ o : Obj, Below w.heap.size w (w.alloc o) := fun o => (Below.refl _ _).alloc (Nat.le_refl _) _
  obtain ⟨d0, d1⟩ := hd
  clear h
  go_enter Tryz.func32, Tryz.ntmps32
  repeat ((fail_if_success (with_reducible refine stop_at 18 rfl ?_)); (first | go_values | go_skip | go_guarded | go_step | go_upon))
  refine gen_code (fun wx => Hid (wx.heap[w.heap.size]? = some (.cells #[.int .i64 1, .int .i64 xi, .int .u8 xd, .int .i64 xs, .int .i64 xr] 64) ∧ Below w.heap.size w wx)) (Lib.hid ⟨heap_alloc_new w _, hb0 _⟩) ?_
  clear hb0
  intro w1 H1
  obtain ⟨z0, z1, z2, z3, z4, y0, y1, y2, y3, y4⟩ := blk5 H1.out.1
  have r2 := cell_regrown z2
  have r3 := cell_regrown z3
  have r4 := cell_regrown z4
  clear z0 z1 z2 z3 z4 y0 y1 y2 y3 y4
  refine wp_region_plan (.quiet 0 (.quiet 1 (.quiet 3 (.quiet 4 (.quiet 5 (.quiet 6 (.two 2 8 (.quiet 7 (.one 8 (.one 9 .nil))) (.one 2 (.quiet 7 (.one 9 .nil))))))))))  (fun w' => ∃ p : Regrown, w' = Go.Sort.grow (redrawn w1 p.d) p.os) (by kernel_rfl) (by kernel_rfl) (fun _ _ d _ _ h => by cases d <;> exact h) (grows_drew _) ?_
  (repeat (with_reducible refine plan_q ?_; simp only [List.drop_succ_cons, List.drop_zero, List.take_succ_cons, List.take_zero]; go_big_quiet_step (fail); with_reducible refine wpQuiet_nil ?_))
  have hbd : Below w1.heap.size w1 w1.drew := (Below.refl _ _).drew
  have hle0 : w1.heap.size ≤ w1.heap.size := Nat.le_refl _
  apply tail_cut
  · intro TAIL
    with_reducible refine plan_two ?_ ?_
    · simp only [List.drop_succ_cons, List.drop_zero, List.take_succ_cons, List.take_zero]
      go_wp2_with fail
      refine (digest_any xd ⟨d0, d1⟩ w1.drew).mono ?_
      rintro e wa ⟨rfl, hba1⟩
      have hba2 : Below w1.heap.size w1 wa := hbd.trans hba1
      try dsimp only
      go_wp2_with fail
      (try with_reducible refine wpList_nil ?_); with_reducible refine mixQ_normal ?_
      refine ⟨grows_of_below hba2, ?_⟩
      with_reducible refine plan_q ?_
      simp only [List.drop_succ_cons, List.drop_zero, List.take_succ_cons, List.take_zero]
      go_big_quiet_want
      refine quiet_build_to 70 _ rfl (entC (digX xd) xs xr) (by simp only [List.map_toArray, List.map_cons, List.map_nil]; exact built_ent (digX xd) xs xr hdl) ?_
      simp only [Act.put, List.setIfInBounds_toArray, List.set_cons_zero, List.set_cons_succ]
      go_big_quiet_on
      with_reducible refine wpQuiet_nil ?_
      with_reducible refine plan_a ?_; simp only [List.drop_succ_cons, List.drop_zero, List.take_succ_cons, List.take_zero]
      have hbo : ∀ o : Obj, Below w1.heap.size w1 (wa.alloc o) := fun o => hba2.alloc hba2.size _
      have hsa := hba2.size
      go_wp2_with fail
      (try with_reducible refine wpList_nil ?_); with_reducible refine mixQ_normal ?_
      refine ⟨grows_of_below (hbo _), ?_⟩
      refine gen_plan (fun wx => Hid (wx.heap[wa.heap.size]? = some (.cells (entC (zer 32) 0 0) 70) ∧ Below w1.heap.size w1 wx)) (Lib.hid ⟨heap_alloc_new wa (.cells (entC (zer 32) 0 0) 70), hbo _⟩) ?_
      generalize wa.heap.size = b9 at hsa ⊢
      intro wb HA
      revert b9 wb
      exact TAIL
    · simp only [List.drop_succ_cons, List.drop_zero, List.take_succ_cons, List.take_zero]
      have hbo : ∀ o : Obj, Below w1.heap.size w1 (w1.drew.alloc o) := fun o => hbd.alloc (Nat.le_refl _) _
      go_wp2_with fail
      (try with_reducible refine wpList_nil ?_); with_reducible refine mixQ_normal ?_
      refine ⟨grows_of_below (hbo _), ?_⟩
      refine gen_plan (fun wx => Hid (wx.heap[w1.heap.size]? = some (.cells (entC (zer 32) 0 0) 70) ∧ Below w1.heap.size w1 wx)) (Lib.hid ⟨heap_alloc_new w1.drew (.cells (entC (zer 32) 0 0) 70), hbo _⟩) ?_
      intro wa HA
      with_reducible refine plan_a ?_; simp only [List.drop_succ_cons, List.drop_zero, List.take_succ_cons, List.take_zero]
      go_wp2_with fail
      refine (digest_any xd ⟨d0, d1⟩ wa).mono ?_
      rintro e wb ⟨rfl, hbb1⟩
      have hbb2 : Below w1.heap.size w1 wb := HA.out.2.trans (hbb1.mono HA.out.2.size)
      have HB : Hid (wb.heap[w1.heap.size]? = some (.cells (entC (zer 32) 0 0) 70) ∧ Below w1.heap.size w1 wb) := Lib.hid ⟨(hbb1.block _ (lt_of_blk HA.out.1)).trans HA.out.1, hbb2⟩
      try dsimp only
      go_wp2_with fail
      (try with_reducible refine wpList_nil ?_); with_reducible refine mixQ_normal ?_
      refine ⟨grows_of_below hbb2, ?_⟩
      with_reducible refine plan_q ?_
      simp only [List.drop_succ_cons, List.drop_zero, List.take_succ_cons, List.take_zero]
      go_big_quiet_want
      refine quiet_build_to 70 _ rfl (entC (digX xd) xs xr) (by simp only [List.map_toArray, List.map_cons, List.map_nil]; exact built_ent (digX xd) xs xr hdl) ?_
      simp only [Act.put, List.setIfInBounds_toArray, List.set_cons_zero, List.set_cons_succ]
      go_big_quiet_on
      with_reducible refine wpQuiet_nil ?_
      exact TAIL _ hle0 wb HB
  intro b9 hs9 wb HB
  with_reducible refine plan_a ?_; simp only [List.drop_succ_cons, List.drop_zero, List.take_succ_cons, List.take_zero]
  refine ent_store rfl (.tmp 9) (.tmp 25) rfl b9 (digX xd) (zer 32) xs xr 0 0 rfl rfl HB.out.1 hdl rfl ?_
  refine gen_world (fun wx => Hid (wx.heap[b9]? = some (.cells (entC (digX xd) xs xr) 70) ∧ Below w1.heap.size w1 wx)) (Lib.hid ⟨setRow_heap _ _ _ _ _ (0, 0) HB.out.1, below_setRow HB.out.2 hs9 _⟩) ?_
  intro w5 H5
  simp only [Act.put]
  with_reducible refine wpList_nil ?_
  with_reducible refine mixQ_normal ?_
  refine ⟨grows_of_below H5.out.2, ?_⟩
  with_reducible refine plan_nil ?_
  have H6 : Hid (w5.heap[w.heap.size]? = some (.cells #[.int .i64 1, .int .i64 xi, .int .u8 xd, .int .i64 xs, .int .i64 xr] 64) ∧ RnX g k w N tb bb n mb b9 M M (digX xd) xs xr w5) := Lib.hid ⟨(H5.out.2.block _ (lt_of_blk H1.out.1)).trans H1.out.1, RnX.start H.out (H1.out.2.trans (H5.out.2.mono H1.out.2.size)) (Nat.le_trans H1.out.2.size hs9) H5.out.1⟩
  obtain ⟨z0, z1, z2, z3, z4, y0, y1, y2, y3, y4⟩ := blk5 H6.out.1
  have HX := Lib.hid H6.out.2
  have HB9 : Hid (¬ N b9) := Lib.hid (fun hN => by have h1 := H.out.1.N_lt _ hN; have h2 := H1.out.2.size; omega)
  clear H6 H5 HB H1 H z2 z3 z4 y0 y1 y2 y3 y4 r2 r3 r4 hbd hle0 hs9
  generalize digX xd = dg at HDG HX hdl ⊢
  try simp only [Act.put]
  have hF := tb_free dg HDG.out HX.out.tb
  go_wp2_with (first | (refine dg_load rfl (.tmp 34) rfl b9 0 dg rfl (ent_rdg HX.out.box) hdl ?_))
  refine hF.mono ?_
  clear hF z0 z1
  rintro e wf ⟨hf, hbf⟩
  have HY := Lib.hid (HX.out.below hbf)
  clear HX hbf
  rcases hf with ⟨p, hp, hMp, rfl⟩ | ⟨hc, t, x, rfl, he⟩
  · clear hMp
    try dsimp only
    by_cases hok : 0 ≤ (p : Int) ∧ (p : Int) < (n : Int) ∧ 0 ≤ xr ∧ xr ≤ 15 ∧ 0 ≤ xs ∧ xs < 256
    · obtain ⟨q0, q1, q2, q3, q4, q5⟩ := hok
      obtain ⟨pz, hp⟩ := Int.eq_ofNat_of_zero_le q0
      have hpn : pz < n := by omega
      have hS := tb_set hn60.out hpn HDG.out ⟨q4, q5⟩ ⟨q2, q3⟩ HY.out.tb
      have HPN := Lib.hid (And.intro hp hpn)
      rw [← hp] at hS
      obtain ⟨y0, y1⟩ := ent_cells HDG.out.1 HY.out.box
      clear hp hpn
      go_wp2_with (first | (refine ent_load rfl (.tmp 9) rfl b9 dg xs xr rfl HY.out.box HDG.out.1 ?_))
      refine hS.mono ?_
      clear hS y0 y1
      rintro e wa ⟨rfl, hT, hk⟩
      have HA := Lib.hid (HY.out.turn hT hk)
      clear hT hk HY
      obtain ⟨y0, y1⟩ := ent_cells HDG.out.1 HA.out.box
      try dsimp only
      by_cases h0 : xr = 0
      · have HC0 := Lib.hid (rnCase0 (dg) (xs) h0)
        have h0' : (xr == 0) = true := by simp [h0]
        clear h0
        go_wp2_with (first | (at_delete; refine wpList_del_is _ rfl _ _ 62 3 rfl 70 (int_keyed Tryz.underlying3) Tryz.underlying62 mb (cntM M n) (enL M) rfl HA.out.map (.int .i64 (p : Int)) (.int .i64 (p : Int)) rfl (by rw [HPN.out.1]; exact int_lit pz (by have := HPN.out.2; have := hn60.out; omega)) ?_))
        intro wb hm ht
        have HB := Lib.hid (HA.out.del HPN.out.2 (by rw [← HPN.out.1]; exact hm) ht)
        clear hm ht HA y0 y1
        try simp only [Act.put]
        go_wp2_with fail
        go_ret
        rw [HC0.out] at HB
        exact ⟨rfl, _, HB.out.fin⟩
      · have hpos : 0 < xr := by omega
        have HC0 := Lib.hid (rnCase1 (dg) (xs) hpos)
        have h0' : (xr == 0) = false := by simp [h0]
        clear h0 hpos
        go_wp2_with (first | (refine ent_load rfl (.tmp 9) rfl b9 dg xs xr rfl HA.out.box HDG.out.1 ?_) | (refine wpList_store_cnt _ rfl _ _ _ 62 rfl 3 70 (int_keyed Tryz.underlying3) Tryz.underlying62 mb (cntM M n) (enL M) rfl HA.out.map (by have := cntM_le M n; have := hn60.out; unfold maxLen; omega) (.int .i64 (p : Int)) (.agg (entC dg xs xr)) (.int .i64 (p : Int)) rfl rfl (by rw [HPN.out.1]; exact int_lit pz (by have := HPN.out.2; have := hn60.out; omega)) ?_))
        intro wb hm ht
        have HB := Lib.hid (HA.out.put HPN.out.2 (by rw [← HPN.out.1]; exact hm) ht)
        clear hm ht HA y0 y1
        try simp only [Act.put]
        go_wp2_with fail
        go_ret
        rw [HC0.out] at HB
        exact ⟨rfl, _, HB.out.fin⟩
    · have hS := tb_bad HDG.out.1 hok _ HY.out.tb
      have hbad := six_bad hok
      obtain ⟨y0, y1⟩ := ent_cells HDG.out.1 HY.out.box
      clear hok
      rcases hbad with q | ⟨q0, q⟩ | ⟨q0, q1, q⟩ | ⟨q0, q1, q2, q⟩ | ⟨q0, q1, q2, q3, q⟩ | ⟨q0, q1, q2, q3, q4, q⟩
      all_goals try (exfalso; omega)
      all_goals
        go_wp2_with (first | (refine ent_load rfl (.tmp 9) rfl b9 dg xs xr rfl HY.out.box HDG.out.1 ?_))
        refine hS.mono ?_
        rintro e wa ⟨⟨t, x, rfl, he⟩, hb⟩
        have HA := Lib.hid (HY.out.below hb)
        have hNU := num08_err (.iface t x) 1 wa he HA.out.et
        clear he hb
        try dsimp only
        go_wp2_with fail
        refine hNU.mono ?_
        clear hNU
        rintro e wb ⟨rfl, hb⟩
        have HB := Lib.hid (HA.out.below hb)
        clear hb HA
        try dsimp only
        go_wp2_with fail
        go_ret
        exact ⟨rfl, _, HB.out.fin⟩
  · have hNU := num08_err (.iface t x) 21 wf he HY.out.et
    clear he
    try dsimp only
    go_wp2_with fail
    refine hNU.mono ?_
    clear hNU
    rintro e wg ⟨rfl, hbg⟩
    have HZ := Lib.hid (HY.out.below hbg)
    clear hbg HY
    have hcc : ((cntM M n : Int) == (n : Int)) = true := by simp [hc]
    try dsimp only
    go_wp2_with (first | (refine len_is_g _ rfl _ 62 rfl 3 70 Tryz.underlying62 mb (cntM M n) (enL M) rfl HZ.out.map ?_))
    go_ret
    exact ⟨rfl, _, HZ.out.fin⟩
set_option maxRecDepth 100000 in
set_option maxHeartbeats 4000000 in
theorem run2 (hn60 : Hid (n ≤ 60)) (xk xi xd xs xr : Int) (hd : 0 ≤ xd ∧ xd < 256) (k2 : xk = 2) (w : World) (h : EnS g k N tb bb n mb M w) :
    Calls Tryz.prog 32 #[.pointer (some ⟨tb, 0, none⟩), .map (some mb), .int .i64 (n : Int), .agg #[.int .i64 xk, .int .i64 xi, .int .u8 xd, .int .i64 xs, .int .i64 xr]] w (RnP g k N tb bb n mb w) := by
  subst k2
  have H := Lib.hid h
  have HDG := Lib.hid (digX_ok xd hd)
  have hdl := HDG.out.1
  have hn60' := hn60.out
  have hb0 : ∀ o : Obj, Below w.heap.size w (w.alloc o) := fun o => (Below.refl _ _).alloc (Nat.le_refl _) _
  obtain ⟨d0, d1⟩ := hd
  clear h
  go_enter Tryz.func32, Tryz.ntmps32
  repeat ((fail_if_success (with_reducible refine stop_at 18 rfl ?_)); (first | go_values | go_skip | go_guarded | go_step | go_upon))
  refine gen_code (fun wx => Hid (wx.heap[w.heap.size]? = some (.cells #[.int .i64 2, .int .i64 xi, .int .u8 xd, .int .i64 xs, .int .i64 xr] 64) ∧ Below w.heap.size w wx)) (Lib.hid ⟨heap_alloc_new w _, hb0 _⟩) ?_
  clear hb0
  intro w1 H1
  obtain ⟨z0, z1, z2, z3, z4, y0, y1, y2, y3, y4⟩ := blk5 H1.out.1
  have r2 := cell_regrown z2
  have r3 := cell_regrown z3
  have r4 := cell_regrown z4
  clear z0 z1 z2 z3 z4 y0 y1 y2 y3 y4
  refine wp_region_plan (.quiet 0 (.quiet 1 (.quiet 3 (.quiet 4 (.quiet 5 (.quiet 6 (.two 2 8 (.quiet 7 (.one 8 (.one 9 .nil))) (.one 2 (.quiet 7 (.one 9 .nil))))))))))  (fun w' => ∃ p : Regrown, w' = Go.Sort.grow (redrawn w1 p.d) p.os) (by kernel_rfl) (by kernel_rfl) (fun _ _ d _ _ h => by cases d <;> exact h) (grows_drew _) ?_
  (repeat (with_reducible refine plan_q ?_; simp only [List.drop_succ_cons, List.drop_zero, List.take_succ_cons, List.take_zero]; go_big_quiet_step (fail); with_reducible refine wpQuiet_nil ?_))
  have hbd : Below w1.heap.size w1 w1.drew := (Below.refl _ _).drew
  have hle0 : w1.heap.size ≤ w1.heap.size := Nat.le_refl _
  apply tail_cut
  · intro TAIL
    with_reducible refine plan_two ?_ ?_
    · simp only [List.drop_succ_cons, List.drop_zero, List.take_succ_cons, List.take_zero]
      go_wp2_with fail
      refine (digest_any xd ⟨d0, d1⟩ w1.drew).mono ?_
      rintro e wa ⟨rfl, hba1⟩
      have hba2 : Below w1.heap.size w1 wa := hbd.trans hba1
      try dsimp only
      go_wp2_with fail
      (try with_reducible refine wpList_nil ?_); with_reducible refine mixQ_normal ?_
      refine ⟨grows_of_below hba2, ?_⟩
      with_reducible refine plan_q ?_
      simp only [List.drop_succ_cons, List.drop_zero, List.take_succ_cons, List.take_zero]
      go_big_quiet_want
      refine quiet_build_to 70 _ rfl (entC (digX xd) xs xr) (by simp only [List.map_toArray, List.map_cons, List.map_nil]; exact built_ent (digX xd) xs xr hdl) ?_
      simp only [Act.put, List.setIfInBounds_toArray, List.set_cons_zero, List.set_cons_succ]
      go_big_quiet_on
      with_reducible refine wpQuiet_nil ?_
      with_reducible refine plan_a ?_; simp only [List.drop_succ_cons, List.drop_zero, List.take_succ_cons, List.take_zero]
      have hbo : ∀ o : Obj, Below w1.heap.size w1 (wa.alloc o) := fun o => hba2.alloc hba2.size _
      have hsa := hba2.size
      go_wp2_with fail
      (try with_reducible refine wpList_nil ?_); with_reducible refine mixQ_normal ?_
      refine ⟨grows_of_below (hbo _), ?_⟩
      refine gen_plan (fun wx => Hid (wx.heap[wa.heap.size]? = some (.cells (entC (zer 32) 0 0) 70) ∧ Below w1.heap.size w1 wx)) (Lib.hid ⟨heap_alloc_new wa (.cells (entC (zer 32) 0 0) 70), hbo _⟩) ?_
      generalize wa.heap.size = b9 at hsa ⊢
      intro wb HA
      revert b9 wb
      exact TAIL
    · simp only [List.drop_succ_cons, List.drop_zero, List.take_succ_cons, List.take_zero]
      have hbo : ∀ o : Obj, Below w1.heap.size w1 (w1.drew.alloc o) := fun o => hbd.alloc (Nat.le_refl _) _
      go_wp2_with fail
      (try with_reducible refine wpList_nil ?_); with_reducible refine mixQ_normal ?_
      refine ⟨grows_of_below (hbo _), ?_⟩
      refine gen_plan (fun wx => Hid (wx.heap[w1.heap.size]? = some (.cells (entC (zer 32) 0 0) 70) ∧ Below w1.heap.size w1 wx)) (Lib.hid ⟨heap_alloc_new w1.drew (.cells (entC (zer 32) 0 0) 70), hbo _⟩) ?_
      intro wa HA
      with_reducible refine plan_a ?_; simp only [List.drop_succ_cons, List.drop_zero, List.take_succ_cons, List.take_zero]
      go_wp2_with fail
      refine (digest_any xd ⟨d0, d1⟩ wa).mono ?_
      rintro e wb ⟨rfl, hbb1⟩
      have hbb2 : Below w1.heap.size w1 wb := HA.out.2.trans (hbb1.mono HA.out.2.size)
      have HB : Hid (wb.heap[w1.heap.size]? = some (.cells (entC (zer 32) 0 0) 70) ∧ Below w1.heap.size w1 wb) := Lib.hid ⟨(hbb1.block _ (lt_of_blk HA.out.1)).trans HA.out.1, hbb2⟩
      try dsimp only
      go_wp2_with fail
      (try with_reducible refine wpList_nil ?_); with_reducible refine mixQ_normal ?_
      refine ⟨grows_of_below hbb2, ?_⟩
      with_reducible refine plan_q ?_
      simp only [List.drop_succ_cons, List.drop_zero, List.take_succ_cons, List.take_zero]
      go_big_quiet_want
      refine quiet_build_to 70 _ rfl (entC (digX xd) xs xr) (by simp only [List.map_toArray, List.map_cons, List.map_nil]; exact built_ent (digX xd) xs xr hdl) ?_
      simp only [Act.put, List.setIfInBounds_toArray, List.set_cons_zero, List.set_cons_succ]
      go_big_quiet_on
      with_reducible refine wpQuiet_nil ?_
      exact TAIL _ hle0 wb HB
  intro b9 hs9 wb HB
  with_reducible refine plan_a ?_; simp only [List.drop_succ_cons, List.drop_zero, List.take_succ_cons, List.take_zero]
  refine ent_store rfl (.tmp 9) (.tmp 25) rfl b9 (digX xd) (zer 32) xs xr 0 0 rfl rfl HB.out.1 hdl rfl ?_
  refine gen_world (fun wx => Hid (wx.heap[b9]? = some (.cells (entC (digX xd) xs xr) 70) ∧ Below w1.heap.size w1 wx)) (Lib.hid ⟨setRow_heap _ _ _ _ _ (0, 0) HB.out.1, below_setRow HB.out.2 hs9 _⟩) ?_
  intro w5 H5
  simp only [Act.put]
  with_reducible refine wpList_nil ?_
  with_reducible refine mixQ_normal ?_
  refine ⟨grows_of_below H5.out.2, ?_⟩
  with_reducible refine plan_nil ?_
  have H6 : Hid (w5.heap[w.heap.size]? = some (.cells #[.int .i64 2, .int .i64 xi, .int .u8 xd, .int .i64 xs, .int .i64 xr] 64) ∧ RnX g k w N tb bb n mb b9 M M (digX xd) xs xr w5) := Lib.hid ⟨(H5.out.2.block _ (lt_of_blk H1.out.1)).trans H1.out.1, RnX.start H.out (H1.out.2.trans (H5.out.2.mono H1.out.2.size)) (Nat.le_trans H1.out.2.size hs9) H5.out.1⟩
  obtain ⟨z0, z1, z2, z3, z4, y0, y1, y2, y3, y4⟩ := blk5 H6.out.1
  have HX := Lib.hid H6.out.2
  have HB9 : Hid (¬ N b9) := Lib.hid (fun hN => by have h1 := H.out.1.N_lt _ hN; have h2 := H1.out.2.size; omega)
  clear H6 H5 HB H1 H z2 z3 z4 y0 y1 y2 y3 y4 r2 r3 r4 hbd hle0 hs9
  generalize digX xd = dg at HDG HX hdl ⊢
  try simp only [Act.put]
  have hF := tb_find dg HDG.out HX.out.tb
  go_wp2_with (first | (refine dg_load rfl (.tmp 55) rfl b9 0 dg rfl (ent_rdg HX.out.box) hdl ?_))
  refine hF.mono ?_
  clear hF z0 z1
  rintro e wf ⟨hf, hbf⟩
  have HY := Lib.hid (HX.out.below hbf)
  clear HX hbf
  rcases hf with ⟨p, e', hp, hMp, hdg, hrf, _, rfl⟩ | ⟨_, rfl⟩
  · have hok := HY.out.tb.ok p e' hp hMp
    obtain ⟨dg', sl', rf'⟩ := e'
    dsimp only at hdg hrf hok
    subst hdg
    have hr1 := hok.2.2.1
    dsimp only at hr1
    have hen : enD (M p) = (dg', sl', rf') := by rw [hMp]; rfl
    have hsl := hok.2.1
    dsimp only at hsl
    clear hMp hok
    try dsimp only
    go_wp2_with fail
    refine wp_region_mix [(0, true), (1, true), (2, true), (4, true), (3, false), (5, false)] 5 (fun w' => ∃ p : Regrown, w' = Go.Sort.grow (redrawn wf p.d) p.os) (by kernel_rfl) (by kernel_rfl) (fun _ _ d _ _ h => by cases d <;> exact h) (grows_drew _) ?_
    (repeat (with_reducible refine mix_q ?_; simp only [List.drop_succ_cons, List.drop_zero, List.take_succ_cons, List.take_zero]; go_big_quiet_step (fail); with_reducible refine wpQuiet_nil ?_))
    have HYd := Lib.hid (HY.out.below (Below.refl _ _).drew)
    with_reducible refine mix_a ?_; simp only [List.drop_succ_cons, List.drop_zero, List.take_succ_cons, List.take_zero]
    refine en_look rfl _ _ rfl mb (cntM M n) p M (by omega) rfl rfl HYd.out.map ?_
    rw [hen]
    simp only [Act.put, List.setIfInBounds_toArray, List.set_cons_zero, List.set_cons_succ]
    try with_reducible refine wpList_nil ?_
    with_reducible refine mixQ_normal ?_
    refine ⟨fun _ => grows_of_below (Below.refl _ _).drew, ?_⟩
    with_reducible refine mix_a ?_; simp only [List.drop_succ_cons, List.drop_zero, List.take_succ_cons, List.take_zero]
    refine ent_store rfl (.tmp 9) (.tmp 68) rfl b9 dg' dg' sl' rf' xs xr rfl rfl HYd.out.box hdl hdl ?_
    refine gen_world (fun wx => Hid (RnX g k w N tb bb n mb b9 M M dg' sl' rf' wx)) (Lib.hid (HYd.out.boxed (grown_row _ _ _) (setRow_heap _ _ _ _ _ (0, 0) HYd.out.box) HB9.out)) ?_
    clear HY HYd
    intro wg HZ
    try simp only [Act.put]
    try with_reducible refine wpList_nil ?_
    refine mixQ_normal ⟨fun h => absurd h (by simp), mix_nil ?_⟩
    obtain ⟨y0, y1⟩ := ent_cells hdl HZ.out.box
    have f1 := ent_fr HZ.out.box 33
    repeat ((fail_if_success (with_reducible refine stop_at 76 rfl ?_)); (first | go_values | go_skip | go_guarded | go_step | go_upon))
    refine gen_world (fun wx => Hid (RnX g k w N tb bb n mb b9 M M dg' sl' (rf' + 1) wx)) (Lib.hid (HZ.out.boxed (grown_set _ _ _ _) (ent_rf_set hdl HZ.out.box _) HB9.out)) ?_
    clear HZ y0 y1 f1
    intro wh HQ
    try simp only [Act.put]
    obtain ⟨rq, hrq⟩ : ∃ rq, rf' + 1 = rq := ⟨_, rfl⟩
    rw [hrq] at HQ
    have hq1 : 2 ≤ rq ∧ rq ≤ 15 := by omega
    clear hrq hrf hr1 hen
    by_cases hok : 0 ≤ (p : Int) ∧ (p : Int) < (n : Int) ∧ 0 ≤ rq ∧ rq ≤ 15 ∧ 0 ≤ sl' ∧ sl' < 256
    · obtain ⟨q0, q1, q2, q3, q4, q5⟩ := hok
      obtain ⟨pz, hp⟩ := Int.eq_ofNat_of_zero_le q0
      have hpn : pz < n := by omega
      have hS := tb_set hn60.out hpn HDG.out ⟨q4, q5⟩ ⟨q2, q3⟩ HQ.out.tb
      have HPN := Lib.hid (And.intro hp hpn)
      rw [← hp] at hS
      obtain ⟨y0, y1⟩ := ent_cells HDG.out.1 HQ.out.box
      clear hp hpn
      go_wp2_with (first | (refine ent_load rfl (.tmp 9) rfl b9 dg' sl' rq rfl HQ.out.box HDG.out.1 ?_))
      refine hS.mono ?_
      clear hS y0 y1
      rintro e wa ⟨rfl, hT, hk⟩
      have HA := Lib.hid (HQ.out.turn hT hk)
      clear hT hk HQ
      obtain ⟨y0, y1⟩ := ent_cells HDG.out.1 HA.out.box
      try dsimp only
      by_cases h0 : rq = 0
      · have HC0 := Lib.hid (rnCase0 (dg') (sl') h0)
        have h0' : (rq == 0) = true := by simp [h0]
        clear h0
        go_wp2_with (first | (at_delete; refine wpList_del_is _ rfl _ _ 62 3 rfl 70 (int_keyed Tryz.underlying3) Tryz.underlying62 mb (cntM M n) (enL M) rfl HA.out.map (.int .i64 (p : Int)) (.int .i64 (p : Int)) rfl (by rw [HPN.out.1]; exact int_lit pz (by have := HPN.out.2; have := hn60.out; omega)) ?_))
        intro wb hm ht
        have HB := Lib.hid (HA.out.del HPN.out.2 (by rw [← HPN.out.1]; exact hm) ht)
        clear hm ht HA y0 y1
        try simp only [Act.put]
        go_wp2_with fail
        go_ret
        rw [HC0.out] at HB
        exact ⟨rfl, _, HB.out.fin⟩
      · have hpos : 0 < rq := by omega
        have HC0 := Lib.hid (rnCase1 (dg') (sl') hpos)
        have h0' : (rq == 0) = false := by simp [h0]
        clear h0 hpos
        go_wp2_with (first | (refine ent_load rfl (.tmp 9) rfl b9 dg' sl' rq rfl HA.out.box HDG.out.1 ?_) | (refine wpList_store_cnt _ rfl _ _ _ 62 rfl 3 70 (int_keyed Tryz.underlying3) Tryz.underlying62 mb (cntM M n) (enL M) rfl HA.out.map (by have := cntM_le M n; have := hn60.out; unfold maxLen; omega) (.int .i64 (p : Int)) (.agg (entC dg' sl' rq)) (.int .i64 (p : Int)) rfl rfl (by rw [HPN.out.1]; exact int_lit pz (by have := HPN.out.2; have := hn60.out; omega)) ?_))
        intro wb hm ht
        have HB := Lib.hid (HA.out.put HPN.out.2 (by rw [← HPN.out.1]; exact hm) ht)
        clear hm ht HA y0 y1
        try simp only [Act.put]
        go_wp2_with fail
        go_ret
        rw [HC0.out] at HB
        exact ⟨rfl, _, HB.out.fin⟩
    · have hS := tb_bad HDG.out.1 hok _ HQ.out.tb
      have hbad := six_bad hok
      obtain ⟨y0, y1⟩ := ent_cells HDG.out.1 HQ.out.box
      clear hok
      rcases hbad with q | ⟨q0, q⟩ | ⟨q0, q1, q⟩ | ⟨q0, q1, q2, q⟩ | ⟨q0, q1, q2, q3, q⟩ | ⟨q0, q1, q2, q3, q4, q⟩
      all_goals try (exfalso; omega)
      all_goals
        go_wp2_with (first | (refine ent_load rfl (.tmp 9) rfl b9 dg' sl' rq rfl HQ.out.box HDG.out.1 ?_))
        refine hS.mono ?_
        rintro e wa ⟨⟨t, x, rfl, he⟩, hb⟩
        have HA := Lib.hid (HQ.out.below hb)
        have hNU := num08_err (.iface t x) 1 wa he HA.out.et
        clear he hb
        try dsimp only
        go_wp2_with fail
        refine hNU.mono ?_
        clear hNU
        rintro e wb ⟨rfl, hb⟩
        have HB := Lib.hid (HA.out.below hb)
        clear hb HA
        try dsimp only
        go_wp2_with fail
        go_ret
        exact ⟨rfl, _, HB.out.fin⟩
  · try dsimp only
    go_wp2_with fail
    go_ret
    exact ⟨rfl, _, HY.out.fin⟩
set_option maxRecDepth 100000 in
set_option maxHeartbeats 4000000 in
theorem run3 (hn60 : Hid (n ≤ 60)) (xk xi xd xs xr : Int) (hd : 0 ≤ xd ∧ xd < 256) (k3 : xk = 3) (w : World) (h : EnS g k N tb bb n mb M w) :
    Calls Tryz.prog 32 #[.pointer (some ⟨tb, 0, none⟩), .map (some mb), .int .i64 (n : Int), .agg #[.int .i64 xk, .int .i64 xi, .int .u8 xd, .int .i64 xs, .int .i64 xr]] w (RnP g k N tb bb n mb w) := by
  subst k3
  have H := Lib.hid h
  have HDG := Lib.hid (digX_ok xd hd)
  have hdl := HDG.out.1
  have hn60' := hn60.out
  have hb0 : ∀ o : Obj, Below w.heap.size w (w.alloc o) := fun o => (Below.refl _ _).alloc (Nat.le_refl _) _
  obtain ⟨d0, d1⟩ := hd
  clear h
  go_enter Tryz.func32, Tryz.ntmps32
  repeat ((fail_if_success (with_reducible refine stop_at 18 rfl ?_)); (first | go_values | go_skip | go_guarded | go_step | go_upon))
  refine gen_code (fun wx => Hid (wx.heap[w.heap.size]? = some (.cells #[.int .i64 3, .int .i64 xi, .int .u8 xd, .int .i64 xs, .int .i64 xr] 64) ∧ Below w.heap.size w wx)) (Lib.hid ⟨heap_alloc_new w _, hb0 _⟩) ?_
  clear hb0
  intro w1 H1
  obtain ⟨z0, z1, z2, z3, z4, y0, y1, y2, y3, y4⟩ := blk5 H1.out.1
  have r2 := cell_regrown z2
  have r3 := cell_regrown z3
  have r4 := cell_regrown z4
  clear z0 z1 z2 z3 z4 y0 y1 y2 y3 y4
  refine wp_region_plan (.quiet 0 (.quiet 1 (.quiet 3 (.quiet 4 (.quiet 5 (.quiet 6 (.two 2 8 (.quiet 7 (.one 8 (.one 9 .nil))) (.one 2 (.quiet 7 (.one 9 .nil))))))))))  (fun w' => ∃ p : Regrown, w' = Go.Sort.grow (redrawn w1 p.d) p.os) (by kernel_rfl) (by kernel_rfl) (fun _ _ d _ _ h => by cases d <;> exact h) (grows_drew _) ?_
  (repeat (with_reducible refine plan_q ?_; simp only [List.drop_succ_cons, List.drop_zero, List.take_succ_cons, List.take_zero]; go_big_quiet_step (fail); with_reducible refine wpQuiet_nil ?_))
  have hbd : Below w1.heap.size w1 w1.drew := (Below.refl _ _).drew
  have hle0 : w1.heap.size ≤ w1.heap.size := Nat.le_refl _
  apply tail_cut
  · intro TAIL
    with_reducible refine plan_two ?_ ?_
    · simp only [List.drop_succ_cons, List.drop_zero, List.take_succ_cons, List.take_zero]
      go_wp2_with fail
      refine (digest_any xd ⟨d0, d1⟩ w1.drew).mono ?_
      rintro e wa ⟨rfl, hba1⟩
      have hba2 : Below w1.heap.size w1 wa := hbd.trans hba1
      try dsimp only
      go_wp2_with fail
      (try with_reducible refine wpList_nil ?_); with_reducible refine mixQ_normal ?_
      refine ⟨grows_of_below hba2, ?_⟩
      with_reducible refine plan_q ?_
      simp only [List.drop_succ_cons, List.drop_zero, List.take_succ_cons, List.take_zero]
      go_big_quiet_want
      refine quiet_build_to 70 _ rfl (entC (digX xd) xs xr) (by simp only [List.map_toArray, List.map_cons, List.map_nil]; exact built_ent (digX xd) xs xr hdl) ?_
      simp only [Act.put, List.setIfInBounds_toArray, List.set_cons_zero, List.set_cons_succ]
      go_big_quiet_on
      with_reducible refine wpQuiet_nil ?_
      with_reducible refine plan_a ?_; simp only [List.drop_succ_cons, List.drop_zero, List.take_succ_cons, List.take_zero]
      have hbo : ∀ o : Obj, Below w1.heap.size w1 (wa.alloc o) := fun o => hba2.alloc hba2.size _
      have hsa := hba2.size
      go_wp2_with fail
      (try with_reducible refine wpList_nil ?_); with_reducible refine mixQ_normal ?_
      refine ⟨grows_of_below (hbo _), ?_⟩
      refine gen_plan (fun wx => Hid (wx.heap[wa.heap.size]? = some (.cells (entC (zer 32) 0 0) 70) ∧ Below w1.heap.size w1 wx)) (Lib.hid ⟨heap_alloc_new wa (.cells (entC (zer 32) 0 0) 70), hbo _⟩) ?_
      generalize wa.heap.size = b9 at hsa ⊢
      intro wb HA
      revert b9 wb
      exact TAIL
    · simp only [List.drop_succ_cons, List.drop_zero, List.take_succ_cons, List.take_zero]
      have hbo : ∀ o : Obj, Below w1.heap.size w1 (w1.drew.alloc o) := fun o => hbd.alloc (Nat.le_refl _) _
      go_wp2_with fail
      (try with_reducible refine wpList_nil ?_); with_reducible refine mixQ_normal ?_
      refine ⟨grows_of_below (hbo _), ?_⟩
      refine gen_plan (fun wx => Hid (wx.heap[w1.heap.size]? = some (.cells (entC (zer 32) 0 0) 70) ∧ Below w1.heap.size w1 wx)) (Lib.hid ⟨heap_alloc_new w1.drew (.cells (entC (zer 32) 0 0) 70), hbo _⟩) ?_
      intro wa HA
      with_reducible refine plan_a ?_; simp only [List.drop_succ_cons, List.drop_zero, List.take_succ_cons, List.take_zero]
      go_wp2_with fail
      refine (digest_any xd ⟨d0, d1⟩ wa).mono ?_
      rintro e wb ⟨rfl, hbb1⟩
      have hbb2 : Below w1.heap.size w1 wb := HA.out.2.trans (hbb1.mono HA.out.2.size)
      have HB : Hid (wb.heap[w1.heap.size]? = some (.cells (entC (zer 32) 0 0) 70) ∧ Below w1.heap.size w1 wb) := Lib.hid ⟨(hbb1.block _ (lt_of_blk HA.out.1)).trans HA.out.1, hbb2⟩
      try dsimp only
      go_wp2_with fail
      (try with_reducible refine wpList_nil ?_); with_reducible refine mixQ_normal ?_
      refine ⟨grows_of_below hbb2, ?_⟩
      with_reducible refine plan_q ?_
      simp only [List.drop_succ_cons, List.drop_zero, List.take_succ_cons, List.take_zero]
      go_big_quiet_want
      refine quiet_build_to 70 _ rfl (entC (digX xd) xs xr) (by simp only [List.map_toArray, List.map_cons, List.map_nil]; exact built_ent (digX xd) xs xr hdl) ?_
      simp only [Act.put, List.setIfInBounds_toArray, List.set_cons_zero, List.set_cons_succ]
      go_big_quiet_on
      with_reducible refine wpQuiet_nil ?_
      exact TAIL _ hle0 wb HB
  intro b9 hs9 wb HB
  with_reducible refine plan_a ?_; simp only [List.drop_succ_cons, List.drop_zero, List.take_succ_cons, List.take_zero]
  refine ent_store rfl (.tmp 9) (.tmp 25) rfl b9 (digX xd) (zer 32) xs xr 0 0 rfl rfl HB.out.1 hdl rfl ?_
  refine gen_world (fun wx => Hid (wx.heap[b9]? = some (.cells (entC (digX xd) xs xr) 70) ∧ Below w1.heap.size w1 wx)) (Lib.hid ⟨setRow_heap _ _ _ _ _ (0, 0) HB.out.1, below_setRow HB.out.2 hs9 _⟩) ?_
  intro w5 H5
  simp only [Act.put]
  with_reducible refine wpList_nil ?_
  with_reducible refine mixQ_normal ?_
  refine ⟨grows_of_below H5.out.2, ?_⟩
  with_reducible refine plan_nil ?_
  have H6 : Hid (w5.heap[w.heap.size]? = some (.cells #[.int .i64 3, .int .i64 xi, .int .u8 xd, .int .i64 xs, .int .i64 xr] 64) ∧ RnX g k w N tb bb n mb b9 M M (digX xd) xs xr w5) := Lib.hid ⟨(H5.out.2.block _ (lt_of_blk H1.out.1)).trans H1.out.1, RnX.start H.out (H1.out.2.trans (H5.out.2.mono H1.out.2.size)) (Nat.le_trans H1.out.2.size hs9) H5.out.1⟩
  obtain ⟨z0, z1, z2, z3, z4, y0, y1, y2, y3, y4⟩ := blk5 H6.out.1
  have HX := Lib.hid H6.out.2
  have HB9 : Hid (¬ N b9) := Lib.hid (fun hN => by have h1 := H.out.1.N_lt _ hN; have h2 := H1.out.2.size; omega)
  clear H6 H5 HB H1 H z2 z3 z4 y0 y1 y2 y3 y4 r2 r3 r4 hbd hle0 hs9
  generalize digX xd = dg at HDG HX hdl ⊢
  try simp only [Act.put]
  obtain ⟨y0, y1⟩ := ent_cells hdl HX.out.box
  have f1 := ent_fr HX.out.box 33
  repeat ((fail_if_success (with_reducible refine stop_at 76 rfl ?_)); (first | go_values | go_skip | go_guarded | go_step | go_upon))
  refine gen_world (fun wx => Hid (RnX g k w N tb bb n mb b9 M M dg xs 0 wx)) (Lib.hid (HX.out.boxed (grown_set _ _ _ _) (ent_rf_set hdl HX.out.box 0) HB9.out)) ?_
  clear HX y0 y1 f1 z0 z1
  intro wh HQ
  try simp only [Act.put]
  obtain ⟨rq, HQ⟩ : ∃ rq, Hid (RnX g k w N tb bb n mb b9 M M dg xs rq wh) := ⟨0, HQ⟩
  by_cases hok : 0 ≤ xi ∧ xi < (n : Int) ∧ 0 ≤ rq ∧ rq ≤ 15 ∧ 0 ≤ xs ∧ xs < 256
  · obtain ⟨q0, q1, q2, q3, q4, q5⟩ := hok
    obtain ⟨pz, hp⟩ := Int.eq_ofNat_of_zero_le q0
    have hpn : pz < n := by omega
    have hS := tb_set hn60.out hpn HDG.out ⟨q4, q5⟩ ⟨q2, q3⟩ HQ.out.tb
    have HPN := Lib.hid (And.intro hp hpn)
    rw [← hp] at hS
    obtain ⟨y0, y1⟩ := ent_cells HDG.out.1 HQ.out.box
    clear hp hpn
    go_wp2_with (first | (refine ent_load rfl (.tmp 9) rfl b9 dg xs rq rfl HQ.out.box HDG.out.1 ?_))
    refine hS.mono ?_
    clear hS y0 y1
    rintro e wa ⟨rfl, hT, hk⟩
    have HA := Lib.hid (HQ.out.turn hT hk)
    clear hT hk HQ
    obtain ⟨y0, y1⟩ := ent_cells HDG.out.1 HA.out.box
    try dsimp only
    by_cases h0 : rq = 0
    · have HC0 := Lib.hid (rnCase0 (dg) (xs) h0)
      have h0' : (rq == 0) = true := by simp [h0]
      clear h0
      go_wp2_with (first | (at_delete; refine wpList_del_is _ rfl _ _ 62 3 rfl 70 (int_keyed Tryz.underlying3) Tryz.underlying62 mb (cntM M n) (enL M) rfl HA.out.map (.int .i64 xi) (.int .i64 xi) rfl (by rw [HPN.out.1]; exact int_lit pz (by have := HPN.out.2; have := hn60.out; omega)) ?_))
      intro wb hm ht
      have HB := Lib.hid (HA.out.del HPN.out.2 (by rw [← HPN.out.1]; exact hm) ht)
      clear hm ht HA y0 y1
      try simp only [Act.put]
      go_wp2_with fail
      go_ret
      rw [HC0.out] at HB
      exact ⟨rfl, _, HB.out.fin⟩
    · have hpos : 0 < rq := by omega
      have HC0 := Lib.hid (rnCase1 (dg) (xs) hpos)
      have h0' : (rq == 0) = false := by simp [h0]
      clear h0 hpos
      go_wp2_with (first | (refine ent_load rfl (.tmp 9) rfl b9 dg xs rq rfl HA.out.box HDG.out.1 ?_) | (refine wpList_store_cnt _ rfl _ _ _ 62 rfl 3 70 (int_keyed Tryz.underlying3) Tryz.underlying62 mb (cntM M n) (enL M) rfl HA.out.map (by have := cntM_le M n; have := hn60.out; unfold maxLen; omega) (.int .i64 xi) (.agg (entC dg xs rq)) (.int .i64 xi) rfl rfl (by rw [HPN.out.1]; exact int_lit pz (by have := HPN.out.2; have := hn60.out; omega)) ?_))
      intro wb hm ht
      have HB := Lib.hid (HA.out.put HPN.out.2 (by rw [← HPN.out.1]; exact hm) ht)
      clear hm ht HA y0 y1
      try simp only [Act.put]
      go_wp2_with fail
      go_ret
      rw [HC0.out] at HB
      exact ⟨rfl, _, HB.out.fin⟩
  · have hS := tb_bad HDG.out.1 hok _ HQ.out.tb
    have hbad := six_bad hok
    obtain ⟨y0, y1⟩ := ent_cells HDG.out.1 HQ.out.box
    clear hok
    rcases hbad with q | ⟨q0, q⟩ | ⟨q0, q1, q⟩ | ⟨q0, q1, q2, q⟩ | ⟨q0, q1, q2, q3, q⟩ | ⟨q0, q1, q2, q3, q4, q⟩
    all_goals try (exfalso; omega)
    all_goals
      go_wp2_with (first | (refine ent_load rfl (.tmp 9) rfl b9 dg xs rq rfl HQ.out.box HDG.out.1 ?_))
      refine hS.mono ?_
      rintro e wa ⟨⟨t, x, rfl, he⟩, hb⟩
      have HA := Lib.hid (HQ.out.below hb)
      have hNU := num08_err (.iface t x) 1 wa he HA.out.et
      clear he hb
      try dsimp only
      go_wp2_with fail
      refine hNU.mono ?_
      clear hNU
      rintro e wb ⟨rfl, hb⟩
      have HB := Lib.hid (HA.out.below hb)
      clear hb HA
      try dsimp only
      go_wp2_with fail
      go_ret
      exact ⟨rfl, _, HB.out.fin⟩
theorem run_any (hn60 : n ≤ 60) (xk xi xd xs xr : Int) (hd : 0 ≤ xd ∧ xd < 256) (w : World) (h : EnS g k N tb bb n mb M w) :
    Calls Tryz.prog 32 #[.pointer (some ⟨tb, 0, none⟩), .map (some mb), .int .i64 (n : Int), .agg #[.int .i64 xk, .int .i64 xi, .int .u8 xd, .int .i64 xs, .int .i64 xr]] w (RnP g k N tb bb n mb w) := by
  by_cases k1 : xk = 1
  · exact run1 (Lib.hid hn60) xk xi xd xs xr hd k1 w h
  by_cases k2 : xk = 2
  · exact run2 (Lib.hid hn60) xk xi xd xs xr hd k2 w h
  by_cases k3 : xk = 3
  · exact run3 (Lib.hid hn60) xk xi xd xs xr hd k3 w h
  exact run0 (Lib.hid hn60) xk xi xd xs xr hd k1 k2 k3 w h
end
end Go.Proofs.YtajmcplanlibnaaGreatDoor
