/- A volume keeps a table of reservations: what its page says; a table that can't be is refused. -/
import Derived.Test.YtajmcplanlibnaaGreatDoorKYZD
import Derived.Test.YtajmcplanlibnaaGreatDoorKYJFns
import Derived.Test.YtajmcplanlibnaaGreatDoorKYJG1
set_option linter.unusedSimpArgs false
set_option linter.unusedVariables false
set_option linter.unnecessarySimpa false
namespace Go.Proofs.YtajmcplanlibnaaGreatDoor
open Go.RowKit Go.Maps
def pgT (t : J.Tab) : List Int := if t.ap then J.pageF t else zer 64
theorem tab_keys {t : J.Tab} (hs : J.soundT t = true) (hw : TabWf t) : ∀ r ∈ t.ks, 0 ≤ r.1 ∧ r.1 < 8 ∧ 0 ≤ r.2 ∧ r.2 < 18446744073709551616 := fun r hr =>
  ⟨J.okF_pos _ _ (J.sound_inv hs).2.1 r hr, J.okF_all _ _ (J.sound_inv hs).2.1 r hr, (hw.2.2 r hr).1, (hw.2.2 r hr).2⟩
theorem pageF_ok {t : J.Tab} (hs : J.soundT t = true) (hw : TabWf t) : PgOk (J.pageF t) :=
  ⟨J.pageF_length t, J.pageF_bytes t (J.sound_inv hs).1 (J.th_h hs) (J.th_lt hs) (J.th_t0 hs) (J.th_ty hs) (fun r hr => ⟨(tab_keys hs hw r hr).1, (tab_keys hs hw r hr).2.1⟩)⟩
theorem pgT_ok {t : J.Tab} (hs : J.soundT t = true) (hw : TabWf t) : PgOk (pgT t) := by
  unfold pgT
  split
  · exact pageF_ok hs hw
  · exact zer_pg
theorem pageF_head (t : J.Tab) : (J.pageF t).getD 0 0 = 82 := by rw [J.pageF_low t 0 (by omega)]; simp [J.pg4]
theorem pgT_tame (t : J.Tab) : Tame (pgT t) := by
  unfold pgT
  split
  · exact .inl (by rw [pageF_head]; decide)
  · exact .inr rfl
theorem pgT_read {t : J.Tab} (hs : J.soundT t = true) (hw : TabWf t) : J.readF (pgT t) = if t.ap then t else ⟨0, [], -1, 0, false⟩ := by
  unfold pgT
  by_cases h : t.ap = true
  · rw [if_pos h, if_pos h, J.page_parse t hs (J.th_h hs) hw.1.1 hw.1.2 hw.2.2]
    cases t
    simp only at h
    rw [h]
  · rw [if_neg h, if_neg h]
    exact J.read_zero
noncomputable def keptB (B : BookS) (lun : Nat) (t : J.Tab) : BookS := (B.wrote (1 + lun) (pgT t)).done.synced
theorem keptB_opn (B : BookS) (lun : Nat) (t : J.Tab) : (keptB B lun t).opn = none := BookS.done_opn _
theorem keptB_cache (B : BookS) (lun : Nat) (t : J.Tab) : (keptB B lun t).disk.cache = [] := rfl
theorem tab_cells {w : World} {b T : Nat} {t : J.Tab} {a : Option Addr} {c : Nat} (h : w.heap[b]? = some (.cells (tabL t a c).toArray T)) : w.cell? ⟨b, 0, none⟩ = some (.int .u32 t.g) ∧ w.cell? ⟨b, 1, none⟩ = some (.slice a t.ks.length c) ∧ w.cell? ⟨b, 2, none⟩ = some (.int .i64 t.h) ∧ w.cell? ⟨b, 3, none⟩ = some (.int .i64 t.ty) ∧ w.cell? ⟨b, 4, none⟩ = some (.bool t.ap) := by
  refine ⟨?_, ?_, ?_, ?_, ?_⟩ <;> (rw [cell_of_row w b _ _ _ (0, 0) h]; rfl)
theorem info_tab : (Tryz.prog.info? 110).map (·.size) = some 5 := by kernel_rfl
section
variable {vb : Nat} {N : Nat → Prop} {C : Cfg} {lv : Value} {bb t1 t2 t3 : Nat} {B : BookS}
theorem VolI.drew {w : World} (h : VolI w vb N C lv bb t1 t2 t3 B) : VolI w.drew vb N C lv bb t1 t2 t3 B := h.below (Below.refl _ _).drew
set_option maxRecDepth 100000 in
set_option maxHeartbeats 4000000 in
theorem vkeep_ok (t : J.Tab) (a : Option Addr) (cap lun size n S k db : Nat) (hf : C.fits n) (h256 : n ≤ 2048) (hl : lun < C.luns.length) (hs : J.soundT t = true) (hw : TabWf t) (hk9 : k ≤ 9000) (w : World) (h : VolI w vb N C lv bb t1 t2 t3 B) (hg : GdS B size n S k db) (ho : B.opn = none) (hK : Jz4 w a t.ks) :
    Calls Tryz.prog 53 #[ptrV vb, .int .i64 (lun : Int), .agg (tabL t a cap).toArray] w fun e w' => e = .returned .nilIface ∧ VolI w' vb N C lv bb t1 t2 t3 (keptB B lun t) ∧ GdS (keptB B lun t) size n S (k + 1) db ∧ (∀ i, i < n → (keptB B lun t).view i = if i = 1 + lun then pgT t else B.view i) ∧ Keeps N w w' := by
  have HV := hZ h
  have HG := hZ hg
  have HO := hZ ho
  have HK := hZ hK
  have HT := hZ (And.intro hs hw)
  have hx1 : 1 ≤ sizeF C (lun : Int) := by
    unfold sizeF
    rw [if_pos (by omega), Int.toNat_natCast]
    have : C.luns.getD lun 0 = C.luns[lun] := by simp [hl]
    rw [this]
    exact (hf.size _ (List.getElem_mem hl)).1
  have hSZ := hZ (fun wx (hx : VolI wx vb N C lv bb t1 t2 t3 B) => size_any vb N C lv bb t1 t2 t3 B hf.luns.2 (lun : Int) wx hx)
  have hn1 : 1 + lun < B.n := by
    rw [hg.n]
    have h1 := hf.need
    have h2 := hf.boxes
    have h3 := hf.luns
    unfold Cfg.f3 Cfg.f2 at h1
    omega
  have hl4 : lun < 4 := by have := hf.luns; omega
  have hSO := hZ (fun wx (hx : Jz4 wx a t.ks) => J.sound_yes t a cap wx (by have := (J.sound_inv hs).1; omega) hx hs)
  have hPG := hZ (fun wx (hx : Jz4 wx a t.ks) => J.Page_any t a cap wx (J.sound_inv hs).1 (J.th_h hs) (J.th_lt hs) (J.th_t0 hs) (J.th_ty hs) hw.1.1 hw.1.2 hx (tab_keys hs hw))
  have hb0 : ∀ o : Obj, Below w.heap.size w (w.alloc o) := fun o => bZ
  clear h hg ho hK hs hw hf h256 hl
  generalize sizeF C (lun : Int) = sx at hSZ hx1
  have hsx : ¬ ((sx : Int) = 0) := by omega
  unfold ptrV
  go_enter Tryz.func53, Tryz.ntmps53
  go_upto_region 1 with fail
  refine Kz0 (fun wx => Hid (wx.heap[w.heap.size]? = some (.cells (tabL t a cap).toArray 110) ∧ Below w.heap.size w wx)) (hZ ⟨heap_alloc_new w _, hb0 _⟩) ?_
  clear hb0
  intro w1 H1
  obtain ⟨z0, z1, z2, z3, z4⟩ := tab_cells H1.out.1
  have hS1 := hSZ.out w1 (HV.out.below H1.out.2)
  unfold ptrV at hS1
  go_wp2_with fail
  refine hS1.mono ?_
  clear hS1
  rintro e w1' ⟨rfl, rfl⟩
  try dsimp only
  have hK1 := HK.out.below H1.out.2
  have hS2 := hSO.out w1 hK1
  have hl0 : (0 : Int) ≤ lun := by omega
  have hl4i : (lun : Int) < 4 := by omega
  have el : ((1 + lun : Nat) : Int) = 1 + (lun : Int) := by push_cast; rfl
  have HEL := hZ el
  clear el
  unfold tabL at *
  go_wp2_with fail
  refine hS2.mono ?_
  clear hS2 hK1
  rintro e w2 ⟨rfl, hb2⟩
  have H2 : Hid (w2.heap[w.heap.size]? = some (.cells #[.int .u32 t.g, .slice a t.ks.length cap, .int .i64 t.h, .int .i64 t.ty, .bool t.ap] 110) ∧ Below w.heap.size w w2) := hZ ⟨(hb2.block _ (Zz0 H1.out.1)).trans H1.out.1, H1.out.2.trans (hb2.mono H1.out.2.size)⟩
  clear hb2 H1 z0 z1 z2 z3 z4
  try dsimp only
  go_upto_region 4 with fail
  have ha2 : ∀ o : Obj, Below w2.heap.size w2 (w2.alloc o) := fun o => bZ
  refine Kz0 (fun wx => Hid (wx.heap[w.heap.size]? = some (.cells #[.int .u32 t.g, .slice a t.ks.length cap, .int .i64 t.h, .int .i64 t.ty, .bool t.ap] 110) ∧ wx.heap[w2.heap.size]? = some (.cells (v8a (zer 64)) 37) ∧ w.heap.size ≤ w2.heap.size ∧ Below w.heap.size w wx)) (hZ ⟨((ha2 _).block _ (Zz0 H2.out.1)).trans H2.out.1, heap_alloc_new w2 _, H2.out.2.size, H2.out.2.trans ((ha2 _).mono H2.out.2.size)⟩) ?_
  clear ha2 H2
  generalize w2.heap.size = pb
  intro w3 H3
  obtain ⟨z0, z1, z2, z3, z4⟩ := tab_cells (t := t) (a := a) (c := cap) H3.out.1
  have hK3 := HK.out.below H3.out.2.2.2
  have hP3 := hPG.out w3 hK3
  have HPT := hZ (show pgT t = if t.ap = true then J.pageF t else zer 64 from rfl)
  have hpl := J.pageF_length t
  obtain ⟨pg, hpg⟩ : ∃ pg, J.pageF t = pg := ⟨_, rfl⟩
  have hP3' : Calls Tryz.prog 128 #[.agg #[.int .u32 t.g, .slice a t.ks.length cap, .int .i64 t.h, .int .i64 t.ty, .bool t.ap]] w3 fun e w' => e = .returned (.agg (v8a pg)) ∧ Below w3.heap.size w3 w' := by rw [← hpg]; exact hP3
  rw [hpg] at HPT hpl
  clear hP3 hK3 hpg
  cases hap : t.ap
  case true =>
    rw [hap] at z4 hP3' HPT H3
    have HP := hZ (HPT.out.trans (if_pos rfl))
    clear HPT
    go_wp2_with fail
    refine hP3'.mono ?_
    clear hP3' z0 z1 z2 z3 z4
    rintro e w4 ⟨rfl, hb4⟩
    have H4 : Hid (w4.heap[pb]? = some (.cells (v8a (zer 64)) 37) ∧ w.heap.size ≤ pb ∧ Below w.heap.size w w4) := hZ ⟨(hb4.block _ (Zz0 H3.out.2.1)).trans H3.out.2.1, H3.out.2.2.1, H3.out.2.2.2.trans (hb4.mono H3.out.2.2.2.size)⟩
    clear hb4 H3
    try dsimp only
    go_upto_region 6 with (refine Wz2 rfl (.tmp 7) (.tmp 24) rfl pb pg (zer 64) rfl rfl H4.out.1 hpl rfl ?_)
    refine Kz0 (fun wx => Hid (wx.heap[pb]? = some (.cells (v8a (pgT t)) 37) ∧ w.heap.size ≤ pb ∧ Below w.heap.size w wx)) (hZ ⟨by rw [HP.out]; exact setRow_heap _ _ _ _ _ (0, 0) H4.out.1, H4.out.2.1, below_setRow H4.out.2.2 H4.out.2.1 _⟩) ?_
    clear H4 HP hpl
    intro w5 H5
    try simp only [Act.put]
    have HVp : Hid (VolI w5 vb (fun q => N q ∨ q = pb) C lv bb t1 t2 t3 B ∧ Keeps N w w5) := hZ ⟨HV.out.keep H5.out.2.2 (fun q hq => by
      rcases hq with hq | rfl
      · exact ⟨Nat.lt_of_lt_of_le (HV.out.N_lt q (.inl hq)) H5.out.2.2.size, .inl hq⟩
      · exact ⟨Zz0 H5.out.1, .inr H5.out.2.1⟩), Keeps.of_below H5.out.2.2⟩
    have hpok := pgT_ok HT.out.1 HT.out.2
    have hp64 := hpok.1
    have c1 : ∀ q : SatW (VcF vb C lv bb t1 t2 t3 pb (v8a (pgT t)) 37), q.w.cell? ⟨vb, 6, none⟩ = some (.pointer (some ⟨bb, 0, none⟩)) := fun q => (Xze q.h.1).2.1
    have hne : Nonempty (SatW (VcF vb C lv bb t1 t2 t3 pb (v8a (pgT t)) 37)) := ⟨⟨_, (show VcF vb C lv bb t1 t2 t3 pb (v8a (pgT t)) 37 w5.drew from ⟨HVp.out.1.drew.vol, H5.out.1⟩)⟩⟩
    refine Vz0 [(0, true), (1, true), (2, true), (3, true), (4, true), (5, true), (6, true), (7, false), (8, true)] 8 (fun w' => ∃ p : SatW (VcF vb C lv bb t1 t2 t3 pb (v8a (pgT t)) 37), w' = p.w) (by kernel_rfl) (by kernel_rfl) (fun _ _ d _ _ h => by cases d <;> exact h) (Jz3 (show VcF vb C lv bb t1 t2 t3 pb (v8a (pgT t)) 37 w5.drew from ⟨HVp.out.1.drew.vol, H5.out.1⟩)) ?_
    (repeat (with_reducible refine mix_q ?_; simp only [qd1, qd0, qt1, qt0]; go_big_quiet_step (fail); with_reducible refine wpQuiet_nil ?_))
    with_reducible refine mix_q ?_
    simp only [qd1, qd0, qt1, qt0]
    go_big_quiet_want
    refine Zz6 (.tmp 7) rfl pb (pgT t) rfl (by rintro _ ⟨q, rfl⟩; exact q.h.2) hp64 ?_
    simp only [Act.put, qs0, qs1, qs2]
    go_big_quiet_on
    with_reducible refine wpQuiet_nil ?_
    with_reducible refine mix_a ?_; simp only [qd1, qd0, qt1, qt0]
    have hWR := Qz8 bb _ B (1 + lun) (pgT t) hn1 hpok (.inr (.inr (by have h := Wzh HO.out; unfold BookS.cnt at h; omega))) w5.drew HVp.out.1.drew.book
    rw [HEL.out] at hWR
    go_wp2_with fail
    refine hWR.mono ?_
    clear hWR c1
    rintro e w6 ⟨rfl, hB6, hk6⟩
    have hV6 := HVp.out.1.drew.booked hB6 hk6
    have H6 : Hid (VolI w6 vb (fun q => N q ∨ q = pb) C lv bb t1 t2 t3 (B.wrote (1 + lun) (pgT t)) ∧ Keeps N w w6 ∧ w6.heap[pb]? = some (.cells (v8a (pgT t)) 37)) := hZ ⟨hV6.1, HVp.out.2.trans ((Keeps.of_below (Below.refl w5.heap.size w5).drew).trans (hV6.2.mono (fun q _ hq => .inl hq))), hV6.2.blk (.inr rfl) H5.out.1⟩
    clear hB6 hk6 hV6 HVp
    try dsimp only
    go_wp2_with fail
    try with_reducible refine wpList_nil ?_
    with_reducible refine Qz0 ?_
    refine ⟨fun _ => Jz3 (F := VcF vb C lv bb t1 t2 t3 pb (v8a (pgT t)) 37) ⟨H6.out.1.vol, H6.out.2.2⟩, ?_⟩
    (repeat (with_reducible refine mix_q ?_; simp only [qd1, qd0, qt1, qt0]; go_big_quiet_step (fail); with_reducible refine wpQuiet_nil ?_))
    with_reducible refine Wz1 ?_
    have HGW := hZ (HG.out.wrote (1 + lun) (pgT t) H6.out.1.book.isOk)
    have hCM := g_commitT (by omega) (by have h := BookS.wrote_cnt B (1 + lun) (pgT t) hn1; rw [Wzh HO.out] at h; omega) (fun i p hp => by
      rcases BookS.wrote_f B (1 + lun) (pgT t) i with h1 | ⟨h0, h1⟩
      · rw [h1, opn_f HO.out] at hp; cases hp
      · rw [h1] at hp; cases hp; exact ⟨by omega, pgT_tame t⟩) w6 H6.out.1.book HGW.out
    obtain ⟨z5, z6, z7, z8, z9⟩ := H6.out.1.cells
    unfold ptrV at z6 z7 z8 z9
    go_wp2_with fail
    refine hCM.mono ?_
    clear hCM z5 z6 z7 z8 z9
    rintro e w7 ⟨rfl, hB7, hG7, hk7⟩
    have hV7 := H6.out.1.booked hB7 hk7
    have H7 : Hid (VolI w7 vb (fun q => N q ∨ q = pb) C lv bb t1 t2 t3 (B.wrote (1 + lun) (pgT t)).done ∧ Keeps N w w7) := hZ ⟨hV7.1, H6.out.2.1.trans (hV7.2.mono (fun q _ hq => .inl hq))⟩
    have hMV : Hid (∀ i, i < n → (keptB B lun t).view i = if i = 1 + lun then pgT t else B.view i) := hZ (fun i hi => by
      unfold keptB
      rw [sync_view HGW.out hB7.isOk (by omega) i hi, BookS.wrote_view])
    have HG7 := hZ hG7
    clear hB7 hG7 hk7 hV7 H6 HGW
    have hSY := g_sync w7 H7.out.1.book HG7.out
    obtain ⟨z5, z6, z7, z8, z9⟩ := H7.out.1.cells
    unfold ptrV at z6 z7 z8 z9
    try dsimp only
    go_wp2_with fail
    refine hSY.mono ?_
    clear hSY z5 z6 z7 z8 z9
    rintro e w8 ⟨rfl, hB8, hG8, hk8⟩
    have hV8 := H7.out.1.booked hB8 hk8
    have H8 : Hid (VolI w8 vb N C lv bb t1 t2 t3 (keptB B lun t) ∧ GdS (keptB B lun t) size n S (k + 1) db ∧ Keeps N w w8) := hZ ⟨hV8.1.less (fun q hq => .inl hq), hG8, H7.out.2.trans (hV8.2.mono (fun q _ hq => .inl hq))⟩
    clear hB8 hG8 hk8 hV8 H7 HG7
    try dsimp only
    go_wp2_with fail
    refine (Qzc _ w8).mono ?_
    rintro e w9 ⟨rfl, rfl⟩
    try dsimp only
    go_wp2_with fail
    go_ret
    exact ⟨rfl, H8.out.1, H8.out.2.1, hMV.out, H8.out.2.2⟩
  case false =>
    rw [hap] at z4 hP3' HPT H3
    have HP : Hid (pgT t = zer 64) := hZ (HPT.out.trans (if_neg (by decide)))
    clear HPT hP3'
    go_upto_region 6 with fail
    refine Kz0 (fun wx => Hid (wx.heap[pb]? = some (.cells (v8a (pgT t)) 37) ∧ w.heap.size ≤ pb ∧ Below w.heap.size w wx)) (hZ ⟨by rw [HP.out]; exact H3.out.2.1, H3.out.2.2⟩) ?_
    clear H3 HP hpl z0 z1 z2 z3 z4
    intro w5 H5
    try simp only [Act.put]
    have HVp : Hid (VolI w5 vb (fun q => N q ∨ q = pb) C lv bb t1 t2 t3 B ∧ Keeps N w w5) := hZ ⟨HV.out.keep H5.out.2.2 (fun q hq => by
      rcases hq with hq | rfl
      · exact ⟨Nat.lt_of_lt_of_le (HV.out.N_lt q (.inl hq)) H5.out.2.2.size, .inl hq⟩
      · exact ⟨Zz0 H5.out.1, .inr H5.out.2.1⟩), Keeps.of_below H5.out.2.2⟩
    have hpok := pgT_ok HT.out.1 HT.out.2
    have hp64 := hpok.1
    have c1 : ∀ q : SatW (VcF vb C lv bb t1 t2 t3 pb (v8a (pgT t)) 37), q.w.cell? ⟨vb, 6, none⟩ = some (.pointer (some ⟨bb, 0, none⟩)) := fun q => (Xze q.h.1).2.1
    have hne : Nonempty (SatW (VcF vb C lv bb t1 t2 t3 pb (v8a (pgT t)) 37)) := ⟨⟨_, (show VcF vb C lv bb t1 t2 t3 pb (v8a (pgT t)) 37 w5.drew from ⟨HVp.out.1.drew.vol, H5.out.1⟩)⟩⟩
    refine Vz0 [(0, true), (1, true), (2, true), (3, true), (4, true), (5, true), (6, true), (7, false), (8, true)] 8 (fun w' => ∃ p : SatW (VcF vb C lv bb t1 t2 t3 pb (v8a (pgT t)) 37), w' = p.w) (by kernel_rfl) (by kernel_rfl) (fun _ _ d _ _ h => by cases d <;> exact h) (Jz3 (show VcF vb C lv bb t1 t2 t3 pb (v8a (pgT t)) 37 w5.drew from ⟨HVp.out.1.drew.vol, H5.out.1⟩)) ?_
    (repeat (with_reducible refine mix_q ?_; simp only [qd1, qd0, qt1, qt0]; go_big_quiet_step (fail); with_reducible refine wpQuiet_nil ?_))
    with_reducible refine mix_q ?_
    simp only [qd1, qd0, qt1, qt0]
    go_big_quiet_want
    refine Zz6 (.tmp 7) rfl pb (pgT t) rfl (by rintro _ ⟨q, rfl⟩; exact q.h.2) hp64 ?_
    simp only [Act.put, qs0, qs1, qs2]
    go_big_quiet_on
    with_reducible refine wpQuiet_nil ?_
    with_reducible refine mix_a ?_; simp only [qd1, qd0, qt1, qt0]
    have hWR := Qz8 bb _ B (1 + lun) (pgT t) hn1 hpok (.inr (.inr (by have h := Wzh HO.out; unfold BookS.cnt at h; omega))) w5.drew HVp.out.1.drew.book
    rw [HEL.out] at hWR
    go_wp2_with fail
    refine hWR.mono ?_
    clear hWR c1
    rintro e w6 ⟨rfl, hB6, hk6⟩
    have hV6 := HVp.out.1.drew.booked hB6 hk6
    have H6 : Hid (VolI w6 vb (fun q => N q ∨ q = pb) C lv bb t1 t2 t3 (B.wrote (1 + lun) (pgT t)) ∧ Keeps N w w6 ∧ w6.heap[pb]? = some (.cells (v8a (pgT t)) 37)) := hZ ⟨hV6.1, HVp.out.2.trans ((Keeps.of_below (Below.refl w5.heap.size w5).drew).trans (hV6.2.mono (fun q _ hq => .inl hq))), hV6.2.blk (.inr rfl) H5.out.1⟩
    clear hB6 hk6 hV6 HVp
    try dsimp only
    go_wp2_with fail
    try with_reducible refine wpList_nil ?_
    with_reducible refine Qz0 ?_
    refine ⟨fun _ => Jz3 (F := VcF vb C lv bb t1 t2 t3 pb (v8a (pgT t)) 37) ⟨H6.out.1.vol, H6.out.2.2⟩, ?_⟩
    (repeat (with_reducible refine mix_q ?_; simp only [qd1, qd0, qt1, qt0]; go_big_quiet_step (fail); with_reducible refine wpQuiet_nil ?_))
    with_reducible refine Wz1 ?_
    have HGW := hZ (HG.out.wrote (1 + lun) (pgT t) H6.out.1.book.isOk)
    have hCM := g_commitT (by omega) (by have h := BookS.wrote_cnt B (1 + lun) (pgT t) hn1; rw [Wzh HO.out] at h; omega) (fun i p hp => by
      rcases BookS.wrote_f B (1 + lun) (pgT t) i with h1 | ⟨h0, h1⟩
      · rw [h1, opn_f HO.out] at hp; cases hp
      · rw [h1] at hp; cases hp; exact ⟨by omega, pgT_tame t⟩) w6 H6.out.1.book HGW.out
    obtain ⟨z5, z6, z7, z8, z9⟩ := H6.out.1.cells
    unfold ptrV at z6 z7 z8 z9
    go_wp2_with fail
    refine hCM.mono ?_
    clear hCM z5 z6 z7 z8 z9
    rintro e w7 ⟨rfl, hB7, hG7, hk7⟩
    have hV7 := H6.out.1.booked hB7 hk7
    have H7 : Hid (VolI w7 vb (fun q => N q ∨ q = pb) C lv bb t1 t2 t3 (B.wrote (1 + lun) (pgT t)).done ∧ Keeps N w w7) := hZ ⟨hV7.1, H6.out.2.1.trans (hV7.2.mono (fun q _ hq => .inl hq))⟩
    have hMV : Hid (∀ i, i < n → (keptB B lun t).view i = if i = 1 + lun then pgT t else B.view i) := hZ (fun i hi => by
      unfold keptB
      rw [sync_view HGW.out hB7.isOk (by omega) i hi, BookS.wrote_view])
    have HG7 := hZ hG7
    clear hB7 hG7 hk7 hV7 H6 HGW
    have hSY := g_sync w7 H7.out.1.book HG7.out
    obtain ⟨z5, z6, z7, z8, z9⟩ := H7.out.1.cells
    unfold ptrV at z6 z7 z8 z9
    try dsimp only
    go_wp2_with fail
    refine hSY.mono ?_
    clear hSY z5 z6 z7 z8 z9
    rintro e w8 ⟨rfl, hB8, hG8, hk8⟩
    have hV8 := H7.out.1.booked hB8 hk8
    have H8 : Hid (VolI w8 vb N C lv bb t1 t2 t3 (keptB B lun t) ∧ GdS (keptB B lun t) size n S (k + 1) db ∧ Keeps N w w8) := hZ ⟨hV8.1.less (fun q hq => .inl hq), hG8, H7.out.2.trans (hV8.2.mono (fun q _ hq => .inl hq))⟩
    clear hB8 hG8 hk8 hV8 H7 HG7
    try dsimp only
    go_wp2_with fail
    refine (Qzc _ w8).mono ?_
    rintro e w9 ⟨rfl, rfl⟩
    try dsimp only
    go_wp2_with fail
    go_ret
    exact ⟨rfl, H8.out.1, H8.out.2.1, hMV.out, H8.out.2.2⟩
end
open Go.RowKit Go.Maps
theorem ErrAt.setC {w : World} {g i T : Nat} {x : Value} {cs0 : Array Value} (hg : w.heap[g]? = some (.cells cs0 T)) (hT : T ≠ 249) : ∀ {k : Nat} {v : Value} {n : Int}, ErrAt w k v n → ErrAt (w.setCell ⟨g, i, none⟩ x) k v n
  | 0, _, _, h => h
  | k + 1, _, _, ⟨b, s, e, h1, h2, h3⟩ => ⟨b, s, e, h1, (Below.heap_setCell _ _ _ _ (fun e' => by subst e'; rw [hg] at h2; simp only [Option.some.injEq, Obj.cells.injEq] at h2; exact hT h2.2.1)).trans h2, ErrAt.setC hg hT h3⟩
theorem ErrV.set5 {w : World} {g T : Nat} {x0 x1 x2 x3 x4 : Value} {cs0 : Array Value} (hg : w.heap[g]? = some (.cells cs0 T)) (hT : T ≠ 249) {v : Value} {n : Int} (h : ErrV w v n) :
    ErrV (((((w.setCell ⟨g, 0, none⟩ x0).setCell ⟨g, 1, none⟩ x1).setCell ⟨g, 2, none⟩ x2).setCell ⟨g, 3, none⟩ x3).setCell ⟨g, 4, none⟩ x4) v n := by
  obtain ⟨k, h⟩ := h
  exact ⟨k, ((((h.setC hg hT).setC (Xz3 hg _) hT).setC (Xz3 (Xz3 hg _) _) hT).setC (Xz3 (Xz3 (Xz3 hg _) _) _) hT).setC (Xz3 (Xz3 (Xz3 (Xz3 hg _) _) _) _) hT⟩
section
variable {vb : Nat} {N : Nat → Prop} {C : Cfg} {lv : Value} {bb t1 t2 t3 : Nat} {B : BookS}
theorem size_pos {n lun : Nat} (hf : C.fits n) (hl : lun < C.luns.length) : 1 ≤ sizeF C (lun : Int) := by
  unfold sizeF
  rw [if_pos (by omega), Int.toNat_natCast]
  have : C.luns.getD lun 0 = C.luns[lun] := by simp [hl]
  rw [this]
  exact (hf.size _ (List.getElem_mem hl)).1
theorem size_none {lun : Nat} (hl : C.luns.length ≤ lun) : sizeF C (lun : Int) = 0 := by
  unfold sizeF
  rw [if_pos (by omega), Int.toNat_natCast]
  simp [List.getD, List.getElem?_eq_none hl]
set_option maxRecDepth 100000 in
set_option maxHeartbeats 2000000 in
theorem vkeep_bad (t : J.Tab) (a : Option Addr) (cap lun n : Nat) (hf : C.fits n) (hl : lun < C.luns.length) (hs : J.soundT t = false) (hw : TabWf t) (w : World) (h : VolI w vb N C lv bb t1 t2 t3 B) (hK : Jz4 w a t.ks) :
    Calls Tryz.prog 53 #[ptrV vb, .int .i64 (lun : Int), .agg (tabL t a cap).toArray] w fun e w' => (∃ y x, e = .returned (.iface y x) ∧ ErrV w' (.iface y x) 1) ∧ Below w.heap.size w w' := by
  have HV := hZ h
  have HK := hZ hK
  have hx1 := size_pos hf hl
  have hSZ := hZ (fun wx (hx : VolI wx vb N C lv bb t1 t2 t3 B) => size_any vb N C lv bb t1 t2 t3 B hf.luns.2 (lun : Int) wx hx)
  have hSO : Hid (∀ wx, Jz4 wx a t.ks → Calls Tryz.prog 127 #[.agg #[.int .u32 t.g, .slice a t.ks.length cap, .int .i64 t.h, .int .i64 t.ty, .bool t.ap]] wx fun e w' => e = .returned (.bool false) ∧ Below wx.heap.size wx w') := hZ (fun wx hx => by
    have h0 := J.Sound_any t.g t.h t.ty t.ap a t.ks cap wx (by have := hw.2.1; unfold maxLen at this; omega) hx
    rw [show J.soundF t.ks t.h t.ty = false by rw [J.sound_same]; exact hs] at h0
    exact h0)
  have hb0 : ∀ o : Obj, Below w.heap.size w (w.alloc o) := fun o => bZ
  clear h hK hs hw hf hl
  generalize sizeF C (lun : Int) = sx at hSZ hx1
  have hsx : ¬ ((sx : Int) = 0) := by omega
  unfold ptrV
  go_enter Tryz.func53, Tryz.ntmps53
  go_upto_region 1 with fail
  refine Kz0 (fun wx => Hid (wx.heap[w.heap.size]? = some (.cells (tabL t a cap).toArray 110) ∧ Below w.heap.size w wx)) (hZ ⟨heap_alloc_new w _, hb0 _⟩) ?_
  clear hb0
  intro w1 H1
  obtain ⟨z0, z1, z2, z3, z4⟩ := tab_cells H1.out.1
  have hS1 := hSZ.out w1 (HV.out.below H1.out.2)
  unfold ptrV at hS1
  go_wp2_with fail
  refine hS1.mono ?_
  clear hS1
  rintro e w1' ⟨rfl, rfl⟩
  try dsimp only
  have hS2 := hSO.out w1 (HK.out.below H1.out.2)
  unfold tabL at *
  go_wp2_with fail
  refine hS2.mono ?_
  clear hS2
  rintro e w2 ⟨rfl, hb2⟩
  have H2 : Hid (Below w.heap.size w w2) := hZ (H1.out.2.trans (hb2.mono H1.out.2.size))
  clear hb2 H1 z0 z1 z2 z3 z4
  try dsimp only
  go_wp2_with fail
  refine (woe_num _ 1 _).mono ?_
  rintro e w3 ⟨⟨y, x, rfl, he⟩, hb3⟩
  have HE := hZ he
  clear he
  try dsimp only
  go_wp2_with fail
  go_ret
  exact ⟨⟨y, x, rfl, HE.out⟩, H2.out.trans (hb3.mono H2.out.size)⟩
set_option maxRecDepth 100000 in
set_option maxHeartbeats 2000000 in
theorem vkept_bad (lun : Nat) (hu : C.luns.length ≤ 4) (hl : C.luns.length ≤ lun) (hl9 : lun ≤ 9) (w : World) (h : VolI w vb N C lv bb t1 t2 t3 B) :
    Calls Tryz.prog 56 #[ptrV vb, .int .i64 (lun : Int)] w fun e w' => (∃ y x, e = .returned (.tuple #[.agg #[.int .u32 0, .slice none 0 0, .int .i64 0, .int .i64 0, .bool false], .iface y x]) ∧ ErrV w' (.iface y x) 1) ∧ Below w.heap.size w w' := by
  have HV := hZ h
  have hSZ := hZ (fun wx (hx : VolI wx vb N C lv bb t1 t2 t3 B) => size_any vb N C lv bb t1 t2 t3 B hu (lun : Int) wx hx)
  rw [size_none hl] at hSZ
  have hb0 : ∀ o : Obj, Below w.heap.size w (w.alloc o) := fun o => bZ
  clear h
  unfold ptrV
  go_enter Tryz.func56, Tryz.ntmps56
  go_upto_region 1 with fail
  refine Kz0 (fun wx => Hid (wx.heap[w.heap.size]? = some (.cells #[.int .u32 0, .slice none 0 0, .int .i64 0, .int .i64 0, .bool false] 110) ∧ Below w.heap.size w wx)) (hZ ⟨heap_alloc_new w _, hb0 _⟩) ?_
  clear hb0
  intro w1 H1
  have hS1 := hSZ.out w1 (HV.out.below H1.out.2)
  unfold ptrV at hS1
  go_wp2_with fail
  refine hS1.mono ?_
  clear hS1
  rintro e w1' ⟨rfl, rfl⟩
  try dsimp only
  go_wp2_with fail
  refine (woe_num _ 1 _).mono ?_
  rintro e w3 ⟨⟨y, x, rfl, he⟩, hb3⟩
  have HE := hZ he
  have H3 : Hid (w3.heap[w.heap.size]? = some (.cells #[.int .u32 0, .slice none 0 0, .int .i64 0, .int .i64 0, .bool false] 110) ∧ Below w.heap.size w w3) := hZ ⟨(hb3.block _ (Zz0 H1.out.1)).trans H1.out.1, H1.out.2.trans (hb3.mono H1.out.2.size)⟩
  clear he hb3 H1
  try dsimp only
  obtain ⟨z0, z1, z2, z3, z4, y0, y1, y2, y3, y4⟩ := blk5 H3.out.1
  go_wp2_with fail
  refine bodyPost_ret (v := .tuple #[.agg #[.int .u32 0, .slice none 0 0, .int .i64 0, .int .i64 0, .bool false], .iface y x]) ?_ rfl ⟨⟨y, x, rfl, ?_⟩, ?_⟩
  · simp only [results, Tryz.results56]
    go_simp
  · exact HE.out.set5 H3.out.1 (by decide)
  · have hb4 := H3.out.2
    repeat (first | with_reducible assumption | (with_reducible refine Below.setCell ?_ (by first | omega | (simp; done) | (simp; omega)) _) | (with_reducible refine Below.alloc ?_ (by first | omega | (simp; done) | (simp; omega)) _) | (with_reducible refine Below.drew ?_) | (with_reducible refine Qz2 ?_ _) | with_reducible exact Below.refl _ _ | (with_reducible refine Below.trans ?_ (Below.mono (by assumption) (by first | omega | (simp; done) | (simp; omega)))))
set_option maxRecDepth 100000 in
set_option maxHeartbeats 2000000 in
theorem vkept_ok (lun n : Nat) (hf : C.fits n) (hn : B.n = n) (hl : lun < C.luns.length) (w : World) (h : VolI w vb N C lv bb t1 t2 t3 B) :
    Calls Tryz.prog 56 #[ptrV vb, .int .i64 (lun : Int)] w fun e w' => (∃ v, e = .returned (.tuple #[v, .nilIface]) ∧ J.TabIn w' (J.readF (B.view (1 + lun))) v) ∧ Below w.heap.size w w' := by
  have HV := hZ h
  have hSZ := hZ (fun wx (hx : VolI wx vb N C lv bb t1 t2 t3 B) => size_any vb N C lv bb t1 t2 t3 B hf.luns.2 (lun : Int) wx hx)
  have hx1 := size_pos hf hl
  have hn1 : 1 + lun < B.n := by
    rw [hn]
    have h1 := hf.need
    have h2 := hf.boxes
    have h3 := hf.luns
    unfold Cfg.f3 Cfg.f2 at h1
    omega
  have hl4 : lun < 4 := by have := hf.luns; omega
  have hpo := BookS.view_ok h.book.isOk (1 + lun) hn1
  have hRD := hZ (fun wx (hx : VolI wx vb N C lv bb t1 t2 t3 B) => Qza bb _ B (1 + lun) hn1 wx hx.book)
  have hp64 := hpo.1
  have HPB := hZ hpo.2
  have el : ((1 + lun : Nat) : Int) = 1 + (lun : Int) := by push_cast; rfl
  rw [el] at hRD
  generalize B.view (1 + lun) = pg at *
  have hRP := hZ (fun wx => J.Read_any pg wx hp64 HPB.out)
  have hb0 : ∀ o : Obj, Below w.heap.size w (w.alloc o) := fun o => bZ
  have hl0 : (0 : Int) ≤ lun := by omega
  have hl4i : (lun : Int) < 4 := by omega
  clear h hf hl el hn hpo
  generalize sizeF C (lun : Int) = sx at hSZ hx1
  have hsx : ¬ ((sx : Int) = 0) := by omega
  unfold ptrV
  go_enter Tryz.func56, Tryz.ntmps56
  go_upto_region 1 with fail
  refine Kz0 (fun wx => Hid (wx.heap[w.heap.size]? = some (.cells #[.int .u32 0, .slice none 0 0, .int .i64 0, .int .i64 0, .bool false] 110) ∧ Below w.heap.size w wx)) (hZ ⟨heap_alloc_new w _, hb0 _⟩) ?_
  clear hb0
  intro w1 H1
  have hS1 := hSZ.out w1 (HV.out.below H1.out.2)
  unfold ptrV at hS1
  go_wp2_with fail
  refine hS1.mono ?_
  clear hS1
  rintro e w1' ⟨rfl, rfl⟩
  try dsimp only
  obtain ⟨z5, z6, z7, z8, z9⟩ := (HV.out.below H1.out.2).cells
  unfold ptrV at z6 z7 z8 z9
  have hR1 := hRD.out w1 (HV.out.below H1.out.2)
  go_wp2_with fail
  refine hR1.mono ?_
  clear hR1 z5 z6 z7 z8 z9
  rintro e w2 ⟨rfl, hb2⟩
  have H2 : Hid (w2.heap[w.heap.size]? = some (.cells #[.int .u32 0, .slice none 0 0, .int .i64 0, .int .i64 0, .bool false] 110) ∧ Below w.heap.size w w2) := hZ ⟨(hb2.block _ (Zz0 H1.out.1)).trans H1.out.1, H1.out.2.trans (hb2.mono H1.out.2.size)⟩
  clear hb2 H1
  try dsimp only
  go_upto_region 4 with (refine Wz2 rfl (.tmp 6) (.tmp 23) rfl w2.heap.size pg (zer 64) rfl rfl (heap_alloc_new w2 _) hp64 rfl ?_)
  have hbx : ∀ o : Obj, Below w2.heap.size w2 ((w2.alloc o).setRow w2.heap.size (v8a pg)) := fun o => below_setRow (bZ) (Nat.le_refl _) _
  refine Kz0 (fun wx => Hid (wx.heap[w.heap.size]? = some (.cells #[.int .u32 0, .slice none 0 0, .int .i64 0, .int .i64 0, .bool false] 110) ∧ wx.heap[w2.heap.size]? = some (.cells (v8a pg) 37) ∧ Below w.heap.size w wx)) (hZ ⟨((hbx _).block _ (Zz0 H2.out.1)).trans H2.out.1, setRow_heap _ _ _ _ _ (0, 0) (heap_alloc_new w2 _), H2.out.2.trans ((hbx _).mono H2.out.2.size)⟩) ?_
  clear hbx H2
  generalize w2.heap.size = pb
  intro w3 H3
  go_upto_region 6 with fail
  repeat ((fail_if_success (with_reducible refine Kz1 30 rfl ?_)); (first | go_values | go_skip | go_guarded | go_step | go_upon))
  refine Wz3 rfl (.tmp 6) rfl pb pg rfl H3.out.2.1 hp64 ?_
  simp only [Act.put, qs0, qs1, qs2]
  have hR3 := hRP.out w3
  have hR3' : Calls Tryz.prog 131 #[.agg (v8a pg)] w3 (J.ReadPost (J.readF pg) w3) := hR3
  clear hR3
  go_wp2_with fail
  refine hR3'.mono ?_
  clear hR3'
  rintro e w4 ⟨v, rfl, hT, hb4⟩
  obtain ⟨ra, rc, rfl, hk, hn0⟩ := hT
  have H4 : Hid (w4.heap[w.heap.size]? = some (.cells #[.int .u32 0, .slice none 0 0, .int .i64 0, .int .i64 0, .bool false] 110) ∧ Below w.heap.size w w4) := hZ ⟨(hb4.block _ (Zz0 H3.out.1)).trans H3.out.1, H3.out.2.2.trans (hb4.mono H3.out.2.2.size)⟩
  have HKK := hZ hk
  have HN0 := hZ hn0
  clear hb4 H3 hk hn0
  generalize hr : J.readF pg = r at *
  have HR := hZ hr
  clear hr
  try dsimp only
  obtain ⟨z0, z1, z2, z3, z4, y0, y1, y2, y3, y4⟩ := blk5 H4.out.1
  go_wp2_with fail
  refine bodyPost_ret (v := .tuple #[.agg #[.int .u32 r.g, .slice ra r.ks.length rc, .int .i64 r.h, .int .i64 r.ty, .bool r.ap], .nilIface]) ?_ rfl ?_
  · simp only [results, Tryz.results56]
    go_simp
  · rw [HR.out]
    refine ⟨⟨_, rfl, ra, rc, rfl, J.keys_ret HKK.out H4.out.1, HN0.out⟩, ?_⟩
    have hb4 := H4.out.2
    repeat (first | with_reducible assumption | (with_reducible refine Below.setCell ?_ (by first | omega | (simp; done) | (simp; omega)) _) | (with_reducible refine Below.alloc ?_ (by first | omega | (simp; done) | (simp; omega)) _) | (with_reducible refine Below.drew ?_) | (with_reducible refine Qz2 ?_ _) | with_reducible exact Below.refl _ _ | (with_reducible refine Below.trans ?_ (Below.mono (by assumption) (by first | omega | (simp; done) | (simp; omega)))))
end
end Go.Proofs.YtajmcplanlibnaaGreatDoor
