/- A forest, a depot: New, and refused; a fresh one on a new book. May a unit and a block be? A forest, a depot on a new book. A depot: the page of a slot, the state of a slot. A depot that is none: Get, Move, Count. A forest: places that are none are refused. -/
import Derived.Test.YthaaoghbginmpaaDoorM6
set_option linter.unusedSimpArgs false
set_option linter.unusedVariables false
set_option linter.unnecessarySimpa false
namespace Go.Proofs.YthaaoghbginmpaaDoor
set_option linter.unusedSimpArgs false
set_option linter.unusedVariables false
open Go.RowKit Go.Maps
set_option maxRecDepth 100000 in
theorem sound_ok (tb : Nat) (lun block : Int) (hl : 0 ≤ lun ∧ lun < 4) (hb : 0 ≤ block ∧ block < 256) (w : World) : Calls Tryd.prog 62 #[.pointer (some ⟨tb, 0, none⟩), .int .i64 lun, .int .i64 block] w fun e w' => e = .returned .nilIface ∧ w = w' := by
  obtain ⟨l0, l1⟩ := hl
  obtain ⟨b0, b1⟩ := hb
  go_enter Tryd.func62, Tryd.ntmps62
  go_wp2_with fail
  go_ret
  exact ⟨rfl, rfl⟩
set_option maxRecDepth 100000 in
theorem depotPages_any (n : Int) (hn : 0 ≤ n ∧ n ≤ 64) (w : World) : Calls Tryd.prog 56 #[.int .i64 n] w fun e w' => e = .returned (.int .i64 (n * 5)) ∧ w = w' := by
  obtain ⟨n0, n1⟩ := hn
  go_enter Tryd.func56, Tryd.ntmps56
  go_wp2_with fail
  go_ret
  exact ⟨rfl, rfl⟩
set_option maxRecDepth 100000 in
set_option maxHeartbeats 1000000 in
theorem radixNew_any (bb first n : Nat) (N : Nat → Prop) (B : BookS) (hn : 1 ≤ n ∧ n ≤ 4095 ∧ first + 1 + n ≤ B.n) (w : World) (h : BookI w bb N B) :
    Calls Tryd.prog 34 #[.pointer (some ⟨bb, 0, none⟩), .int .i64 (first : Int), .int .i64 (n : Int)] w fun e w' => (∃ tb, e = .returned (.tuple #[.pointer (some ⟨tb, 0, none⟩), .nilIface]) ∧ w.heap.size ≤ tb ∧ HolI 142 w' tb N bb first n B) ∧ Below w.heap.size w w' := by
  have HB := Lib.hid h
  have hbn := h.isOk.n.2
  obtain ⟨hn1, hn2, hn3⟩ := hn
  have hP := bookPages_any bb N B w h
  clear h
  have g1 : (1 : Int) ≤ n := by omega
  have g2 : (0 : Int) ≤ first := by omega
  have g3 : (n : Int) ≤ 4095 := by omega
  have g4 : (B.n : Int) ≤ 2048 := by omega
  have g5 : (first : Int) + 1 + (n : Int) ≤ (B.n : Int) := by omega
  go_enter Tryd.func34, Tryd.ntmps34
  go_wp2_with fail
  refine hP.mono ?_
  rintro e w1 ⟨rfl, rfl⟩
  try dsimp only
  go_wp2_with fail
  go_ret2
  have hb : ∀ o : Obj, Below w.heap.size w (w.alloc o) := fun o => (Below.refl _ _).alloc (Nat.le_refl _) _
  refine ⟨⟨_, rfl, Nat.le_refl _, heap_alloc_new w _, HB.out.keep (hb _) (fun k hk => ?_), fun hN => ?_⟩, hb _⟩
  · rcases hk with hk | hk
    · have := HB.out.N_lt k hk; exact ⟨by simp; omega, .inl hk⟩
    · subst hk; exact ⟨by simp, .inr (Nat.le_refl _)⟩
  · have := HB.out.N_lt _ hN; omega
set_option maxRecDepth 100000 in
set_option maxHeartbeats 2000000 in
theorem radixNew_bad (bb : Nat) (first n : Int) (N : Nat → Prop) (B : BookS) (hf : -9223372036854775808 ≤ first ∧ first < 9223372036854775808) (hn : -9223372036854775808 ≤ n ∧ n < 9223372036854775808) (hbad : ¬ (0 ≤ first ∧ 1 ≤ n ∧ n ≤ 4095 ∧ first ≤ B.n - 1 - n)) (w : World) (h : BookI w bb N B) :
    Calls Tryd.prog 34 #[.pointer (some ⟨bb, 0, none⟩), .int .i64 first, .int .i64 n] w fun e w' => (∃ t x, e = .returned (.tuple #[.pointer none, .iface t x]) ∧ ErrV w' (.iface t x) 1) ∧ Below w.heap.size w w' := by
  have hbn := h.isOk.n.2
  have hP := bookPages_any bb N B w h
  have g4 : (B.n : Int) ≤ 2048 := by omega
  have g0 : (0 : Int) ≤ B.n := by omega
  clear h hbn
  by_cases q1 : first < 0
  · go_enter Tryd.func34, Tryd.ntmps34
    go_wp2_with fail
    refine (woe_num _ 1 _).mono ?_
    rintro e w2 ⟨⟨t, x, rfl, he⟩, hb2⟩
    have HE := Lib.hid he
    clear he
    try dsimp only
    go_wp2_with fail
    go_ret2
    exact ⟨⟨t, x, rfl, HE.out⟩, hb2⟩
  by_cases q2 : n < 1
  · go_enter Tryd.func34, Tryd.ntmps34
    go_wp2_with fail
    refine (woe_num _ 1 _).mono ?_
    rintro e w2 ⟨⟨t, x, rfl, he⟩, hb2⟩
    have HE := Lib.hid he
    clear he
    try dsimp only
    go_wp2_with fail
    go_ret2
    exact ⟨⟨t, x, rfl, HE.out⟩, hb2⟩
  by_cases q3 : 4095 < n
  · go_enter Tryd.func34, Tryd.ntmps34
    go_wp2_with fail
    refine (woe_num _ 1 _).mono ?_
    rintro e w2 ⟨⟨t, x, rfl, he⟩, hb2⟩
    have HE := Lib.hid he
    clear he
    try dsimp only
    go_wp2_with fail
    go_ret2
    exact ⟨⟨t, x, rfl, HE.out⟩, hb2⟩
  have q4 : (B.n : Int) - 1 - n < first := by omega
  go_enter Tryd.func34, Tryd.ntmps34
  go_wp2_with fail
  refine hP.mono ?_
  rintro e w1 ⟨rfl, rfl⟩
  try dsimp only
  go_wp2_with fail
  refine (woe_num _ 1 _).mono ?_
  rintro e w2 ⟨⟨t, x, rfl, he⟩, hb2⟩
  have HE := Lib.hid he
  clear he
  try dsimp only
  go_wp2_with fail
  go_ret2
  exact ⟨⟨t, x, rfl, HE.out⟩, hb2⟩
set_option maxRecDepth 100000 in
set_option maxHeartbeats 1000000 in
theorem depotNew_any (bb first n : Nat) (N : Nat → Prop) (B : BookS) (hn : 1 ≤ n ∧ n ≤ 64 ∧ first + n * 5 ≤ B.n) (w : World) (h : BookI w bb N B) :
    Calls Tryd.prog 39 #[.pointer (some ⟨bb, 0, none⟩), .int .i64 (first : Int), .int .i64 (n : Int)] w fun e w' => (∃ tb, e = .returned (.tuple #[.pointer (some ⟨tb, 0, none⟩), .nilIface]) ∧ w.heap.size ≤ tb ∧ HolI 131 w' tb N bb first n B) ∧ Below w.heap.size w w' := by
  have HB := Lib.hid h
  have hbn := h.isOk.n.2
  obtain ⟨hn1, hn2, hn3⟩ := hn
  have hP := bookPages_any bb N B w h
  clear h
  have g1 : (1 : Int) ≤ n := by omega
  have g2 : (0 : Int) ≤ first := by omega
  have g3 : (n : Int) ≤ 64 := by omega
  have g4 : (B.n : Int) ≤ 2048 := by omega
  have g5 : (first : Int) + (n : Int) * 5 ≤ (B.n : Int) := by omega
  go_enter Tryd.func39, Tryd.ntmps39
  go_wp2_with fail
  refine hP.mono ?_
  rintro e w1 ⟨rfl, rfl⟩
  try dsimp only
  go_wp2_with fail
  refine (depotPages_any _ ⟨by omega, by omega⟩ _).mono ?_
  rintro e w1 ⟨rfl, rfl⟩
  try dsimp only
  go_wp2_with fail
  go_ret2
  have hb : ∀ o : Obj, Below w.heap.size w (w.alloc o) := fun o => (Below.refl _ _).alloc (Nat.le_refl _) _
  refine ⟨⟨_, rfl, Nat.le_refl _, heap_alloc_new w _, HB.out.keep (hb _) (fun k hk => ?_), fun hN => ?_⟩, hb _⟩
  · rcases hk with hk | hk
    · have := HB.out.N_lt k hk; exact ⟨by simp; omega, .inl hk⟩
    · subst hk; exact ⟨by simp, .inr (Nat.le_refl _)⟩
  · have := HB.out.N_lt _ hN; omega
set_option maxRecDepth 100000 in
set_option maxHeartbeats 2000000 in
theorem depotNew_bad (bb : Nat) (first n : Int) (N : Nat → Prop) (B : BookS) (hf : -9223372036854775808 ≤ first ∧ first < 9223372036854775808) (hn : -9223372036854775808 ≤ n ∧ n < 9223372036854775808) (hbad : ¬ (0 ≤ first ∧ 1 ≤ n ∧ n ≤ 64 ∧ first ≤ B.n - n * 5)) (w : World) (h : BookI w bb N B) :
    Calls Tryd.prog 39 #[.pointer (some ⟨bb, 0, none⟩), .int .i64 first, .int .i64 n] w fun e w' => (∃ t x, e = .returned (.tuple #[.pointer none, .iface t x]) ∧ ErrV w' (.iface t x) 1) ∧ Below w.heap.size w w' := by
  have hbn := h.isOk.n.2
  have hP := bookPages_any bb N B w h
  have g4 : (B.n : Int) ≤ 2048 := by omega
  have g0 : (0 : Int) ≤ B.n := by omega
  clear h hbn
  by_cases q1 : first < 0
  · go_enter Tryd.func39, Tryd.ntmps39
    go_wp2_with fail
    refine (woe_num _ 1 _).mono ?_
    rintro e w2 ⟨⟨t, x, rfl, he⟩, hb2⟩
    have HE := Lib.hid he
    clear he
    try dsimp only
    go_wp2_with fail
    go_ret2
    exact ⟨⟨t, x, rfl, HE.out⟩, hb2⟩
  by_cases q2 : n < 1
  · go_enter Tryd.func39, Tryd.ntmps39
    go_wp2_with fail
    refine (woe_num _ 1 _).mono ?_
    rintro e w2 ⟨⟨t, x, rfl, he⟩, hb2⟩
    have HE := Lib.hid he
    clear he
    try dsimp only
    go_wp2_with fail
    go_ret2
    exact ⟨⟨t, x, rfl, HE.out⟩, hb2⟩
  by_cases q3 : 64 < n
  · go_enter Tryd.func39, Tryd.ntmps39
    go_wp2_with fail
    refine (woe_num _ 1 _).mono ?_
    rintro e w2 ⟨⟨t, x, rfl, he⟩, hb2⟩
    have HE := Lib.hid he
    clear he
    try dsimp only
    go_wp2_with fail
    go_ret2
    exact ⟨⟨t, x, rfl, HE.out⟩, hb2⟩
  have q4 : (B.n : Int) - n * 5 < first := by omega
  go_enter Tryd.func39, Tryd.ntmps39
  go_wp2_with fail
  refine hP.mono ?_
  rintro e w1 ⟨rfl, rfl⟩
  try dsimp only
  go_wp2_with fail
  refine (depotPages_any _ ⟨by omega, by omega⟩ _).mono ?_
  rintro e w1 ⟨rfl, rfl⟩
  try dsimp only
  go_wp2_with fail
  refine (woe_num _ 1 _).mono ?_
  rintro e w2 ⟨⟨t, x, rfl, he⟩, hb2⟩
  have HE := Lib.hid he
  clear he
  try dsimp only
  go_wp2_with fail
  go_ret2
  exact ⟨⟨t, x, rfl, HE.out⟩, hb2⟩
end Go.Proofs.YthaaoghbginmpaaDoor
set_option linter.unusedSimpArgs false
set_option linter.unusedVariables false
set_option linter.unnecessarySimpa false
namespace Go.Proofs.YthaaoghbginmpaaDoor
open Go.RowKit Go.Maps
def freshB6 : BookS := (newB 100 498 ⟨List.replicate 600 (zer 64), []⟩).homed
theorem freshB6_view (i : Nat) (hi : i < 498) : freshB6.view i = zer 64 := newB_view 600 100 498 (by decide) i hi
theorem freshB6_cnt : freshB6.cnt = 0 := newB_cnt _ _ _
theorem freshB6_n : freshB6.n = 498 := rfl
set_option maxRecDepth 100000 in
set_option maxHeartbeats 1000000 in
theorem fresh09_any (n : Nat) (hn : 1 ≤ n ∧ n ≤ 195) (N : Nat → Prop) (w : World) (hN : ∀ i, N i → i < w.heap.size) :
    Calls Tryd.prog 61 #[.int .i64 (n : Int)] w fun e w' => (∃ bb tb, e = .returned (.tuple #[.pointer (some ⟨bb, 0, none⟩), .pointer (some ⟨tb, 0, none⟩)]) ∧ HolI 142 w' tb N bb 2 n freshB) ∧ Keeps N w w' := by
  have hDN := diskNew_any 300 (by decide) N w hN
  have HN := Lib.hid hN
  clear hN
  go_enter Tryd.func61, Tryd.ntmps61
  go_wp2_with fail
  refine hDN.mono ?_
  clear hDN
  rintro e w1 ⟨⟨db, rfl, hdb, hd⟩, hb1⟩
  have HD := Lib.hid hd
  have HB1 := Lib.hid hb1
  clear hd hb1
  have hMT := mount_zero db 100 N ⟨List.replicate 300 (zer 64), []⟩ w1 (by decide) (by simp) HD.out (fun h => by have := HN.out _ h; omega) (fun i hi => zero_view 300 i (by simpa using hi))
  try dsimp only
  go_wp2_with fail
  refine hMT.mono ?_
  clear hMT
  rintro e w2 ⟨⟨bb, rfl, hbb, hB⟩, hk2⟩
  have HB : Hid (BookI w2 bb N freshB) := Lib.hid (by simpa [freshB] using hB)
  have HK2 : Hid (Keeps N w w2) := Lib.hid ((Keeps.of_below HB1.out).trans hk2)
  clear hB hk2 HD HB1
  have hPN := radixNew_any bb 2 n N freshB ⟨hn.1, by omega, by rw [freshB_n]; omega⟩ w2 HB.out
  try dsimp only
  go_wp2_with fail
  refine hPN.mono ?_
  clear hPN
  rintro e w3 ⟨⟨tb, rfl, htb, hT⟩, hb3⟩
  have HT := Lib.hid hT
  have HB3 := Lib.hid hb3
  clear hT hb3
  try dsimp only
  go_wp2_with fail
  go_ret2
  exact ⟨⟨bb, tb, rfl, HT.out⟩, HK2.out.trans (Keeps.of_below HB3.out)⟩
set_option maxRecDepth 100000 in
set_option maxHeartbeats 1000000 in
theorem fresh07_any (n : Nat) (hn : 1 ≤ n ∧ n ≤ 64) (N : Nat → Prop) (w : World) (hN : ∀ i, N i → i < w.heap.size) :
    Calls Tryd.prog 25 #[.int .i64 (n : Int)] w fun e w' => (∃ bb tb, e = .returned (.tuple #[.pointer (some ⟨bb, 0, none⟩), .pointer (some ⟨tb, 0, none⟩)]) ∧ HolI 131 w' tb N bb 3 n freshB6) ∧ Keeps N w w' := by
  have hDN := diskNew_any 600 (by decide) N w hN
  have HN := Lib.hid hN
  clear hN
  go_enter Tryd.func25, Tryd.ntmps25
  go_wp2_with fail
  refine hDN.mono ?_
  clear hDN
  rintro e w1 ⟨⟨db, rfl, hdb, hd⟩, hb1⟩
  have HD := Lib.hid hd
  have HB1 := Lib.hid hb1
  clear hd hb1
  have hMT := mount_zero db 100 N ⟨List.replicate 600 (zer 64), []⟩ w1 (by decide) (by simp) HD.out (fun h => by have := HN.out _ h; omega) (fun i hi => zero_view 600 i (by simpa using hi))
  try dsimp only
  go_wp2_with fail
  refine hMT.mono ?_
  clear hMT
  rintro e w2 ⟨⟨bb, rfl, hbb, hB⟩, hk2⟩
  have HB : Hid (BookI w2 bb N freshB6) := Lib.hid (by simpa [freshB6] using hB)
  have HK2 : Hid (Keeps N w w2) := Lib.hid ((Keeps.of_below HB1.out).trans hk2)
  clear hB hk2 HD HB1
  have hPN := depotNew_any bb 3 n N freshB6 ⟨hn.1, by omega, by rw [freshB6_n]; omega⟩ w2 HB.out
  try dsimp only
  go_wp2_with fail
  refine hPN.mono ?_
  clear hPN
  rintro e w3 ⟨⟨tb, rfl, htb, hT⟩, hb3⟩
  have HT := Lib.hid hT
  have HB3 := Lib.hid hb3
  clear hT hb3
  try dsimp only
  go_wp2_with fail
  go_ret2
  exact ⟨⟨bb, tb, rfl, HT.out⟩, HK2.out.trans (Keeps.of_below HB3.out)⟩
end Go.Proofs.YthaaoghbginmpaaDoor
set_option linter.unusedSimpArgs false
set_option linter.unusedVariables false
set_option linter.unnecessarySimpa false
namespace Go.Proofs.YthaaoghbginmpaaDoor
open Go.RowKit Go.Maps
set_option maxRecDepth 100000 in
set_option maxHeartbeats 1000000 in
theorem dpage_any (tb : Nat) (N : Nat → Prop) (bb first n : Nat) (B : BookS) (slot : Nat) (hi : first + slot / 4 * 5 < B.n) (w : World) (h : HolI 131 w tb N bb first n B) :
    Calls Tryd.prog 60 #[.pointer (some ⟨tb, 0, none⟩), .int .i64 (slot : Int)] w fun e w' => e = .returned (.int .i64 ((first + slot / 4 * 5 + 1 + slot % 4 : Nat) : Int)) ∧ w = w' := by
  have hn2 := h.2.1.isOk.n.2
  obtain ⟨z0, z1, z2⟩ := blk3 h.1
  have hf1 : (first : Int) + (slot : Int) / 4 * 5 < 2048 := by omega
  have hf0 : (0 : Int) ≤ first := by omega
  have hs0 : (0 : Int) ≤ slot := by omega
  have HE : Hid (((first + slot / 4 * 5 + 1 + slot % 4 : Nat) : Int) = (first : Int) + (slot : Int) / 4 * 5 + 1 + (slot : Int) % 4) := Lib.hid (by omega)
  rw [HE.out]
  clear h
  go_enter Tryd.func60, Tryd.ntmps60
  go_wp2_with fail
  go_ret
  exact ⟨rfl, rfl⟩
set_option maxRecDepth 100000 in
set_option maxHeartbeats 2000000 in
theorem dstate_any (tb : Nat) (N : Nat → Prop) (bb first n : Nat) (B : BookS) (slot : Nat) (hs : slot < n * 4) (hn : first + n * 5 ≤ B.n) (w : World) (h : HolI 131 w tb N bb first n B) :
    Calls Tryd.prog 58 #[.pointer (some ⟨tb, 0, none⟩), .int .i64 (slot : Int)] w fun e w' => e = .returned (.tuple #[.int .u8 ((B.view (first + slot / 4 * 5)).getD (slot % 4) 0), .nilIface]) ∧ Below w.heap.size w w' := by
  have HT := Lib.hid h
  have hok := h.2.1.isOk
  have hn2 := hok.n.2
  have hq : first + slot / 4 * 5 < B.n := by omega
  have HV : Hid (PgOk (B.view (first + slot / 4 * 5))) := Lib.hid (BookS.view_ok hok _ hq)
  have hrp := Lib.hid (fun wx (hb : Below w.heap.size w wx) => dhead_any tb N bb first n B (slot / 4) hq wx (HT.out.below hb))
  obtain ⟨z0, z1, z2⟩ := blk3 h.1
  clear h hok
  have hs0 : (0 : Int) ≤ slot := by omega
  have hs1 : (slot : Int) < n * 4 := by omega
  have hn1 : (n : Int) ≤ 2048 := by omega
  have hn0 : (0 : Int) ≤ n := by omega
  obtain ⟨pg, hpg⟩ : ∃ pg, B.view (first + slot / 4 * 5) = pg := ⟨_, rfl⟩
  rw [hpg] at HV hrp ⊢
  clear hpg
  have hp64 := HV.out.1
  obtain ⟨x, hx⟩ : ∃ x, pg.getD (slot % 4) 0 = x := ⟨_, rfl⟩
  rw [hx]
  have HX := Lib.hid hx
  clear hx
  go_enter Tryd.func58, Tryd.ntmps58
  go_wp2_with fail
  have hp := hrp.out w (Below.refl _ _)
  rw [show ((slot / 4 : Nat) : Int) = (slot : Int) / 4 by omega] at hp
  refine hp.mono ?_
  clear hp
  rintro e w2 ⟨rfl, hb2⟩
  clear z0 z1 z2
  try dsimp only
  go_wp2_with (refine page_store rfl (.tmp 6) (.tmp 30) rfl w2.heap.size pg (zer 64) rfl rfl (heap_alloc_new w2 _) hp64 rfl ?_)
  have hbx : ∀ o : Obj, Below w2.heap.size w2 ((w2.alloc o).setRow w2.heap.size (v8a pg)) := fun o => below_setRow ((Below.refl _ _).alloc (Nat.le_refl _) _) (Nat.le_refl _) _
  refine gen_code (fun wx => Hid (wx.heap[w2.heap.size]? = some (.cells (v8a pg) 68) ∧ Below w.heap.size w wx)) (Lib.hid ⟨setRow_heap _ _ _ _ _ (0, 0) (heap_alloc_new w2 _), hb2.trans ((hbx _).mono hb2.size)⟩) ?_
  clear hbx hb2
  generalize w2.heap.size = b6
  intro w3 H3
  obtain ⟨c0, f0⟩ := v8_cell H3.out.1 (slot % 4) (by omega)
  rw [HX.out] at c0
  have r0 := cell_regrown c0
  refine wp_region_mix [(0, true), (1, true), (2, true), (3, true), (4, true), (5, false), (6, true), (7, true)] 7 (fun w' => ∃ p : Regrown, w' = Go.Sort.grow (redrawn w3 p.d) p.os) (by kernel_rfl) (by kernel_rfl) (fun _ _ d _ _ h => by cases d <;> exact h) (grows_drew _) ?_
  (repeat (with_reducible refine mix_q ?_; simp only [List.drop_succ_cons, List.drop_zero, List.take_succ_cons, List.take_zero]; go_big_quiet_step (fail); with_reducible refine wpQuiet_nil ?_))
  with_reducible refine mix_a ?_; simp only [List.drop_succ_cons, List.drop_zero, List.take_succ_cons, List.take_zero]
  go_wp2_with fail
  refine (woe_nil _ w3.drew).mono ?_
  rintro e w4 ⟨rfl, rfl⟩
  try dsimp only
  go_wp2_with fail
  try with_reducible refine wpList_nil ?_
  with_reducible refine mixQ_normal ?_
  refine ⟨fun _ => grows_of_below (Below.refl _ _).drew, ?_⟩
  (repeat (with_reducible refine mix_q ?_; simp only [List.drop_succ_cons, List.drop_zero, List.take_succ_cons, List.take_zero]; go_big_quiet_step (fail); with_reducible refine wpQuiet_nil ?_))
  with_reducible refine mix_nil ?_
  go_wp2_with fail
  go_ret2
  exact ⟨rfl, H3.out.2.drew⟩
end Go.Proofs.YthaaoghbginmpaaDoor
set_option linter.unusedSimpArgs false
set_option linter.unusedVariables false
set_option linter.unnecessarySimpa false
namespace Go.Proofs.YthaaoghbginmpaaDoor
open Go.RowKit Go.Maps
set_option maxRecDepth 100000 in
set_option maxHeartbeats 1000000 in
theorem dget_nil (slot : Int) (w : World) : Calls Tryd.prog 29 #[.pointer none, .int .i64 slot] w fun e w' => (∃ t x, e = .returned (.tuple #[.agg (v8a (zer 64)), .iface t x]) ∧ ErrV w' (.iface t x) 1) ∧ Below w.heap.size w w' := by
  have hb0 : ∀ o : Obj, Below w.heap.size w (w.alloc o) := fun o => (Below.refl _ _).alloc (Nat.le_refl _) _
  go_enter Tryd.func29, Tryd.ntmps29
  repeat ((fail_if_success (with_reducible refine stop_pos "depot.go:110" rfl ?_)); (first | go_values | go_skip | go_guarded | go_step | go_upon))
  refine gen_world (fun wx => Hid (wx.heap[w.heap.size]? = some (.cells (v8a (zer 64)) 68) ∧ Below w.heap.size w wx)) (Lib.hid ⟨heap_alloc_new w (.cells (v8a (zer 64)) 68), hb0 _⟩) ?_
  clear hb0
  intro w1 H1
  go_wp2_with fail
  refine (dstate_nil slot w1).mono ?_
  rintro e w3 ⟨⟨t, x, rfl, he⟩, hb3⟩
  have HE := Lib.hid he
  have H3 : Hid (w3.heap[w.heap.size]? = some (.cells (v8a (zer 64)) 68) ∧ Below w.heap.size w w3) := Lib.hid ⟨(hb3.block _ (lt_of_blk H1.out.1)).trans H1.out.1, H1.out.2.trans (hb3.mono H1.out.2.size)⟩
  clear he hb3 H1
  have hpe := built_pg0
  try dsimp only
  go_wp2_with (first | (refine wpList_build_to rfl 68 _ rfl (v8a (zer 64)) hpe ?_) | (refine page_store rfl (.tmp 4) (.tmp 17) rfl w.heap.size (zer 64) (zer 64) rfl rfl H3.out.1 rfl rfl ?_))
  refine bodyPost_ret (results_cell_slot Tryd.results29 _ _ w.heap.size 68 (v8a (zer 64)) (0, 0) _ rfl (.iface t x) rfl (setRow_heap _ _ _ _ _ (0, 0) H3.out.1) Tryd.underlying68 rfl (by rw [show (v8a (zer 64)).size = 64 from rfl]; exact info_pgs)) rfl ⟨⟨t, x, rfl, ?_⟩, below_setRow H3.out.2 (Nat.le_refl _) _⟩
  exact HE.out.setRow H3.out.1 (by decide) _
set_option maxRecDepth 100000 in
set_option maxHeartbeats 1000000 in
theorem dmove_nil (slot : Int) (w : World) : Calls Tryd.prog 27 #[.pointer none, .int .i64 slot] w fun e w' => (∃ t x, e = .returned (.tuple #[.int .i64 0, .iface t x]) ∧ ErrV w' (.iface t x) 1) ∧ Below w.heap.size w w' := by
  go_enter Tryd.func27, Tryd.ntmps27
  go_wp2_with fail
  refine (dget_nil slot w).mono ?_
  rintro e w3 ⟨⟨t, x, rfl, he⟩, hb3⟩
  have H3 : Hid (ErrV w3 (.iface t x) 1 ∧ Below w.heap.size w w3) := Lib.hid ⟨he, hb3⟩
  clear he hb3
  try dsimp only
  repeat ((fail_if_success (with_reducible refine stop_at 15 rfl ?_)); (first | (refine page_store rfl (.tmp 6) (.tmp 13) rfl w3.heap.size (zer 64) (zer 64) rfl rfl (heap_alloc_new w3 _) rfl rfl ?_) | go_values | go_skip | go_guarded | go_step | go_upon))
  have hbx : ∀ o : Obj, Below w3.heap.size w3 ((w3.alloc o).setRow w3.heap.size (v8a (zer 64))) := fun o => below_setRow ((Below.refl _ _).alloc (Nat.le_refl _) _) (Nat.le_refl _) _
  refine gen_world (fun wx => Hid (ErrV wx (.iface t x) 1 ∧ Below w.heap.size w wx)) (Lib.hid ⟨H3.out.1.below (hbx _), H3.out.2.trans ((hbx _).mono H3.out.2.size)⟩) ?_
  clear hbx H3
  generalize w3.heap.size = b6
  intro w4 H4
  go_wp2_with fail
  go_ret2
  exact ⟨⟨t, x, rfl, H4.out.1⟩, H4.out.2⟩
set_option maxRecDepth 100000 in
set_option maxHeartbeats 1000000 in
theorem dcount_nil (w : World) : Calls Tryd.prog 30 #[.pointer none] w fun e w' => (∃ t x, e = .returned (.tuple #[.int .i64 0, .int .i64 0, .int .i64 0, .iface t x]) ∧ ErrV w' (.iface t x) 1) ∧ Below w.heap.size w w' := by
  have hb0 : ∀ o : Obj, Below w.heap.size w (w.alloc o) := fun o => (Below.refl _ _).alloc (Nat.le_refl _) _
  go_enter Tryd.func30, Tryd.ntmps30
  repeat ((fail_if_success (with_reducible refine stop_pos "depot.go:136" rfl ?_)); (first | go_values | go_skip | go_guarded | go_step | go_upon))
  refine gen_world (fun wx => Hid (Below w.heap.size w wx)) (Lib.hid (hb0 _)) ?_
  clear hb0
  intro w1 H1
  go_wp2_with fail
  refine (woe_num _ 1 w1).mono ?_
  rintro e w3 ⟨⟨t, x, rfl, he⟩, hb3⟩
  have H3 : Hid (ErrV w3 (.iface t x) 1 ∧ Below w.heap.size w w3) := Lib.hid ⟨he, H1.out.trans (hb3.mono H1.out.size)⟩
  clear he hb3 H1
  try dsimp only
  go_wp2_with fail
  refine bodyPost_ret (v := .tuple #[.int .i64 0, .int .i64 0, .int .i64 0, .iface t x]) ?_ rfl ⟨⟨t, x, rfl, H3.out.1⟩, H3.out.2⟩
  simp [results, Tryd.results30]
end Go.Proofs.YthaaoghbginmpaaDoor
set_option linter.unusedSimpArgs false
set_option linter.unusedVariables false
set_option linter.unnecessarySimpa false
namespace Go.Proofs.YthaaoghbginmpaaDoor
open Go.RowKit Go.Maps
set_option maxRecDepth 100000 in
set_option maxHeartbeats 1000000 in
theorem sound_bad (tb : Nat) (lun block : Int) (hbad : ¬ ((0 ≤ lun ∧ lun < 4) ∧ (0 ≤ block ∧ block < 256))) (w : World) : Calls Tryd.prog 62 #[.pointer (some ⟨tb, 0, none⟩), .int .i64 lun, .int .i64 block] w fun e w' => (∃ t x, e = .returned (.iface t x) ∧ ErrV w' (.iface t x) 1) ∧ Below w.heap.size w w' := by
  by_cases q1 : lun < 0
  · clear hbad
    go_enter Tryd.func62, Tryd.ntmps62
    go_wp2_with fail
    refine (woe_num _ 1 _).mono ?_
    rintro e w2 ⟨⟨t, x, rfl, he⟩, hb2⟩
    have HE := Lib.hid he
    clear he
    try dsimp only
    go_wp2_with fail
    go_ret
    exact ⟨⟨t, x, rfl, HE.out⟩, hb2⟩
  by_cases q2 : 4 ≤ lun
  · clear hbad
    go_enter Tryd.func62, Tryd.ntmps62
    go_wp2_with fail
    refine (woe_num _ 1 _).mono ?_
    rintro e w2 ⟨⟨t, x, rfl, he⟩, hb2⟩
    have HE := Lib.hid he
    clear he
    try dsimp only
    go_wp2_with fail
    go_ret
    exact ⟨⟨t, x, rfl, HE.out⟩, hb2⟩
  by_cases q3 : block < 0
  · clear hbad
    go_enter Tryd.func62, Tryd.ntmps62
    go_wp2_with fail
    refine (woe_num _ 1 _).mono ?_
    rintro e w2 ⟨⟨t, x, rfl, he⟩, hb2⟩
    have HE := Lib.hid he
    clear he
    try dsimp only
    go_wp2_with fail
    go_ret
    exact ⟨⟨t, x, rfl, HE.out⟩, hb2⟩
  have q4 : 256 ≤ block := by omega
  clear hbad
  go_enter Tryd.func62, Tryd.ntmps62
  go_wp2_with fail
  refine (woe_num _ 1 _).mono ?_
  rintro e w2 ⟨⟨t, x, rfl, he⟩, hb2⟩
  have HE := Lib.hid he
  clear he
  try dsimp only
  go_wp2_with fail
  go_ret
  exact ⟨⟨t, x, rfl, HE.out⟩, hb2⟩
set_option maxRecDepth 100000 in
theorem rget_bad (tb : Nat) (lun block : Int) (hbad : ¬ ((0 ≤ lun ∧ lun < 4) ∧ (0 ≤ block ∧ block < 256))) (w : World) : Calls Tryd.prog 32 #[.pointer (some ⟨tb, 0, none⟩), .int .i64 lun, .int .i64 block] w fun e w' => (∃ t x, e = .returned (.tuple #[.int .i64 0, .iface t x]) ∧ ErrV w' (.iface t x) 1) ∧ Below w.heap.size w w' := by
  have hS := sound_bad tb lun block hbad w
  clear hbad
  go_enter Tryd.func32, Tryd.ntmps32
  go_wp2_with fail
  refine hS.mono ?_
  rintro e w2 ⟨⟨t, x, rfl, he⟩, hb2⟩
  have HE := Lib.hid he
  clear he
  try dsimp only
  go_wp2_with fail
  go_ret2
  exact ⟨⟨t, x, rfl, HE.out⟩, hb2⟩
set_option maxRecDepth 100000 in
theorem rset_bad (tb : Nat) (lun block y : Int) (hbad : ¬ ((0 ≤ lun ∧ lun < 4) ∧ (0 ≤ block ∧ block < 256))) (w : World) : Calls Tryd.prog 36 #[.pointer (some ⟨tb, 0, none⟩), .int .i64 lun, .int .i64 block, .int .i64 y] w fun e w' => (∃ t x, e = .returned (.iface t x) ∧ ErrV w' (.iface t x) 1) ∧ Below w.heap.size w w' := by
  have hS := sound_bad tb lun block hbad w
  clear hbad
  go_enter Tryd.func36, Tryd.ntmps36
  go_wp2_with fail
  refine hS.mono ?_
  rintro e w2 ⟨⟨t, x, rfl, he⟩, hb2⟩
  have HE := Lib.hid he
  clear he
  try dsimp only
  go_wp2_with fail
  go_ret
  exact ⟨⟨t, x, rfl, HE.out⟩, hb2⟩
end Go.Proofs.YthaaoghbginmpaaDoor
