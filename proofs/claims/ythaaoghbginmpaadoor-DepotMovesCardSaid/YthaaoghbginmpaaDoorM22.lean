/- A depot: what is not there is not got; where there is no room nothing is put; a block is moved. A depot: a block is moved. -/
import Derived.Test.YthaaoghbginmpaaDoorM20
set_option linter.unusedSimpArgs false
set_option linter.unusedVariables false
set_option linter.unnecessarySimpa false
namespace Go.Proofs.YthaaoghbginmpaaDoor
set_option linter.unusedSimpArgs false
set_option linter.unusedVariables false
open Go.RowKit Go.Maps
set_option maxRecDepth 100000 in
set_option maxHeartbeats 8000000 in
theorem dput_full (tb : Nat) (N : Nat → Prop) (bb first n : Nat) (B : BookS) (hn : first + n * 5 ≤ B.n) (p : List Int) (hp : PgOk p) (but : Int) (hk : (bestF B first but n).1 < 0) (w : World) (h : HolI 131 w tb N bb first n B) :
    Calls Tryd.prog 57 #[.pointer (some ⟨tb, 0, none⟩), .agg (v8a p), .int .i64 but] w fun e w' => (∃ t x, e = .returned (.tuple #[.int .i64 0, .iface t x]) ∧ ErrV w' (.iface t x) 20) ∧ Below w.heap.size w w' := by
  have HT := Lib.hid h
  have hok := h.2.1.isOk
  have hn2 := hok.n.2
  have HB := Lib.hid hk
  have HR := Lib.hid (bestF_range B first but)
  have hp64 := hp.1
  have HV : Hid (∀ i, i < n → PgOk (B.view (first + i * 5))) := Lib.hid (fun i hi => BookS.view_ok hok _ (by omega))
  have hrp := Lib.hid (fun wx (hb : Below w.heap.size w wx) (i : Nat) (hi : i < n) => dhead_any tb N bb first n B i (by omega) wx (HT.out.below hb))
  clear h hok hk hp
  have hb0 : ∀ o : Obj, Below w.heap.size w (w.alloc o) := fun o => (Below.refl _ _).alloc (Nat.le_refl _) _
  go_enter Tryd.func57, Tryd.ntmps57
  repeat ((fail_if_success (with_reducible refine stop_pos "depot.go:73" rfl ?_)); (first | go_values | go_skip | go_guarded | go_step | go_upon))
  refine gen_world (fun wx => Hid (PuI w w.heap.size p wx)) (Lib.hid ⟨heap_alloc_new w _, hb0 _⟩) ?_
  clear hb0
  intro w1 H1
  have hb4 : w.heap.size ≤ w.heap.size := Nat.le_refl _
  generalize hb4e : w.heap.size = b4 at H1 hb4
  have HB4 := Lib.hid hb4e
  clear hb4e
  obtain ⟨z0, z1, z2⟩ := blk3 ((HT.out.below H1.out.2).1)
  go_wp2_with fail
  clear z0 z1 z2
  go_loopw [8, 9, 26] (fun bv gv iv wr => ∃ (i : Nat) (x : Int) (y : Bool), iv = .int .i64 (i : Int) ∧ i ≤ n ∧ bv = .int .i64 x ∧ gv = .bool y ∧ Hid (bestF B first but i = (x, y)) ∧ Hid (PuI w b4 p wr)) (fun _ _ iv _ => n + 1 - (intOf iv).toNat)
  case atStart => exact ⟨0, -1, false, rfl, by omega, rfl, rfl, Lib.hid rfl, H1⟩
  case round =>
    clear H1
    obtain ⟨i, x, y, rfl, hi, rfl, rfl, HXY, HP⟩ := hrel
    by_cases hlt : i < n
    · have hi1 : (i : Int) < n := by omega
      have hi2 : (n : Int) < 2048 := by omega
      have hNX : Hid (bestF B first but (i + 1) = if (i : Int) ≠ but ∧ 0 ≤ atV i (frR (B.view (first + i * 5)) 4) ∧ (x < 0 ∨ smR (B.view (first + i * 5)) 4 = true ∧ y = false) then (atV i (frR (B.view (first + i * 5)) 4), smR (B.view (first + i * 5)) 4) else (x, y)) := Lib.hid (by rw [bestF, HXY.out])
      have hp := hrp.out wr HP.out.2 i hlt
      have HPK := Lib.hid (HV.out i hlt)
      generalize B.view (first + i * 5) = pg at hp HPK hNX
      have hq64 := HPK.out.1
      go_wp2_with fail
      refine hp.mono ?_
      clear hp
      rintro e w2 ⟨rfl, hb2⟩
      have H2 : Hid (PuI w b4 p w2) := Lib.hid ⟨(hb2.block _ (lt_of_blk HP.out.1)).trans HP.out.1, HP.out.2.trans (hb2.mono HP.out.2.size)⟩
      clear hb2 HP
      try dsimp only
      repeat ((fail_if_success (with_reducible refine stop_at 35 rfl ?_)); (first | (refine page_store rfl (.tmp 11) (.tmp 33) rfl w2.heap.size pg (zer 64) rfl rfl (heap_alloc_new w2 _) hq64 rfl ?_) | go_values | go_skip | go_guarded | go_step | go_upon))
      have hbx : ∀ o : Obj, Below w2.heap.size w2 ((w2.alloc o).setRow w2.heap.size (v8a pg)) := fun o => below_setRow ((Below.refl _ _).alloc (Nat.le_refl _) _) (Nat.le_refl _) _
      refine gen_world (fun wx => Hid (wx.heap[w2.heap.size]? = some (.cells (v8a pg) 68) ∧ PuI w b4 p wx)) (Lib.hid ⟨setRow_heap _ _ _ _ _ (0, 0) (heap_alloc_new w2 _), ((hbx _).block _ (lt_of_blk H2.out.1)).trans H2.out.1, H2.out.2.trans ((hbx _).mono H2.out.2.size)⟩) ?_
      clear hbx H2
      generalize w2.heap.size = b11
      intro w3 H3
      go_wp2_with fail
      go_loopw [13, 14, 15] (fun av sv kv wr' => ∃ (k' : Nat) (A : Int) (S : Bool), k' ≤ 4 ∧ kv = .int .i64 ((k' : Int) - 1) ∧ av = .int .i64 A ∧ sv = .bool S ∧ Hid (A = atV i (frR pg (4 - k'))) ∧ Hid (S = smR pg (4 - k')) ∧ wr' = w3) (fun _ _ kv _ => (intOf kv + 1).toNat)
      case atStart => exact ⟨4, -1, false, by omega, rfl, rfl, rfl, Lib.hid rfl, Lib.hid rfl, rfl⟩
      case round =>
        obtain ⟨k', A, S, hk4, rfl, rfl, rfl, HA, HS, rfl⟩ := hrel
        rcases (show k' = 0 ∨ ∃ j, k' = j + 1 by cases k' <;> simp) with rfl | ⟨j, rfl⟩
        · have HA4 : Hid (A = atV i (frR pg 4)) := HA
          have HS4 : Hid (S = smR pg 4) := HS
          have hAr := atV_range i pg 4
          rw [← HA4.out] at hAr
          rw [← HA4.out, ← HS4.out] at hNX
          obtain ⟨a0, a1⟩ := hAr
          have H4 := Lib.hid H3.out.2
          clear HA HS HA4 HS4 H3
          by_cases q1 : (i : Int) = but
          · rw [if_neg (fun h => h.1 q1)] at hNX
            go_wp2_with fail
            exact ⟨⟨i + 1, x, y, by push_cast; rw [q1], by omega, rfl, rfl, hNX, H4⟩, by simp [intOf]; omega⟩
          by_cases q2 : A < 0
          · rw [if_neg (fun h => by have := h.2.1; omega)] at hNX
            go_wp2_with fail
            exact ⟨⟨i + 1, x, y, by push_cast; rfl, by omega, rfl, rfl, hNX, H4⟩, by simp [intOf]; omega⟩
          have q2' : 0 ≤ A := by omega
          by_cases q3 : x < 0
          · rw [if_pos ⟨q1, q2', .inl q3⟩] at hNX
            go_wp2_with fail
            exact ⟨⟨i + 1, A, S, by push_cast; rfl, by omega, rfl, rfl, hNX, H4⟩, by simp [intOf]; omega⟩
          have q3' : 0 ≤ x := by omega
          cases S with
          | false =>
            rw [if_neg (fun h => by rcases h.2.2 with h | h; exact q3 h; exact absurd h.1 (by decide))] at hNX
            go_wp2_with fail
            exact ⟨⟨i + 1, x, y, by push_cast; rfl, by omega, rfl, rfl, hNX, H4⟩, by simp [intOf]; omega⟩
          | true =>
            cases y with
            | true =>
              rw [if_neg (fun h => by rcases h.2.2 with h | h; exact q3 h; exact absurd h.2 (by decide))] at hNX
              go_wp2_with fail
              exact ⟨⟨i + 1, x, true, by push_cast; rfl, by omega, rfl, rfl, hNX, H4⟩, by simp [intOf]; omega⟩
            | false =>
              rw [if_pos ⟨q1, q2', .inr ⟨rfl, rfl⟩⟩] at hNX
              go_wp2_with fail
              exact ⟨⟨i + 1, A, true, by push_cast; rfl, by omega, rfl, rfl, hNX, H4⟩, by simp [intOf]; omega⟩
        · have hj : ((j + 1 : Nat) : Int) - 1 = (j : Int) := by omega
          rw [hj]
          have hj3 : j < 4 := by omega
          have hj3' : (j : Int) < 4 := by omega
          obtain ⟨c0, f0⟩ := v8_cell H3.out.1 j (by omega)
          have e4 : 4 - j = (4 - (j + 1)) + 1 := by omega
          have e3 : 3 - (4 - (j + 1)) = j := by omega
          have HFN : Hid (frR pg (4 - j) = if pg.getD j 0 = 0 then some j else frR pg (4 - (j + 1))) := Lib.hid (by rw [e4, frR, e3])
          have HSN : Hid (smR pg (4 - j) = (S || decide (pg.getD j 0 ≠ 0))) := Lib.hid (by rw [e4, smR, e3, HS.out])
          obtain ⟨b, hb⟩ : ∃ b, pg.getD j 0 = b := ⟨_, rfl⟩
          rw [hb] at c0 HFN HSN
          clear hb e4 e3 hj
          by_cases q : b = 0
          · subst q
            rw [if_pos rfl] at HFN
            cases S <;> go_wp2_with fail
            all_goals exact ⟨⟨j, (i : Int) * 4 + j, _, by omega, by first | rfl | (congr 1; omega), rfl, rfl, Lib.hid (by rw [HFN.out]; unfold atV; push_cast; rfl), Lib.hid (by rw [HSN.out]; simp), (by first | trivial | rfl)⟩, by first | (simp [intOf]; done) | (simp [intOf]; omega)⟩
          · rw [if_neg q] at HFN
            cases S <;> go_wp2_with fail
            all_goals exact ⟨⟨j, A, _, by omega, by first | rfl | (congr 1; omega), rfl, rfl, Lib.hid (by rw [HFN.out, HA.out]), Lib.hid (by rw [HSN.out]; simp [q]), (by first | trivial | rfl)⟩, by first | (simp [intOf]; done) | (simp [intOf]; omega)⟩
    · have hin : i = n := by omega
      have hx : x < 0 := by have h := HB.out; rw [← hin, HXY.out] at h; exact h
      have hi1 : ¬ ((i : Int) < n) := by omega
      clear hin hlt
      go_wp2_with fail
      refine (woe_num _ 20 wr).mono ?_
      rintro e w5 ⟨⟨t, x, rfl, he⟩, hb5⟩
      have HE := Lib.hid he
      have HB5 := Lib.hid (HP.out.2.trans (hb5.mono HP.out.2.size))
      clear he hb5
      try dsimp only
      go_wp2_with fail
      go_ret2
      exact ⟨⟨t, x, rfl, HE.out⟩, HB5.out⟩
set_option maxRecDepth 100000 in
set_option maxHeartbeats 1000000 in
theorem dget_none (tb : Nat) (N : Nat → Prop) (bb first n : Nat) (B : BookS) (slot : Nat) (hs : slot < n * 4) (hn : first + n * 5 ≤ B.n) (hl : (B.view (first + slot / 4 * 5)).getD (slot % 4) 0 ≠ 1) (w : World) (h : HolI 131 w tb N bb first n B) :
    Calls Tryd.prog 29 #[.pointer (some ⟨tb, 0, none⟩), .int .i64 (slot : Int)] w fun e w' => (∃ t x, e = .returned (.tuple #[.agg (v8a (zer 64)), .iface t x]) ∧ ErrV w' (.iface t x) 23) ∧ Below w.heap.size w w' := by
  have HT := Lib.hid h
  have hS := Lib.hid (fun wx (hb : Below w.heap.size w wx) => dstate_any tb N bb first n B slot hs hn wx (HT.out.below hb))
  have hb0 : ∀ o : Obj, Below w.heap.size w (w.alloc o) := fun o => (Below.refl _ _).alloc (Nat.le_refl _) _
  obtain ⟨s, hss⟩ : ∃ s, (B.view (first + slot / 4 * 5)).getD (slot % 4) 0 = s := ⟨_, rfl⟩
  rw [hss] at hS hl
  clear h hss hs
  go_enter Tryd.func29, Tryd.ntmps29
  repeat ((fail_if_success (with_reducible refine stop_pos "depot.go:110" rfl ?_)); (first | go_values | go_skip | go_guarded | go_step | go_upon))
  refine gen_world (fun wx => Hid (wx.heap[w.heap.size]? = some (.cells (v8a (zer 64)) 68) ∧ Below w.heap.size w wx)) (Lib.hid ⟨heap_alloc_new w (.cells (v8a (zer 64)) 68), hb0 _⟩) ?_
  clear hb0
  intro w1 H1
  go_wp2_with fail
  refine (hS.out w1 H1.out.2).mono ?_
  rintro e w3 ⟨rfl, hb3⟩
  have H3 : Hid (w3.heap[w.heap.size]? = some (.cells (v8a (zer 64)) 68) ∧ Below w.heap.size w w3) := Lib.hid ⟨(hb3.block _ (lt_of_blk H1.out.1)).trans H1.out.1, H1.out.2.trans (hb3.mono H1.out.2.size)⟩
  clear hb3 H1 hS
  have hpe := built_pg0
  try dsimp only
  go_wp2_with (refine wpList_build_to rfl 68 _ rfl (v8a (zer 64)) hpe ?_)
  refine (woe_num _ 23 w3).mono ?_
  rintro e w4 ⟨⟨t, x, rfl, he⟩, hb4⟩
  have HE := Lib.hid he
  have H4 : Hid (w4.heap[w.heap.size]? = some (.cells (v8a (zer 64)) 68) ∧ Below w.heap.size w w4) := Lib.hid ⟨(hb4.block _ (lt_of_blk H3.out.1)).trans H3.out.1, H3.out.2.trans (hb4.mono H3.out.2.size)⟩
  clear he hb4 H3
  try dsimp only
  go_wp2_with (refine page_store rfl (.tmp 4) (.tmp 21) rfl w.heap.size (zer 64) (zer 64) rfl rfl H4.out.1 rfl rfl ?_)
  refine bodyPost_ret (results_cell_slot Tryd.results29 _ _ w.heap.size 68 (v8a (zer 64)) (0, 0) _ rfl (.iface t x) rfl (setRow_heap _ _ _ _ _ (0, 0) H4.out.1) Tryd.underlying68 rfl (by rw [show (v8a (zer 64)).size = 64 from rfl]; exact info_pgs)) rfl ⟨⟨t, x, rfl, ?_⟩, below_setRow H4.out.2 (Nat.le_refl _) _⟩
  exact HE.out.setRow H4.out.1 (by decide) _
end Go.Proofs.YthaaoghbginmpaaDoor
set_option linter.unusedSimpArgs false
set_option linter.unusedVariables false
set_option linter.unnecessarySimpa false
namespace Go.Proofs.YthaaoghbginmpaaDoor
open Go.RowKit Go.Maps
set_option maxRecDepth 100000 in
set_option maxHeartbeats 2000000 in
theorem dmove_full (tb : Nat) (N : Nat → Prop) (bb first n : Nat) (B : BookS) (slot : Nat) (hs : slot < n * 4) (hn : first + n * 5 ≤ B.n) (hl : (B.view (first + slot / 4 * 5)).getD (slot % 4) 0 = 1) (hk : (bestF B first ((slot / 4 : Nat) : Int) n).1 < 0) (w : World) (h : HolI 131 w tb N bb first n B) :
    Calls Tryd.prog 27 #[.pointer (some ⟨tb, 0, none⟩), .int .i64 (slot : Int)] w fun e w' => (∃ t x, e = .returned (.tuple #[.int .i64 0, .iface t x]) ∧ ErrV w' (.iface t x) 20) ∧ Below w.heap.size w w' := by
  have HT := Lib.hid h
  have hok := h.2.1.isOk
  have HPK : Hid (PgOk (B.view (first + slot / 4 * 5 + 1 + slot % 4))) := Lib.hid (BookS.view_ok hok _ (by omega))
  have hG := dget_any tb N bb first n B slot hs hn hl w h
  have hP := Lib.hid (fun wx (hb : Below w.heap.size w wx) => dput_full tb N bb first n B hn _ HPK.out ((slot / 4 : Nat) : Int) hk wx (HT.out.below hb))
  obtain ⟨pg, hpg⟩ : ∃ pg, B.view (first + slot / 4 * 5 + 1 + slot % 4) = pg := ⟨_, rfl⟩
  rw [hpg] at HPK hG hP
  rw [show ((slot / 4 : Nat) : Int) = (slot : Int) / 4 by omega] at hP
  have hp64 := HPK.out.1
  have hs0 : (0 : Int) ≤ slot := by omega
  have hs1 : (slot : Int) < 8192 := by have := hok.n.2; omega
  clear h hok hl hk hs hpg
  go_enter Tryd.func27, Tryd.ntmps27
  go_wp2_with fail
  refine hG.mono ?_
  clear hG
  rintro e w3 ⟨rfl, hb3⟩
  try dsimp only
  repeat ((fail_if_success (with_reducible refine stop_at 15 rfl ?_)); (first | (refine page_store rfl (.tmp 6) (.tmp 13) rfl w3.heap.size pg (zer 64) rfl rfl (heap_alloc_new w3 _) hp64 rfl ?_) | go_values | go_skip | go_guarded | go_step | go_upon))
  have hbx : ∀ o : Obj, Below w3.heap.size w3 ((w3.alloc o).setRow w3.heap.size (v8a pg)) := fun o => below_setRow ((Below.refl _ _).alloc (Nat.le_refl _) _) (Nat.le_refl _) _
  refine gen_world (fun wx => Hid (wx.heap[w3.heap.size]? = some (.cells (v8a pg) 68) ∧ Below w.heap.size w wx)) (Lib.hid ⟨setRow_heap _ _ _ _ _ (0, 0) (heap_alloc_new w3 _), hb3.trans ((hbx _).mono hb3.size)⟩) ?_
  clear hbx hb3
  generalize w3.heap.size = b6
  intro w4 H4
  go_wp2_with (refine page_load rfl (.tmp 6) rfl b6 pg rfl H4.out.1 hp64 ?_)
  refine (hP.out w4 H4.out.2).mono ?_
  rintro e w5 ⟨⟨t, x, rfl, he⟩, hb5⟩
  have HE := Lib.hid he
  have HB5 := Lib.hid (H4.out.2.trans (hb5.mono H4.out.2.size))
  clear he hb5 H4 hP
  try dsimp only
  go_wp2_with fail
  go_ret2
  exact ⟨⟨t, x, rfl, HE.out⟩, HB5.out⟩
set_option maxRecDepth 100000 in
set_option maxHeartbeats 2000000 in
theorem dmove_any (tb : Nat) (N : Nat → Prop) (bb first n : Nat) (B : BookS) (slot : Nat) (hs : slot < n * 4) (hn : first + n * 5 ≤ B.n) (hl : (B.view (first + slot / 4 * 5)).getD (slot % 4) 0 = 1) (k : Nat) (hk : (bestF B first ((slot / 4 : Nat) : Int) n).1 = (k : Int)) (B2 : BookS)
    (hB2 : (B.wrote (first + k / 4 * 5) (setDF (B.view (first + k / 4 * 5)) (k % 4) 1)).wrote (first + k / 4 * 5 + 1 + k % 4) (B.view (first + slot / 4 * 5 + 1 + slot % 4)) = B2)
    (hc : WrOk B (first + k / 4 * 5) (setDF (B.view (first + k / 4 * 5)) (k % 4) 1))
    (hc2 : WrOk (B.wrote (first + k / 4 * 5) (setDF (B.view (first + k / 4 * 5)) (k % 4) 1)) (first + k / 4 * 5 + 1 + k % 4) (B.view (first + slot / 4 * 5 + 1 + slot % 4)))
    (hl2 : (B2.view (first + slot / 4 * 5)).getD (slot % 4) 0 = 1) (hc3 : WrOk B2 (first + slot / 4 * 5) (setDF (B2.view (first + slot / 4 * 5)) (slot % 4) 2)) (w : World) (h : HolI 131 w tb N bb first n B) :
    Calls Tryd.prog 27 #[.pointer (some ⟨tb, 0, none⟩), .int .i64 (slot : Int)] w fun e w' => e = .returned (.tuple #[.int .i64 (k : Int), .nilIface]) ∧ HolI 131 w' tb N bb first n (B2.wrote (first + slot / 4 * 5) (setDF (B2.view (first + slot / 4 * 5)) (slot % 4) 2)) ∧ Keeps N w w' := by
  have HT := Lib.hid h
  have hok := h.2.1.isOk
  have HPK : Hid (PgOk (B.view (first + slot / 4 * 5 + 1 + slot % 4))) := Lib.hid (BookS.view_ok hok _ (by omega))
  have hG := dget_any tb N bb first n B slot hs hn hl w h
  have hP := Lib.hid (fun wx (hb : Below w.heap.size w wx) => dput_any tb N bb first n B hn _ HPK.out ((slot / 4 : Nat) : Int) k hk hc hc2 wx (HT.out.below hb))
  rw [hB2] at hP
  have hn' : first + n * 5 ≤ B2.n := by rw [← hB2, BookS.wrote_n, BookS.wrote_n]; exact hn
  have hD := Lib.hid (fun wx (hh : HolI 131 wx tb N bb first n B2) => ddrop_any tb N bb first n B2 slot hs hn' hl2 hc3 wx hh)
  generalize B2.wrote (first + slot / 4 * 5) (setDF (B2.view (first + slot / 4 * 5)) (slot % 4) 2) = B3 at hD ⊢
  obtain ⟨pg, hpg⟩ : ∃ pg, B.view (first + slot / 4 * 5 + 1 + slot % 4) = pg := ⟨_, rfl⟩
  rw [hpg] at HPK hG hP
  rw [show ((slot / 4 : Nat) : Int) = (slot : Int) / 4 by omega] at hP
  have hp64 := HPK.out.1
  have hs0 : (0 : Int) ≤ slot := by omega
  have hs1 : (slot : Int) < 8192 := by have := hok.n.2; omega
  clear h hok hl hk hs hpg hB2 hc hc2 hl2 hc3 hn'
  go_enter Tryd.func27, Tryd.ntmps27
  go_wp2_with fail
  refine hG.mono ?_
  clear hG
  rintro e w3 ⟨rfl, hb3⟩
  try dsimp only
  repeat ((fail_if_success (with_reducible refine stop_at 15 rfl ?_)); (first | (refine page_store rfl (.tmp 6) (.tmp 13) rfl w3.heap.size pg (zer 64) rfl rfl (heap_alloc_new w3 _) hp64 rfl ?_) | go_values | go_skip | go_guarded | go_step | go_upon))
  have hbx : ∀ o : Obj, Below w3.heap.size w3 ((w3.alloc o).setRow w3.heap.size (v8a pg)) := fun o => below_setRow ((Below.refl _ _).alloc (Nat.le_refl _) _) (Nat.le_refl _) _
  refine gen_world (fun wx => Hid (wx.heap[w3.heap.size]? = some (.cells (v8a pg) 68) ∧ Below w.heap.size w wx)) (Lib.hid ⟨setRow_heap _ _ _ _ _ (0, 0) (heap_alloc_new w3 _), hb3.trans ((hbx _).mono hb3.size)⟩) ?_
  clear hbx hb3
  generalize w3.heap.size = b6
  intro w4 H4
  go_wp2_with (refine page_load rfl (.tmp 6) rfl b6 pg rfl H4.out.1 hp64 ?_)
  refine (hP.out w4 H4.out.2).mono ?_
  rintro e w5 ⟨rfl, hh5, hk5⟩
  have H5 : Hid (HolI 131 w5 tb N bb first n B2 ∧ Keeps N w w5) := Lib.hid ⟨hh5, (Keeps.of_below H4.out.2).trans hk5⟩
  clear hh5 hk5 H4 hP
  try dsimp only
  go_wp2_with fail
  refine (hD.out w5 H5.out.1).mono ?_
  rintro e w6 ⟨rfl, hh6, hk6⟩
  have H6 : Hid (HolI 131 w6 tb N bb first n B3 ∧ Keeps N w w6) := Lib.hid ⟨hh6, H5.out.2.trans hk6⟩
  clear hh6 hk6 H5 hD
  try dsimp only
  go_wp2_with fail
  go_ret2
  exact ⟨rfl, H6.out.1, H6.out.2⟩
end Go.Proofs.YthaaoghbginmpaaDoor
