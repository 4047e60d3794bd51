/- A depot: slots that are none, or not live, are refused; each call, by the states of the slots. -/
import Derived.Test.YtajmcplanlibnaaGreatDoorKU1
import Derived.Test.YtajmcplanlibnaaGreatDoorKU5
set_option linter.unusedSimpArgs false
set_option linter.unusedVariables false
set_option linter.unnecessarySimpa false
namespace Go.Proofs.YtajmcplanlibnaaGreatDoor
open Go.RowKit Go.Maps
set_option maxRecDepth 100000 in
set_option maxHeartbeats 1000000 in
theorem dstate_bad (tb : Nat) (N : Nat → Prop) (bb first n : Nat) (B : BookS) (slot : Int) (hs : slot < 0 ∨ (n : Int) * 4 ≤ slot) (hn : n ≤ 2048) (w : World) (h : HolI 215 w tb N bb first n B) :
    Calls Tryz.prog 113 #[.pointer (some ⟨tb, 0, none⟩), .int .i64 slot] w fun e w' => (∃ t x, e = .returned (.tuple #[.int .u8 0, .iface t x]) ∧ ErrV w' (.iface t x) 1) ∧ Below w.heap.size w w' := by
  obtain ⟨z0, z1, z2⟩ := blk3 h.1
  clear h
  have hn1 : (n : Int) ≤ 2048 := by omega
  have hn0 : (0 : Int) ≤ n := by omega
  by_cases q : slot < 0
  · clear hs
    go_enter Tryz.func113, Tryz.ntmps113
    go_wp2_with fail
    refine (woe_num _ 1 _).mono ?_
    rintro e w2 ⟨⟨t, x, rfl, he⟩, hb2⟩
    have HE := Lib.hid he
    clear he
    try dsimp only
    go_wp2_with fail
    go_ret2
    exact ⟨⟨t, x, rfl, HE.out⟩, hb2⟩
  · have q1 : (n : Int) * 4 ≤ slot := by omega
    clear hs
    go_enter Tryz.func113, Tryz.ntmps113
    go_wp2_with fail
    refine (woe_num _ 1 _).mono ?_
    rintro e w2 ⟨⟨t, x, rfl, he⟩, hb2⟩
    have HE := Lib.hid he
    clear he
    try dsimp only
    go_wp2_with fail
    go_ret2
    exact ⟨⟨t, x, rfl, HE.out⟩, hb2⟩
set_option maxRecDepth 100000 in
set_option maxHeartbeats 1000000 in
theorem ddrop_bad (tb : Nat) (N : Nat → Prop) (bb first n : Nat) (B : BookS) (slot : Int) (hs : slot < 0 ∨ (n : Int) * 4 ≤ slot) (hn : n ≤ 2048) (w : World) (h : HolI 215 w tb N bb first n B) :
    Calls Tryz.prog 47 #[.pointer (some ⟨tb, 0, none⟩), .int .i64 slot] w fun e w' => (∃ t x, e = .returned (.iface t x) ∧ ErrV w' (.iface t x) 1) ∧ Below w.heap.size w w' := by
  have hS := dstate_bad tb N bb first n B slot hs hn w h
  clear h hs
  go_enter Tryz.func47, Tryz.ntmps47
  go_wp2_with fail
  refine hS.mono ?_
  clear hS
  rintro e w2 ⟨⟨t, x, rfl, he⟩, hb2⟩
  have HE := Lib.hid he
  clear he
  try dsimp only
  go_wp2_with fail
  go_ret
  exact ⟨⟨t, x, rfl, HE.out⟩, hb2⟩
set_option maxRecDepth 100000 in
set_option maxHeartbeats 1000000 in
theorem ddrop_none (tb : Nat) (N : Nat → Prop) (bb first n : Nat) (B : BookS) (slot : Nat) (hs : slot < n * 4) (hn : first + n * 5 ≤ B.n) (hl : (B.view (first + slot / 4 * 5)).getD (slot % 4) 0 ≠ 1) (w : World) (h : HolI 215 w tb N bb first n B) :
    Calls Tryz.prog 47 #[.pointer (some ⟨tb, 0, none⟩), .int .i64 (slot : Int)] w fun e w' => (∃ t x, e = .returned (.iface t x) ∧ ErrV w' (.iface t x) 23) ∧ Below w.heap.size w w' := by
  have hS := dstate_any tb N bb first n B slot hs hn w h
  generalize (B.view (first + slot / 4 * 5)).getD (slot % 4) 0 = s at hS hl
  clear h hs
  go_enter Tryz.func47, Tryz.ntmps47
  go_wp2_with fail
  refine hS.mono ?_
  clear hS
  rintro e w2 ⟨rfl, hb2⟩
  try dsimp only
  go_wp2_with fail
  refine (woe_num _ 23 w2).mono ?_
  rintro e w3 ⟨⟨t, x, rfl, he⟩, hb3⟩
  have HE := Lib.hid he
  have HB := Lib.hid (hb2.trans (hb3.mono hb2.size))
  clear he hb3 hb2
  try dsimp only
  go_wp2_with fail
  go_ret
  exact ⟨⟨t, x, rfl, HE.out⟩, HB.out⟩
set_option maxRecDepth 100000 in
set_option maxHeartbeats 1000000 in
theorem dget_bad (tb : Nat) (N : Nat → Prop) (bb first n : Nat) (B : BookS) (slot : Int) (hs : slot < 0 ∨ (n : Int) * 4 ≤ slot) (hn : n ≤ 2048) (w : World) (h : HolI 215 w tb N bb first n B) :
    Calls Tryz.prog 102 #[.pointer (some ⟨tb, 0, none⟩), .int .i64 slot] w fun e w' => (∃ t x, e = .returned (.tuple #[.agg (v8a (zer 64)), .iface t x]) ∧ ErrV w' (.iface t x) 1) ∧ Below w.heap.size w w' := by
  have HT := Lib.hid h
  have hS := Lib.hid (fun wx (hb : Below w.heap.size w wx) => dstate_bad tb N bb first n B slot hs hn wx (HT.out.below hb))
  have hb0 : ∀ o : Obj, Below w.heap.size w (w.alloc o) := fun o => (Below.refl _ _).alloc (Nat.le_refl _) _
  clear h hs
  go_enter Tryz.func102, Tryz.ntmps102
  repeat ((fail_if_success (with_reducible refine stop_pos "depot.go:110" rfl ?_)); (first | go_values | go_skip | go_guarded | go_step | go_upon))
  refine gen_world (fun wx => Hid (wx.heap[w.heap.size]? = some (.cells (v8a (zer 64)) 37) ∧ Below w.heap.size w wx)) (Lib.hid ⟨heap_alloc_new w (.cells (v8a (zer 64)) 37), hb0 _⟩) ?_
  clear hb0
  intro w1 H1
  go_wp2_with fail
  refine (hS.out w1 H1.out.2).mono ?_
  rintro e w3 ⟨⟨t, x, rfl, he⟩, hb3⟩
  have HE := Lib.hid he
  have H3 : Hid (w3.heap[w.heap.size]? = some (.cells (v8a (zer 64)) 37) ∧ Below w.heap.size w w3) := Lib.hid ⟨(hb3.block _ (lt_of_blk H1.out.1)).trans H1.out.1, H1.out.2.trans (hb3.mono H1.out.2.size)⟩
  clear hb3 H1 hS he
  have hpe := built_pg0
  try dsimp only
  go_wp2_with (first | (refine wpList_build_to rfl 37 _ rfl (v8a (zer 64)) hpe ?_) | (refine page_store rfl (.tmp 4) (.tmp 17) rfl w.heap.size (zer 64) (zer 64) rfl rfl H3.out.1 rfl rfl ?_))
  refine bodyPost_ret (results_cell_slot Tryz.results102 _ _ w.heap.size 37 (v8a (zer 64)) (0, 0) _ rfl (.iface t x) rfl (setRow_heap _ _ _ _ _ (0, 0) H3.out.1) Tryz.underlying37 rfl (by rw [show (v8a (zer 64)).size = 64 from rfl]; exact info_pgs)) rfl ⟨⟨t, x, rfl, ?_⟩, below_setRow H3.out.2 (Nat.le_refl _) _⟩
  exact HE.out.setRow H3.out.1 (by decide) _
set_option maxRecDepth 100000 in
set_option maxHeartbeats 1000000 in
theorem dmove_err (tb : Nat) (slot k : Int) (w : World) (hG : Calls Tryz.prog 102 #[.pointer (some ⟨tb, 0, none⟩), .int .i64 slot] w fun e w' => (∃ t x, e = .returned (.tuple #[.agg (v8a (zer 64)), .iface t x]) ∧ ErrV w' (.iface t x) k) ∧ Below w.heap.size w w') :
    Calls Tryz.prog 111 #[.pointer (some ⟨tb, 0, none⟩), .int .i64 slot] w fun e w' => (∃ t x, e = .returned (.tuple #[.int .i64 0, .iface t x]) ∧ ErrV w' (.iface t x) k) ∧ Below w.heap.size w w' := by
  go_enter Tryz.func111, Tryz.ntmps111
  go_wp2_with fail
  refine hG.mono ?_
  clear hG
  rintro e w3 ⟨⟨t, x, rfl, he⟩, hb3⟩
  have HE := Lib.hid he
  clear he
  try dsimp only
  repeat ((fail_if_success (with_reducible refine stop_at 15 rfl ?_)); (first | (refine page_store rfl (.tmp 6) (.tmp 13) rfl w3.heap.size (zer 64) (zer 64) rfl rfl (heap_alloc_new w3 _) rfl rfl ?_) | go_values | go_skip | go_guarded | go_step | go_upon))
  have hbx : ∀ o : Obj, Below w3.heap.size w3 ((w3.alloc o).setRow w3.heap.size (v8a (zer 64))) := fun o => below_setRow ((Below.refl _ _).alloc (Nat.le_refl _) _) (Nat.le_refl _) _
  refine gen_world (fun wx => Hid (ErrV wx (.iface t x) k ∧ Below w.heap.size w wx)) (Lib.hid ⟨HE.out.below (hbx _), hb3.trans ((hbx _).mono hb3.size)⟩) ?_
  clear hbx hb3
  generalize w3.heap.size = b6
  intro w4 H4
  go_wp2_with fail
  go_ret2
  exact ⟨⟨t, x, rfl, H4.out.1⟩, H4.out.2⟩
theorem hasR_cases {st : Nat → Int} {n : Nat} {slot k : Int} (hk : hasR st n slot = k) (h0 : k ≠ 0) : (k = 1 ∧ (slot < 0 ∨ (n : Int) * 4 ≤ slot)) ∨ (k = 23 ∧ ∃ s : Nat, slot = (s : Int) ∧ s < n * 4 ∧ st s ≠ 1) := by
  unfold hasR at hk
  split at hk
  · rename_i h; exact .inl ⟨hk.symm, h⟩
  · rename_i h
    split at hk
    · exact absurd hk.symm h0
    · rename_i hne
      exact .inr ⟨hk.symm, slot.toNat, by omega, by omega, hne⟩
theorem hasR_zero {st : Nat → Int} {n : Nat} {slot : Int} (hk : hasR st n slot = 0) : ∃ s : Nat, slot = (s : Int) ∧ s < n * 4 ∧ st s = 1 := by
  unfold hasR at hk
  split at hk
  · cases hk
  · rename_i h
    split at hk
    · rename_i he
      exact ⟨slot.toNat, by omega, by omega, he⟩
    · cases hk
theorem hasR_of {st : Nat → Int} {n s : Nat} (hs : s < n * 4) (h : st s = 1) : hasR st n (s : Int) = 0 := by
  unfold hasR
  rw [if_neg (by omega), Int.toNat_natCast, if_pos h]
section
variable {g : Geo} {N : Nat → Prop} {tb bb n k c : Nat} {st : Nat → Int} {blk : Nat → List Int} {wx : World}
theorem dep_get_err {slot r : Int} (hk : hasR st n slot = r) (h0 : r ≠ 0) (h : DepS g N tb bb n k c st blk wx) :
    Calls Tryz.prog 102 #[.pointer (some ⟨tb, 0, none⟩), .int .i64 slot] wx fun e wy => (∃ t x, e = .returned (.tuple #[.agg (v8a (zer 64)), .iface t x]) ∧ ErrV wy (.iface t x) r) ∧ Below wx.heap.size wx wy := by
  obtain ⟨B, h1, h2, h3, h4, ⟨h5, h6⟩, h7⟩ := h
  have hBn := h4.1.n
  rcases hasR_cases hk h0 with ⟨rfl, hs⟩ | ⟨rfl, s, rfl, hs, hne⟩
  · exact dget_bad tb N bb g.fs n B slot hs (by omega) wx h1
  · exact dget_none tb N bb g.fs n B s hs (by omega) (by have := h2.hst s hs; unfold stD at this; rw [this]; exact hne) wx h1
theorem dep_move_err {slot r : Int} (hk : hasR st n slot = r) (h0 : r ≠ 0) (h : DepS g N tb bb n k c st blk wx) :
    Calls Tryz.prog 111 #[.pointer (some ⟨tb, 0, none⟩), .int .i64 slot] wx fun e wy => (∃ t x, e = .returned (.tuple #[.int .i64 0, .iface t x]) ∧ ErrV wy (.iface t x) r) ∧ Below wx.heap.size wx wy :=
  dmove_err tb slot r wx (dep_get_err hk h0 h)
theorem dep_drop_err {slot r : Int} (hk : hasR st n slot = r) (h0 : r ≠ 0) (h : DepS g N tb bb n k c st blk wx) :
    Calls Tryz.prog 47 #[.pointer (some ⟨tb, 0, none⟩), .int .i64 slot] wx fun e wy => (∃ t x, e = .returned (.iface t x) ∧ ErrV wy (.iface t x) r) ∧ Below wx.heap.size wx wy := by
  obtain ⟨B, h1, h2, h3, h4, ⟨h5, h6⟩, h7⟩ := h
  have hBn := h4.1.n
  rcases hasR_cases hk h0 with ⟨rfl, hs⟩ | ⟨rfl, s, rfl, hs, hne⟩
  · exact ddrop_bad tb N bb g.fs n B slot hs (by omega) wx h1
  · exact ddrop_none tb N bb g.fs n B s hs (by omega) (by have := h2.hst s hs; unfold stD at this; rw [this]; exact hne) wx h1
theorem dep_move (hc : c ≤ 50) {s : Nat} (hs : s < n * 4) (hl : st s = 1) (hroom : roomR st ((s : Int) / 4) (n * 4) = true) (h : DepS g N tb bb n k c st blk wx) :
    Calls Tryz.prog 111 #[.pointer (some ⟨tb, 0, none⟩), .int .i64 (s : Int)] wx fun e wy => (∃ t : Nat, e = .returned (.tuple #[.int .i64 (t : Int), .nilIface]) ∧ MayS st n ((s : Int) / 4) t ∧ DepS g N tb bb n k (c + 3) (dropT (stSet st t 1) s) (pgSet blk t (blk s)) wy) ∧ Keeps N wx wy := by
  obtain ⟨B, h1, h2, h3, h4, ⟨h5, h6⟩, h7⟩ := h
  have hBn := h4.1.n
  have hok := h1.2.1.isOk
  rw [show (s : Int) / 4 = ((s / 4 : Nat) : Int) by omega] at hroom ⊢
  have hr := bestF_range B g.fs ((s / 4 : Nat) : Int) n
  obtain ⟨t, ht⟩ : ∃ t : Nat, (bestF B g.fs ((s / 4 : Nat) : Int) n).1 = (t : Int) := by
    by_cases h0 : (bestF B g.fs ((s / 4 : Nat) : Int) n).1 < 0
    · obtain ⟨u, hu, hz, hne⟩ := (roomR_iff _ _ _).1 hroom
      exact absurd (best_none B _ n h0 u hu (by rw [h2.hst u hu]; exact hz)) hne
    · exact ⟨(bestF B g.fs ((s / 4 : Nat) : Int) n).1.toNat, by omega⟩
  have hm := best_may h2 _ ht
  have ht4 := hm.1
  have hP := h2.put hok (by omega) ht4 (B.view (g.fs + s / 4 * 5 + 1 + s % 4))
  have hpg : B.view (g.fs + s / 4 * 5 + 1 + s % 4) = blk s := h2.pg s hs hl
  have hne : t ≠ s := fun e => hm.2.2.1 (by rw [e])
  have c1 := BookS.wrote_cnt B (g.fs + t / 4 * 5) (setDF (B.view (g.fs + t / 4 * 5)) (t % 4) 1) (by omega)
  have c2 : (putB g.fs B t (B.view (g.fs + s / 4 * 5 + 1 + s % 4))).cnt ≤ c + 2 := by
    have c2 := BookS.wrote_cnt (B.wrote (g.fs + t / 4 * 5) (setDF (B.view (g.fs + t / 4 * 5)) (t % 4) 1)) (g.fs + t / 4 * 5 + 1 + t % 4) (B.view (g.fs + s / 4 * 5 + 1 + s % 4)) (by rw [BookS.wrote_n]; omega)
    unfold putB
    omega
  have hB2n : (putB g.fs B t (B.view (g.fs + s / 4 * 5 + 1 + s % 4))).n = g.n := by rw [putB_n]; exact hBn
  have hst2 : stD g.fs (putB g.fs B t (B.view (g.fs + s / 4 * 5 + 1 + s % 4))) s = 1 := by rw [hP.hst s hs, if_neg (fun e => hne e.symm)]; exact hl
  refine (dmove_any tb N bb g.fs n B s hs (by omega) (by have := h2.hst s hs; unfold stD at this; rw [this]; exact hl) t ht (putB g.fs B t (B.view (g.fs + s / 4 * 5 + 1 + s % 4))) rfl (wrOk_le h3 (by omega) _ _) (wrOk_le (k := c + 1) (by omega) (by omega) _ _) hst2 (wrOk_le c2 (by omega) _ _) wx h1).mono ?_
  rintro e wy ⟨rfl, hH, hk⟩
  have hG2 := h4.put h2 h5 h6 ht4 (BookS.view_ok hok (g.fs + s / 4 * 5 + 1 + s % 4) (by omega)) (by rw [hpg]; exact h7 s hs hl)
  refine ⟨⟨t, rfl, hm, ⟨dropB g.fs (putB g.fs B t (B.view (g.fs + s / 4 * 5 + 1 + s % 4))) s, hH, ?_, ?_, hG2.drop hP h5 h6 hs, ⟨h5, h6⟩, fun u hu he => ?_⟩⟩, hk⟩
  · have hD := hP.drop (k := s) hG2.1.ok (by omega) hs
    rw [hpg] at hD ⊢
    exact hD
  · have c3 := dropB_cnt (fs := g.fs) (B := putB g.fs B t (B.view (g.fs + s / 4 * 5 + 1 + s % 4))) (s := s) (by omega)
    omega
  · have he1 : (if u = t then 1 else st u) = 1 := dropT_one he
    show Tame (if u = t then blk s else blk u)
    by_cases e : u = t
    · rw [if_pos e]; exact h7 s hs hl
    · rw [if_neg e] at he1 ⊢; exact h7 u hu he1
theorem dep_move_full {s : Nat} (hs : s < n * 4) (hl : st s = 1) (hroom : roomR st ((s : Int) / 4) (n * 4) = false) (h : DepS g N tb bb n k c st blk wx) :
    Calls Tryz.prog 111 #[.pointer (some ⟨tb, 0, none⟩), .int .i64 (s : Int)] wx fun e wy => (∃ t x, e = .returned (.tuple #[.int .i64 0, .iface t x]) ∧ ErrV wy (.iface t x) 20) ∧ Below wx.heap.size wx wy := by
  obtain ⟨B, h1, h2, h3, h4, ⟨h5, h6⟩, h7⟩ := h
  have hBn := h4.1.n
  rw [show (s : Int) / 4 = ((s / 4 : Nat) : Int) by omega] at hroom
  have hr := bestF_range B g.fs ((s / 4 : Nat) : Int) n
  refine dmove_full tb N bb g.fs n B s hs (by omega) (by have := h2.hst s hs; unfold stD at this; rw [this]; exact hl) ?_ wx h1
  apply Classical.byContradiction
  intro h0
  obtain ⟨t, ht⟩ : ∃ t : Nat, (bestF B g.fs ((s / 4 : Nat) : Int) n).1 = (t : Int) := ⟨(bestF B g.fs ((s / 4 : Nat) : Int) n).1.toNat, by omega⟩
  have hm := best_may h2 _ ht
  exact hm.2.2.1 (roomR_none _ _ _ hroom t hm.1 hm.2.1)
theorem dep_worst (h : DepS g N tb bb n k c st blk wx) :
    Calls Tryz.prog 115 #[.pointer (some ⟨tb, 0, none⟩)] wx fun e wy => e = .returned (.tuple #[.int .i64 ((worstR (boxS st) n).1 : Nat), .int .i64 ((worstR (boxS st) n).2 : Nat), .nilIface]) ∧ Below wx.heap.size wx wy := by
  obtain ⟨B, h1, h2, h3, h4, ⟨h5, h6⟩, h7⟩ := h
  have hBn := h4.1.n
  have e : worstR (boxS st) n = worstR (boxV B g.fs) n := worstR_congr n (fun b t hb ht => by
    unfold boxS boxV
    rw [← h2.hst _ (by omega), stD_box B b t ht])
  rw [e]
  exact dworst_any tb N bb g.fs n B (by omega) wx h1
theorem dep_slots {box : Nat} (hb : box < n) (h : DepS g N tb bb n k c st blk wx) :
    Calls Tryz.prog 118 #[.pointer (some ⟨tb, 0, none⟩), .int .i64 (box : Int)] wx fun e wy => (∃ a c, e = .returned (.tuple #[.slice a (slots4 (boxS st box) box 4).length c, .nilIface]) ∧ wy.ownsRow wx.heap.size 3 1 (.slice a (slots4 (boxS st box) box 4).length c) (slots4 (boxS st box) box 4).length (intsN (slots4 (boxS st box) box 4))) ∧ Below wx.heap.size wx wy := by
  obtain ⟨B, h1, h2, h3, h4, ⟨h5, h6⟩, h7⟩ := h
  have hBn := h4.1.n
  have e : slots4 (boxS st box) box 4 = slots4 (boxV B g.fs box) box 4 := slots4_congr box 4 (fun t ht => by
    unfold boxS boxV
    rw [← h2.hst _ (by omega), stD_box B box t ht])
  rw [e]
  exact dslots_any tb N bb g.fs n B box hb (by omega) wx h1
end
end Go.Proofs.YtajmcplanlibnaaGreatDoor
