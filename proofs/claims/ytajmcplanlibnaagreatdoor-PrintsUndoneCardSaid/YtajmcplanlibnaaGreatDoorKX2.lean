/- A table of entries: what each call answers, by the entries at its places. -/
import Derived.Test.YtajmcplanlibnaaGreatDoorKX1
set_option linter.unusedSimpArgs false
set_option linter.unusedVariables false
set_option linter.unnecessarySimpa false
namespace Go.Proofs.YtajmcplanlibnaaGreatDoor
open Go.RowKit Go.Maps
theorem TabI.frameK {w w' : World} {tb : Nat} {N : Nat → Prop} {bb first n : Nat} {B : BookS} (h : TabI w tb N bb first n B) (hk : Keeps (fun k => ¬ N k) w w') : TabI w' tb N bb first n B := by
  obtain ⟨h1, ⟨db, rb, nb, ov, hX⟩, h3, h4⟩ := h
  exact ⟨hk.blk h3 h1, ⟨db, rb, nb, ov, hX.frame (hk.mono (fun k _ hn h => hn (.inl h)))⟩, h3, h4⟩
/-- A table on a new book, with these entries. -/
def TbS (g : Geo) (k : Nat) (N : Nat → Prop) (tb bb n : Nat) (M : Nat → Option En) (wx : World) : Prop := ∃ B, TabI wx tb N bb g.fs n B ∧ EnX g.fs B n M ∧ GdT B g k ∧ g.fs + n ≤ 256
section
variable {g : Geo} {k : Nat} {N : Nat → Prop} {tb bb n : Nat} {M : Nat → Option En} {wx wy : World}
theorem TbS.below (h : TbS g k N tb bb n M wx) (hb : Below wx.heap.size wx wy) : TbS g k N tb bb n M wy := by
  obtain ⟨B, h1, h2⟩ := h
  exact ⟨B, h1.below hb, h2⟩
theorem TbS.keep {N' : Nat → Prop} (h : TbS g k N tb bb n M wx) (hb : Below wx.heap.size wx wy) (hn : ∀ i, N' i → i < wy.heap.size ∧ (N i ∨ wx.heap.size ≤ i)) : TbS g k N' tb bb n M wy := by
  obtain ⟨B, h1, h2⟩ := h
  exact ⟨B, h1.keep hb hn, h2⟩
theorem TbS.frame (h : TbS g k N tb bb n M wx) (hk : Keeps (fun k => ¬ N k) wx wy) : TbS g k N tb bb n M wy := by
  obtain ⟨B, h1, h2⟩ := h
  exact ⟨B, h1.frameK hk, h2⟩
theorem TbS.N_lt (h : TbS g k N tb bb n M wx) : ∀ i, N i → i < wx.heap.size := by
  obtain ⟨B, h1, _⟩ := h
  exact h1.N_lt
theorem TbS.ok (h : TbS g k N tb bb n M wx) : ∀ p e, p < n → M p = some e → EnOk e := by
  obtain ⟨B, _, h2, _⟩ := h
  exact h2.ok
theorem TbS.out (h : TbS g k N tb bb n M wx) : ∀ p, n ≤ p → M p = none := by
  obtain ⟨B, _, h2, _⟩ := h
  exact h2.out
theorem tb_set (hn : n ≤ 60) {p : Nat} (hp : p < n) {dg : List Int} {sl rf : Int} (hd : dg.length = 32 ∧ U8s dg) (hs : 0 ≤ sl ∧ sl < 256) (hr : 0 ≤ rf ∧ rf ≤ 15) (h : TbS g k N tb bb n M wx) :
    Calls Tryz.prog 34 #[.pointer (some ⟨tb, 0, none⟩), .int .i64 (p : Int), .agg (entC dg sl rf)] wx fun e wy => e = .returned .nilIface ∧ TbS g k N tb bb n (setM M p (if 0 < rf then some (dg, sl, rf) else none)) wy ∧ Keeps N wx wy := by
  obtain ⟨B, h1, h2, h3, h4⟩ := h
  refine (set_any tb N bb g.fs n B p hp dg sl rf hd hs hr (h2.room hn p hp _) wx h1).mono ?_
  rintro e wy ⟨rfl, hT, hk⟩
  have hle := h2.le
  exact ⟨rfl, ⟨_, hT, h2.set hp hd hs hr, h3.wrote (by omega) (setP_okT hd hs hr) (by omega) (setP_tame _ _ _), h4⟩, hk⟩
theorem tb_free (d : List Int) (hd : d.length = 32 ∧ U8s d) (h : TbS g k N tb bb n M wx) :
    Calls Tryz.prog 84 #[.pointer (some ⟨tb, 0, none⟩), .agg (v8a d)] wx fun e wy => ((∃ p : Nat, p < n ∧ M p = none ∧ e = .returned (.tuple #[.int .i64 (p : Int), .nilIface])) ∨ (cntM M n = n ∧ ∃ t x, e = .returned (.tuple #[.int .i64 0, .iface t x]) ∧ ErrV wy (.iface t x) 21)) ∧ Below wx.heap.size wx wy := by
  obtain ⟨B, h1, h2, _⟩ := h
  refine (free_any tb N bb g.fs n B d hd wx h1).mono ?_
  rintro e wy ⟨hF, hb⟩
  refine ⟨?_, hb⟩
  cases hs : seekO (dgN d) n (freeQ B g.fs) with
  | some p =>
    rw [hs] at hF
    obtain ⟨hp, hq⟩ := seekO_spec hs
    rw [h2.free p hp] at hq
    left
    refine ⟨p, hp, ?_, hF⟩
    cases hm : M p with
    | none => rfl
    | some e => rw [hm] at hq; cases hq
  | none =>
    rw [hs] at hF
    right
    refine ⟨?_, hF⟩
    apply Classical.byContradiction
    intro hne
    obtain ⟨p, hp, hm⟩ := cntM_room M n hne
    have := seekO_no hs p hp
    rw [h2.free p hp, hm] at this
    cases this
theorem tb_find (d : List Int) (hd : d.length = 32 ∧ U8s d) (h : TbS g k N tb bb n M wx) :
    Calls Tryz.prog 85 #[.pointer (some ⟨tb, 0, none⟩), .agg (v8a d)] wx fun e wy => ((∃ p e', p < n ∧ M p = some e' ∧ e'.1 = d ∧ e'.2.2 < 15 ∧ anyM (fun e => decide (e.1 = d) && decide (e.2.2 < 15)) M n = true ∧ e = .returned (.tuple #[.int .i64 ((p : Nat) : Int), .bool true, .nilIface])) ∨ (anyM (fun e => decide (e.1 = d) && decide (e.2.2 < 15)) M n = false ∧ e = .returned (.tuple #[.int .i64 0, .bool false, .nilIface]))) ∧ Below wx.heap.size wx wy := by
  obtain ⟨B, h1, h2, _⟩ := h
  refine (find_any tb N bb g.fs n B d hd wx h1).mono ?_
  rintro e wy ⟨rfl, hb⟩
  refine ⟨?_, hb⟩
  rw [seek_congr (dgN d) n (fun p hp => h2.find d p hp), ← fQ_any]
  have hA := seek_any (dgN d) n (fQ M d)
  cases hs : seekO (dgN d) n (fQ M d) with
  | some p =>
    rw [hs] at hA
    obtain ⟨hp, hq⟩ := seekO_spec hs
    left
    unfold fQ at hq
    cases hm : M p with
    | none => rw [hm] at hq; cases hq
    | some e' =>
      rw [hm] at hq
      simp only [Bool.and_eq_true, decide_eq_true_eq] at hq
      exact ⟨p, e', hp, hm, hq.1, hq.2, hA.symm, rfl⟩
  | none =>
    rw [hs] at hA
    exact .inr ⟨hA.symm, rfl⟩
theorem tb_slot (s : Int) (h : TbS g k N tb bb n M wx) :
    Calls Tryz.prog 90 #[.pointer (some ⟨tb, 0, none⟩), .int .i64 s] wx fun e wy => ((∃ p e', p < n ∧ M p = some e' ∧ e'.2.1 = s ∧ 1 ≤ e'.2.2 ∧ anyM (fun e => decide (e.2.1 = s)) M n = true ∧ e = .returned (.tuple #[.int .i64 ((p : Nat) : Int), .bool true, .nilIface])) ∨ (anyM (fun e => decide (e.2.1 = s)) M n = false ∧ e = .returned (.tuple #[.int .i64 0, .bool false, .nilIface]))) ∧ Below wx.heap.size wx wy := by
  obtain ⟨B, h1, h2, _⟩ := h
  refine (slot_any tb N bb g.fs n B s wx h1).mono ?_
  rintro e wy ⟨rfl, hb⟩
  refine ⟨?_, hb⟩
  rw [seek_congr (dgN (zer 32)) n (fun p hp => h2.slot s p hp), ← sQ_any]
  have hA := seek_any (dgN (zer 32)) n (sQ M s)
  cases hs : seekO (dgN (zer 32)) n (sQ M s) with
  | some p =>
    rw [hs] at hA
    obtain ⟨hp, hq⟩ := seekO_spec hs
    left
    unfold sQ at hq
    cases hm : M p with
    | none => rw [hm] at hq; cases hq
    | some e' =>
      rw [hm] at hq
      simp only [decide_eq_true_eq] at hq
      exact ⟨p, e', hp, hm, hq, (h2.ok p e' hp hm).2.2.1, hA.symm, rfl⟩
  | none =>
    rw [hs] at hA
    exact .inr ⟨hA.symm, rfl⟩
theorem tb_get {p : Nat} (hp : p < n) (h : TbS g k N tb bb n M wx) :
    Calls Tryz.prog 86 #[.pointer (some ⟨tb, 0, none⟩), .int .i64 (p : Int)] wx fun e wy => ((∃ e', M p = some e' ∧ e = .returned (.tuple #[.agg (entC e'.1 e'.2.1 e'.2.2), .nilIface])) ∨ (M p = none ∧ ∃ t x, e = .returned (.tuple #[.agg (entC (zer 32) 0 0), .iface t x]) ∧ ErrV wy (.iface t x) 23)) ∧ Below wx.heap.size wx wy := by
  obtain ⟨B, h1, h2, _⟩ := h
  refine (get_any tb N bb g.fs n B p hp wx h1).mono ?_
  rintro e wy ⟨hG, hb⟩
  refine ⟨?_, hb⟩
  unfold GetP at hG
  rw [h2.ent p hp] at hG
  cases hm : M p with
  | none =>
    rw [hm] at hG
    exact .inr ⟨rfl, hG⟩
  | some e' =>
    rw [hm] at hG
    obtain ⟨q1, q2, q3⟩ := h2.parts hp hm
    left
    refine ⟨e', rfl, ?_⟩
    rw [← q1, ← q2, ← q3]; exact hG
theorem tb_all (h : TbS g k N tb bb n M wx) :
    Calls Tryz.prog 89 #[.pointer (some ⟨tb, 0, none⟩)] wx fun e wy => (∃ a c l, l = ((List.range n).filter fun p => (M p).isSome) ∧ l.length = cntM M n ∧ e = .returned (.tuple #[.slice a l.length c, .nilIface]) ∧ wy.ownsRow wx.heap.size 3 1 (.slice a l.length c) l.length (natsI l)) ∧ Below wx.heap.size wx wy := by
  obtain ⟨B, h1, h2, _⟩ := h
  refine (all_any tb N bb g.fs n B wx h1).mono ?_
  rintro e wy ⟨⟨a, c, rfl, ho⟩, hb⟩
  rw [h2.ents] at ho ⊢
  exact ⟨⟨a, c, _, rfl, rfl, rfl, ho⟩, hb⟩
theorem tb_commit (hk : k ≤ 9000) (hn : n ≤ 60) (h : TbS g k N tb bb n M wx) :
    Calls Tryz.prog 17 #[.pointer (some ⟨bb, 0, none⟩)] wx fun e wy => e = .returned .nilIface ∧ TbS g (k + 1) N tb bb n M wy ∧ Keeps N wx wy := by
  obtain ⟨B, ⟨t1, t2, t3, t4, t5⟩, h2, h3, h4⟩ := h
  have hc := h2.cnt
  refine (g_commitT (k := k) (by omega) (by omega) h3.2 wx t2 h3.1).mono ?_
  rintro e wy ⟨rfl, hB, hG, hkp⟩
  exact ⟨rfl, ⟨B.done, ⟨hkp.blk (.inr rfl) t1, hB, t3, by rw [BookS.done_n]; exact t4, t5⟩, h2.congr (BookS.done_n B) (BookS.done_opn B) (fun i hi => BookS.done_view_lim h3.1.ok h3.1.lim (by omega) i hi), GdT.of_opn hG (BookS.done_opn B), h4⟩, hkp.mono (fun q _ hq => .inl hq)⟩
end
theorem six_bad {i n rf sl : Int} (h : ¬ (0 ≤ i ∧ i < n ∧ 0 ≤ rf ∧ rf ≤ 15 ∧ 0 ≤ sl ∧ sl < 256)) : i < 0 ∨ (0 ≤ i ∧ n ≤ i) ∨ (0 ≤ i ∧ i < n ∧ rf < 0) ∨ (0 ≤ i ∧ i < n ∧ 0 ≤ rf ∧ 15 < rf) ∨ (0 ≤ i ∧ i < n ∧ 0 ≤ rf ∧ rf ≤ 15 ∧ sl < 0) ∨ (0 ≤ i ∧ i < n ∧ 0 ≤ rf ∧ rf ≤ 15 ∧ 0 ≤ sl ∧ 256 ≤ sl) := by omega
set_option maxRecDepth 100000 in
set_option maxHeartbeats 2000000 in
theorem tb_bad {g : Geo} {k : Nat} {N : Nat → Prop} {tb bb n : Nat} {M : Nat → Option En} {dg : List Int} (hd : dg.length = 32) {i sl rf : Int} (hbad : ¬ (0 ≤ i ∧ i < (n : Int) ∧ 0 ≤ rf ∧ rf ≤ 15 ∧ 0 ≤ sl ∧ sl < 256)) (w : World) (h : TbS g k N tb bb n M w) :
    Calls Tryz.prog 34 #[.pointer (some ⟨tb, 0, none⟩), .int .i64 i, .agg (entC dg sl rf)] w fun e w' => (∃ t x, e = .returned (.iface t x) ∧ ErrV w' (.iface t x) 1) ∧ Below w.heap.size w w' := by
  obtain ⟨B, h1, _⟩ := h
  have HT := Lib.hid h1.1
  have hb0 : ∀ o : Obj, Below w.heap.size w (w.alloc o) := fun o => (Below.refl _ _).alloc (Nat.le_refl _) _
  clear h1
  have hbad' := six_bad hbad
  clear hbad
  go_enter Tryz.func34, Tryz.ntmps34
  repeat ((fail_if_success (with_reducible refine stop_at 8 rfl ?_)); (first | go_values | go_skip | go_guarded | go_step | go_upon))
  refine gen_world (fun wx => Hid (wx.heap[w.heap.size]? = some (.cells (entC dg sl rf) 70) ∧ Below w.heap.size w wx)) (Lib.hid ⟨heap_alloc_new w (.cells (entC dg sl rf) 70), hb0 _⟩) ?_
  clear hb0
  intro w1 H1
  obtain ⟨z0, z1, z2⟩ := blk3 ((H1.out.2.block _ (lt_of_blk HT.out)).trans HT.out)
  obtain ⟨y0, y1⟩ := ent_cells hd H1.out.1
  rcases hbad' with q | ⟨q0, q⟩ | ⟨q0, q1, q⟩ | ⟨q0, q1, q2, q⟩ | ⟨q0, q1, q2, q3, q⟩ | ⟨q0, q1, q2, q3, q4, q⟩
  all_goals
    go_wp2_with fail
    refine (woe_num _ 1 w1).mono ?_
    rintro e w2 ⟨⟨t, x, rfl, he⟩, hb2⟩
    have HE := Lib.hid he
    have HB := Lib.hid (H1.out.2.trans (hb2.mono H1.out.2.size))
    clear he hb2
    try dsimp only
    go_wp2_with fail
    go_ret
    exact ⟨⟨t, x, rfl, HE.out⟩, HB.out⟩
end Go.Proofs.YtajmcplanlibnaaGreatDoor
