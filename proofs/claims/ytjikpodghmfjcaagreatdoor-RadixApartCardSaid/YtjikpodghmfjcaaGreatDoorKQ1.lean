/- A book: its ring's head has turned, what isn't at home has turned, no transaction is under way any more. -/
import Derived.Test.YtjikpodghmfjcaaGreatDoorKM1
set_option linter.unusedSimpArgs false
set_option linter.unusedVariables false
set_option linter.unnecessarySimpa false
namespace Go.Proofs.YtjikpodghmfjcaaGreatDoor
open Go.RowKit Go.Maps
theorem BookX.rung {w w' : World} {bb : Nat} {N : Nat → Prop} {B : BookS} {db rb nb : Nat} {ov : Value} (h : BookX w bb N B db rb nb ov) (pl used : Nat) (num : Int) (c : List Int) (hpl : pl < B.size) (hnum : 0 ≤ num ∧ num < 4611686018427387904) (hc : c.length = 32 ∧ U8s c) (hu : used ≤ B.size) (hk : Keeps (fun k => k ≠ rb) w w')
    (hr : w'.heap[rb]? = some (.cells (ringC db 2 B.size pl num c used) 175)) : BookX w' bb N { B with pl := pl, num := num, last := c, used := used } db rb nb ov := by
  have hbr : bb ≠ rb := blk_ne h.cells h.ring (by decide)
  have hbn : nb ≠ rb := blk_map_ne h.ring h.news
  obtain ⟨o1, o2, o3, o4, o5, o6, o7, o8, o9, o10, o11⟩ := h.ok
  refine ⟨hk.blk hbr h.cells, hr, h.disk.keeps (hk.mono (fun k _ hn e => hn (.inr (.inr (.inl e))))), hk.map hbn h.news, ?_, h.ne, h.nots, ⟨o1, o2, o3, o4, o5, o6, hpl, hnum, hc, hu, o11⟩⟩
  have ho := h.opn
  show OpenI _ ov B.n B.opn
  cases hB : B.opn with
  | none => rw [hB] at ho; exact ho
  | some f =>
    rw [hB] at ho
    obtain ⟨ob, h1, h2⟩ := ho
    exact ⟨ob, h1, hk.map (blk_map_ne h.ring h2) h2⟩
theorem BookX.newsed {w w' : World} {bb : Nat} {N : Nat → Prop} {B : BookS} {db rb nb : Nat} {ov : Value} (h : BookX w bb N B db rb nb ov) (f : PgF) (hf : PgMap f B.n) (hk : Keeps (fun k => k ≠ nb) w w') (hm : MapIs Tryz.prog 3 w' nb (keysF f B.n).length (pgL f)) :
    BookX w' bb N { B with news := f } db rb nb ov := by
  have hbn : nb ≠ bb := blk_map_ne h.cells h.news
  have hrn : nb ≠ rb := blk_map_ne h.ring h.news
  obtain ⟨o1, o2, o3, o4, o5, o6, o7, o8, o9, o10, o11⟩ := h.ok
  refine ⟨hk.blk (fun e => hbn e.symm) h.cells, hk.blk (fun e => hrn e.symm) h.ring, h.disk.keeps (hk.mono (fun k _ hn e => hn (.inr (.inr (.inr (.inl e)))))), hm, ?_, h.ne, h.nots, ⟨o1, o2, o3, o4, hf, o6, o7, o8, o9, o10, o11⟩⟩
  have ho := h.opn
  show OpenI _ ov B.n B.opn
  cases hB : B.opn with
  | none => rw [hB] at ho; exact ho
  | some f =>
    rw [hB] at ho
    obtain ⟨ob, h1, h2⟩ := ho
    exact ⟨ob, h1, hk.map (fun e => h.ne (by rw [← e]; exact h1)) h2⟩
def BookS.shut (B : BookS) : BookS := { B with opn := none }
theorem BookX.closed {w : World} {bb : Nat} {N : Nat → Prop} {B : BookS} {db rb nb : Nat} {ov : Value} (h : BookX w bb N B db rb nb ov) :
    BookX (w.setCell ⟨bb, 6, none⟩ (.map none)) bb N B.shut db rb nb (.map none) := by
  have hbr : bb ≠ rb := blk_ne h.cells h.ring (by decide)
  have hbn : nb ≠ bb := blk_map_ne h.cells h.news
  obtain ⟨o1, o2, o3, o4, o5, o6, o7, o8, o9, o10, o11⟩ := h.ok
  have hd : DiskI (w.setCell ⟨bb, 6, none⟩ (.map none)) db (fun k => N k ∨ k = bb ∨ k = rb ∨ k = nb ∨ ovB (.map none) k) B.disk := by
    refine (h.disk.keep (N' := fun k => N k ∨ k = bb ∨ k = rb ∨ k = nb ∨ ovB (.map none) k) (Below.refl _ _) (fun k hk => ?_)).keeps (Keeps.set _ _ _ _ (fun hn => hn (.inr (.inl rfl))))
    rcases hk with hk | hk | hk | hk | hk
    · exact ⟨h.N_lt k hk, .inl (.inl hk)⟩
    · exact ⟨by rw [hk]; exact lt_of_blk h.cells, .inl (.inr (.inl hk))⟩
    · exact ⟨by rw [hk]; exact lt_of_blk h.ring, .inl (.inr (.inr (.inl hk)))⟩
    · exact ⟨by rw [hk]; exact h.news.lt, .inl (.inr (.inr (.inr (.inl hk))))⟩
    · simp [ovB] at hk
  exact ⟨set_blk (i := 6) h.cells (.map none), heap_set_ne hbr h.ring, hd, h.news.setCell hbn _, rfl, by simp [ovB], ⟨h.nots.1, h.nots.2.1, h.nots.2.2.1, fun k hk => by simp [ovB] at hk⟩, ⟨o1, o2, o3, o4, o5, fun f hf => (by cases hf), o7, o8, o9, o10, o11⟩⟩
/-- What a page holds where no transaction is under way. -/
def BookS.base (B : BookS) (i : Nat) : List Int := match B.news i with
  | some p => p
  | none => B.disk.view (2 + B.size + i)
theorem BookS.shut_view (B : BookS) (i : Nat) : B.shut.view i = B.base i := rfl
theorem BookS.shut_base (B : BookS) (i : Nat) : B.shut.base i = B.base i := rfl
theorem BookS.shut_f (B : BookS) : B.shut.f = fun _ => none := rfl
theorem BookS.shut_cnt (B : BookS) : B.shut.cnt = 0 := by
  unfold BookS.cnt
  rw [BookS.shut_f, keysF_none]
  rfl
theorem BookS.wrote_base (B : BookS) (i : Nat) (p : List Int) (j : Nat) : (B.wrote i p).base j = B.base j := by
  unfold BookS.wrote
  split <;> rfl
theorem BookS.wrote_shut (B : BookS) (i : Nat) (p : List Int) : (B.wrote i p).shut = B.shut := by
  unfold BookS.wrote
  split <;> rfl
theorem BookS.shut_same {B B' : BookS} (h : B'.shut = B.shut) : B'.n = B.n ∧ B'.gen = B.gen ∧ B'.num = B.num ∧ B'.disk = B.disk ∧ B'.size = B.size ∧ ∀ i, B'.base i = B.base i :=
  ⟨(congrArg BookS.n h : B'.shut.n = B.shut.n), (congrArg BookS.gen h : B'.shut.gen = B.shut.gen), (congrArg BookS.num h : B'.shut.num = B.shut.num), (congrArg BookS.disk h : B'.shut.disk = B.shut.disk), (congrArg BookS.size h : B'.shut.size = B.shut.size), fun i => by rw [← BookS.shut_base B', h, BookS.shut_base]⟩
end Go.Proofs.YtjikpodghmfjcaaGreatDoor
set_option linter.unnecessarySimpa false
namespace Go.Proofs.YtjikpodghmfjcaaGreatDoor
open Go.RowKit Go.Maps
set_option maxRecDepth 100000 in
theorem undo_any (bb : Nat) (N : Nat → Prop) (B : BookS) (w : World) (h : BookI w bb N B) :
    Calls Tryz.prog 14 #[.pointer (some ⟨bb, 0, none⟩)] w fun e w' => e = .returned (.tuple #[]) ∧ BookI w' bb N B.shut ∧ Keeps N w w' := by
  obtain ⟨db, rb, nb, ov, hX⟩ := h
  have HX := Lib.hid hX
  obtain ⟨z0, z1, z2, z3, z4, z5, z6, z7, y4, y6⟩ := book_cells hX.cells
  clear hX
  go_enter Tryz.func14, Tryz.ntmps14
  go_wp2_with fail
  go_end0
  exact ⟨rfl, ⟨db, rb, nb, _, HX.out.closed⟩, Keeps.set _ _ _ _ HX.out.nots.1⟩
set_option maxRecDepth 100000 in
theorem room_any (rb db first n pl used : Nat) (num : Int) (last : List Int) (w : World) (hl : last.length = 32) (hu : used ≤ n) (hn : n ≤ 4096) (h : w.heap[rb]? = some (.cells (ringC db first n pl num last used) 175)) :
    Calls Tryz.prog 83 #[.pointer (some ⟨rb, 0, none⟩)] w fun e w' => e = .returned (.int .i64 ((n : Int) - used)) ∧ Below w.heap.size w w' := by
  obtain ⟨z0, z1, z2, z3, z4, z5⟩ := ring_cells hl h
  have r2 := cell_regrown z2
  have r5 := cell_regrown z5
  have h0 : (0 : Int) ≤ used := by omega
  have h1 : (used : Int) ≤ n := by omega
  have h2 : (n : Int) ≤ 4096 := by omega
  clear h
  go_enter Tryz.func83, Tryz.ntmps83
  go_wp2_with fail
  go_quiet (fail)
  go_wp2_with fail
  go_ret
  exact ⟨rfl, below_dN (Below.refl _ _) _⟩
set_option maxRecDepth 100000 in
theorem fits_any (rb db first n pl used k : Nat) (num : Int) (last : List Int) (w : World) (hl : last.length = 32) (hu : used ≤ n) (hn : n ≤ 4096) (hk : 1 ≤ k ∧ k ≤ 60) (h : w.heap[rb]? = some (.cells (ringC db first n pl num last used) 175)) :
    Calls Tryz.prog 43 #[.pointer (some ⟨rb, 0, none⟩), .int .i64 (k : Int)] w fun e w' => e = .returned (.bool (decide (1 + ((k : Int) + 15) / 16 + k ≤ (n : Int) - used))) ∧ Below w.heap.size w w' := by
  have hR := room_any rb db first n pl used num last w hl hu hn h
  obtain ⟨k1, k2⟩ := hk
  have h1 : (1 : Int) ≤ k := by omega
  have h2 : (k : Int) ≤ 60 := by omega
  clear h
  go_enter Tryz.func43, Tryz.ntmps43
  go_wp2_with fail
  refine (sectors_any k w (by omega)).mono ?_
  rintro e w2 ⟨rfl, rfl⟩
  try dsimp only
  go_wp2_with fail
  refine hR.mono ?_
  clear hR
  rintro e w3 ⟨rfl, hb⟩
  try dsimp only
  go_wp2_with fail
  go_ret
  exact ⟨rfl, hb⟩
end Go.Proofs.YtjikpodghmfjcaaGreatDoor
set_option linter.unnecessarySimpa false
namespace Go.Proofs.YtjikpodghmfjcaaGreatDoor
open Go.RowKit Go.Maps
def putR (p : List Int) (a : Nat) (x : Int) : Nat → List Int
  | 0 => p
  | i + 1 => (putR p a x i).set (a + i) (byteAt x i)
theorem putR_ok {p : List Int} (hp : PgOk p) (a : Nat) (x : Int) : ∀ i, PgOk (putR p a x i)
  | 0 => hp
  | i + 1 => by
    have ih := putR_ok hp a x i
    refine ⟨by show ((putR p a x i).set (a + i) (byteAt x i)).length = 64; rw [List.length_set]; exact ih.1, fun y hy => ?_⟩
    rcases List.mem_or_eq_of_mem_set hy with hy | rfl
    · exact ih.2 y hy
    · unfold byteAt
      exact ⟨Int.emod_nonneg _ (by decide), Int.emod_lt_of_pos _ (by decide)⟩
set_option maxRecDepth 100000 in
set_option maxHeartbeats 2000000 in
theorem put_any (b : Nat) (p : List Int) (hp : PgOk p) (a n : Nat) (hn : n ≤ 8) (ha : a + n ≤ 64) (x : Int) (hx : 0 ≤ x ∧ x < 18446744073709551616) (w : World) (hb : w.heap[b]? = some (.cells (v8a p) 32)) :
    Calls Tryz.prog 93 #[.pointer (some ⟨b, 0, none⟩), .int .i64 (a : Int), .int .i64 (n : Int), .int .u64 x] w fun e w' => e = .returned (.tuple #[]) ∧ w'.heap[b]? = some (.cells (v8a (putR p a x n)) 32) ∧ w.grownBy w' (some b) := by
  have HB := Lib.hid hb
  have HPO := Lib.hid (putR_ok hp a x)
  obtain ⟨x0, x1⟩ := hx
  have n0 : (0 : Int) ≤ n := by omega
  have n8 : (n : Int) ≤ 8 := by omega
  have a0 : (0 : Int) ≤ a := by omega
  have a1 : (a : Int) + n ≤ 64 := by omega
  clear hb hp
  go_enter Tryz.func93, Tryz.ntmps93
  go_wp2_with fail
  go_loopw [10] (fun iv wr => ∃ i : Nat, iv = .int .i64 (i : Int) ∧ i ≤ n ∧ Hid (wr.heap[b]? = some (.cells (v8a (putR p a x i)) 32) ∧ w.grownBy wr (some b))) (fun iv _ => n + 1 - (intOf iv).toNat)
  case atStart => exact ⟨0, rfl, by omega, Lib.hid ⟨HB.out, grown_of_below (Below.refl _ _) _⟩⟩
  case round =>
    obtain ⟨i, rfl, hi, H⟩ := hrel
    by_cases hlt : i < n
    · have i0 : (0 : Int) ≤ i := by omega
      have i1 : (i : Int) < n := by omega
      have hR : b < wr.heap.size := lt_of_blk H.out.1
      obtain ⟨c0, f0⟩ := v8_cell H.out.1 (a + i) (by rw [(HPO.out i).1]; omega)
      have HNX : Hid (putR p a x (i + 1) = (putR p a x i).set (a + i) (byteAt x i)) := Lib.hid rfl
      go_wp2_with fail
      refine wp_region_mix [(0, true), (1, true), (2, true), (3, true), (4, true), (5, true), (6, true), (7, true), (8, true), (9, true), (10, true), (11, false)] 11 (fun w' => ∃ p : RegrownB, w' = setO (Go.Sort.grow (redrawn wr p.d) p.os) (b) p.o) (by kernel_rfl) (by kernel_rfl) (fun _ _ d _ _ h => by cases d <;> exact h) (growsB_drew hR) ?_
      (repeat (with_reducible refine mix_q ?_; simp only [List.drop_succ_cons, List.drop_zero, List.take_succ_cons, List.take_zero]; go_big_quiet_step (fail); with_reducible refine wpQuiet_nil ?_))
      with_reducible refine mix_a ?_; simp only [List.drop_succ_cons, List.drop_zero, List.take_succ_cons, List.take_zero]
      go_wp2_with fail
      with_reducible refine mixQ_normal ?_
      have hg1 : ∀ v, wr.grownBy (wr.setCell ⟨b, a + i, none⟩ v).drew (some b) := fun v => grown_trans (grown_set _ _ _ _) (grown_of_below (Below.refl _ _).drew _)
      refine ⟨fun _ => growsB_of hR (hg1 _), ?_⟩
      refine gen_mix (fun wx => Hid (wx.heap[b]? = some (.cells (v8a (putR p a x (i + 1))) 32) ∧ w.grownBy wx (some b))) (Lib.hid ⟨by rw [HNX.out]; exact v8_set H.out.1 _ _, grown_trans H.out.2 (hg1 _)⟩) ?_
      clear hg1 c0 f0 H
      intro w3 H3
      with_reducible refine mix_nil ?_
      go_wp2_with fail
      exact ⟨⟨i + 1, by push_cast; rfl, by omega, H3⟩, by simp [intOf]; omega⟩
    · have hin : i = n := by omega
      have hi1 : ¬ ((i : Int) < n) := by omega
      have HIN := Lib.hid hin
      clear hin hlt hi
      go_wp2_with fail
      go_end0
      rw [← HIN.out]
      exact ⟨rfl, H.out⟩
end Go.Proofs.YtjikpodghmfjcaaGreatDoor
set_option linter.unnecessarySimpa false
namespace Go.Proofs.YtjikpodghmfjcaaGreatDoor
open Go.RowKit Go.Maps
set_option maxRecDepth 100000 in
theorem less_any (blk off c Bs size : Nat) (W : World) (G : Nat → Int) (hs : W.cell? ⟨Bs, 0, none⟩ = some (.slice (some ⟨blk, off, none⟩) size c))
    (hc : ∀ t, t < size → W.cell? ⟨blk, off + t * 65, none⟩ = some (.int .i64 (G t))) (i j : Nat) (hi : i < size) (hj : j < size) (hsz : size < 4611686018427387904) :
    Calls Tryz.prog 42 #[.int .i64 (i : Int), .int .i64 (j : Int), .pointer (some ⟨Bs, 0, none⟩)] W fun e w' => e = .returned (.bool (decide (G i < G j))) ∧ ∃ q, w' = W.drewN q := by
  have ci := hc i hi
  have cj := hc j hj
  have hi0 : (0 : Int) ≤ i := by omega
  have hj0 : (0 : Int) ≤ j := by omega
  have hi1 : (i : Int) < size := by omega
  have hj1 : (j : Int) < size := by omega
  have r0 := cell_regrown hs
  have r1 := cell_regrown ci
  have r2 := cell_regrown cj
  clear hc
  go_enter Tryz.func42, Tryz.ntmps42
  go_wp2_with fail
  go_quiet (fail)
  go_wp2_with fail
  go_ret
  exact ⟨rfl, _, rfl⟩
end Go.Proofs.YtjikpodghmfjcaaGreatDoor
