/- What lies on pages of a book: a forest, a depot. A page of a forest is read, the head of a container. A forest: a place of a page. A forest: a number is put to a place of a page. A forest: a number is written to a place of a page of a book. A forest: how many nodes are taken. -/
import Derived.Test.YthaaoghbginmpaaDoorM1
import Derived.Test.YthaaoghbginmpaaDoorB6
import Derived.Test.YthaaoghbginmpaaDoorE5
set_option linter.unusedSimpArgs false
set_option linter.unusedVariables false
set_option linter.unnecessarySimpa false
namespace Go.Proofs.YthaaoghbginmpaaDoor
set_option linter.unusedSimpArgs false
set_option linter.unusedVariables false
open Go.RowKit Go.Maps
/-- Block tb, of type T, says of pages of a book from first on. -/
def HolI (T : Nat) (w : World) (tb : Nat) (N : Nat → Prop) (bb first n : Nat) (B : BookS) : Prop :=
  w.heap[tb]? = some (.cells (tabC bb first n) T) ∧ BookI w bb (fun k => N k ∨ k = tb) B ∧ ¬ N tb
theorem HolI.keep {T : Nat} {w w' : World} {tb : Nat} {N N' : Nat → Prop} {bb first n : Nat} {B : BookS} (h : HolI T w tb N bb first n B) (hb : Below w.heap.size w w') (hn : ∀ i, N' i → i < w'.heap.size ∧ (N i ∨ w.heap.size ≤ i)) : HolI T w' tb N' bb first n B := by
  obtain ⟨h1, h2, h3⟩ := h
  have hl := lt_of_blk h1
  have hs := hb.size
  refine ⟨(hb.block _ hl).trans h1, h2.keep hb (fun i hi => ?_), fun hN => ?_⟩
  · rcases hi with hi | hi
    · rcases hn i hi with ⟨q1, q2 | q2⟩
      · exact ⟨q1, .inl (.inl q2)⟩
      · exact ⟨q1, .inr q2⟩
    · subst hi; exact ⟨by omega, .inl (.inr rfl)⟩
  · rcases (hn _ hN).2 with q | q
    · exact h3 q
    · omega
theorem HolI.N_lt {T : Nat} {w : World} {tb : Nat} {N : Nat → Prop} {bb first n : Nat} {B : BookS} (h : HolI T w tb N bb first n B) : ∀ k, N k → k < w.heap.size := fun k hk => h.2.1.N_lt k (.inl hk)
theorem HolI.below {T : Nat} {w w' : World} {tb : Nat} {N : Nat → Prop} {bb first n : Nat} {B : BookS} (h : HolI T w tb N bb first n B) (hb : Below w.heap.size w w') : HolI T w' tb N bb first n B :=
  h.keep hb (fun i hi => ⟨Nat.lt_of_lt_of_le (h.N_lt i hi) hb.size, .inl hi⟩)
set_option maxRecDepth 100000 in
set_option maxHeartbeats 2000000 in
theorem rpage_any (tb : Nat) (N : Nat → Prop) (bb first n : Nat) (B : BookS) (node : Nat) (hi : first + node < B.n) (w : World) (h : HolI 142 w tb N bb first n B) :
    Calls Tryd.prog 64 #[.pointer (some ⟨tb, 0, none⟩), .int .i64 (node : Int)] w fun e w' => e = .returned (.tuple #[.agg (v8a (B.view (first + node))), .nilIface]) ∧ Below w.heap.size w w' := by
  have HT := Lib.hid h
  have hok := h.2.1.isOk
  have hn2 := hok.n.2
  have HV : Hid (PgOk (B.view (first + node))) := Lib.hid (BookS.view_ok hok _ hi)
  have hRB := Lib.hid (fun wx (hb : Below w.heap.size w wx) => bookRead_any bb _ B (first + node) hi wx ((HT.out.below hb).2.1))
  clear h hok
  have hi0 : (0 : Int) ≤ node := by omega
  have hf0 : (0 : Int) ≤ first := by omega
  have hf1 : (first : Int) + (node : Int) < 2048 := by omega
  go_enter Tryd.func64, Tryd.ntmps64
  go_wp2_with fail
  refine gen_code (fun wx => Hid (wx.heap[w.heap.size]? = some (.cells (v8a (zer 64)) 68) ∧ Below w.heap.size w wx)) (Lib.hid ⟨heap_alloc_new w (.cells (v8a (zer 64)) 68), (Below.refl _ _).alloc (Nat.le_refl _) _⟩) ?_
  intro w1 H1
  have htl := lt_of_blk HT.out.1
  have hR1 : w.heap.size < w1.heap.size := lt_of_blk H1.out.1
  obtain ⟨z0, z1, z2⟩ := blk3 ((HT.out.below H1.out.2).1)
  have r0 := cellB (R := w.heap.size) z0 (by simp; omega)
  have r1 := cellB (R := w.heap.size) z1 (by simp; omega)
  have hC : ∀ wx, Below w1.heap.size w1 wx → Calls Tryd.prog 59 #[.pointer (some ⟨bb, 0, none⟩), .int .i64 ((first : Int) + (node : Int))] wx fun e w' => e = .returned (.tuple #[.agg (v8a (B.view (first + node))), .nilIface]) ∧ Below wx.heap.size wx w' := fun wx hb => by
    have h := hRB.out wx (H1.out.2.trans (hb.mono H1.out.2.size))
    rw [show ((first + node : Nat) : Int) = (first : Int) + (node : Int) by omega] at h
    exact h
  obtain ⟨pg, hpg⟩ : ∃ pg, B.view (first + node) = pg := ⟨_, rfl⟩
  rw [hpg] at HV hC
  have HPG := Lib.hid hpg
  clear hpg
  have hp64 := HV.out.1
  have hsz : (v8a pg).size = 64 := by simp [v8a, v8, hp64]
  refine wp_region_mix [(0, true), (1, true), (2, true), (3, true), (4, true), (5, true), (6, true), (7, true), (8, true), (9, true), (10, false), (11, true), (12, true), (13, false), (14, true)] 14 (fun w' => ∃ p : RegrownB, w' = setO (Go.Sort.grow (redrawn w1 p.d) p.os) (w.heap.size) p.o) (by kernel_rfl) (by kernel_rfl) (fun _ _ d _ _ h => by cases d <;> exact h) (growsB_drew hR1) ?_
  (repeat (with_reducible refine mix_q ?_; simp only [List.drop_succ_cons, List.drop_zero, List.take_succ_cons, List.take_zero]; go_big_quiet_step (fail); with_reducible refine wpQuiet_nil ?_))
  with_reducible refine mix_a ?_; simp only [List.drop_succ_cons, List.drop_zero, List.take_succ_cons, List.take_zero]
  go_wp2_with fail
  refine (hC w1.drew (Below.refl _ _).drew).mono ?_
  rintro e w2 ⟨rfl, hb2⟩
  have hb3 : Below w1.heap.size w1 w2 := (Below.refl _ _).drew.trans hb2
  have H2 : Hid (w2.heap[w.heap.size]? = some (.cells (v8a (zer 64)) 68) ∧ Below w.heap.size w w2) := Lib.hid ⟨(hb3.block _ hR1).trans H1.out.1, H1.out.2.trans (hb3.mono H1.out.2.size)⟩
  try dsimp only
  go_wp2_with fail
  with_reducible refine mixQ_normal ?_
  refine ⟨fun _ => growsB_of hR1 (grown_of_below hb3 _), ?_⟩
  (repeat (with_reducible refine mix_q ?_; simp only [List.drop_succ_cons, List.drop_zero, List.take_succ_cons, List.take_zero]; go_big_quiet_step (fail); with_reducible refine wpQuiet_nil ?_))
  with_reducible refine mix_a ?_; simp only [List.drop_succ_cons, List.drop_zero, List.take_succ_cons, List.take_zero]
  refine page_store rfl (.tmp 4) (.tmp 17) rfl w.heap.size pg (zer 64) rfl rfl H2.out.1 hp64 rfl ?_
  have hg7 : w1.grownBy (w2.setRow w.heap.size (v8a pg)) (some w.heap.size) := grown_trans (grown_of_below hb3 _) (grown_row w2 w.heap.size _)
  refine gen_world (fun wx => Hid (wx.heap[w.heap.size]? = some (.cells (v8a pg) 68) ∧ Below w.heap.size w wx ∧ w1.grownBy wx (some w.heap.size))) (Lib.hid ⟨setRow_heap _ _ _ _ _ (0, 0) (by exact H2.out.1), below_setRow H2.out.2 (Nat.le_refl _) _, hg7⟩) ?_
  intro w8 H8
  simp only [Act.put, List.setIfInBounds_toArray, List.set_cons_zero, List.set_cons_succ]
  with_reducible refine wpList_nil ?_
  with_reducible refine mixQ_normal ?_
  refine ⟨fun _ => growsB_of hR1 H8.out.2.2, ?_⟩
  (repeat (with_reducible refine mix_q ?_; simp only [List.drop_succ_cons, List.drop_zero, List.take_succ_cons, List.take_zero]; go_big_quiet_step (fail); with_reducible refine wpQuiet_nil ?_))
  with_reducible refine mix_nil ?_
  go_wp2_with fail
  refine bodyPost_ret (results_cell_slot Tryd.results64 _ _ w.heap.size 68 (v8a pg) (0, 0) _ rfl .nilIface rfl H8.out.1 Tryd.underlying68 rfl (by rw [hsz]; exact info_pgs)) rfl ⟨by rw [HPG.out], H8.out.2.1⟩
set_option maxRecDepth 100000 in
set_option maxHeartbeats 2000000 in
theorem dhead_any (tb : Nat) (N : Nat → Prop) (bb first n : Nat) (B : BookS) (box : Nat) (hi : first + box * 5 < B.n) (w : World) (h : HolI 131 w tb N bb first n B) :
    Calls Tryd.prog 69 #[.pointer (some ⟨tb, 0, none⟩), .int .i64 (box : Int)] w fun e w' => e = .returned (.tuple #[.agg (v8a (B.view (first + box * 5))), .nilIface]) ∧ Below w.heap.size w w' := by
  have HT := Lib.hid h
  have hok := h.2.1.isOk
  have hn2 := hok.n.2
  have HV : Hid (PgOk (B.view (first + box * 5))) := Lib.hid (BookS.view_ok hok _ hi)
  have hRB := Lib.hid (fun wx (hb : Below w.heap.size w wx) => bookRead_any bb _ B (first + box * 5) hi wx ((HT.out.below hb).2.1))
  clear h hok
  have hi0 : (0 : Int) ≤ box := by omega
  have hf0 : (0 : Int) ≤ first := by omega
  have hf1 : (first : Int) + (box : Int) * 5 < 2048 := by omega
  go_enter Tryd.func69, Tryd.ntmps69
  go_wp2_with fail
  refine gen_code (fun wx => Hid (wx.heap[w.heap.size]? = some (.cells (v8a (zer 64)) 68) ∧ Below w.heap.size w wx)) (Lib.hid ⟨heap_alloc_new w (.cells (v8a (zer 64)) 68), (Below.refl _ _).alloc (Nat.le_refl _) _⟩) ?_
  intro w1 H1
  have htl := lt_of_blk HT.out.1
  have hR1 : w.heap.size < w1.heap.size := lt_of_blk H1.out.1
  obtain ⟨z0, z1, z2⟩ := blk3 ((HT.out.below H1.out.2).1)
  have r0 := cellB (R := w.heap.size) z0 (by simp; omega)
  have r1 := cellB (R := w.heap.size) z1 (by simp; omega)
  have hC : ∀ wx, Below w1.heap.size w1 wx → Calls Tryd.prog 59 #[.pointer (some ⟨bb, 0, none⟩), .int .i64 ((first : Int) + (box : Int) * 5)] wx fun e w' => e = .returned (.tuple #[.agg (v8a (B.view (first + box * 5))), .nilIface]) ∧ Below wx.heap.size wx w' := fun wx hb => by
    have h := hRB.out wx (H1.out.2.trans (hb.mono H1.out.2.size))
    rw [show ((first + box * 5 : Nat) : Int) = (first : Int) + (box : Int) * 5 by omega] at h
    exact h
  obtain ⟨pg, hpg⟩ : ∃ pg, B.view (first + box * 5) = pg := ⟨_, rfl⟩
  rw [hpg] at HV hC
  have HPG := Lib.hid hpg
  clear hpg
  have hp64 := HV.out.1
  have hsz : (v8a pg).size = 64 := by simp [v8a, v8, hp64]
  refine wp_region_mix [(0, true), (1, true), (2, true), (3, true), (4, true), (5, true), (6, true), (7, true), (8, true), (9, true), (10, true), (11, false), (12, true), (13, true), (14, false), (15, true)] 15 (fun w' => ∃ p : RegrownB, w' = setO (Go.Sort.grow (redrawn w1 p.d) p.os) (w.heap.size) p.o) (by kernel_rfl) (by kernel_rfl) (fun _ _ d _ _ h => by cases d <;> exact h) (growsB_drew hR1) ?_
  (repeat (with_reducible refine mix_q ?_; simp only [List.drop_succ_cons, List.drop_zero, List.take_succ_cons, List.take_zero]; go_big_quiet_step (fail); with_reducible refine wpQuiet_nil ?_))
  with_reducible refine mix_a ?_; simp only [List.drop_succ_cons, List.drop_zero, List.take_succ_cons, List.take_zero]
  go_wp2_with fail
  refine (hC w1.drew (Below.refl _ _).drew).mono ?_
  rintro e w2 ⟨rfl, hb2⟩
  have hb3 : Below w1.heap.size w1 w2 := (Below.refl _ _).drew.trans hb2
  have H2 : Hid (w2.heap[w.heap.size]? = some (.cells (v8a (zer 64)) 68) ∧ Below w.heap.size w w2) := Lib.hid ⟨(hb3.block _ hR1).trans H1.out.1, H1.out.2.trans (hb3.mono H1.out.2.size)⟩
  try dsimp only
  go_wp2_with fail
  with_reducible refine mixQ_normal ?_
  refine ⟨fun _ => growsB_of hR1 (grown_of_below hb3 _), ?_⟩
  (repeat (with_reducible refine mix_q ?_; simp only [List.drop_succ_cons, List.drop_zero, List.take_succ_cons, List.take_zero]; go_big_quiet_step (fail); with_reducible refine wpQuiet_nil ?_))
  with_reducible refine mix_a ?_; simp only [List.drop_succ_cons, List.drop_zero, List.take_succ_cons, List.take_zero]
  refine page_store rfl (.tmp 4) (.tmp 18) rfl w.heap.size pg (zer 64) rfl rfl H2.out.1 hp64 rfl ?_
  have hg7 : w1.grownBy (w2.setRow w.heap.size (v8a pg)) (some w.heap.size) := grown_trans (grown_of_below hb3 _) (grown_row w2 w.heap.size _)
  refine gen_world (fun wx => Hid (wx.heap[w.heap.size]? = some (.cells (v8a pg) 68) ∧ Below w.heap.size w wx ∧ w1.grownBy wx (some w.heap.size))) (Lib.hid ⟨setRow_heap _ _ _ _ _ (0, 0) (by exact H2.out.1), below_setRow H2.out.2 (Nat.le_refl _) _, hg7⟩) ?_
  intro w8 H8
  simp only [Act.put, List.setIfInBounds_toArray, List.set_cons_zero, List.set_cons_succ]
  with_reducible refine wpList_nil ?_
  with_reducible refine mixQ_normal ?_
  refine ⟨fun _ => growsB_of hR1 H8.out.2.2, ?_⟩
  (repeat (with_reducible refine mix_q ?_; simp only [List.drop_succ_cons, List.drop_zero, List.take_succ_cons, List.take_zero]; go_big_quiet_step (fail); with_reducible refine wpQuiet_nil ?_))
  with_reducible refine mix_nil ?_
  go_wp2_with fail
  refine bodyPost_ret (results_cell_slot Tryd.results69 _ _ w.heap.size 68 (v8a pg) (0, 0) _ rfl .nilIface rfl H8.out.1 Tryd.underlying68 rfl (by rw [hsz]; exact info_pgs)) rfl ⟨by rw [HPG.out], H8.out.2.1⟩
end Go.Proofs.YthaaoghbginmpaaDoor
set_option linter.unusedSimpArgs false
set_option linter.unusedVariables false
set_option linter.unnecessarySimpa false
namespace Go.Proofs.YthaaoghbginmpaaDoor
open Go.RowKit Go.Maps
/-- The number at a place of a page. -/
def atF (p : List Int) (i : Nat) : Int := bits BinOp.or IntKind.i64 (bits BinOp.or IntKind.i64 (p.getD (4 * i) 0) (p.getD (4 * i + 1) 0 * 256)) (p.getD (4 * i + 2) 0 * 65536)
set_option maxRecDepth 100000 in
set_option maxHeartbeats 2000000 in
theorem at_any (p : List Int) (hp : PgOk p) (i : Nat) (hi : i < 16) (w : World) :
    Calls Tryd.prog 65 #[.agg (v8a p), .int .i64 (i : Int)] w fun e w' => e = .returned (.int .i64 (atF p i)) ∧ Below w.heap.size w w' := by
  have hl := hp.1
  have i0 : (0 : Int) ≤ i := by omega
  have i1 : (i : Int) < 16 := by omega
  have u0 := hp.2.at (4 * i)
  have u1 := hp.2.at (4 * i + 1)
  have u2 := hp.2.at (4 * i + 2)
  obtain ⟨x0, h0⟩ : ∃ x, p.getD (4 * i) 0 = x := ⟨_, rfl⟩
  obtain ⟨x1, h1⟩ : ∃ x, p.getD (4 * i + 1) 0 = x := ⟨_, rfl⟩
  obtain ⟨x2, h2⟩ : ∃ x, p.getD (4 * i + 2) 0 = x := ⟨_, rfl⟩
  unfold atF
  rw [h0, h1, h2]
  rw [h0] at u0
  rw [h1] at u1
  rw [h2] at u2
  obtain ⟨u0a, u0b⟩ := u0
  obtain ⟨u1a, u1b⟩ := u1
  obtain ⟨u2a, u2b⟩ := u2
  go_enter Tryd.func65, Tryd.ntmps65
  go_wp2_with fail
  refine gen_code (fun wx => Hid (wx.heap[w.heap.size]? = some (.cells (v8a p) 68) ∧ Below w.heap.size w wx)) (Lib.hid ⟨heap_alloc_new w (.cells (v8a p) 68), (Below.refl _ _).alloc (Nat.le_refl _) _⟩) ?_
  intro w1 H1
  obtain ⟨c0, f0⟩ := v8_cell H1.out.1 (4 * i) (by omega)
  obtain ⟨c1, f1⟩ := v8_cell H1.out.1 (4 * i + 1) (by omega)
  obtain ⟨c2, f2⟩ := v8_cell H1.out.1 (4 * i + 2) (by omega)
  rw [h0] at c0
  rw [h1] at c1
  rw [h2] at c2
  have r0 := cell_regrown c0
  have r1 := cell_regrown c1
  have r2 := cell_regrown c2
  clear h0 h1 h2 hl hp
  go_quiet (fail)
  go_wp2_with fail
  go_ret
  exact ⟨rfl, below_dN H1.out.2 _⟩
end Go.Proofs.YthaaoghbginmpaaDoor
set_option linter.unusedSimpArgs false
set_option linter.unusedVariables false
set_option linter.unnecessarySimpa false
namespace Go.Proofs.YthaaoghbginmpaaDoor
open Go.RowKit Go.Maps
def putNF (p : List Int) (i : Nat) (x : Int) : List Int := ((p.set (4 * i) (x % 256)).set (4 * i + 1) (x / 256 % 256)).set (4 * i + 2) (x / 65536)
theorem v8a_put {w : World} {b T : Nat} {p : List Int} (h : w.heap[b]? = some (.cells (v8a p) T)) (k : Nat) (x : Int) : (w.setCell ⟨b, k, none⟩ (.int .u8 x)).heap[b]? = some (.cells (v8a (p.set k x)) T) := by
  rw [set_blk h]
  simp [v8a, v8, List.map_set]
set_option maxRecDepth 100000 in
set_option maxHeartbeats 2000000 in
theorem rput_any (b : Nat) (p : List Int) (hp : PgOk p) (i : Nat) (hi : i < 16) (x : Int) (hx : 0 ≤ x ∧ x < 16777216) (w : World) (hb : w.heap[b]? = some (.cells (v8a p) 68)) :
    Calls Tryd.prog 87 #[.pointer (some ⟨b, 0, none⟩), .int .i64 (i : Int), .int .i64 x] w fun e w' => e = .returned (.tuple #[]) ∧ w'.heap[b]? = some (.cells (v8a (putNF p i x)) 68) ∧ w.grownBy w' (some b) := by
  have hl := hp.1
  have i0 : (0 : Int) ≤ i := by omega
  have i1 : (i : Int) < 16 := by omega
  obtain ⟨x0, x1⟩ := hx
  have hR : b < w.heap.size := lt_of_blk hb
  obtain ⟨c0, f0⟩ := v8_cell hb (4 * i) (by omega)
  have HB := Lib.hid hb
  clear hb
  go_enter Tryd.func87, Tryd.ntmps87
  go_wp2_with fail
  refine wp_region_mix [(0, true), (1, true), (2, true), (3, true), (4, true), (5, true), (6, true), (7, true), (8, true), (9, true), (10, true), (11, true), (12, true), (13, true), (14, true), (15, true), (16, true), (17, true), (18, true), (19, true), (20, true), (22, true), (25, true), (21, false), (23, true), (24, false), (26, true), (27, false)] 27 (fun w' => ∃ p : RegrownB, w' = setO (Go.Sort.grow (redrawn w p.d) p.os) (b) p.o) (by kernel_rfl) (by kernel_rfl) (fun _ _ d _ _ h => by cases d <;> exact h) (growsB_drew hR) ?_
  (repeat (with_reducible refine mix_q ?_; simp only [List.drop_succ_cons, List.drop_zero, List.take_succ_cons, List.take_zero]; go_big_quiet_step (fail); with_reducible refine wpQuiet_nil ?_))
  with_reducible refine mix_a ?_; simp only [List.drop_succ_cons, List.drop_zero, List.take_succ_cons, List.take_zero]
  go_wp2_with fail
  with_reducible refine mixQ_normal ?_
  have hg1 : ∀ v, w.grownBy (w.setCell ⟨b, 4 * i, none⟩ v).drew (some b) := fun v => grown_trans (grown_set _ _ _ _) (grown_of_below (Below.refl _ _).drew _)
  refine ⟨fun _ => growsB_of hR (hg1 _), ?_⟩
  refine gen_mix (fun wx => Hid (wx.heap[b]? = some (.cells (v8a (p.set (4 * i) (x % 256))) 68) ∧ w.grownBy wx (some b))) (Lib.hid ⟨v8_set HB.out _ _, hg1 _⟩) ?_
  clear hg1 c0 f0
  intro w1 H1
  (repeat (with_reducible refine mix_q ?_; simp only [List.drop_succ_cons, List.drop_zero, List.take_succ_cons, List.take_zero]; go_big_quiet_step (fail); with_reducible refine wpQuiet_nil ?_))
  obtain ⟨c1, f1⟩ := v8_cell H1.out.1 (4 * i + 1) (by simp; omega)
  with_reducible refine mix_a ?_; simp only [List.drop_succ_cons, List.drop_zero, List.take_succ_cons, List.take_zero]
  go_wp2_with fail
  with_reducible refine mixQ_normal ?_
  have hg2 : ∀ v, w.grownBy (w1.setCell ⟨b, 4 * i + 1, none⟩ v) (some b) := fun v => grown_trans H1.out.2 (grown_set _ _ _ _)
  refine ⟨fun _ => growsB_of hR (hg2 _), ?_⟩
  refine gen_mix (fun wx => Hid (wx.heap[b]? = some (.cells (v8a ((p.set (4 * i) (x % 256)).set (4 * i + 1) (x / 256 % 256))) 68) ∧ w.grownBy wx (some b))) (Lib.hid ⟨v8_set H1.out.1 _ _, hg2 _⟩) ?_
  clear hg2 c1 f1 H1
  intro w2 H2
  (repeat (with_reducible refine mix_q ?_; simp only [List.drop_succ_cons, List.drop_zero, List.take_succ_cons, List.take_zero]; go_big_quiet_step (fail); with_reducible refine wpQuiet_nil ?_))
  obtain ⟨c2, f2⟩ := v8_cell H2.out.1 (4 * i + 2) (by simp; omega)
  with_reducible refine mix_a ?_; simp only [List.drop_succ_cons, List.drop_zero, List.take_succ_cons, List.take_zero]
  go_wp2_with fail
  with_reducible refine mixQ_normal ?_
  have hg3 : ∀ v, w.grownBy (w2.setCell ⟨b, 4 * i + 2, none⟩ v) (some b) := fun v => grown_trans H2.out.2 (grown_set _ _ _ _)
  refine ⟨fun _ => growsB_of hR (hg3 _), ?_⟩
  refine gen_mix (fun wx => Hid (wx.heap[b]? = some (.cells (v8a (putNF p i x)) 68) ∧ w.grownBy wx (some b))) (Lib.hid ⟨v8_set H2.out.1 _ _, hg3 _⟩) ?_
  clear hg3 c2 f2 H2
  intro w3 H3
  (repeat (with_reducible refine mix_q ?_; simp only [List.drop_succ_cons, List.drop_zero, List.take_succ_cons, List.take_zero]; go_big_quiet_step (fail); with_reducible refine wpQuiet_nil ?_))
  with_reducible refine mix_nil ?_
  go_wp2_with fail
  go_end0
  exact ⟨rfl, H3.out⟩
end Go.Proofs.YthaaoghbginmpaaDoor
set_option linter.unusedSimpArgs false
set_option linter.unusedVariables false
set_option linter.unnecessarySimpa false
namespace Go.Proofs.YthaaoghbginmpaaDoor
open Go.RowKit Go.Maps
theorem putNF_ok {p : List Int} (hp : PgOk p) (i : Nat) (x : Int) (hx : 0 ≤ x ∧ x < 16777216) : PgOk (putNF p i x) := by
  refine ⟨by simp [putNF, hp.1], fun y hy => ?_⟩
  unfold putNF at hy
  rcases List.mem_or_eq_of_mem_set hy with hy | rfl
  · rcases List.mem_or_eq_of_mem_set hy with hy | rfl
    · rcases List.mem_or_eq_of_mem_set hy with hy | rfl
      · exact hp.2 y hy
      · omega
    · omega
  · omega
def FwS (tb b4 b7 : Nat) (cs c4 : Array Value) (p : List Int) (wx : World) : Prop := wx.heap[tb]? = some (.cells cs 142) ∧ wx.heap[b4]? = some (.cells c4 139) ∧ wx.heap[b7]? = some (.cells (v8a p) 68)
set_option maxRecDepth 100000 in
set_option maxHeartbeats 4000000 in
theorem fwrite_any (tb : Nat) (N : Nat → Prop) (bb first n : Nat) (B : BookS) (node k : Nat) (hi : first + node < B.n) (hk : k < 16) (x : Int) (hx : 0 ≤ x ∧ x < 16777216)
    (hc : (B.f (first + node)).isSome = true ∨ B.view (first + node) = putNF (B.view (first + node)) k x ∨ (keysF B.f B.n).length ≠ 60) (w : World) (h : HolI 142 w tb N bb first n B) :
    Calls Tryd.prog 68 #[.pointer (some ⟨tb, 0, none⟩), .agg #[.int .i64 (node : Int), .int .i64 (k : Int)], .int .i64 x] w fun e w' => e = .returned .nilIface ∧ HolI 142 w' tb N bb first n (B.wrote (first + node) (putNF (B.view (first + node)) k x)) ∧ Keeps N w w' := by
  have HT := Lib.hid h
  have hok := h.2.1.isOk
  have hn2 := hok.n.2
  have HC := Lib.hid hc
  have HPK0 : Hid (PgOk (B.view (first + node))) := Lib.hid (BookS.view_ok hok _ hi)
  have HPK : Hid (PgOk (putNF (B.view (first + node)) k x)) := Lib.hid (putNF_ok HPK0.out k x hx)
  have hb0 : ∀ o : Obj, Below w.heap.size w (w.alloc o) := fun o => (Below.refl _ _).alloc (Nat.le_refl _) _
  have hrp := Lib.hid (fun wx (hb : Below w.heap.size w wx) => rpage_any tb N bb first n B node hi wx (HT.out.below hb))
  obtain ⟨pg, hpg⟩ : ∃ pg, B.view (first + node) = pg := ⟨_, rfl⟩
  rw [hpg] at HC HPK0 HPK hrp
  obtain ⟨pq, hpq⟩ : ∃ pq, putNF pg k x = pq := ⟨_, rfl⟩
  have HPQ := Lib.hid hpq
  rw [hpg, hpq]
  rw [hpq] at HC HPK
  have HPG := Lib.hid hpg
  have hputA := Lib.hid (fun b wx hb => rput_any b pg HPK0.out k hk x hx wx hb)
  rw [hpq] at hputA
  clear h hc hok hpg hpq
  have hi0 : (0 : Int) ≤ node := by omega
  have hk0 : (0 : Int) ≤ k := by omega
  have hf0 : (0 : Int) ≤ first := by omega
  have hf1 : (first : Int) + node < 2048 := by omega
  have hp64 := HPK0.out.1
  go_enter Tryd.func68, Tryd.ntmps68
  repeat ((fail_if_success (with_reducible refine stop_pos "radix.go:132" rfl ?_)); (first | go_values | go_skip | go_guarded | go_step | go_upon))
  refine gen_world (fun wx => Hid (wx.heap[w.heap.size]? = some (.cells #[.int .i64 (node : Int), .int .i64 (k : Int)] 139) ∧ Below w.heap.size w wx)) (Lib.hid ⟨heap_alloc_new w (.cells #[.int .i64 (node : Int), .int .i64 (k : Int)] 139), hb0 _⟩) ?_
  clear hb0
  intro w1 H1
  obtain ⟨y0, y1⟩ := blk2 H1.out.1
  go_wp2_with fail
  refine (hrp.out w1 H1.out.2).mono ?_
  rintro e w2 ⟨rfl, hb2⟩
  have hlt1 := lt_of_blk H1.out.1
  have H2 : Hid (w2.heap[w.heap.size]? = some (.cells #[.int .i64 (node : Int), .int .i64 (k : Int)] 139) ∧ Below w.heap.size w w2) := Lib.hid ⟨(hb2.block _ hlt1).trans H1.out.1, H1.out.2.trans (hb2.mono H1.out.2.size)⟩
  clear hb2 y0 y1 H1 hlt1
  try dsimp only
  repeat ((fail_if_success (with_reducible refine stop_at 16 rfl ?_)); (first | (refine page_store rfl (.tmp 7) (.tmp 14) rfl w2.heap.size pg (zer 64) rfl rfl (heap_alloc_new w2 _) hp64 rfl ?_) | go_values | go_skip | go_guarded | go_step | go_upon))
  have hbx : ∀ o : Obj, Below w2.heap.size w2 ((w2.alloc o).setRow w2.heap.size (v8a pg)) := fun o => below_setRow ((Below.refl _ _).alloc (Nat.le_refl _) _) (Nat.le_refl _) _
  have hlt2 := lt_of_blk H2.out.1
  refine gen_world (fun wx => Hid (wx.heap[w.heap.size]? = some (.cells #[.int .i64 (node : Int), .int .i64 (k : Int)] 139) ∧ wx.heap[w2.heap.size]? = some (.cells (v8a pg) 68) ∧ Below w.heap.size w wx)) (Lib.hid ⟨((hbx _).block _ hlt2).trans H2.out.1, setRow_heap _ _ _ _ _ (0, 0) (heap_alloc_new w2 _), H2.out.2.trans ((hbx _).mono H2.out.2.size)⟩) ?_
  have hb7 : w.heap.size < w2.heap.size := hlt2
  clear hbx H2 hlt2
  generalize w2.heap.size = b7 at hb7 ⊢
  intro w3 H3
  obtain ⟨y0, y1⟩ := blk2 H3.out.1
  go_wp2_with fail
  refine (hputA.out b7 w3 H3.out.2.1).mono ?_
  rintro e w4 ⟨rfl, hq, hg⟩
  have hlt3 := lt_of_blk H3.out.1
  have hbel : Below w.heap.size w w4 := H3.out.2.2.grown hg (Nat.le_of_lt hlt3) (fun q hq => by injection hq with hq; omega)
  have h4 : w4.heap[w.heap.size]? = some (.cells #[.int .i64 (node : Int), .int .i64 (k : Int)] 139) := (hg.block _ hlt3 (fun e => by injection e with e; omega)).trans H3.out.1
  have hlt4 := lt_of_blk h4
  have hlt7 := lt_of_blk hq
  have H4 : Hid (HolI 142 w4 tb (fun q => N q ∨ q = w.heap.size ∨ q = b7) bb first n B ∧ w4.heap[w.heap.size]? = some (.cells #[.int .i64 (node : Int), .int .i64 (k : Int)] 139) ∧ w4.heap[b7]? = some (.cells (v8a pq) 68) ∧ Keeps N w w4) := Lib.hid ⟨HT.out.keep hbel (fun q hq => by
      rcases hq with hq | rfl | rfl
      · exact ⟨Nat.lt_of_lt_of_le (HT.out.N_lt _ hq) hbel.size, .inl hq⟩
      · exact ⟨hlt4, .inr (Nat.le_refl _)⟩
      · exact ⟨hlt7, .inr (by omega)⟩), h4, hq, Keeps.of_below hbel⟩
  clear hq hg hbel h4 y0 y1 H3 hlt3 hlt4 hlt7
  generalize w.heap.size = b4 at *
  try dsimp only
  go_wp2_with fail
  have HWB := Lib.hid (fun wy (hy : BookI wy bb (fun k => (N k ∨ k = b4 ∨ k = b7) ∨ k = tb) B) => bookWrite_any bb _ B (first + node) pq hi HPK.out (by rw [HPG.out]; exact HC.out) wy hy)
  have r0 : ∀ q : SatW (FwS tb b4 b7 (tabC bb first n) #[.int .i64 (node : Int), .int .i64 (k : Int)] pq), q.w.cell? ⟨tb, 0, none⟩ = some (.pointer (some ⟨bb, 0, none⟩)) := fun q => (blk3 q.h.1).1
  have r1 : ∀ q : SatW (FwS tb b4 b7 (tabC bb first n) #[.int .i64 (node : Int), .int .i64 (k : Int)] pq), q.w.cell? ⟨tb, 1, none⟩ = some (.int .i64 (first : Int)) := fun q => (blk3 q.h.1).2.1
  have r2 : ∀ q : SatW (FwS tb b4 b7 (tabC bb first n) #[.int .i64 (node : Int), .int .i64 (k : Int)] pq), q.w.cell? ⟨b4, 0, none⟩ = some (.int .i64 (node : Int)) := fun q => (blk2 q.h.2.1).1
  have hne : Nonempty (SatW (FwS tb b4 b7 (tabC bb first n) #[.int .i64 (node : Int), .int .i64 (k : Int)] pq)) := ⟨⟨_, (show FwS tb b4 b7 (tabC bb first n) #[.int .i64 (node : Int), .int .i64 (k : Int)] pq w4.drew from ⟨H4.out.1.1, H4.out.2.1, H4.out.2.2.1⟩)⟩⟩
  refine wp_region_mix [(0, true), (1, true), (2, true), (3, true), (4, true), (5, true), (6, true), (7, true), (8, true), (9, true), (10, true), (11, true), (12, false), (13, true)] 13 (fun w' => ∃ p : SatW (FwS tb b4 b7 (tabC bb first n) #[.int .i64 (node : Int), .int .i64 (k : Int)] pq), w' = p.w) (by kernel_rfl) (by kernel_rfl) (fun _ _ d _ _ h => by cases d <;> exact h) (sat_of (show FwS tb b4 b7 (tabC bb first n) #[.int .i64 (node : Int), .int .i64 (k : Int)] pq w4.drew from ⟨H4.out.1.1, H4.out.2.1, H4.out.2.2.1⟩)) ?_
  (repeat (with_reducible refine mix_q ?_; simp only [List.drop_succ_cons, List.drop_zero, List.take_succ_cons, List.take_zero]; go_big_quiet_step (fail); with_reducible refine wpQuiet_nil ?_))
  with_reducible refine mix_q ?_
  simp only [List.drop_succ_cons, List.drop_zero, List.take_succ_cons, List.take_zero]
  go_big_quiet_want
  refine quiet_page (.tmp 7) rfl b7 pq rfl (fun w' hw' => by obtain ⟨q, rfl⟩ := hw'; exact q.h.2.2) HPK.out.1 ?_
  simp only [Act.put, List.setIfInBounds_toArray, List.set_cons_zero, List.set_cons_succ]
  go_big_quiet_on
  with_reducible refine wpQuiet_nil ?_
  with_reducible refine mix_a ?_; simp only [List.drop_succ_cons, List.drop_zero, List.take_succ_cons, List.take_zero]
  have hWB := HWB.out w4.drew (H4.out.1.2.1.below (Below.refl _ _).drew)
  rw [show ((first + node : Nat) : Int) = (first : Int) + (node : Int) by omega] at hWB
  go_wp2_with fail
  refine hWB.mono ?_
  clear hWB HWB
  rintro e wy ⟨rfl, hby, hky⟩
  have hky' := (Keeps.drew _ w4).trans hky
  have HY : Hid (HolI 142 wy tb (fun q => N q ∨ q = b4 ∨ q = b7) bb first n (B.wrote (first + node) pq) ∧ wy.heap[b4]? = some (.cells #[.int .i64 (node : Int), .int .i64 (k : Int)] 139) ∧ wy.heap[b7]? = some (.cells (v8a pq) 68) ∧ Keeps N w wy) := Lib.hid ⟨⟨hky'.blk (.inr rfl) H4.out.1.1, hby, H4.out.1.2.2⟩, hky'.blk (.inl (.inr (.inl rfl))) H4.out.2.1, hky'.blk (.inl (.inr (.inr rfl))) H4.out.2.2.1, H4.out.2.2.2.trans (hky'.mono (fun k _ hk => .inl (.inl hk)))⟩
  clear hby hky hky' H4
  try dsimp only
  go_wp2_with fail
  try with_reducible refine wpList_nil ?_
  with_reducible refine mixQ_normal ?_
  refine ⟨fun _ => sat_of (F := FwS tb b4 b7 (tabC bb first n) #[.int .i64 (node : Int), .int .i64 (k : Int)] pq) ⟨HY.out.1.1, HY.out.2.1, HY.out.2.2.1⟩, ?_⟩
  (repeat (with_reducible refine mix_q ?_; simp only [List.drop_succ_cons, List.drop_zero, List.take_succ_cons, List.take_zero]; go_big_quiet_step (fail); with_reducible refine wpQuiet_nil ?_))
  with_reducible refine mix_nil ?_
  go_wp2_with fail
  go_ret
  refine ⟨rfl, HY.out.1.keep (Below.refl _ _) (fun q hq => ⟨HY.out.1.N_lt q (.inl hq), .inl (.inl hq)⟩), HY.out.2.2.2⟩
end Go.Proofs.YthaaoghbginmpaaDoor
set_option linter.unusedSimpArgs false
set_option linter.unusedVariables false
set_option linter.unnecessarySimpa false
namespace Go.Proofs.YthaaoghbginmpaaDoor
open Go.RowKit Go.Maps
theorem pg_neq (w : World) (p q : List Int) (hp : p.length = 64) (hq : q.length = 64) : (binOp .neq 68 (.agg (v8a p)) (.agg (v8a q))).run Tryd.prog w = .ok (.bool (decide (p ≠ q))) w := by
  have h := pg_eql w p q hp hq
  rw [run_eql_struct] at h
  rw [run_neq_struct]
  generalize (Op.equalIn 10000 68 (.agg (v8a p)) (.agg (v8a q))).run Tryd.prog w = r at h ⊢
  cases r with
  | ok b w' =>
    simp only [Result.andThen_ok, Result.ok.injEq, Value.bool.injEq] at h ⊢
    obtain ⟨rfl, rfl⟩ := h
    simp
  | _ => simp [Result.andThen] at h
section
variable {ops : Array Oper} {rest : List Oper} {o : Oper} {a : Act} {w : World} {Q : Exit → Act → World → Prop}
theorem page_neq (hgd : o.guard = none) (x y : Operand) (t2 : TypeId) (ho : o.op = .binOp .neq 68 x y t2) (p q : List Int) (hx : a.eval x = .agg (v8a p)) (hy : a.eval y = .agg (v8a q)) (hp : p.length = 64) (hq : q.length = 64)
    (h : wpList Tryd.prog ops Q rest (a.put o.dst (.bool (decide (p ≠ q)))) w) : wpList Tryd.prog ops Q (o :: rest) a w := by
  refine wpList_plain hgd fun K' hK' => ?_
  unfold Oper.wp execOp
  simp only [ho, hx, hy, Sem.run_bind, run_eqGuard_agg w .neq _ x y (v8a p) (v8a q) guard_pg, pg_neq w p q hp hq, Result.andThen_ok]
  exact hK' _ _ h
end
theorem built_pg0 : Tryd.prog.built 68 [] = some (v8a (zer 64)) := by kernel_rfl
/-- Of the first nodes so many are taken. -/
def nodesF (B : BookS) (first : Nat) : Nat → Nat
  | 0 => 0
  | i + 1 => nodesF B first i + (if B.view (first + (i + 1)) ≠ zer 64 then 1 else 0)
theorem nodesF_le (B : BookS) (first : Nat) : ∀ i, nodesF B first i ≤ i
  | 0 => Nat.le_refl _
  | i + 1 => by have := nodesF_le B first i; unfold nodesF; split <;> omega
set_option maxRecDepth 100000 in
set_option maxHeartbeats 4000000 in
theorem rnodes_any (tb : Nat) (N : Nat → Prop) (bb first n : Nat) (B : BookS) (hn : first + n < B.n) (w : World) (h : HolI 142 w tb N bb first n B) :
    Calls Tryd.prog 33 #[.pointer (some ⟨tb, 0, none⟩)] w fun e w' => e = .returned (.tuple #[.int .i64 (nodesF B first n : Nat), .nilIface]) ∧ Below w.heap.size w w' := by
  have HT := Lib.hid h
  have hok := h.2.1.isOk
  have hn2 := hok.n.2
  have HV : Hid (∀ i, i ≤ n → PgOk (B.view (first + i))) := Lib.hid (fun i hi => BookS.view_ok hok _ (by omega))
  have hrp := Lib.hid (fun wx (hb : Below w.heap.size w wx) (i : Nat) (hi : i ≤ n) => rpage_any tb N bb first n B i (by omega) wx (HT.out.below hb))
  clear h hok
  obtain ⟨z0, z1, z2⟩ := blk3 HT.out.1
  go_enter Tryd.func33, Tryd.ntmps33
  go_wp2_with fail
  go_loopw [4, 5] (fun cv iv wr => ∃ i : Nat, iv = .int .i64 ((i : Int) + 1) ∧ i ≤ n ∧ cv = .int .i64 (nodesF B first i : Nat) ∧ Hid (Below w.heap.size w wr)) (fun _ iv _ => n + 1 - (intOf iv).toNat)
  case atStart => exact ⟨0, rfl, by omega, rfl, Lib.hid (Below.refl _ _)⟩
  case round =>
    clear z0 z1 z2
    obtain ⟨i, rfl, hi, rfl, HB⟩ := hrel
    obtain ⟨z0, z1, z2⟩ := blk3 (HT.out.below HB.out).1
    have hcl := nodesF_le B first i
    obtain ⟨c, hc⟩ : ∃ c, nodesF B first i = c := ⟨_, rfl⟩
    rw [hc] at hcl ⊢
    have HCC := Lib.hid hc
    clear hc
    by_cases hlt : i < n
    · have hi1 : (i : Int) + 1 ≤ n := by omega
      have hi2 : (n : Int) < 2048 := by omega
      go_wp2_with fail
      have hp := hrp.out wr HB.out (i + 1) (by omega)
      rw [show ((i + 1 : Nat) : Int) = (i : Int) + 1 by omega] at hp
      have HPK := Lib.hid (HV.out (i + 1) (by omega))
      have HNX : Hid (nodesF B first (i + 1) = c + (if B.view (first + (i + 1)) ≠ zer 64 then 1 else 0)) := Lib.hid (by rw [← HCC.out]; rfl)
      generalize B.view (first + (i + 1)) = pg at hp HPK HNX
      refine hp.mono ?_
      clear hp
      rintro e w2 ⟨rfl, hb2⟩
      have H2 : Hid (Below w.heap.size w w2) := Lib.hid (HB.out.trans (hb2.mono HB.out.size))
      have hp64 := HPK.out.1
      clear hb2 HB z0 z1 z2
      try dsimp only
      repeat ((fail_if_success (with_reducible refine stop_at 26 rfl ?_)); (first | (refine page_store rfl (.tmp 6) (.tmp 24) rfl w2.heap.size pg (zer 64) rfl rfl (heap_alloc_new w2 _) hp64 rfl ?_) | go_values | go_skip | go_guarded | go_step | go_upon))
      have hbx : ∀ o : Obj, Below w2.heap.size w2 ((w2.alloc o).setRow w2.heap.size (v8a pg)) := fun o => below_setRow ((Below.refl _ _).alloc (Nat.le_refl _) _) (Nat.le_refl _) _
      refine gen_world (fun wx => Hid (wx.heap[w2.heap.size]? = some (.cells (v8a pg) 68) ∧ Below w.heap.size w wx)) (Lib.hid ⟨setRow_heap _ _ _ _ _ (0, 0) (heap_alloc_new w2 _), H2.out.trans ((hbx _).mono H2.out.size)⟩) ?_
      clear hbx H2
      generalize w2.heap.size = b6
      intro w3 H3
      have hpe := built_pg0
      by_cases hz : pg = zer 64
      · have HN1 : Hid (nodesF B first (i + 1) = c) := Lib.hid (by rw [HNX.out, if_neg (by simp [hz])]; rfl)
        have hd : decide (pg ≠ zer 64) = false := by simp [hz]
        clear hz
        go_wp2_with (first | (refine page_load rfl (.tmp 6) rfl b6 pg rfl H3.out.1 hp64 ?_) | (refine wpList_build_to rfl 68 _ rfl (v8a (zer 64)) hpe ?_) | (refine page_neq rfl (.tmp 30) (.tmp 31) 68 rfl pg (zer 64) rfl rfl hp64 rfl ?_; rw [hd]))
        exact ⟨⟨i + 1, by push_cast; rfl, by omega, by rw [HN1.out], Lib.hid H3.out.2⟩, by simp [intOf]; omega⟩
      · have HN1 : Hid (nodesF B first (i + 1) = c + 1) := Lib.hid (by rw [HNX.out, if_pos hz])
        have hd : decide (pg ≠ zer 64) = true := by simp [hz]
        clear hz
        go_wp2_with (first | (refine page_load rfl (.tmp 6) rfl b6 pg rfl H3.out.1 hp64 ?_) | (refine wpList_build_to rfl 68 _ rfl (v8a (zer 64)) hpe ?_) | (refine page_neq rfl (.tmp 30) (.tmp 31) 68 rfl pg (zer 64) rfl rfl hp64 rfl ?_; rw [hd]))
        exact ⟨⟨i + 1, by push_cast; rfl, by omega, by rw [HN1.out]; push_cast; rfl, Lib.hid H3.out.2⟩, by simp [intOf]; omega⟩
    · have hin : i = n := by omega
      have hi1 : ¬ ((i : Int) + 1 ≤ n) := by omega
      go_wp2_with fail
      go_ret2
      exact ⟨by rw [← HCC.out, hin]; rfl, HB.out⟩
end Go.Proofs.YthaaoghbginmpaaDoor
