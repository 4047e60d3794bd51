/- What lies on pages of a book: a forest, a depot. A page of a forest is read, the head of a container. A forest: a place of a page. A forest: a number is put to a place of a page. A forest: a number is written to a place of a page of a book. A forest: how many nodes are taken. -/
import Derived.Test.YtajmcplanlibnaaGreatDoorKYA0
import Derived.Test.YtajmcplanlibnaaGreatDoorKYB6
import Derived.Test.YtajmcplanlibnaaGreatDoorKYE4
set_option linter.unusedSimpArgs false
set_option linter.unusedVariables false
set_option linter.unnecessarySimpa false
namespace Go.Proofs.YtajmcplanlibnaaGreatDoor
open Go.RowKit Go.Maps
def HolI (T : Nat) (w : World) (tb : Nat) (N : Nat → Prop) (bb first n : Nat) (B : BookS) : Prop :=
  w.heap[tb]? = some (.cells (tabC bb first n) T) ∧ BookI w bb (fun k => N k ∨ k = tb) B ∧ ¬ N tb
theorem HolI.keep {T : Nat} {w w' : World} {tb : Nat} {N N' : Nat → Prop} {bb first n : Nat} {B : BookS} (h : HolI T w tb N bb first n B) (hb : Below w.heap.size w w') (hn : ∀ i, N' i → i < w'.heap.size ∧ (N i ∨ w.heap.size ≤ i)) : HolI T w' tb N' bb first n B := by
  obtain ⟨h1, h2, h3⟩ := h
  have hl := Zz0 h1
  have hs := hb.size
  refine ⟨(hb.block _ hl).trans h1, h2.keep hb (fun i hi => ?_), fun hN => ?_⟩
  · rcases hi with hi | hi
    · rcases hn i hi with ⟨q1, q2 | q2⟩
      · exact ⟨q1, .inl (.inl q2)⟩
      · exact ⟨q1, .inr q2⟩
    · subst hi; exact ⟨by omega, .inl (.inr rfl)⟩
  · rcases (hn _ hN).2 with q | q
    · exact h3 q
    · omega
theorem HolI.N_lt {T : Nat} {w : World} {tb : Nat} {N : Nat → Prop} {bb first n : Nat} {B : BookS} (h : HolI T w tb N bb first n B) : ∀ k, N k → k < w.heap.size := fun k hk => h.2.1.N_lt k (.inl hk)
theorem HolI.below {T : Nat} {w w' : World} {tb : Nat} {N : Nat → Prop} {bb first n : Nat} {B : BookS} (h : HolI T w tb N bb first n B) (hb : Below w.heap.size w w') : HolI T w' tb N bb first n B :=
  h.keep hb (fun i hi => ⟨Nat.lt_of_lt_of_le (h.N_lt i hi) hb.size, .inl hi⟩)
set_option maxRecDepth 100000 in
set_option maxHeartbeats 2000000 in
theorem rpage_any (tb : Nat) (N : Nat → Prop) (bb first n : Nat) (B : BookS) (node : Nat) (hi : first + node < B.n) (w : World) (h : HolI 201 w tb N bb first n B) :
    Calls Tryz.prog 175 #[.pointer (some ⟨tb, 0, none⟩), .int .i64 (node : Int)] w fun e w' => e = .returned (.tuple #[.agg (v8a (B.view (first + node))), .nilIface]) ∧ Below w.heap.size w w' := by
  have HT := hZ h
  have hok := h.2.1.isOk
  have hn2 := hok.n.2
  have HV : Hid (PgOk (B.view (first + node))) := hZ (BookS.view_ok hok _ hi)
  have hRB := hZ (fun wx (hb : Below w.heap.size w wx) => Qza bb _ B (first + node) hi wx ((HT.out.below hb).2.1))
  clear h hok
  have hi0 : (0 : Int) ≤ node := by omega
  have hf0 : (0 : Int) ≤ first := by omega
  have hf1 : (first : Int) + (node : Int) < 2048 := by omega
  go_enter Tryz.func175, Tryz.ntmps175
  go_wp2_with fail
  refine Kz0 (fun wx => Hid (wx.heap[w.heap.size]? = some (.cells (v8a (zer 64)) 37) ∧ Below w.heap.size w wx)) (hZ ⟨heap_alloc_new w (.cells (v8a (zer 64)) 37), bZ⟩) ?_
  intro w1 H1
  have htl := Zz0 HT.out.1
  have hR1 : w.heap.size < w1.heap.size := Zz0 H1.out.1
  obtain ⟨z0, z1, z2⟩ := blk3 ((HT.out.below H1.out.2).1)
  have r0 := cellB (R := w.heap.size) z0 (by simp; omega)
  have r1 := cellB (R := w.heap.size) z1 (by simp; omega)
  have hC : ∀ wx, Below w1.heap.size w1 wx → Calls Tryz.prog 19 #[.pointer (some ⟨bb, 0, none⟩), .int .i64 ((first : Int) + (node : Int))] wx fun e w' => e = .returned (.tuple #[.agg (v8a (B.view (first + node))), .nilIface]) ∧ Below wx.heap.size wx w' := fun wx hb => by
    have h := hRB.out wx (H1.out.2.trans (hb.mono H1.out.2.size))
    rw [show ((first + node : Nat) : Int) = (first : Int) + (node : Int) by omega] at h
    exact h
  obtain ⟨pg, hpg⟩ : ∃ pg, B.view (first + node) = pg := ⟨_, rfl⟩
  rw [hpg] at HV hC
  have HPG := hZ hpg
  clear hpg
  have hp64 := HV.out.1
  have hsz : (v8a pg).size = 64 := by simp [v8a, v8, hp64]
  refine Vz0 [(0, true), (1, true), (2, true), (3, true), (4, true), (5, true), (6, true), (7, true), (8, true), (9, true), (10, false), (11, true), (12, true), (13, false), (14, true)] 14 (fun w' => ∃ p : RegrownB, w' = setO (Go.Sort.grow (redrawn w1 p.d) p.os) (w.heap.size) p.o) (by kernel_rfl) (by kernel_rfl) (fun _ _ d _ _ h => by cases d <;> exact h) (Kz6 hR1) ?_
  (repeat (with_reducible refine mix_q ?_; simp only [qd1, qd0, qt1, qt0]; go_big_quiet_step (fail); with_reducible refine wpQuiet_nil ?_))
  with_reducible refine mix_a ?_; simp only [qd1, qd0, qt1, qt0]
  go_wp2_with fail
  refine (hC w1.drew (Below.refl _ _).drew).mono ?_
  rintro e w2 ⟨rfl, hb2⟩
  have hb3 : Below w1.heap.size w1 w2 := (Below.refl _ _).drew.trans hb2
  have H2 : Hid (w2.heap[w.heap.size]? = some (.cells (v8a (zer 64)) 37) ∧ Below w.heap.size w w2) := hZ ⟨(hb3.block _ hR1).trans H1.out.1, H1.out.2.trans (hb3.mono H1.out.2.size)⟩
  try dsimp only
  go_wp2_with fail
  with_reducible refine Qz0 ?_
  refine ⟨fun _ => Qz5 hR1 (Zz2 hb3 _), ?_⟩
  (repeat (with_reducible refine mix_q ?_; simp only [qd1, qd0, qt1, qt0]; go_big_quiet_step (fail); with_reducible refine wpQuiet_nil ?_))
  with_reducible refine mix_a ?_; simp only [qd1, qd0, qt1, qt0]
  refine Wz2 rfl (.tmp 4) (.tmp 17) rfl w.heap.size pg (zer 64) rfl rfl H2.out.1 hp64 rfl ?_
  have hg7 : w1.grownBy (w2.setRow w.heap.size (v8a pg)) (some w.heap.size) := Xz2 (Zz2 hb3 _) (Wzd w2 w.heap.size _)
  refine Xz0 (fun wx => Hid (wx.heap[w.heap.size]? = some (.cells (v8a pg) 37) ∧ Below w.heap.size w wx ∧ w1.grownBy wx (some w.heap.size))) (hZ ⟨setRow_heap _ _ _ _ _ (0, 0) (by exact H2.out.1), below_setRow H2.out.2 (Nat.le_refl _) _, hg7⟩) ?_
  intro w8 H8
  simp only [Act.put, qs0, qs1, qs2]
  with_reducible refine wpList_nil ?_
  with_reducible refine Qz0 ?_
  refine ⟨fun _ => Qz5 hR1 H8.out.2.2, ?_⟩
  (repeat (with_reducible refine mix_q ?_; simp only [qd1, qd0, qt1, qt0]; go_big_quiet_step (fail); with_reducible refine wpQuiet_nil ?_))
  with_reducible refine Wz1 ?_
  go_wp2_with fail
  refine bodyPost_ret (Vz3 Tryz.results175 _ _ w.heap.size 37 (v8a pg) (0, 0) _ rfl .nilIface rfl H8.out.1 Tryz.underlying37 rfl (by rw [hsz]; exact Zz5)) rfl ⟨by rw [HPG.out], H8.out.2.1⟩
set_option maxRecDepth 100000 in
set_option maxHeartbeats 2000000 in
theorem dhead_any (tb : Nat) (N : Nat → Prop) (bb first n : Nat) (B : BookS) (box : Nat) (hi : first + box * 5 < B.n) (w : World) (h : HolI 215 w tb N bb first n B) :
    Calls Tryz.prog 179 #[.pointer (some ⟨tb, 0, none⟩), .int .i64 (box : Int)] w fun e w' => e = .returned (.tuple #[.agg (v8a (B.view (first + box * 5))), .nilIface]) ∧ Below w.heap.size w w' := by
  have HT := hZ h
  have hok := h.2.1.isOk
  have hn2 := hok.n.2
  have HV : Hid (PgOk (B.view (first + box * 5))) := hZ (BookS.view_ok hok _ hi)
  have hRB := hZ (fun wx (hb : Below w.heap.size w wx) => Qza bb _ B (first + box * 5) hi wx ((HT.out.below hb).2.1))
  clear h hok
  have hi0 : (0 : Int) ≤ box := by omega
  have hf0 : (0 : Int) ≤ first := by omega
  have hf1 : (first : Int) + (box : Int) * 5 < 2048 := by omega
  go_enter Tryz.func179, Tryz.ntmps179
  go_wp2_with fail
  refine Kz0 (fun wx => Hid (wx.heap[w.heap.size]? = some (.cells (v8a (zer 64)) 37) ∧ Below w.heap.size w wx)) (hZ ⟨heap_alloc_new w (.cells (v8a (zer 64)) 37), bZ⟩) ?_
  intro w1 H1
  have htl := Zz0 HT.out.1
  have hR1 : w.heap.size < w1.heap.size := Zz0 H1.out.1
  obtain ⟨z0, z1, z2⟩ := blk3 ((HT.out.below H1.out.2).1)
  have r0 := cellB (R := w.heap.size) z0 (by simp; omega)
  have r1 := cellB (R := w.heap.size) z1 (by simp; omega)
  have hC : ∀ wx, Below w1.heap.size w1 wx → Calls Tryz.prog 19 #[.pointer (some ⟨bb, 0, none⟩), .int .i64 ((first : Int) + (box : Int) * 5)] wx fun e w' => e = .returned (.tuple #[.agg (v8a (B.view (first + box * 5))), .nilIface]) ∧ Below wx.heap.size wx w' := fun wx hb => by
    have h := hRB.out wx (H1.out.2.trans (hb.mono H1.out.2.size))
    rw [show ((first + box * 5 : Nat) : Int) = (first : Int) + (box : Int) * 5 by omega] at h
    exact h
  obtain ⟨pg, hpg⟩ : ∃ pg, B.view (first + box * 5) = pg := ⟨_, rfl⟩
  rw [hpg] at HV hC
  have HPG := hZ hpg
  clear hpg
  have hp64 := HV.out.1
  have hsz : (v8a pg).size = 64 := by simp [v8a, v8, hp64]
  refine Vz0 [(0, true), (1, true), (2, true), (3, true), (4, true), (5, true), (6, true), (7, true), (8, true), (9, true), (10, true), (11, false), (12, true), (13, true), (14, false), (15, true)] 15 (fun w' => ∃ p : RegrownB, w' = setO (Go.Sort.grow (redrawn w1 p.d) p.os) (w.heap.size) p.o) (by kernel_rfl) (by kernel_rfl) (fun _ _ d _ _ h => by cases d <;> exact h) (Kz6 hR1) ?_
  (repeat (with_reducible refine mix_q ?_; simp only [qd1, qd0, qt1, qt0]; go_big_quiet_step (fail); with_reducible refine wpQuiet_nil ?_))
  with_reducible refine mix_a ?_; simp only [qd1, qd0, qt1, qt0]
  go_wp2_with fail
  refine (hC w1.drew (Below.refl _ _).drew).mono ?_
  rintro e w2 ⟨rfl, hb2⟩
  have hb3 : Below w1.heap.size w1 w2 := (Below.refl _ _).drew.trans hb2
  have H2 : Hid (w2.heap[w.heap.size]? = some (.cells (v8a (zer 64)) 37) ∧ Below w.heap.size w w2) := hZ ⟨(hb3.block _ hR1).trans H1.out.1, H1.out.2.trans (hb3.mono H1.out.2.size)⟩
  try dsimp only
  go_wp2_with fail
  with_reducible refine Qz0 ?_
  refine ⟨fun _ => Qz5 hR1 (Zz2 hb3 _), ?_⟩
  (repeat (with_reducible refine mix_q ?_; simp only [qd1, qd0, qt1, qt0]; go_big_quiet_step (fail); with_reducible refine wpQuiet_nil ?_))
  with_reducible refine mix_a ?_; simp only [qd1, qd0, qt1, qt0]
  refine Wz2 rfl (.tmp 4) (.tmp 18) rfl w.heap.size pg (zer 64) rfl rfl H2.out.1 hp64 rfl ?_
  have hg7 : w1.grownBy (w2.setRow w.heap.size (v8a pg)) (some w.heap.size) := Xz2 (Zz2 hb3 _) (Wzd w2 w.heap.size _)
  refine Xz0 (fun wx => Hid (wx.heap[w.heap.size]? = some (.cells (v8a pg) 37) ∧ Below w.heap.size w wx ∧ w1.grownBy wx (some w.heap.size))) (hZ ⟨setRow_heap _ _ _ _ _ (0, 0) (by exact H2.out.1), below_setRow H2.out.2 (Nat.le_refl _) _, hg7⟩) ?_
  intro w8 H8
  simp only [Act.put, qs0, qs1, qs2]
  with_reducible refine wpList_nil ?_
  with_reducible refine Qz0 ?_
  refine ⟨fun _ => Qz5 hR1 H8.out.2.2, ?_⟩
  (repeat (with_reducible refine mix_q ?_; simp only [qd1, qd0, qt1, qt0]; go_big_quiet_step (fail); with_reducible refine wpQuiet_nil ?_))
  with_reducible refine Wz1 ?_
  go_wp2_with fail
  refine bodyPost_ret (Vz3 Tryz.results179 _ _ w.heap.size 37 (v8a pg) (0, 0) _ rfl .nilIface rfl H8.out.1 Tryz.underlying37 rfl (by rw [hsz]; exact Zz5)) rfl ⟨by rw [HPG.out], H8.out.2.1⟩
open Go.RowKit Go.Maps
def atF (p : List Int) (i : Nat) : Int := bits BinOp.or IntKind.i64 (bits BinOp.or IntKind.i64 (p.getD (4 * i) 0) (p.getD (4 * i + 1) 0 * 256)) (p.getD (4 * i + 2) 0 * 65536)
set_option maxRecDepth 100000 in
set_option maxHeartbeats 2000000 in
theorem at_any (p : List Int) (hp : PgOk p) (i : Nat) (hi : i < 16) (w : World) :
    Calls Tryz.prog 176 #[.agg (v8a p), .int .i64 (i : Int)] w fun e w' => e = .returned (.int .i64 (atF p i)) ∧ Below w.heap.size w w' := by
  have hl := hp.1
  have i0 : (0 : Int) ≤ i := by omega
  have i1 : (i : Int) < 16 := by omega
  have u0 := hp.2.at (4 * i)
  have u1 := hp.2.at (4 * i + 1)
  have u2 := hp.2.at (4 * i + 2)
  obtain ⟨x0, h0⟩ : ∃ x, p.getD (4 * i) 0 = x := ⟨_, rfl⟩
  obtain ⟨x1, h1⟩ : ∃ x, p.getD (4 * i + 1) 0 = x := ⟨_, rfl⟩
  obtain ⟨x2, h2⟩ : ∃ x, p.getD (4 * i + 2) 0 = x := ⟨_, rfl⟩
  unfold atF
  rw [h0, h1, h2]
  rw [h0] at u0
  rw [h1] at u1
  rw [h2] at u2
  obtain ⟨u0a, u0b⟩ := u0
  obtain ⟨u1a, u1b⟩ := u1
  obtain ⟨u2a, u2b⟩ := u2
  go_enter Tryz.func176, Tryz.ntmps176
  go_wp2_with fail
  refine Kz0 (fun wx => Hid (wx.heap[w.heap.size]? = some (.cells (v8a p) 37) ∧ Below w.heap.size w wx)) (hZ ⟨heap_alloc_new w (.cells (v8a p) 37), bZ⟩) ?_
  intro w1 H1
  obtain ⟨c0, f0⟩ := Qz6 H1.out.1 (4 * i) (by omega)
  obtain ⟨c1, f1⟩ := Qz6 H1.out.1 (4 * i + 1) (by omega)
  obtain ⟨c2, f2⟩ := Qz6 H1.out.1 (4 * i + 2) (by omega)
  rw [h0] at c0
  rw [h1] at c1
  rw [h2] at c2
  have r0 := cell_regrown c0
  have r1 := cell_regrown c1
  have r2 := cell_regrown c2
  clear h0 h1 h2 hl hp
  go_quiet (fail)
  go_wp2_with fail
  go_ret
  exact ⟨rfl, Qz2 H1.out.2 _⟩
open Go.RowKit Go.Maps
def putNF (p : List Int) (i : Nat) (x : Int) : List Int := ((p.set (4 * i) (x % 256)).set (4 * i + 1) (x / 256 % 256)).set (4 * i + 2) (x / 65536)
set_option maxRecDepth 100000 in
set_option maxHeartbeats 2000000 in
theorem rput_any (b : Nat) (p : List Int) (hp : PgOk p) (i : Nat) (hi : i < 16) (x : Int) (hx : 0 ≤ x ∧ x < 16777216) (w : World) (hb : w.heap[b]? = some (.cells (v8a p) 37)) :
    Calls Tryz.prog 177 #[.pointer (some ⟨b, 0, none⟩), .int .i64 (i : Int), .int .i64 x] w fun e w' => e = .returned (.tuple #[]) ∧ w'.heap[b]? = some (.cells (v8a (putNF p i x)) 37) ∧ w.grownBy w' (some b) := by
  have hl := hp.1
  have i0 : (0 : Int) ≤ i := by omega
  have i1 : (i : Int) < 16 := by omega
  obtain ⟨x0, x1⟩ := hx
  have hR : b < w.heap.size := Zz0 hb
  obtain ⟨c0, f0⟩ := Qz6 hb (4 * i) (by omega)
  have HB := hZ hb
  clear hb
  go_enter Tryz.func177, Tryz.ntmps177
  go_wp2_with fail
  refine Vz0 [(0, true), (1, true), (2, true), (3, true), (4, true), (5, true), (6, true), (7, true), (8, true), (9, true), (10, true), (11, true), (12, true), (13, true), (14, true), (15, true), (16, true), (17, true), (18, true), (19, true), (20, true), (22, true), (25, true), (21, false), (23, true), (24, false), (26, true), (27, false)] 27 (fun w' => ∃ p : RegrownB, w' = setO (Go.Sort.grow (redrawn w p.d) p.os) (b) p.o) (by kernel_rfl) (by kernel_rfl) (fun _ _ d _ _ h => by cases d <;> exact h) (Kz6 hR) ?_
  (repeat (with_reducible refine mix_q ?_; simp only [qd1, qd0, qt1, qt0]; go_big_quiet_step (fail); with_reducible refine wpQuiet_nil ?_))
  with_reducible refine mix_a ?_; simp only [qd1, qd0, qt1, qt0]
  go_wp2_with fail
  with_reducible refine Qz0 ?_
  have hg1 : ∀ v, w.grownBy (w.setCell ⟨b, 4 * i, none⟩ v).drew (some b) := fun v => Xz2 (Zz4 _ _ _ _) (Zz2 (Below.refl _ _).drew _)
  refine ⟨fun _ => Qz5 hR (hg1 _), ?_⟩
  refine gen_mix (fun wx => Hid (wx.heap[b]? = some (.cells (v8a (p.set (4 * i) (x % 256))) 37) ∧ w.grownBy wx (some b))) (hZ ⟨v8_set HB.out _ _, hg1 _⟩) ?_
  clear hg1 c0 f0
  intro w1 H1
  (repeat (with_reducible refine mix_q ?_; simp only [qd1, qd0, qt1, qt0]; go_big_quiet_step (fail); with_reducible refine wpQuiet_nil ?_))
  obtain ⟨c1, f1⟩ := Qz6 H1.out.1 (4 * i + 1) (by simp; omega)
  with_reducible refine mix_a ?_; simp only [qd1, qd0, qt1, qt0]
  go_wp2_with fail
  with_reducible refine Qz0 ?_
  have hg2 : ∀ v, w.grownBy (w1.setCell ⟨b, 4 * i + 1, none⟩ v) (some b) := fun v => Xz2 H1.out.2 (Zz4 _ _ _ _)
  refine ⟨fun _ => Qz5 hR (hg2 _), ?_⟩
  refine gen_mix (fun wx => Hid (wx.heap[b]? = some (.cells (v8a ((p.set (4 * i) (x % 256)).set (4 * i + 1) (x / 256 % 256))) 37) ∧ w.grownBy wx (some b))) (hZ ⟨v8_set H1.out.1 _ _, hg2 _⟩) ?_
  clear hg2 c1 f1 H1
  intro w2 H2
  (repeat (with_reducible refine mix_q ?_; simp only [qd1, qd0, qt1, qt0]; go_big_quiet_step (fail); with_reducible refine wpQuiet_nil ?_))
  obtain ⟨c2, f2⟩ := Qz6 H2.out.1 (4 * i + 2) (by simp; omega)
  with_reducible refine mix_a ?_; simp only [qd1, qd0, qt1, qt0]
  go_wp2_with fail
  with_reducible refine Qz0 ?_
  have hg3 : ∀ v, w.grownBy (w2.setCell ⟨b, 4 * i + 2, none⟩ v) (some b) := fun v => Xz2 H2.out.2 (Zz4 _ _ _ _)
  refine ⟨fun _ => Qz5 hR (hg3 _), ?_⟩
  refine gen_mix (fun wx => Hid (wx.heap[b]? = some (.cells (v8a (putNF p i x)) 37) ∧ w.grownBy wx (some b))) (hZ ⟨v8_set H2.out.1 _ _, hg3 _⟩) ?_
  clear hg3 c2 f2 H2
  intro w3 H3
  (repeat (with_reducible refine mix_q ?_; simp only [qd1, qd0, qt1, qt0]; go_big_quiet_step (fail); with_reducible refine wpQuiet_nil ?_))
  with_reducible refine Wz1 ?_
  go_wp2_with fail
  go_end0
  exact ⟨rfl, H3.out⟩
open Go.RowKit Go.Maps
theorem putNF_ok {p : List Int} (hp : PgOk p) (i : Nat) (x : Int) (hx : 0 ≤ x ∧ x < 16777216) : PgOk (putNF p i x) := by
  refine ⟨by simp [putNF, hp.1], fun y hy => ?_⟩
  unfold putNF at hy
  rcases List.mem_or_eq_of_mem_set hy with hy | rfl
  · rcases List.mem_or_eq_of_mem_set hy with hy | rfl
    · rcases List.mem_or_eq_of_mem_set hy with hy | rfl
      · exact hp.2 y hy
      · omega
    · omega
  · omega
def FwS (tb b4 b7 : Nat) (cs c4 : Array Value) (p : List Int) (wx : World) : Prop := wx.heap[tb]? = some (.cells cs 201) ∧ wx.heap[b4]? = some (.cells c4 123) ∧ wx.heap[b7]? = some (.cells (v8a p) 37)
set_option maxRecDepth 100000 in
set_option maxHeartbeats 4000000 in
theorem fwrite_any (tb : Nat) (N : Nat → Prop) (bb first n : Nat) (B : BookS) (node k : Nat) (hi : first + node < B.n) (hk : k < 16) (x : Int) (hx : 0 ≤ x ∧ x < 16777216)
    (hc : (B.f (first + node)).isSome = true ∨ B.view (first + node) = putNF (B.view (first + node)) k x ∨ (keysF B.f B.n).length ≠ 60) (w : World) (h : HolI 201 w tb N bb first n B) :
    Calls Tryz.prog 100 #[.pointer (some ⟨tb, 0, none⟩), .agg #[.int .i64 (node : Int), .int .i64 (k : Int)], .int .i64 x] w fun e w' => e = .returned .nilIface ∧ HolI 201 w' tb N bb first n (B.wrote (first + node) (putNF (B.view (first + node)) k x)) ∧ Keeps N w w' := by
  have HT := hZ h
  have hok := h.2.1.isOk
  have hn2 := hok.n.2
  have HC := hZ hc
  have HPK0 : Hid (PgOk (B.view (first + node))) := hZ (BookS.view_ok hok _ hi)
  have HPK : Hid (PgOk (putNF (B.view (first + node)) k x)) := hZ (putNF_ok HPK0.out k x hx)
  have hb0 : ∀ o : Obj, Below w.heap.size w (w.alloc o) := fun o => bZ
  have hrp := hZ (fun wx (hb : Below w.heap.size w wx) => rpage_any tb N bb first n B node hi wx (HT.out.below hb))
  obtain ⟨pg, hpg⟩ : ∃ pg, B.view (first + node) = pg := ⟨_, rfl⟩
  rw [hpg] at HC HPK0 HPK hrp
  obtain ⟨pq, hpq⟩ : ∃ pq, putNF pg k x = pq := ⟨_, rfl⟩
  have HPQ := hZ hpq
  rw [hpg, hpq]
  rw [hpq] at HC HPK
  have HPG := hZ hpg
  have hputA := hZ (fun b wx hb => rput_any b pg HPK0.out k hk x hx wx hb)
  rw [hpq] at hputA
  clear h hc hok hpg hpq
  have hi0 : (0 : Int) ≤ node := by omega
  have hk0 : (0 : Int) ≤ k := by omega
  have hf0 : (0 : Int) ≤ first := by omega
  have hf1 : (first : Int) + node < 2048 := by omega
  have hp64 := HPK0.out.1
  go_enter Tryz.func100, Tryz.ntmps100
  repeat ((fail_if_success (with_reducible refine Vz1 "radix.go:132" rfl ?_)); (first | go_values | go_skip | go_guarded | go_step | go_upon))
  refine Xz0 (fun wx => Hid (wx.heap[w.heap.size]? = some (.cells #[.int .i64 (node : Int), .int .i64 (k : Int)] 123) ∧ Below w.heap.size w wx)) (hZ ⟨heap_alloc_new w (.cells #[.int .i64 (node : Int), .int .i64 (k : Int)] 123), hb0 _⟩) ?_
  clear hb0
  intro w1 H1
  obtain ⟨y0, y1⟩ := blk2 H1.out.1
  go_wp2_with fail
  refine (hrp.out w1 H1.out.2).mono ?_
  rintro e w2 ⟨rfl, hb2⟩
  have hlt1 := Zz0 H1.out.1
  have H2 : Hid (w2.heap[w.heap.size]? = some (.cells #[.int .i64 (node : Int), .int .i64 (k : Int)] 123) ∧ Below w.heap.size w w2) := hZ ⟨(hb2.block _ hlt1).trans H1.out.1, H1.out.2.trans (hb2.mono H1.out.2.size)⟩
  clear hb2 y0 y1 H1 hlt1
  try dsimp only
  repeat ((fail_if_success (with_reducible refine Kz1 16 rfl ?_)); (first | (refine Wz2 rfl (.tmp 7) (.tmp 14) rfl w2.heap.size pg (zer 64) rfl rfl (heap_alloc_new w2 _) hp64 rfl ?_) | go_values | go_skip | go_guarded | go_step | go_upon))
  have hbx : ∀ o : Obj, Below w2.heap.size w2 ((w2.alloc o).setRow w2.heap.size (v8a pg)) := fun o => below_setRow (bZ) (Nat.le_refl _) _
  have hlt2 := Zz0 H2.out.1
  refine Xz0 (fun wx => Hid (wx.heap[w.heap.size]? = some (.cells #[.int .i64 (node : Int), .int .i64 (k : Int)] 123) ∧ wx.heap[w2.heap.size]? = some (.cells (v8a pg) 37) ∧ Below w.heap.size w wx)) (hZ ⟨((hbx _).block _ hlt2).trans H2.out.1, setRow_heap _ _ _ _ _ (0, 0) (heap_alloc_new w2 _), H2.out.2.trans ((hbx _).mono H2.out.2.size)⟩) ?_
  have hb7 : w.heap.size < w2.heap.size := hlt2
  clear hbx H2 hlt2
  generalize w2.heap.size = b7 at hb7 ⊢
  intro w3 H3
  obtain ⟨y0, y1⟩ := blk2 H3.out.1
  go_wp2_with fail
  refine (hputA.out b7 w3 H3.out.2.1).mono ?_
  rintro e w4 ⟨rfl, hq, hg⟩
  have hlt3 := Zz0 H3.out.1
  have hbel : Below w.heap.size w w4 := H3.out.2.2.grown hg (Nat.le_of_lt hlt3) (fun q hq => by injection hq with hq; omega)
  have h4 : w4.heap[w.heap.size]? = some (.cells #[.int .i64 (node : Int), .int .i64 (k : Int)] 123) := (hg.block _ hlt3 (fun e => by injection e with e; omega)).trans H3.out.1
  have hlt4 := Zz0 h4
  have hlt7 := Zz0 hq
  have H4 : Hid (HolI 201 w4 tb (fun q => N q ∨ q = w.heap.size ∨ q = b7) bb first n B ∧ w4.heap[w.heap.size]? = some (.cells #[.int .i64 (node : Int), .int .i64 (k : Int)] 123) ∧ w4.heap[b7]? = some (.cells (v8a pq) 37) ∧ Keeps N w w4) := hZ ⟨HT.out.keep hbel (fun q hq => by
      rcases hq with hq | rfl | rfl
      · exact ⟨Nat.lt_of_lt_of_le (HT.out.N_lt _ hq) hbel.size, .inl hq⟩
      · exact ⟨hlt4, .inr (Nat.le_refl _)⟩
      · exact ⟨hlt7, .inr (by omega)⟩), h4, hq, Keeps.of_below hbel⟩
  clear hq hg hbel h4 y0 y1 H3 hlt3 hlt4 hlt7
  generalize w.heap.size = b4 at *
  try dsimp only
  go_wp2_with fail
  have HWB := hZ (fun wy (hy : BookI wy bb (fun k => (N k ∨ k = b4 ∨ k = b7) ∨ k = tb) B) => Qz8 bb _ B (first + node) pq hi HPK.out (by rw [HPG.out]; exact HC.out) wy hy)
  have r0 : ∀ q : SatW (FwS tb b4 b7 (tabC bb first n) #[.int .i64 (node : Int), .int .i64 (k : Int)] pq), q.w.cell? ⟨tb, 0, none⟩ = some (.pointer (some ⟨bb, 0, none⟩)) := fun q => (blk3 q.h.1).1
  have r1 : ∀ q : SatW (FwS tb b4 b7 (tabC bb first n) #[.int .i64 (node : Int), .int .i64 (k : Int)] pq), q.w.cell? ⟨tb, 1, none⟩ = some (.int .i64 (first : Int)) := fun q => (blk3 q.h.1).2.1
  have r2 : ∀ q : SatW (FwS tb b4 b7 (tabC bb first n) #[.int .i64 (node : Int), .int .i64 (k : Int)] pq), q.w.cell? ⟨b4, 0, none⟩ = some (.int .i64 (node : Int)) := fun q => (blk2 q.h.2.1).1
  have hne : Nonempty (SatW (FwS tb b4 b7 (tabC bb first n) #[.int .i64 (node : Int), .int .i64 (k : Int)] pq)) := ⟨⟨_, (show FwS tb b4 b7 (tabC bb first n) #[.int .i64 (node : Int), .int .i64 (k : Int)] pq w4.drew from ⟨H4.out.1.1, H4.out.2.1, H4.out.2.2.1⟩)⟩⟩
  refine Vz0 [(0, true), (1, true), (2, true), (3, true), (4, true), (5, true), (6, true), (7, true), (8, true), (9, true), (10, true), (11, true), (12, false), (13, true)] 13 (fun w' => ∃ p : SatW (FwS tb b4 b7 (tabC bb first n) #[.int .i64 (node : Int), .int .i64 (k : Int)] pq), w' = p.w) (by kernel_rfl) (by kernel_rfl) (fun _ _ d _ _ h => by cases d <;> exact h) (Jz3 (show FwS tb b4 b7 (tabC bb first n) #[.int .i64 (node : Int), .int .i64 (k : Int)] pq w4.drew from ⟨H4.out.1.1, H4.out.2.1, H4.out.2.2.1⟩)) ?_
  (repeat (with_reducible refine mix_q ?_; simp only [qd1, qd0, qt1, qt0]; go_big_quiet_step (fail); with_reducible refine wpQuiet_nil ?_))
  with_reducible refine mix_q ?_
  simp only [qd1, qd0, qt1, qt0]
  go_big_quiet_want
  refine Zz6 (.tmp 7) rfl b7 pq rfl (fun w' hw' => by obtain ⟨q, rfl⟩ := hw'; exact q.h.2.2) HPK.out.1 ?_
  simp only [Act.put, qs0, qs1, qs2]
  go_big_quiet_on
  with_reducible refine wpQuiet_nil ?_
  with_reducible refine mix_a ?_; simp only [qd1, qd0, qt1, qt0]
  have hWB := HWB.out w4.drew (H4.out.1.2.1.below (Below.refl _ _).drew)
  rw [show ((first + node : Nat) : Int) = (first : Int) + (node : Int) by omega] at hWB
  go_wp2_with fail
  refine hWB.mono ?_
  clear hWB HWB
  rintro e wy ⟨rfl, hby, hky⟩
  have hky' := (Keeps.drew _ w4).trans hky
  have HY : Hid (HolI 201 wy tb (fun q => N q ∨ q = b4 ∨ q = b7) bb first n (B.wrote (first + node) pq) ∧ wy.heap[b4]? = some (.cells #[.int .i64 (node : Int), .int .i64 (k : Int)] 123) ∧ wy.heap[b7]? = some (.cells (v8a pq) 37) ∧ Keeps N w wy) := hZ ⟨⟨hky'.blk (.inr rfl) H4.out.1.1, hby, H4.out.1.2.2⟩, hky'.blk (.inl (.inr (.inl rfl))) H4.out.2.1, hky'.blk (.inl (.inr (.inr rfl))) H4.out.2.2.1, H4.out.2.2.2.trans (hky'.mono (fun k _ hk => .inl (.inl hk)))⟩
  clear hby hky hky' H4
  try dsimp only
  go_wp2_with fail
  try with_reducible refine wpList_nil ?_
  with_reducible refine Qz0 ?_
  refine ⟨fun _ => Jz3 (F := FwS tb b4 b7 (tabC bb first n) #[.int .i64 (node : Int), .int .i64 (k : Int)] pq) ⟨HY.out.1.1, HY.out.2.1, HY.out.2.2.1⟩, ?_⟩
  (repeat (with_reducible refine mix_q ?_; simp only [qd1, qd0, qt1, qt0]; go_big_quiet_step (fail); with_reducible refine wpQuiet_nil ?_))
  with_reducible refine Wz1 ?_
  go_wp2_with fail
  go_ret
  refine ⟨rfl, HY.out.1.keep (Below.refl _ _) (fun q hq => ⟨HY.out.1.N_lt q (.inl hq), .inl (.inl hq)⟩), HY.out.2.2.2⟩
open Go.RowKit Go.Maps
theorem pg_neq (w : World) (p q : List Int) (hp : p.length = 64) (hq : q.length = 64) : (binOp .neq 37 (.agg (v8a p)) (.agg (v8a q))).run Tryz.prog w = .ok (.bool (decide (p ≠ q))) w := by
  have h := pg_eql w p q hp hq
  rw [run_eql_struct] at h
  rw [run_neq_struct]
  generalize (Op.equalIn 10000 37 (.agg (v8a p)) (.agg (v8a q))).run Tryz.prog w = r at h ⊢
  cases r with
  | ok b w' =>
    simp only [Result.andThen_ok, Result.ok.injEq, Value.bool.injEq] at h ⊢
    obtain ⟨rfl, rfl⟩ := h
    simp
  | _ => simp [Result.andThen] at h
section
variable {ops : Array Oper} {rest : List Oper} {o : Oper} {a : Act} {w : World} {Q : Exit → Act → World → Prop}
theorem page_neq (hgd : o.guard = none) (x y : Operand) (t2 : TypeId) (ho : o.op = .binOp .neq 37 x y t2) (p q : List Int) (hx : a.eval x = .agg (v8a p)) (hy : a.eval y = .agg (v8a q)) (hp : p.length = 64) (hq : q.length = 64)
    (h : wpList Tryz.prog ops Q rest (a.put o.dst (.bool (decide (p ≠ q)))) w) : wpList Tryz.prog ops Q (o :: rest) a w := by
  refine wpList_plain hgd fun K' hK' => ?_
  unfold Oper.wp execOp
  simp only [ho, hx, hy, Sem.run_bind, run_eqGuard_agg w .neq _ x y (v8a p) (v8a q) guard_pg, pg_neq w p q hp hq, Result.andThen_ok]
  exact hK' _ _ h
end
theorem Qzj : Tryz.prog.built 37 [] = some (v8a (zer 64)) := by kernel_rfl
def Qze (B : BookS) (first : Nat) : Nat → Nat
  | 0 => 0
  | i + 1 => Qze B first i + (if B.view (first + (i + 1)) ≠ zer 64 then 1 else 0)
theorem nodesF_le (B : BookS) (first : Nat) : ∀ i, Qze B first i ≤ i
  | 0 => Nat.le_refl _
  | i + 1 => by have := nodesF_le B first i; unfold Qze; split <;> omega
set_option maxRecDepth 100000 in
set_option maxHeartbeats 4000000 in
theorem rnodes_any (tb : Nat) (N : Nat → Prop) (bb first n : Nat) (B : BookS) (hn : first + n < B.n) (w : World) (h : HolI 201 w tb N bb first n B) :
    Calls Tryz.prog 93 #[.pointer (some ⟨tb, 0, none⟩)] w fun e w' => e = .returned (.tuple #[.int .i64 (Qze B first n : Nat), .nilIface]) ∧ Below w.heap.size w w' := by
  have HT := hZ h
  have hok := h.2.1.isOk
  have hn2 := hok.n.2
  have HV : Hid (∀ i, i ≤ n → PgOk (B.view (first + i))) := hZ (fun i hi => BookS.view_ok hok _ (by omega))
  have hrp := hZ (fun wx (hb : Below w.heap.size w wx) (i : Nat) (hi : i ≤ n) => rpage_any tb N bb first n B i (by omega) wx (HT.out.below hb))
  clear h hok
  obtain ⟨z0, z1, z2⟩ := blk3 HT.out.1
  go_enter Tryz.func93, Tryz.ntmps93
  go_wp2_with fail
  go_loopw [4, 5] (fun cv iv wr => ∃ i : Nat, iv = .int .i64 ((i : Int) + 1) ∧ i ≤ n ∧ cv = .int .i64 (Qze B first i : Nat) ∧ Hid (Below w.heap.size w wr)) (fun _ iv _ => n + 1 - (intOf iv).toNat)
  case atStart => exact ⟨0, rfl, by omega, rfl, hZ (Below.refl _ _)⟩
  case round =>
    clear z0 z1 z2
    obtain ⟨i, rfl, hi, rfl, HB⟩ := hrel
    obtain ⟨z0, z1, z2⟩ := blk3 (HT.out.below HB.out).1
    have hcl := nodesF_le B first i
    obtain ⟨c, hc⟩ : ∃ c, Qze B first i = c := ⟨_, rfl⟩
    rw [hc] at hcl ⊢
    have HCC := hZ hc
    clear hc
    by_cases hlt : i < n
    · have hi1 : (i : Int) + 1 ≤ n := by omega
      have hi2 : (n : Int) < 2048 := by omega
      go_wp2_with fail
      have hp := hrp.out wr HB.out (i + 1) (by omega)
      rw [show ((i + 1 : Nat) : Int) = (i : Int) + 1 by omega] at hp
      have HPK := hZ (HV.out (i + 1) (by omega))
      have HNX : Hid (Qze B first (i + 1) = c + (if B.view (first + (i + 1)) ≠ zer 64 then 1 else 0)) := hZ (by rw [← HCC.out]; rfl)
      generalize B.view (first + (i + 1)) = pg at hp HPK HNX
      refine hp.mono ?_
      clear hp
      rintro e w2 ⟨rfl, hb2⟩
      have H2 : Hid (Below w.heap.size w w2) := hZ (HB.out.trans (hb2.mono HB.out.size))
      have hp64 := HPK.out.1
      clear hb2 HB z0 z1 z2
      try dsimp only
      repeat ((fail_if_success (with_reducible refine Kz1 26 rfl ?_)); (first | (refine Wz2 rfl (.tmp 6) (.tmp 24) rfl w2.heap.size pg (zer 64) rfl rfl (heap_alloc_new w2 _) hp64 rfl ?_) | go_values | go_skip | go_guarded | go_step | go_upon))
      have hbx : ∀ o : Obj, Below w2.heap.size w2 ((w2.alloc o).setRow w2.heap.size (v8a pg)) := fun o => below_setRow (bZ) (Nat.le_refl _) _
      refine Xz0 (fun wx => Hid (wx.heap[w2.heap.size]? = some (.cells (v8a pg) 37) ∧ Below w.heap.size w wx)) (hZ ⟨setRow_heap _ _ _ _ _ (0, 0) (heap_alloc_new w2 _), H2.out.trans ((hbx _).mono H2.out.size)⟩) ?_
      clear hbx H2
      generalize w2.heap.size = b6
      intro w3 H3
      have hpe := Qzj
      by_cases hz : pg = zer 64
      · have HN1 : Hid (Qze B first (i + 1) = c) := hZ (by rw [HNX.out, if_neg (by simp [hz])]; rfl)
        have hd : decide (pg ≠ zer 64) = false := by simp [hz]
        clear hz
        go_wp2_with (first | (refine Wz3 rfl (.tmp 6) rfl b6 pg rfl H3.out.1 hp64 ?_) | (refine Qz4 rfl 37 _ rfl (v8a (zer 64)) hpe ?_) | (refine page_neq rfl (.tmp 30) (.tmp 31) 37 rfl pg (zer 64) rfl rfl hp64 rfl ?_; rw [hd]))
        exact ⟨⟨i + 1, by push_cast; rfl, by omega, by rw [HN1.out], hZ H3.out.2⟩, by simp [intOf]; omega⟩
      · have HN1 : Hid (Qze B first (i + 1) = c + 1) := hZ (by rw [HNX.out, if_pos hz])
        have hd : decide (pg ≠ zer 64) = true := by simp [hz]
        clear hz
        go_wp2_with (first | (refine Wz3 rfl (.tmp 6) rfl b6 pg rfl H3.out.1 hp64 ?_) | (refine Qz4 rfl 37 _ rfl (v8a (zer 64)) hpe ?_) | (refine page_neq rfl (.tmp 30) (.tmp 31) 37 rfl pg (zer 64) rfl rfl hp64 rfl ?_; rw [hd]))
        exact ⟨⟨i + 1, by push_cast; rfl, by omega, by rw [HN1.out]; push_cast; rfl, hZ H3.out.2⟩, by simp [intOf]; omega⟩
    · have hin : i = n := by omega
      have hi1 : ¬ ((i : Int) + 1 ≤ n) := by omega
      go_wp2_with fail
      go_ret2
      exact ⟨by rw [← HCC.out, hin]; rfl, HB.out⟩
open Go.RowKit Go.Maps
set_option maxRecDepth 100000 in
theorem sound_ok (tb : Nat) (lun block : Int) (hl : 0 ≤ lun ∧ lun < 4) (hb : 0 ≤ block ∧ block < 256) (w : World) : Calls Tryz.prog 96 #[.pointer (some ⟨tb, 0, none⟩), .int .i64 lun, .int .i64 block] w fun e w' => e = .returned .nilIface ∧ w = w' := by
  obtain ⟨l0, l1⟩ := hl
  obtain ⟨b0, b1⟩ := hb
  go_enter Tryz.func96, Tryz.ntmps96
  go_wp2_with fail
  go_ret
  exact ⟨rfl, rfl⟩
set_option maxRecDepth 100000 in
theorem Zzi (n : Int) (hn : 0 ≤ n ∧ n ≤ 64) (w : World) : Calls Tryz.prog 105 #[.int .i64 n] w fun e w' => e = .returned (.int .i64 (n * 5)) ∧ w = w' := by
  obtain ⟨n0, n1⟩ := hn
  go_enter Tryz.func105, Tryz.ntmps105
  go_wp2_with fail
  go_ret
  exact ⟨rfl, rfl⟩
set_option maxRecDepth 100000 in
set_option maxHeartbeats 1000000 in
theorem radixNew_any (bb first n : Nat) (N : Nat → Prop) (B : BookS) (hn : 1 ≤ n ∧ n ≤ 4095 ∧ first + 1 + n ≤ B.n) (w : World) (h : BookI w bb N B) :
    Calls Tryz.prog 38 #[.pointer (some ⟨bb, 0, none⟩), .int .i64 (first : Int), .int .i64 (n : Int)] w fun e w' => (∃ tb, e = .returned (.tuple #[.pointer (some ⟨tb, 0, none⟩), .nilIface]) ∧ w.heap.size ≤ tb ∧ HolI 201 w' tb N bb first n B) ∧ Below w.heap.size w w' := by
  have HB := hZ h
  have hbn := h.isOk.n.2
  obtain ⟨hn1, hn2, hn3⟩ := hn
  have hP := bookPages_any bb N B w h
  clear h
  have g1 : (1 : Int) ≤ n := by omega
  have g2 : (0 : Int) ≤ first := by omega
  have g3 : (n : Int) ≤ 4095 := by omega
  have g4 : (B.n : Int) ≤ 2048 := by omega
  have g5 : (first : Int) + 1 + (n : Int) ≤ (B.n : Int) := by omega
  go_enter Tryz.func38, Tryz.ntmps38
  go_wp2_with fail
  refine hP.mono ?_
  rintro e w1 ⟨rfl, rfl⟩
  try dsimp only
  go_wp2_with fail
  go_ret2
  have hb : ∀ o : Obj, Below w.heap.size w (w.alloc o) := fun o => bZ
  refine ⟨⟨_, rfl, Nat.le_refl _, heap_alloc_new w _, HB.out.keep (hb _) (fun k hk => ?_), fun hN => ?_⟩, hb _⟩
  · rcases hk with hk | hk
    · have := HB.out.N_lt k hk; exact ⟨by simp; omega, .inl hk⟩
    · subst hk; exact ⟨by simp, .inr (Nat.le_refl _)⟩
  · have := HB.out.N_lt _ hN; omega
set_option maxRecDepth 100000 in
set_option maxHeartbeats 1000000 in
theorem depotNew_any (bb first n : Nat) (N : Nat → Prop) (B : BookS) (hn : 1 ≤ n ∧ n ≤ 64 ∧ first + n * 5 ≤ B.n) (w : World) (h : BookI w bb N B) :
    Calls Tryz.prog 43 #[.pointer (some ⟨bb, 0, none⟩), .int .i64 (first : Int), .int .i64 (n : Int)] w fun e w' => (∃ tb, e = .returned (.tuple #[.pointer (some ⟨tb, 0, none⟩), .nilIface]) ∧ w.heap.size ≤ tb ∧ HolI 215 w' tb N bb first n B) ∧ Below w.heap.size w w' := by
  have HB := hZ h
  have hbn := h.isOk.n.2
  obtain ⟨hn1, hn2, hn3⟩ := hn
  have hP := bookPages_any bb N B w h
  clear h
  have g1 : (1 : Int) ≤ n := by omega
  have g2 : (0 : Int) ≤ first := by omega
  have g3 : (n : Int) ≤ 64 := by omega
  have g4 : (B.n : Int) ≤ 2048 := by omega
  have g5 : (first : Int) + (n : Int) * 5 ≤ (B.n : Int) := by omega
  go_enter Tryz.func43, Tryz.ntmps43
  go_wp2_with fail
  refine hP.mono ?_
  rintro e w1 ⟨rfl, rfl⟩
  try dsimp only
  go_wp2_with fail
  refine (Zzi _ ⟨by omega, by omega⟩ _).mono ?_
  rintro e w1 ⟨rfl, rfl⟩
  try dsimp only
  go_wp2_with fail
  go_ret2
  have hb : ∀ o : Obj, Below w.heap.size w (w.alloc o) := fun o => bZ
  refine ⟨⟨_, rfl, Nat.le_refl _, heap_alloc_new w _, HB.out.keep (hb _) (fun k hk => ?_), fun hN => ?_⟩, hb _⟩
  · rcases hk with hk | hk
    · have := HB.out.N_lt k hk; exact ⟨by simp; omega, .inl hk⟩
    · subst hk; exact ⟨by simp, .inr (Nat.le_refl _)⟩
  · have := HB.out.N_lt _ hN; omega
open Go.RowKit Go.Maps
open Go.RowKit Go.Maps
set_option maxRecDepth 100000 in
set_option maxHeartbeats 1000000 in
theorem dpage_any (tb : Nat) (N : Nat → Prop) (bb first n : Nat) (B : BookS) (slot : Nat) (hi : first + slot / 4 * 5 < B.n) (w : World) (h : HolI 215 w tb N bb first n B) :
    Calls Tryz.prog 178 #[.pointer (some ⟨tb, 0, none⟩), .int .i64 (slot : Int)] w fun e w' => e = .returned (.int .i64 ((first + slot / 4 * 5 + 1 + slot % 4 : Nat) : Int)) ∧ w = w' := by
  have hn2 := h.2.1.isOk.n.2
  obtain ⟨z0, z1, z2⟩ := blk3 h.1
  have hf1 : (first : Int) + (slot : Int) / 4 * 5 < 2048 := by omega
  have hf0 : (0 : Int) ≤ first := by omega
  have hs0 : (0 : Int) ≤ slot := by omega
  have HE : Hid (((first + slot / 4 * 5 + 1 + slot % 4 : Nat) : Int) = (first : Int) + (slot : Int) / 4 * 5 + 1 + (slot : Int) % 4) := hZ (by omega)
  rw [HE.out]
  clear h
  go_enter Tryz.func178, Tryz.ntmps178
  go_wp2_with fail
  go_ret
  exact ⟨rfl, rfl⟩
set_option maxRecDepth 100000 in
set_option maxHeartbeats 2000000 in
theorem dstate_any (tb : Nat) (N : Nat → Prop) (bb first n : Nat) (B : BookS) (slot : Nat) (hs : slot < n * 4) (hn : first + n * 5 ≤ B.n) (w : World) (h : HolI 215 w tb N bb first n B) :
    Calls Tryz.prog 113 #[.pointer (some ⟨tb, 0, none⟩), .int .i64 (slot : Int)] w fun e w' => e = .returned (.tuple #[.int .u8 ((B.view (first + slot / 4 * 5)).getD (slot % 4) 0), .nilIface]) ∧ Below w.heap.size w w' := by
  have HT := hZ h
  have hok := h.2.1.isOk
  have hn2 := hok.n.2
  have hq : first + slot / 4 * 5 < B.n := by omega
  have HV : Hid (PgOk (B.view (first + slot / 4 * 5))) := hZ (BookS.view_ok hok _ hq)
  have hrp := hZ (fun wx (hb : Below w.heap.size w wx) => dhead_any tb N bb first n B (slot / 4) hq wx (HT.out.below hb))
  obtain ⟨z0, z1, z2⟩ := blk3 h.1
  clear h hok
  have hs0 : (0 : Int) ≤ slot := by omega
  have hs1 : (slot : Int) < n * 4 := by omega
  have hn1 : (n : Int) ≤ 2048 := by omega
  have hn0 : (0 : Int) ≤ n := by omega
  obtain ⟨pg, hpg⟩ : ∃ pg, B.view (first + slot / 4 * 5) = pg := ⟨_, rfl⟩
  rw [hpg] at HV hrp ⊢
  clear hpg
  have hp64 := HV.out.1
  obtain ⟨x, hx⟩ : ∃ x, pg.getD (slot % 4) 0 = x := ⟨_, rfl⟩
  rw [hx]
  have HX := hZ hx
  clear hx
  go_enter Tryz.func113, Tryz.ntmps113
  go_wp2_with fail
  have hp := hrp.out w (Below.refl _ _)
  rw [show ((slot / 4 : Nat) : Int) = (slot : Int) / 4 by omega] at hp
  refine hp.mono ?_
  clear hp
  rintro e w2 ⟨rfl, hb2⟩
  clear z0 z1 z2
  try dsimp only
  go_wp2_with (refine Wz2 rfl (.tmp 6) (.tmp 30) rfl w2.heap.size pg (zer 64) rfl rfl (heap_alloc_new w2 _) hp64 rfl ?_)
  have hbx : ∀ o : Obj, Below w2.heap.size w2 ((w2.alloc o).setRow w2.heap.size (v8a pg)) := fun o => below_setRow (bZ) (Nat.le_refl _) _
  refine Kz0 (fun wx => Hid (wx.heap[w2.heap.size]? = some (.cells (v8a pg) 37) ∧ Below w.heap.size w wx)) (hZ ⟨setRow_heap _ _ _ _ _ (0, 0) (heap_alloc_new w2 _), hb2.trans ((hbx _).mono hb2.size)⟩) ?_
  clear hbx hb2
  generalize w2.heap.size = b6
  intro w3 H3
  obtain ⟨c0, f0⟩ := Qz6 H3.out.1 (slot % 4) (by omega)
  rw [HX.out] at c0
  have r0 := cell_regrown c0
  refine Vz0 [(0, true), (1, true), (2, true), (3, true), (4, true), (5, false), (6, true), (7, true)] 7 (fun w' => ∃ p : Regrown, w' = Go.Sort.grow (redrawn w3 p.d) p.os) (by kernel_rfl) (by kernel_rfl) (fun _ _ d _ _ h => by cases d <;> exact h) (Vz2 _) ?_
  (repeat (with_reducible refine mix_q ?_; simp only [qd1, qd0, qt1, qt0]; go_big_quiet_step (fail); with_reducible refine wpQuiet_nil ?_))
  with_reducible refine mix_a ?_; simp only [qd1, qd0, qt1, qt0]
  go_wp2_with fail
  refine (Qzc _ w3.drew).mono ?_
  rintro e w4 ⟨rfl, rfl⟩
  try dsimp only
  go_wp2_with fail
  try with_reducible refine wpList_nil ?_
  with_reducible refine Qz0 ?_
  refine ⟨fun _ => Jz0 (Below.refl _ _).drew, ?_⟩
  (repeat (with_reducible refine mix_q ?_; simp only [qd1, qd0, qt1, qt0]; go_big_quiet_step (fail); with_reducible refine wpQuiet_nil ?_))
  with_reducible refine Wz1 ?_
  go_wp2_with fail
  go_ret2
  exact ⟨rfl, H3.out.2.drew⟩
open Go.RowKit Go.Maps
open Go.RowKit Go.Maps
open Go.RowKit Go.Maps
theorem info_pair : (Tryz.prog.info? 123).map (fun i => (i.zero, i.size, i.bytes)) = some (some (.agg #[.int .i64 0, .int .i64 0]), 2, 16) := by kernel_rfl
theorem info_pair2 : (Tryz.prog.info? 123).map (·.size) = some 2 := by kernel_rfl
theorem Xzd {ops : Array Oper} {rest : List Oper} {o : Oper} {a : Act} {w : World} {Q : Exit → Act → World → Prop} (hgd : o.guard = none) (x : Operand) (ho : o.op = .load 123 x) (g off : Nat) (p q : Nat) (hx : a.eval x = .pointer (some ⟨g, off, none⟩)) (hg : w.rangeAt g off [.int .i64 (p : Int), .int .i64 (q : Int)])
    (h : wpList Tryz.prog ops Q rest (a.put o.dst (.agg #[.int .i64 (p : Int), .int .i64 (q : Int)])) w) : wpList Tryz.prog ops Q (o :: rest) a w :=
  wpList_load_mid hgd 123 x ho g off hx [.int .i64 (p : Int), .int .i64 (q : Int)] _ hg Tryz.underlying123 rfl info_pair2 h
theorem Kzi {ops : Array Oper} {rest : List Oper} {o : Oper} {a : Act} {w : World} {Q : Exit → Act → World → Prop} (hgd : o.guard = none) (x y : Operand) (ho : o.op = .store 123 x y) (g p q : Nat) (c d : Int) (hx : a.eval x = .pointer (some ⟨g, 0, none⟩)) (hy : a.eval y = .agg #[.int .i64 (p : Int), .int .i64 (q : Int)])
    (hg : w.heap[g]? = some (.cells #[.int .i64 c, .int .i64 d] 123)) (h : wpList Tryz.prog ops Q rest (a.put o.dst undef) (w.setRow g #[.int .i64 (p : Int), .int .i64 (q : Int)])) : wpList Tryz.prog ops Q (o :: rest) a w :=
  wpList_store_row hgd _ x y ho g #[.int .i64 (p : Int), .int .i64 (q : Int)] hx hy _ #[.int .i64 c, .int .i64 d] hg info_pair2 rfl (by simp [Value.oneCell']) h
theorem pair_range {w : World} {b T : Nat} {x y : Value} (h : w.heap[b]? = some (.cells #[x, y] T)) : w.rangeAt b 0 [x, y] := fun j v hv => by
  rw [cell_of_row w b (0 + j) _ T (0, 0) h]
  simpa using hv
def fl2 (nd pl : Nat → Nat) : Nat → List Value
  | 0 => []
  | k + 1 => fl2 nd pl k ++ [.int .i64 (nd k : Int), .int .i64 (pl k : Int)]
theorem Wzf (nd pl : Nat → Nat) : ∀ k, (fl2 nd pl k).length = k * 2
  | 0 => rfl
  | k + 1 => by rw [fl2, List.length_append, Wzf nd pl k]; simp; omega
theorem fl2_at (nd pl : Nat → Nat) : ∀ (k j : Nat), j < k → (fl2 nd pl k)[j * 2]? = some (.int .i64 (nd j : Int)) ∧ (fl2 nd pl k)[j * 2 + 1]? = some (.int .i64 (pl j : Int))
  | 0, j, h => by omega
  | k + 1, j, h => by
    rw [fl2]
    by_cases e : j = k
    · subst e
      rw [List.getElem?_append_right (by rw [Wzf]; omega), List.getElem?_append_right (by rw [Wzf]; omega), Wzf, Nat.sub_self, show j * 2 + 1 - j * 2 = 1 by omega]
      exact ⟨rfl, rfl⟩
    · rw [List.getElem?_append_left (by rw [Wzf]; omega), List.getElem?_append_left (by rw [Wzf]; omega)]
      exact fl2_at nd pl k j (by omega)
def WayI (w : World) (v : Value) (nd pl : Nat → Nat) (k : Nat) : Prop := w.ownsRow 0 123 2 v k (fl2 nd pl k)
theorem WayI.range {w : World} {g k c : Nat} {nd pl : Nat → Nat} (h : WayI w (.slice (some ⟨g, 0, none⟩) k c) nd pl k) (j : Nat) (hj : j < k) : w.rangeAt g (j * 2) [.int .i64 (nd j : Int), .int .i64 (pl j : Int)] := by
  have hc := h.cells (g := g) rfl
  obtain ⟨h0, h1⟩ := fl2_at nd pl k j hj
  have e0 := hc _ _ h0
  have e1 := hc _ _ h1
  rw [Addr.add_mid] at e0 e1
  intro i v hv
  rcases i with _ | _ | i
  · simp only [List.getElem?_cons_zero, Option.some.injEq] at hv; subst hv; simpa using e0
  · simp only [List.getElem?_cons_succ, List.getElem?_cons_zero, Option.some.injEq] at hv; subst hv; simpa [Nat.add_assoc] using e1
  · simp at hv
theorem WayI.below {w w' : World} {v : Value} {k : Nat} {nd pl : Nat → Nat} (h : WayI w v nd pl k) (hb : Below w.heap.size w w') : WayI w' v nd pl k := Xz5 h (fun g hg => hb.block g (h.lt g hg).2)
theorem WayI.at {w : World} {v : Value} {k : Nat} {nd pl : Nat → Nat} (h : WayI w v nd pl k) (hk : 0 < k) : ∃ g c, v = .slice (some ⟨g, 0, none⟩) k c ∧ g < w.heap.size := by
  rcases h.2 with ⟨_, rfl⟩ | ⟨g, c, cur, rfl, _, hg, _⟩
  · omega
  · exact ⟨g, c, rfl, Zz0 hg⟩
theorem pair_and (b : Nat) (hb : b < 256) : bits BinOp.and IntKind.i64 ((b : Int) / 16) 15 = ((b / 16 % 16 : Nat) : Int) ∧ bits BinOp.and IntKind.i64 (b : Int) 15 = ((b % 16 : Nat) : Int) := by
  have h : ∀ b : Fin 256, bits BinOp.and IntKind.i64 (((b : Nat) : Int) / 16) 15 = (((b : Nat) / 16 % 16 : Nat) : Int) ∧ bits BinOp.and IntKind.i64 ((b : Nat) : Int) 15 = (((b : Nat) % 16 : Nat) : Int) := by decide +kernel
  exact h ⟨b, hb⟩
structure WayS (B : BookS) (first n lun block m : Nat) (nd pl : Nat → Nat) : Prop where
  hm : m ≤ 2
  nd0 : nd 0 = 0
  pl0 : pl 0 = lun
  pl1 : pl 1 = block / 16 % 16
  pl2 : pl 2 = block % 16
  le : ∀ k, k ≤ m → nd k ≤ n
  on : ∀ k, k < m → atF (B.view (first + nd k)) (pl k) = (nd (k + 1) : Int) ∧ nd (k + 1) ≠ 0
  last : m < 2 → atF (B.view (first + nd m)) (pl m) = 0
theorem WayS.pl_lt {B : BookS} {first n lun block m : Nat} {nd pl : Nat → Nat} (h : WayS B first n lun block m nd pl) (hl : lun < 4) : ∀ k, k ≤ 2 → pl k < 16 := fun k hk => by
  rcases (show k = 0 ∨ k = 1 ∨ k = 2 by omega) with rfl | rfl | rfl
  · rw [h.pl0]; omega
  · rw [h.pl1]; omega
  · rw [h.pl2]; omega
set_option maxRecDepth 100000 in
set_option maxHeartbeats 4000000 in
theorem way_any (tb : Nat) (N : Nat → Prop) (bb first n : Nat) (B : BookS) (lun block m : Nat) (hl : lun < 4) (hbl : block < 256) (hn : first + n < B.n) (nd pl : Nat → Nat) (hw : WayS B first n lun block m nd pl) (w : World) (h : HolI 201 w tb N bb first n B) :
    Calls Tryz.prog 97 #[.pointer (some ⟨tb, 0, none⟩), .int .i64 (lun : Int), .int .i64 (block : Int)] w fun e w' => (∃ g c, e = .returned (.tuple #[.slice (some ⟨g, 0, none⟩) (m + 1) c, .nilIface]) ∧ w.heap.size ≤ g ∧ WayI w' (.slice (some ⟨g, 0, none⟩) (m + 1) c) nd pl (m + 1)) ∧ Below w.heap.size w w' := by
  have HT := hZ h
  have hok := h.2.1.isOk
  have hn2 := hok.n.2
  have HW := hZ hw
  have hPL := hZ (hw.pl_lt hl)
  have HV : Hid (∀ i, i ≤ n → PgOk (B.view (first + i))) := hZ (fun i hi => BookS.view_ok hok _ (by omega))
  have hrp := hZ (fun wx (hb : Below w.heap.size w wx) (i : Nat) (hi : i ≤ n) => rpage_any tb N bb first n B i (by omega) wx (HT.out.below hb))
  have hb0 : ∀ o : Obj, Below w.heap.size w (w.alloc o) := fun o => bZ
  obtain ⟨i0, hi0', hz0, hz1, hz2⟩ := info_parts info_pair
  have HI := hZ (And.intro hi0' (And.intro hz0 (And.intro hz1 hz2)))
  have hm2 := hw.hm
  clear h hok hw hi0' hz0 hz1 hz2
  have hl0 : (0 : Int) ≤ lun := by omega
  have hb00 : (0 : Int) ≤ block := by omega
  have hb01 : (block : Int) < 256 := by omega
  go_enter Tryz.func97, Tryz.ntmps97
  repeat ((fail_if_success (with_reducible refine Kz1 17 rfl ?_)); (first | (fail) | go_values | go_skip | go_guarded | go_step | go_upon))
  refine Kz5 rfl 119 123 (.tmp 16) rfl i0 _ Tryz.underlying119 HI.out.1 HI.out.2.1 2 HI.out.2.2.1 (by decide) (by decide) (.agg #[.int .i64 0, .int .i64 (lun : Int)]) rfl #[.int .i64 0, .int .i64 (lun : Int)] rfl rfl ?_
  refine Xz0 (fun wx => Hid (WayI wx (.slice (some ⟨w.heap.size, 0, none⟩) 1 1) nd pl 1 ∧ Below w.heap.size w wx)) (hZ ⟨?_, hb0 _⟩) ?_
  · have h1 : fl2 nd pl 1 = [.int .i64 0, .int .i64 (lun : Int)] := by simp [fl2, HW.out.nd0, HW.out.pl0]
    unfold WayI
    rw [h1]
    exact own_one2 w (.int .i64 0) (.int .i64 (lun : Int)) 123 0 (by omega)
  clear hb0
  intro w1 H1
  go_wp2_with fail
  go_loopw [8, 18] (fun lv iv wr => ∃ k g c : Nat, lv = .slice (some ⟨g, 0, none⟩) ((k : Nat) + 1) c ∧ iv = .int .i64 (k : Int) ∧ k ≤ m ∧ w.heap.size ≤ g ∧ Hid (WayI wr (.slice (some ⟨g, 0, none⟩) (k + 1) c) nd pl (k + 1) ∧ Below w.heap.size w wr)) (fun _ iv _ => 3 - (intOf iv).toNat)
  case atStart => exact ⟨0, w.heap.size, 1, rfl, rfl, by omega, Nat.le_refl _, H1⟩
  case round =>
    obtain ⟨k, g, c, rfl, rfl, hk, hg, HL⟩ := hrel
    by_cases hk2 : k = 2
    · subst hk2
      have hm2' : m = 2 := by omega
      subst hm2'
      go_wp2_with fail
      go_ret2
      exact ⟨⟨g, c, rfl, hg, HL.out.1⟩, HL.out.2⟩
    · have HON := hZ (HW.out.on k)
      have HLA := hZ (HW.out.last)
      have hle := HW.out.le k hk
      have hplk := hPL.out k (by omega)
      have HR := hZ (HL.out.1.range k (by omega))
      have HNX : Hid (fl2 nd pl (k + 1 + 1) = fl2 nd pl (k + 1) ++ [.int .i64 (nd (k + 1) : Int), .int .i64 (pl (k + 1) : Int)]) := hZ rfl
      have HP1 : Hid (pl (k + 1) = if k = 0 then block / 16 % 16 else block % 16) := hZ (by
        rcases (show k = 0 ∨ k = 1 by omega) with rfl | rfl
        · exact HW.out.pl1
        · exact HW.out.pl2)
      have HPK := hZ (HV.out (nd k) hle)
      have hrk := hZ (fun wx hb => hrp.out wx hb (nd k) hle)
      obtain ⟨pg, hpg⟩ : ∃ pg, B.view (first + nd k) = pg := ⟨_, rfl⟩
      rw [hpg] at HON HPK hrk
      have HPG := hZ hpg
      clear hpg
      have hp64 := HPK.out.1
      obtain ⟨ndk, hnd⟩ : ∃ x, nd k = x := ⟨_, rfl⟩
      obtain ⟨plk, hpl⟩ : ∃ x, pl k = x := ⟨_, rfl⟩
      rw [hnd] at HPG
      rw [hnd] at hrk hle
      rw [hpl] at hplk
      rw [hnd, hpl] at HR
      rw [hpl] at HON
      have HND := hZ hnd
      have HPLK := hZ hpl
      clear hnd hpl
      rcases (show k = 0 ∨ k = 1 by omega) with rfl | rfl
      · repeat ((fail_if_success (with_reducible refine Kz1 28 rfl ?_)); (first | (first | (refine Xzd rfl (.tmp 25) rfl g (0 * 2) ndk plk rfl HR.out ?_) | (refine Kzi rfl (.tmp 10) (.tmp 26) rfl wr.heap.size ndk plk 0 0 rfl rfl (heap_alloc_new wr _) ?_)) | go_values | go_skip | go_guarded | go_step | go_upon))
        have hbx : ∀ o : Obj, Below wr.heap.size wr ((wr.alloc o).setRow wr.heap.size #[.int .i64 (ndk : Int), .int .i64 (plk : Int)]) := fun o => below_setRow (bZ) (Nat.le_refl _) _
        refine Xz0 (fun wx => Hid (wx.heap[wr.heap.size]? = some (.cells #[.int .i64 (ndk : Int), .int .i64 (plk : Int)] 123) ∧ WayI wx (.slice (some ⟨g, 0, none⟩) (0 + 1) c) nd pl (0 + 1) ∧ Below w.heap.size w wx)) (hZ ⟨setRow_heap _ _ _ _ _ (0, 0) (heap_alloc_new wr _), HL.out.1.below (hbx _), HL.out.2.trans ((hbx _).mono HL.out.2.size)⟩) ?_
        clear hbx HR HL
        generalize wr.heap.size = b10
        intro w3 H3
        obtain ⟨y0, y1⟩ := blk2 H3.out.1
        go_wp2_with fail
        refine (hrk.out w3 H3.out.2.2).mono ?_
        rintro e w4 ⟨rfl, hb4⟩
        have H4 : Hid (w4.heap[b10]? = some (.cells #[.int .i64 (ndk : Int), .int .i64 (plk : Int)] 123) ∧ WayI w4 (.slice (some ⟨g, 0, none⟩) (0 + 1) c) nd pl (0 + 1) ∧ Below w.heap.size w w4) := hZ ⟨(hb4.block _ (Zz0 H3.out.1)).trans H3.out.1, H3.out.2.1.below hb4, H3.out.2.2.trans (hb4.mono H3.out.2.2.size)⟩
        clear hb4 H3 y0 y1
        try dsimp only
        repeat ((fail_if_success (with_reducible refine Kz1 34 rfl ?_)); (first | (refine Wz2 rfl (.tmp 11) (.tmp 32) rfl w4.heap.size pg (zer 64) rfl rfl (heap_alloc_new w4 _) hp64 rfl ?_) | go_values | go_skip | go_guarded | go_step | go_upon))
        have hbx : ∀ o : Obj, Below w4.heap.size w4 ((w4.alloc o).setRow w4.heap.size (v8a pg)) := fun o => below_setRow (bZ) (Nat.le_refl _) _
        refine Xz0 (fun wx => Hid (wx.heap[b10]? = some (.cells #[.int .i64 (ndk : Int), .int .i64 (plk : Int)] 123) ∧ wx.heap[w4.heap.size]? = some (.cells (v8a pg) 37) ∧ WayI wx (.slice (some ⟨g, 0, none⟩) (0 + 1) c) nd pl (0 + 1) ∧ Below w.heap.size w wx)) (hZ ⟨((hbx _).block _ (Zz0 H4.out.1)).trans H4.out.1, setRow_heap _ _ _ _ _ (0, 0) (heap_alloc_new w4 _), H4.out.2.1.below (hbx _), H4.out.2.2.trans ((hbx _).mono H4.out.2.2.size)⟩) ?_
        clear hbx H4
        generalize w4.heap.size = b11
        intro w5 H5
        obtain ⟨y0, y1⟩ := blk2 H5.out.1
        go_wp2_with (refine Wz3 rfl (.tmp 11) rfl b11 pg rfl H5.out.2.1 hp64 ?_)
        refine (at_any pg HPK.out plk hplk w5).mono ?_
        rintro e w6 ⟨rfl, hb6⟩
        have H6 : Hid (WayI w6 (.slice (some ⟨g, 0, none⟩) (0 + 1) c) nd pl (0 + 1) ∧ Below w.heap.size w w6) := hZ ⟨H5.out.2.2.1.below hb6, H5.out.2.2.2.trans (hb6.mono H5.out.2.2.2.size)⟩
        clear hb6 H5 y0 y1
        try dsimp only
        by_cases hm : 0 < m
        · obtain ⟨e1, e2⟩ := HON.out hm
          have hle1 := HW.out.le (0 + 1) (by omega)
          simp only [Nat.zero_add, Nat.reduceAdd] at e1 e2 hle1
          rw [e1]
          obtain ⟨nd1, hnd1⟩ : ∃ x, nd (0 + 1) = x := ⟨_, rfl⟩
          have HN1 := hZ hnd1
          simp only [Nat.zero_add, Nat.reduceAdd] at hnd1
          rw [hnd1] at e2 hle1 ⊢
          clear hnd1 e1
          have e3 : (nd1 : Int) ≠ 0 := by omega
          have e4 : (nd1 : Int) ≤ 2048 := by omega
          repeat ((fail_if_success (with_reducible refine Kz1 54 rfl ?_)); (first | go_values | go_skip | go_guarded | go_step | go_upon))
          rw [(pair_and block hbl).1]
          refine Kz5 rfl 119 123 (.tmp 53) rfl i0 _ Tryz.underlying119 HI.out.1 HI.out.2.1 2 HI.out.2.2.1 (by decide) (by decide) (.agg #[.int .i64 (nd1 : Int), .int .i64 ((block / 16 % 16 : Nat) : Int)]) rfl #[.int .i64 (nd1 : Int), .int .i64 ((block / 16 % 16 : Nat) : Int)] rfl rfl ?_
          have hb7 : ∀ o : Obj, Below w6.heap.size w6 (w6.alloc o) := fun o => bZ
          refine Xz0 (fun wx => Hid (SrcIs wx (.slice (some ⟨w6.heap.size, 0, none⟩) 1 1) 1 2 [.int .i64 (nd1 : Int), .int .i64 ((block / 16 % 16 : Nat) : Int)] ∧ WayI wx (.slice (some ⟨g, 0, none⟩) (0 + 1) c) nd pl (0 + 1) ∧ Below w.heap.size w wx)) (hZ ⟨Xz9 w6 [.int .i64 (nd1 : Int), .int .i64 ((block / 16 % 16 : Nat) : Int)] 123 2 rfl (by intro u hu; simp at hu; rcases hu with rfl | rfl <;> rfl), H6.out.1.below (hb7 _), H6.out.2.trans ((hb7 _).mono H6.out.2.size)⟩) ?_
          clear hb7 H6
          generalize w6.heap.size = b54
          intro w7 H7
          refine Xz6 rfl (.tmp 47) (.tmp 54) 119 rfl 123 i0 _ 2 16 Tryz.underlying119 HI.out.1 HI.out.2.1 HI.out.2.2.1 HI.out.2.2.2 rfl (by decide) (.slice (some ⟨g, 0, none⟩) (0 + 1) c) (0 + 1) (fl2 nd pl (0 + 1)) rfl H7.out.2.1 (.slice (some ⟨b54, 0, none⟩) 1 1) 1 [.int .i64 (nd1 : Int), .int .i64 ((block / 16 % 16 : Nat) : Int)] rfl H7.out.1 (by unfold maxLen; omega) (by omega) ?_
          intro v8 w8 hown hgrow hwh
          have hbw : Below w.heap.size w w8 := H7.out.2.2.grown hgrow H7.out.2.2.size (fun q hq => by simp only [Value.ownBlock, Option.some.injEq] at hq; omega)
          have H8 : Hid (WayI w8 v8 nd pl (0 + 1 + 1)) := hZ (by
            unfold WayI
            rw [HNX.out, HN1.out, HP1.out]
            exact hown)
          obtain ⟨g8, c8, rfl, hg8⟩ := H8.out.at (by omega)
          have hgg : w.heap.size ≤ g8 := by
            rcases hwh g8 rfl with q | q
            · simp only [Value.ownBlock, Option.some.injEq] at q; omega
            · have := H7.out.2.2.size; omega
          clear hown hgrow hwh H7
          simp only [Act.put, qs0, qs1, qs2]
          go_wp2_with fail
          exact ⟨⟨0 + 1, g8, c8, rfl, by push_cast; rfl, by omega, hgg, hZ ⟨H8.out, hbw⟩⟩, by simp [intOf]⟩
        · have hmk : m = 0 := by omega
          have e1 : atF pg plk = 0 := by
            have h := HLA.out (by omega)
            rw [hmk, HND.out, HPLK.out, HPG.out] at h
            exact h
          rw [e1]
          go_wp2_with fail
          go_ret2
          subst hmk
          exact ⟨⟨g, c, rfl, hg, H6.out.1⟩, H6.out.2⟩
      · repeat ((fail_if_success (with_reducible refine Kz1 28 rfl ?_)); (first | (first | (refine Xzd rfl (.tmp 25) rfl g (1 * 2) ndk plk rfl HR.out ?_) | (refine Kzi rfl (.tmp 10) (.tmp 26) rfl wr.heap.size ndk plk 0 0 rfl rfl (heap_alloc_new wr _) ?_)) | go_values | go_skip | go_guarded | go_step | go_upon))
        have hbx : ∀ o : Obj, Below wr.heap.size wr ((wr.alloc o).setRow wr.heap.size #[.int .i64 (ndk : Int), .int .i64 (plk : Int)]) := fun o => below_setRow (bZ) (Nat.le_refl _) _
        refine Xz0 (fun wx => Hid (wx.heap[wr.heap.size]? = some (.cells #[.int .i64 (ndk : Int), .int .i64 (plk : Int)] 123) ∧ WayI wx (.slice (some ⟨g, 0, none⟩) (1 + 1) c) nd pl (1 + 1) ∧ Below w.heap.size w wx)) (hZ ⟨setRow_heap _ _ _ _ _ (0, 0) (heap_alloc_new wr _), HL.out.1.below (hbx _), HL.out.2.trans ((hbx _).mono HL.out.2.size)⟩) ?_
        clear hbx HR HL
        generalize wr.heap.size = b10
        intro w3 H3
        obtain ⟨y0, y1⟩ := blk2 H3.out.1
        go_wp2_with fail
        refine (hrk.out w3 H3.out.2.2).mono ?_
        rintro e w4 ⟨rfl, hb4⟩
        have H4 : Hid (w4.heap[b10]? = some (.cells #[.int .i64 (ndk : Int), .int .i64 (plk : Int)] 123) ∧ WayI w4 (.slice (some ⟨g, 0, none⟩) (1 + 1) c) nd pl (1 + 1) ∧ Below w.heap.size w w4) := hZ ⟨(hb4.block _ (Zz0 H3.out.1)).trans H3.out.1, H3.out.2.1.below hb4, H3.out.2.2.trans (hb4.mono H3.out.2.2.size)⟩
        clear hb4 H3 y0 y1
        try dsimp only
        repeat ((fail_if_success (with_reducible refine Kz1 34 rfl ?_)); (first | (refine Wz2 rfl (.tmp 11) (.tmp 32) rfl w4.heap.size pg (zer 64) rfl rfl (heap_alloc_new w4 _) hp64 rfl ?_) | go_values | go_skip | go_guarded | go_step | go_upon))
        have hbx : ∀ o : Obj, Below w4.heap.size w4 ((w4.alloc o).setRow w4.heap.size (v8a pg)) := fun o => below_setRow (bZ) (Nat.le_refl _) _
        refine Xz0 (fun wx => Hid (wx.heap[b10]? = some (.cells #[.int .i64 (ndk : Int), .int .i64 (plk : Int)] 123) ∧ wx.heap[w4.heap.size]? = some (.cells (v8a pg) 37) ∧ WayI wx (.slice (some ⟨g, 0, none⟩) (1 + 1) c) nd pl (1 + 1) ∧ Below w.heap.size w wx)) (hZ ⟨((hbx _).block _ (Zz0 H4.out.1)).trans H4.out.1, setRow_heap _ _ _ _ _ (0, 0) (heap_alloc_new w4 _), H4.out.2.1.below (hbx _), H4.out.2.2.trans ((hbx _).mono H4.out.2.2.size)⟩) ?_
        clear hbx H4
        generalize w4.heap.size = b11
        intro w5 H5
        obtain ⟨y0, y1⟩ := blk2 H5.out.1
        go_wp2_with (refine Wz3 rfl (.tmp 11) rfl b11 pg rfl H5.out.2.1 hp64 ?_)
        refine (at_any pg HPK.out plk hplk w5).mono ?_
        rintro e w6 ⟨rfl, hb6⟩
        have H6 : Hid (WayI w6 (.slice (some ⟨g, 0, none⟩) (1 + 1) c) nd pl (1 + 1) ∧ Below w.heap.size w w6) := hZ ⟨H5.out.2.2.1.below hb6, H5.out.2.2.2.trans (hb6.mono H5.out.2.2.2.size)⟩
        clear hb6 H5 y0 y1
        try dsimp only
        by_cases hm : 1 < m
        · obtain ⟨e1, e2⟩ := HON.out hm
          have hle1 := HW.out.le (1 + 1) (by omega)
          simp only [Nat.zero_add, Nat.reduceAdd] at e1 e2 hle1
          rw [e1]
          obtain ⟨nd1, hnd1⟩ : ∃ x, nd (1 + 1) = x := ⟨_, rfl⟩
          have HN1 := hZ hnd1
          simp only [Nat.zero_add, Nat.reduceAdd] at hnd1
          rw [hnd1] at e2 hle1 ⊢
          clear hnd1 e1
          have e3 : (nd1 : Int) ≠ 0 := by omega
          have e4 : (nd1 : Int) ≤ 2048 := by omega
          repeat ((fail_if_success (with_reducible refine Kz1 54 rfl ?_)); (first | go_values | go_skip | go_guarded | go_step | go_upon))
          rw [(pair_and block hbl).2]
          refine Kz5 rfl 119 123 (.tmp 53) rfl i0 _ Tryz.underlying119 HI.out.1 HI.out.2.1 2 HI.out.2.2.1 (by decide) (by decide) (.agg #[.int .i64 (nd1 : Int), .int .i64 ((block % 16 : Nat) : Int)]) rfl #[.int .i64 (nd1 : Int), .int .i64 ((block % 16 : Nat) : Int)] rfl rfl ?_
          have hb7 : ∀ o : Obj, Below w6.heap.size w6 (w6.alloc o) := fun o => bZ
          refine Xz0 (fun wx => Hid (SrcIs wx (.slice (some ⟨w6.heap.size, 0, none⟩) 1 1) 1 2 [.int .i64 (nd1 : Int), .int .i64 ((block % 16 : Nat) : Int)] ∧ WayI wx (.slice (some ⟨g, 0, none⟩) (1 + 1) c) nd pl (1 + 1) ∧ Below w.heap.size w wx)) (hZ ⟨Xz9 w6 [.int .i64 (nd1 : Int), .int .i64 ((block % 16 : Nat) : Int)] 123 2 rfl (by intro u hu; simp at hu; rcases hu with rfl | rfl <;> rfl), H6.out.1.below (hb7 _), H6.out.2.trans ((hb7 _).mono H6.out.2.size)⟩) ?_
          clear hb7 H6
          generalize w6.heap.size = b54
          intro w7 H7
          refine Xz6 rfl (.tmp 47) (.tmp 54) 119 rfl 123 i0 _ 2 16 Tryz.underlying119 HI.out.1 HI.out.2.1 HI.out.2.2.1 HI.out.2.2.2 rfl (by decide) (.slice (some ⟨g, 0, none⟩) (1 + 1) c) (1 + 1) (fl2 nd pl (1 + 1)) rfl H7.out.2.1 (.slice (some ⟨b54, 0, none⟩) 1 1) 1 [.int .i64 (nd1 : Int), .int .i64 ((block % 16 : Nat) : Int)] rfl H7.out.1 (by unfold maxLen; omega) (by omega) ?_
          intro v8 w8 hown hgrow hwh
          have hbw : Below w.heap.size w w8 := H7.out.2.2.grown hgrow H7.out.2.2.size (fun q hq => by simp only [Value.ownBlock, Option.some.injEq] at hq; omega)
          have H8 : Hid (WayI w8 v8 nd pl (1 + 1 + 1)) := hZ (by
            unfold WayI
            rw [HNX.out, HN1.out, HP1.out]
            exact hown)
          obtain ⟨g8, c8, rfl, hg8⟩ := H8.out.at (by omega)
          have hgg : w.heap.size ≤ g8 := by
            rcases hwh g8 rfl with q | q
            · simp only [Value.ownBlock, Option.some.injEq] at q; omega
            · have := H7.out.2.2.size; omega
          clear hown hgrow hwh H7
          simp only [Act.put, qs0, qs1, qs2]
          go_wp2_with fail
          exact ⟨⟨1 + 1, g8, c8, rfl, by push_cast; rfl, by omega, hgg, hZ ⟨H8.out, hbw⟩⟩, by simp [intOf]⟩
        · have hmk : m = 1 := by omega
          have e1 : atF pg plk = 0 := by
            have h := HLA.out (by omega)
            rw [hmk, HND.out, HPLK.out, HPG.out] at h
            exact h
          rw [e1]
          go_wp2_with fail
          go_ret2
          subst hmk
          exact ⟨⟨g, c, rfl, hg, H6.out.1⟩, H6.out.2⟩
open Go.RowKit Go.Maps
theorem DiskI.grow {w w' : World} {db : Nat} {N N' : Nat → Prop} {d : DiskS} (h : DiskI w db N d) (hk : Keeps (fun k => ¬ N k) w w') (hn : ∀ i, N' i → i < w'.heap.size ∧ (N i ∨ w.heap.size ≤ i)) : DiskI w' db N' d := by
  obtain ⟨fb, cv, lb, c, ⟨fc, hfc, h1⟩, ⟨rest, h2⟩, h3, h4, h5, n1, n2, n3, n4, n5, h6⟩ := h
  have hx : ∀ i, i < w.heap.size → ¬ N i → ¬ N' i := fun i hi hni hN' => by
    rcases (hn i hN').2 with h | h
    · exact hni h
    · omega
  exact ⟨fb, cv, lb, c, ⟨fc, hfc, hk.blk n1 h1⟩, ⟨rest, hk.blk n2 h2⟩, hk.own h3 n4, hk.map n3 h4, h5, hx _ (Zz0 h1) n1, hx _ (Zz0 h2) n2, hx _ h4.lt n3, fun k hk' => hx k (h3.lt k hk').2 (n4 k hk'), fun i hi => (hn i hi).1, h6⟩
theorem BookX.grow {w w' : World} {bb : Nat} {N N' : Nat → Prop} {B : BookS} {db rb nb : Nat} {ov : Value} (h : BookX w bb N B db rb nb ov) (hk : Keeps (fun k => ¬ N k) w w') (hn : ∀ i, N' i → i < w'.heap.size ∧ (N i ∨ w.heap.size ≤ i)) : BookX w' bb N' B db rb nb ov := by
  have hx : ∀ i, i < w.heap.size → ¬ N i → ¬ N' i := fun i hi hni hN' => by
    rcases (hn i hN').2 with h | h
    · exact hni h
    · omega
  have ho : OpenI w' ov B.n B.opn := by
    have ho := h.opn
    cases hB : B.opn with
    | none => rw [hB] at ho; exact ho
    | some f =>
      rw [hB] at ho
      obtain ⟨ob, h1, h2⟩ := ho
      exact ⟨ob, h1, hk.map (h.nots.2.2.2 ob h1) h2⟩
  refine ⟨hk.blk h.nots.1 h.cells, hk.blk h.nots.2.1 h.ring, h.disk.grow (hk.mono (fun k _ hk hn => hk (.inl hn))) ?_, hk.map h.nots.2.2.1 h.news, ho, h.ne, ⟨hx _ (Zz0 h.cells) h.nots.1, hx _ (Zz0 h.ring) h.nots.2.1, hx _ h.news.lt h.nots.2.2.1, fun k hk => hx _ (h.opn.lt hk) (h.nots.2.2.2 k hk)⟩, h.ok, h.dbs⟩
  intro i hi
  rcases hi with hi | hi | hi | hi | hi
  · rcases hn i hi with ⟨h1, h2 | h2⟩
    · exact ⟨h1, .inl (.inl h2)⟩
    · exact ⟨h1, .inr h2⟩
  · have := hk.size; have := Zz0 h.cells; exact ⟨by omega, .inl (.inr (.inl hi))⟩
  · have := hk.size; have := Zz0 h.ring; exact ⟨by omega, .inl (.inr (.inr (.inl hi)))⟩
  · have := hk.size; have := h.news.lt; exact ⟨by omega, .inl (.inr (.inr (.inr (.inl hi))))⟩
  · have := hk.size; have := h.opn.lt hi; exact ⟨by omega, .inl (.inr (.inr (.inr (.inr hi))))⟩
theorem HolI.grow {T : Nat} {w w' : World} {tb : Nat} {N N' : Nat → Prop} {bb first n : Nat} {B : BookS} (h : HolI T w tb N bb first n B) (hk : Keeps (fun k => ¬ N k) w w') (hn : ∀ i, N' i → i < w'.heap.size ∧ (N i ∨ w.heap.size ≤ i)) : HolI T w' tb N' bb first n B := by
  obtain ⟨h1, ⟨db, rb, nb, ov, h2⟩, h3⟩ := h
  have hl := Zz0 h1
  have hs := hk.size
  refine ⟨hk.blk h3 h1, ⟨db, rb, nb, ov, h2.grow (hk.mono (fun k _ hk hn => hk (.inl hn))) (fun i hi => ?_)⟩, fun hN => ?_⟩
  · rcases hi with hi | hi
    · rcases hn i hi with ⟨q1, q2 | q2⟩
      · exact ⟨q1, .inl (.inl q2)⟩
      · exact ⟨q1, .inr q2⟩
    · subst hi; exact ⟨by omega, .inl (.inr rfl)⟩
  · rcases (hn _ hN).2 with q | q
    · exact h3 q
    · omega
theorem any_snoc (l : List Int) (f : Int → Bool) (j : Nat) (hj : j < l.length) : (l.take (j + 1)).any f = ((l.take j).any f || f l[j]) := by
  rw [List.take_succ_eq_append_getElem hj, List.any_append]
  simp
set_option maxRecDepth 100000 in
set_option maxHeartbeats 4000000 in
theorem other_any (tb : Nat) (N : Nat → Prop) (bb first n : Nat) (B : BookS) (hn : first + n < B.n) (i0 : Nat) (hi0 : 1 ≤ i0 ∧ i0 ≤ n) (but : List Int) (hbl : but.length ≤ 2) (a : Option Addr) (c : Nat)
    (hz : B.view (first + i0) = zer 64) (hnb : (i0 : Int) ∉ but) (hall : ∀ j : Nat, 1 ≤ j → j < i0 → B.view (first + j) ≠ zer 64 ∨ (j : Int) ∈ but) (w : World) (h : HolI 201 w tb N bb first n B) (hin : Wzb w a but) :
    Calls Tryz.prog 99 #[.pointer (some ⟨tb, 0, none⟩), .slice a but.length c] w fun e w' => e = .returned (.tuple #[.int .i64 (i0 : Int), .nilIface]) ∧ Below w.heap.size w w' := by
  have HT := hZ h
  have HIN := hZ hin
  have hok := h.2.1.isOk
  have hn2 := hok.n.2
  have HV : Hid (∀ i, i ≤ n → PgOk (B.view (first + i))) := hZ (fun i hi => BookS.view_ok hok _ (by omega))
  have hrp := hZ (fun wx (hb : Below w.heap.size w wx) (i : Nat) (hi : i ≤ n) => rpage_any tb N bb first n B i (by omega) wx (HT.out.below hb))
  have HZ := hZ hz
  have HNB := hZ hnb
  have HALL := hZ hall
  obtain ⟨h1i, hin0⟩ := hi0
  clear h hok hin hz hnb hall
  go_enter Tryz.func99, Tryz.ntmps99
  go_wp2_with fail
  go_loopw [6] (fun iv wr => ∃ i : Nat, iv = .int .i64 ((i : Int) + 1) ∧ i < i0 ∧ Hid (Below w.heap.size w wr)) (fun iv _ => n + 1 - (intOf iv).toNat)
  case atStart => exact ⟨0, rfl, by omega, hZ (Below.refl _ _)⟩
  case round =>
    obtain ⟨i, rfl, hi, HB⟩ := hrel
    obtain ⟨z0, z1, z2⟩ := blk3 (HT.out.below HB.out).1
    have hi1 : (i : Int) + 1 ≤ n := by omega
    have hi2 : (n : Int) < 2048 := by omega
    go_wp2_with fail
    have hp := hrp.out wr HB.out (i + 1) (by omega)
    rw [show ((i + 1 : Nat) : Int) = (i : Int) + 1 by omega] at hp
    have HPK := hZ (HV.out (i + 1) (by omega))
    obtain ⟨pg, hpg⟩ : ∃ pg, B.view (first + (i + 1)) = pg := ⟨_, rfl⟩
    rw [hpg] at hp HPK
    have HPG := hZ hpg
    clear hpg
    refine hp.mono ?_
    clear hp
    rintro e w2 ⟨rfl, hb2⟩
    have H2 : Hid (Below w.heap.size w w2) := hZ (HB.out.trans (hb2.mono HB.out.size))
    have hp64 := HPK.out.1
    clear hb2 HB z0 z1 z2
    try dsimp only
    repeat ((fail_if_success (with_reducible refine Kz1 26 rfl ?_)); (first | (refine Wz2 rfl (.tmp 7) (.tmp 24) rfl w2.heap.size pg (zer 64) rfl rfl (heap_alloc_new w2 _) hp64 rfl ?_) | go_values | go_skip | go_guarded | go_step | go_upon))
    have hbx : ∀ o : Obj, Below w2.heap.size w2 ((w2.alloc o).setRow w2.heap.size (v8a pg)) := fun o => below_setRow (bZ) (Nat.le_refl _) _
    refine Xz0 (fun wx => Hid (wx.heap[w2.heap.size]? = some (.cells (v8a pg) 37) ∧ Below w.heap.size w wx)) (hZ ⟨setRow_heap _ _ _ _ _ (0, 0) (heap_alloc_new w2 _), H2.out.trans ((hbx _).mono H2.out.size)⟩) ?_
    clear hbx H2
    generalize w2.heap.size = b7
    intro w3 H3
    have hpe := Qzj
    obtain ⟨t0, ht0⟩ : ∃ t0, decide (pg ≠ zer 64) = t0 := ⟨_, rfl⟩
    have HT0 := hZ ht0
    go_wp2_with (first | (refine Wz3 rfl (.tmp 7) rfl b7 pg rfl H3.out.1 hp64 ?_) | (refine Qz4 rfl 37 _ rfl (v8a (zer 64)) hpe ?_) | (refine page_neq rfl (.tmp 29) (.tmp 30) 37 rfl pg (zer 64) rfl rfl hp64 rfl ?_; rw [ht0]))
    clear ht0
    go_loopw [9, 34] (fun tv jv wr' => ∃ j : Nat, jv = .int .i64 (j : Int) ∧ j ≤ but.length ∧ Hid (tv = .bool (t0 || (but.take j).any (fun k => decide (k = (i : Int) + 1)))) ∧ (∃ t, tv = .bool t) ∧ wr' = w3) (fun _ jv _ => 3 - (intOf jv).toNat)
    case atStart => exact ⟨0, rfl, by omega, hZ (by simp), ⟨_, rfl⟩, rfl⟩
    case round =>
      obtain ⟨j, rfl, hj, HTV, ⟨t, rfl⟩, rfl⟩ := hrel
      by_cases hlt : j < but.length
      · have hj1 : (j : Int) < but.length := by omega
        obtain ⟨b, off, rfl, hbs, hc, cur, hcur⟩ := (HIN.out.below H3.out.2) j hlt
        have HS := hZ (any_snoc but (fun k => decide (k = (i : Int) + 1)) j hlt)
        obtain ⟨x, hx⟩ : ∃ x, but[j] = x := ⟨_, rfl⟩
        rw [hx] at hc HS
        by_cases q : x = (i : Int) + 1
        · subst q
          cases t <;> go_wp2_with fail
          all_goals exact ⟨⟨j + 1, by push_cast; rfl, by omega, hZ (by have h := HTV.out; simp only [Value.bool.injEq] at h; rw [HS.out, ← Bool.or_assoc, ← h]; simp), ⟨_, rfl⟩, (by first | trivial | rfl)⟩, by simp [intOf]; omega⟩
        · cases t <;> go_wp2_with fail
          all_goals exact ⟨⟨j + 1, by push_cast; rfl, by omega, hZ (by have h := HTV.out; simp only [Value.bool.injEq] at h; rw [HS.out, ← Bool.or_assoc, ← h]; simp [q]), ⟨_, rfl⟩, (by first | trivial | rfl)⟩, by simp [intOf]; omega⟩
      · have hj1 : ¬ ((j : Int) < but.length) := by omega
        have hjl : j = but.length := by omega
        have ht : t = (t0 || but.any (fun k => decide (k = (i : Int) + 1))) := by
          have h := HTV.out
          simp only [Value.bool.injEq] at h
          rw [h, hjl, List.take_length]
        by_cases hq : i + 1 = i0
        · have hf : t = false := by
            have e1 : t0 = false := by rw [← HT0.out, ← HPG.out, hq, HZ.out]; simp
            have e2 : but.any (fun k => decide (k = (i : Int) + 1)) = false := by
              rw [List.any_eq_false]
              intro k hk hd
              simp only [decide_eq_true_eq] at hd
              exact HNB.out (by rw [show (i0 : Int) = (i : Int) + 1 by omega, ← hd]; exact hk)
            rw [ht, e1, e2]; rfl
          clear ht hjl
          subst hf
          have HQ := hZ hq
          clear hq
          go_wp2_with fail
          go_ret2
          exact ⟨by rw [← HQ.out]; push_cast; rfl, H3.out.2⟩
        · have hf : t = true := by
            rcases HALL.out (i + 1) (by omega) (by omega) with h | h
            · rw [HPG.out] at h
              have e1 : t0 = true := by rw [← HT0.out]; simp [h]
              rw [ht, e1]; rfl
            · have e2 : but.any (fun k => decide (k = (i : Int) + 1)) = true := by
                rw [List.any_eq_true]
                exact ⟨_, h, by simp⟩
              rw [ht, e2]; simp
          clear ht hjl
          subst hf
          go_wp2_with fail
          exact ⟨⟨i + 1, by push_cast; rfl, by omega, hZ H3.out.2⟩, by simp [intOf]; omega⟩
open Go.RowKit Go.Maps
set_option maxRecDepth 100000 in
set_option maxHeartbeats 2000000 in
theorem rget_zero (tb : Nat) (N : Nat → Prop) (bb first n : Nat) (B : BookS) (lun block m : Nat) (hl : lun < 4) (hbl : block < 256) (hn : first + n < B.n) (nd pl : Nat → Nat) (hm : m < 2) (hw : WayS B first n lun block m nd pl) (w : World) (h : HolI 201 w tb N bb first n B) :
    Calls Tryz.prog 92 #[.pointer (some ⟨tb, 0, none⟩), .int .i64 (lun : Int), .int .i64 (block : Int)] w fun e w' => e = .returned (.tuple #[.int .i64 0, .nilIface]) ∧ Below w.heap.size w w' := by
  have hS := sound_ok tb lun block ⟨by omega, by omega⟩ ⟨by omega, by omega⟩ w
  have hY := way_any tb N bb first n B lun block m hl hbl hn nd pl hw w h
  clear h hw
  have hm2 : (m : Int) < 2 := by omega
  have hm0 : (0 : Int) ≤ m := by omega
  go_enter Tryz.func92, Tryz.ntmps92
  go_wp2_with fail
  refine hS.mono ?_
  clear hS
  rintro e w2 ⟨rfl, rfl⟩
  try dsimp only
  go_wp2_with fail
  refine hY.mono ?_
  clear hY
  rintro e w2 ⟨⟨g, c, rfl, hg, hY⟩, hb⟩
  clear hY
  try dsimp only
  go_wp2_with fail
  refine (Qzc _ w2).mono ?_
  rintro e w4 ⟨rfl, rfl⟩
  try dsimp only
  go_wp2_with fail
  go_ret2
  exact ⟨rfl, hb⟩
set_option maxRecDepth 100000 in
set_option maxHeartbeats 4000000 in
theorem rget_some (tb : Nat) (N : Nat → Prop) (bb first n : Nat) (B : BookS) (lun block : Nat) (hl : lun < 4) (hbl : block < 256) (hn : first + n < B.n) (nd pl : Nat → Nat) (hw : WayS B first n lun block 2 nd pl) (w : World) (h : HolI 201 w tb N bb first n B) :
    Calls Tryz.prog 92 #[.pointer (some ⟨tb, 0, none⟩), .int .i64 (lun : Int), .int .i64 (block : Int)] w fun e w' => e = .returned (.tuple #[.int .i64 (atF (B.view (first + nd 2)) (pl 2)), .nilIface]) ∧ Below w.heap.size w w' := by
  have HT := hZ h
  have hS := sound_ok tb lun block ⟨by omega, by omega⟩ ⟨by omega, by omega⟩ w
  have hY := way_any tb N bb first n B lun block 2 hl hbl hn nd pl hw w h
  have hle := hw.le 2 (Nat.le_refl _)
  have hpl := hw.pl_lt hl 2 (Nat.le_refl _)
  have hrp := hZ (fun wx (hb : Below w.heap.size w wx) => rpage_any tb N bb first n B (nd 2) (by omega) wx (HT.out.below hb))
  have HPK : Hid (PgOk (B.view (first + nd 2))) := hZ (BookS.view_ok h.2.1.isOk _ (by omega))
  obtain ⟨pg, hpg⟩ : ∃ x, B.view (first + nd 2) = x := ⟨_, rfl⟩
  rw [hpg] at hrp HPK ⊢
  clear hpg h hw
  obtain ⟨nd2, hnd⟩ : ∃ x, nd 2 = x := ⟨_, rfl⟩
  obtain ⟨pl2, hpl2⟩ : ∃ x, pl 2 = x := ⟨_, rfl⟩
  rw [hnd] at hrp hle
  rw [hpl2] at hpl ⊢
  have HND := hZ hnd
  have HPL := hZ hpl2
  clear hnd hpl2
  have hp64 := HPK.out.1
  go_enter Tryz.func92, Tryz.ntmps92
  go_wp2_with fail
  refine hS.mono ?_
  clear hS
  rintro e w2 ⟨rfl, rfl⟩
  try dsimp only
  go_wp2_with fail
  refine hY.mono ?_
  clear hY
  rintro e w2 ⟨⟨g, c, rfl, hg, hY⟩, hb⟩
  have hr := hY.range 2 (by omega)
  rw [HND.out, HPL.out] at hr
  have HR := hZ hr
  clear hY hr
  try dsimp only
  repeat ((fail_if_success (with_reducible refine Kz1 40 rfl ?_)); (first | (first | (refine Xzd rfl (.tmp 37) rfl g 4 nd2 pl2 rfl HR.out ?_) | (refine Kzi rfl (.tmp 11) (.tmp 38) rfl w2.heap.size nd2 pl2 0 0 rfl rfl (heap_alloc_new w2 _) ?_)) | go_values | go_skip | go_guarded | go_step | go_upon))
  have hbx : ∀ o : Obj, Below w2.heap.size w2 ((w2.alloc o).setRow w2.heap.size #[.int .i64 (nd2 : Int), .int .i64 (pl2 : Int)]) := fun o => below_setRow (bZ) (Nat.le_refl _) _
  refine Xz0 (fun wx => Hid (wx.heap[w2.heap.size]? = some (.cells #[.int .i64 (nd2 : Int), .int .i64 (pl2 : Int)] 123) ∧ Below w2.heap.size w2 wx ∧ Below w.heap.size w wx)) (hZ ⟨setRow_heap _ _ _ _ _ (0, 0) (heap_alloc_new w2 _), hbx _, hb.trans ((hbx _).mono hb.size)⟩) ?_
  clear hbx HR hb
  generalize w2.heap.size = b11
  intro w3 H3
  obtain ⟨y0, y1⟩ := blk2 H3.out.1
  go_wp2_with fail
  refine (hrp.out w3 H3.out.2.2).mono ?_
  rintro e w4 ⟨rfl, hb4⟩
  have hl3 := Zz0 H3.out.1
  have H4 : Hid (w4.heap[b11]? = some (.cells #[.int .i64 (nd2 : Int), .int .i64 (pl2 : Int)] 123) ∧ Below w.heap.size w w4) := hZ ⟨(hb4.block _ hl3).trans H3.out.1, H3.out.2.2.trans (hb4.mono H3.out.2.2.size)⟩
  clear hb4 hl3 H3 y0 y1
  try dsimp only
  repeat ((fail_if_success (with_reducible refine Kz1 46 rfl ?_)); (first | (refine Wz2 rfl (.tmp 12) (.tmp 44) rfl w4.heap.size pg (zer 64) rfl rfl (heap_alloc_new w4 _) hp64 rfl ?_) | go_values | go_skip | go_guarded | go_step | go_upon))
  have hbx : ∀ o : Obj, Below w4.heap.size w4 ((w4.alloc o).setRow w4.heap.size (v8a pg)) := fun o => below_setRow (bZ) (Nat.le_refl _) _
  have hl4 := Zz0 H4.out.1
  refine Xz0 (fun wx => Hid (wx.heap[b11]? = some (.cells #[.int .i64 (nd2 : Int), .int .i64 (pl2 : Int)] 123) ∧ wx.heap[w4.heap.size]? = some (.cells (v8a pg) 37) ∧ Below w.heap.size w wx)) (hZ ⟨((hbx _).block _ hl4).trans H4.out.1, setRow_heap _ _ _ _ _ (0, 0) (heap_alloc_new w4 _), H4.out.2.trans ((hbx _).mono H4.out.2.size)⟩) ?_
  clear hbx H4 hl4
  generalize w4.heap.size = b12
  intro w5 H5
  obtain ⟨y0, y1⟩ := blk2 H5.out.1
  go_wp2_with (refine Wz3 rfl (.tmp 12) rfl b12 pg rfl H5.out.2.1 hp64 ?_)
  refine (at_any pg HPK.out pl2 hpl w5).mono ?_
  rintro e w6 ⟨rfl, hb6⟩
  try dsimp only
  go_wp2_with fail
  refine (Qzc _ w6).mono ?_
  rintro e w7 ⟨rfl, rfl⟩
  try dsimp only
  go_wp2_with fail
  go_ret2
  exact ⟨rfl, H5.out.2.2.trans (hb6.mono H5.out.2.2.size)⟩
open Go.RowKit Go.Maps
def WrOk (B : BookS) (i : Nat) (p : List Int) : Prop := (B.f i).isSome = true ∨ B.view i = p ∨ (keysF B.f B.n).length ≠ 60
def ahF (nd : Nat → Nat) (m k : Nat) : List Int := (List.range' (m + 1) (k - m)).map fun j => (nd j : Int)
theorem ahF_self (nd : Nat → Nat) (m : Nat) : ahF nd m m = [] := by simp [ahF]
theorem ahF_succ (nd : Nat → Nat) (m k : Nat) (h : m ≤ k) : ahF nd m (k + 1) = ahF nd m k ++ [(nd (k + 1) : Int)] := by
  unfold ahF
  rw [show k + 1 - m = (k - m) + 1 by omega, List.range'_1_concat, List.map_append]
  simp only [List.map_cons, List.map_nil]
  rw [show m + 1 + (k - m) = k + 1 by omega]
theorem ahF_length (nd : Nat → Nat) (m k : Nat) : (ahF nd m k).length = k - m := by simp [ahF]
structure SetS (first n m : Nat) (nd pl : Nat → Nat) (Bs : Nat → BookS) (x : Int) : Prop where
  pos : ∀ k, m ≤ k → k < 2 → 1 ≤ nd (k + 1) ∧ nd (k + 1) ≤ n
  zero : ∀ k, m ≤ k → k < 2 → (Bs k).view (first + nd (k + 1)) = zer 64
  new : ∀ k, m ≤ k → k < 2 → (nd (k + 1) : Int) ∉ ahF nd m k
  all : ∀ k, m ≤ k → k < 2 → ∀ j : Nat, 1 ≤ j → j < nd (k + 1) → (Bs k).view (first + j) ≠ zer 64 ∨ (j : Int) ∈ ahF nd m k
  may : ∀ k, m ≤ k → k < 2 → WrOk (Bs k) (first + nd k) (putNF ((Bs k).view (first + nd k)) (pl k) (nd (k + 1)))
  next : ∀ k, m ≤ k → k < 2 → Bs (k + 1) = (Bs k).wrote (first + nd k) (putNF ((Bs k).view (first + nd k)) (pl k) (nd (k + 1)))
  last : WrOk (Bs 2) (first + nd 2) (putNF ((Bs 2).view (first + nd 2)) (pl 2) x)
def NSet (N : Nat → Prop) (lv va : Value) : Nat → Prop := fun q => N q ∨ lv.ownBlock = some q ∨ va.ownBlock = some q
def SetI (w0 : World) (tb : Nat) (N : Nat → Prop) (bb first n : Nat) (B : BookS) (nd pl : Nat → Nat) (k : Nat) (lv va : Value) (al : List Int) (wx : World) : Prop :=
  HolI 201 wx tb (NSet N lv va) bb first n B ∧ WayI wx lv nd pl (k + 1) ∧ wx.ownsRow 0 3 1 va al.length (al.map (Value.int .i64)) ∧ Keeps N w0 wx ∧ ∀ q, lv.ownBlock = some q ∨ va.ownBlock = some q → ¬ N q
section
variable {w0 : World} {tb : Nat} {N : Nat → Prop} {bb first n : Nat} {B : BookS} {nd pl : Nat → Nat} {k : Nat} {lv va : Value} {al : List Int}
theorem SetI.below {wx wy : World} (h : SetI w0 tb N bb first n B nd pl k lv va al wx) (hb : Below wx.heap.size wx wy) : SetI w0 tb N bb first n B nd pl k lv va al wy :=
  ⟨h.1.below hb, h.2.1.below hb, Xz5 h.2.2.1 (fun q hq => hb.block q (h.2.2.1.lt q hq).2), h.2.2.2.1.trans (Keeps.of_below hb), h.2.2.2.2⟩
theorem SetI.wrote {B' : BookS} {wx wy : World} (h : SetI w0 tb N bb first n B nd pl k lv va al wx)
    (hh : HolI 201 wy tb (NSet N lv va) bb first n B') (hk : Keeps (NSet N lv va) wx wy) : SetI w0 tb N bb first n B' nd pl k lv va al wy :=
  ⟨hh, hk.own h.2.1 (fun q hq => .inr (.inl hq)), hk.own h.2.2.1 (fun q hq => .inr (.inr hq)), h.2.2.2.1.trans (hk.mono (fun q _ hq => .inl hq)), h.2.2.2.2⟩
theorem SetI.grewA {va' : Value} {al' : List Int} {wx wy wz : World} (h : SetI w0 tb N bb first n B nd pl k lv va al wx) (hb : Below wx.heap.size wx wy)
    (hg : wy.grownBy wz va.ownBlock) (ho : wz.ownsRow 0 3 1 va' al'.length (al'.map (Value.int .i64))) (hw : ∀ q, va'.ownBlock = some q → va.ownBlock = some q ∨ wy.heap.size ≤ q) : SetI w0 tb N bb first n B nd pl k lv va' al' wz := by
  have h1 := h.below hb
  have hN := h.2.2.2.2
  have hne : ∀ q, va.ownBlock = some q → lv.ownBlock ≠ some q := fun q hq e => by
    rcases own_apart h1.2.1 h1.2.2.1 (by decide) with hx | hx
    · rw [hx] at e; cases e
    · exact hx (e.trans hq.symm)
  refine ⟨h1.1.grow (Keeps.of_grown hg (fun q hq hn => hn (.inr (.inr hq)))) (fun i hi => ?_), Xz5 h1.2.1 (fun q hq => hg.block q (h1.2.1.lt q hq).2 (fun e => hne q e.symm hq)), ho, h1.2.2.2.1.trans (Keeps.of_grown hg (fun q hq hn => hN q (.inr hq) hn)), fun q hq hn => ?_⟩
  · rcases hi with hi | hi | hi
    · exact ⟨Nat.lt_of_lt_of_le (h1.1.N_lt i (.inl hi)) hg.size, .inl (.inl hi)⟩
    · exact ⟨Nat.lt_of_lt_of_le (h1.1.N_lt i (.inr (.inl hi))) hg.size, .inl (.inr (.inl hi))⟩
    · refine ⟨(ho.lt i hi).2, ?_⟩
      rcases hw i hi with q | q
      · exact .inl (.inr (.inr q))
      · exact .inr q
  · rcases hq with hq | hq
    · exact hN q (.inl hq) hn
    · rcases hw q hq with hq | hq
      · exact hN q (.inr hq) hn
      · have := h1.1.N_lt q (.inl hn); omega
theorem SetI.grewL {lv' : Value} {wx wy wz : World} (h : SetI w0 tb N bb first n B nd pl k lv va al wx) (hb : Below wx.heap.size wx wy)
    (hg : wy.grownBy wz lv.ownBlock) (ho : WayI wz lv' nd pl (k + 1 + 1)) (hw : ∀ q, lv'.ownBlock = some q → lv.ownBlock = some q ∨ wy.heap.size ≤ q) : SetI w0 tb N bb first n B nd pl (k + 1) lv' va al wz := by
  have h1 := h.below hb
  have hN := h.2.2.2.2
  have hne : ∀ q, va.ownBlock = some q → lv.ownBlock ≠ some q := fun q hq e => by
    rcases own_apart h1.2.1 h1.2.2.1 (by decide) with hx | hx
    · rw [hx] at e; cases e
    · exact hx (e.trans hq.symm)
  refine ⟨h1.1.grow (Keeps.of_grown hg (fun q hq hn => hn (.inr (.inl hq)))) (fun i hi => ?_), ho, Xz5 h1.2.2.1 (fun q hq => hg.block q (h1.2.2.1.lt q hq).2 (fun e => hne q hq e.symm)), h1.2.2.2.1.trans (Keeps.of_grown hg (fun q hq hn => hN q (.inl hq) hn)), fun q hq hn => ?_⟩
  · rcases hi with hi | hi | hi
    · exact ⟨Nat.lt_of_lt_of_le (h1.1.N_lt i (.inl hi)) hg.size, .inl (.inl hi)⟩
    · refine ⟨(ho.lt i hi).2, ?_⟩
      rcases hw i hi with q | q
      · exact .inl (.inr (.inl q))
      · exact .inr q
    · exact ⟨Nat.lt_of_lt_of_le (h1.1.N_lt i (.inr (.inr hi))) hg.size, .inl (.inr (.inr hi))⟩
  · rcases hq with hq | hq
    · rcases hw q hq with hq | hq
      · exact hN q (.inl hq) hn
      · have := h1.1.N_lt q (.inl hn); omega
    · exact hN q (.inr hq) hn
end
def lenV : Value → Nat
  | .slice _ n _ => n
  | _ => 0
open Go.RowKit Go.Maps
theorem SetS.le {B : BookS} {first n lun block m : Nat} {nd pl : Nat → Nat} {Bs : Nat → BookS} {x : Int} (h : SetS first n m nd pl Bs x) (hw : WayS B first n lun block m nd pl) (k : Nat) (hk : k ≤ 2) : nd k ≤ n := by
  by_cases q : k ≤ m
  · exact hw.le k q
  · have := (h.pos (k - 1) (by omega) (by omega)).2
    rwa [show k - 1 + 1 = k by omega] at this
theorem SetS.ns {first n m : Nat} {nd pl : Nat → Nat} {Bs : Nat → BookS} {x : Int} (h : SetS first n m nd pl Bs x) (k : Nat) (hk : k ≤ 2) (hm : m ≤ k) : (Bs k).n = (Bs m).n := by
  rcases Nat.lt_or_ge m k with hlt | hge
  · obtain ⟨j, rfl⟩ : ∃ j, k = j + 1 := ⟨k - 1, by omega⟩
    rw [h.next j (by omega) (by omega), BookS.wrote_n]
    exact h.ns j (by omega) (by omega)
  · rw [show k = m by omega]
termination_by k
set_option maxRecDepth 100000 in
set_option maxHeartbeats 8000000 in
theorem rset_any (tb : Nat) (N : Nat → Prop) (bb first n : Nat) (B : BookS) (lun block m : Nat) (hl : lun < 4) (hbl : block < 256) (hn : first + n < B.n) (nd pl : Nat → Nat) (hw : WayS B first n lun block m nd pl) (Bs : Nat → BookS) (x : Int) (hx : 1 ≤ x ∧ x < 16777216)
    (hs : SetS first n m nd pl Bs x) (hBm : Bs m = B) (w : World) (h : HolI 201 w tb N bb first n B) :
    Calls Tryz.prog 40 #[.pointer (some ⟨tb, 0, none⟩), .int .i64 (lun : Int), .int .i64 (block : Int), .int .i64 x] w fun e w' => e = .returned .nilIface ∧ HolI 201 w' tb N bb first n ((Bs 2).wrote (first + nd 2) (putNF ((Bs 2).view (first + nd 2)) (pl 2) x)) ∧ Keeps N w w' := by
  have hS := sound_ok tb lun block ⟨by omega, by omega⟩ ⟨by omega, by omega⟩ w
  have hY := way_any tb N bb first n B lun block m hl hbl hn nd pl hw w h
  have HT := hZ h
  have hn2 := h.2.1.isOk.n.2
  have HS := hZ hs
  have hm2 := hw.hm
  have HLE := hZ (fun k hk => hs.le hw k hk)
  have HNS : Hid (∀ k, k ≤ 2 → m ≤ k → (Bs k).n = B.n) := hZ (fun k hk hm => by rw [hs.ns k hk hm, hBm])
  have HPL := hZ (hw.pl_lt hl)
  have HP1 := hZ hw.pl1
  have HP2 := hZ hw.pl2
  have HBM := hZ hBm
  obtain ⟨i0, hi0', hz0, hz1, hz2⟩ := info_parts info_pair
  have HI := hZ (And.intro hi0' (And.intro hz0 (And.intro hz1 hz2)))
  obtain ⟨j0, hi0', hz0, hz1, hz2⟩ := info_parts info_int
  have HJ := hZ (And.intro hi0' (And.intro hz0 (And.intro hz1 hz2)))
  obtain ⟨B9, hB9⟩ : ∃ b, (Bs 2).wrote (first + nd 2) (putNF ((Bs 2).view (first + nd 2)) (pl 2) x) = b := ⟨_, rfl⟩
  rw [hB9]
  have HB9 := hZ hB9
  clear h hw hs hBm hi0' hz0 hz1 hz2 hB9
  have HX : Hid (0 ≤ x ∧ x < 16777216) := hZ ⟨by omega, hx.2⟩
  have d0 : decide (x < 0) = false := by simp; omega
  have d1 : decide (16777216 ≤ x) = false := by simp; omega
  have d2 : (x == 0) = false := by simp; omega
  clear hx
  go_enter Tryz.func40, Tryz.ntmps40
  go_wp2_with fail
  refine hS.mono ?_
  clear hS
  rintro e w2 ⟨rfl, rfl⟩
  try dsimp only
  go_wp2_with fail
  refine hY.mono ?_
  clear hY
  rintro e w2 ⟨⟨g, c, rfl, hg, hY⟩, hb⟩
  have HY : Hid (SetI w tb N bb first n B nd pl m (.slice (some ⟨g, 0, none⟩) (m + 1) c) (.slice none 0 0) [] w2) := hZ (by
    have hlt := Zz0 HT.out.1
    refine ⟨HT.out.keep hb (fun i hi => ?_), hY, World.ownsRow_nil _ _ _ _, Keeps.of_below hb, fun q hq hn => ?_⟩
    · rcases hi with hi | hi | hi
      · exact ⟨Nat.lt_of_lt_of_le (HT.out.N_lt i hi) hb.size, .inl hi⟩
      · simp only [Value.ownBlock, Option.some.injEq] at hi; subst hi; exact ⟨(hY.lt g rfl).2, .inr hg⟩
      · simp [Value.ownBlock] at hi
    · rcases hq with hq | hq
      · simp only [Value.ownBlock, Option.some.injEq] at hq; subst hq; have := HT.out.N_lt g hn; omega
      · simp [Value.ownBlock] at hq)
  clear hY hb hg
  try dsimp only
  go_wp2_with fail
  go_loopw [10, 12] (fun lv av wr => ∃ k al, m ≤ k ∧ k ≤ 2 ∧ (∃ g c : Nat, lv = .slice (some ⟨g, 0, none⟩) (k + 1) c) ∧ (∃ a c, av = .slice a (List.length al) c) ∧ Hid (al = ahF nd m k) ∧ Hid (SetI w tb N bb first n (Bs k) nd pl k lv av al wr)) (fun lv _ _ => 4 - lenV lv)
  case atStart => exact ⟨m, [], Nat.le_refl _, hm2, ⟨g, c, rfl⟩, ⟨none, 0, rfl⟩, hZ (ahF_self nd m).symm, hZ (by rw [HBM.out]; exact HY.out)⟩
  case round =>
    clear HY
    obtain ⟨k, al, hmk, hk2, ⟨g, c, rfl⟩, ⟨a, ca, rfl⟩, HAL, HK⟩ := hrel
    by_cases hk : k = 2
    · subst hk
      have HR := hZ (HK.out.2.1.range 2 (by omega))
      have hle := HLE.out 2 (Nat.le_refl _)
      have hpl := HPL.out 2 (Nat.le_refl _)
      have hW := fwrite_any tb (NSet N (.slice (some ⟨g, 0, none⟩) (2 + 1) c) (.slice a al.length ca)) bb first n (Bs 2) (nd 2) (pl 2) (by rw [HNS.out 2 (Nat.le_refl _) hmk]; omega) hpl x HX.out (HS.out.last) wr HK.out.1
      rw [HB9.out] at hW
      generalize nd 2 = nd2 at hW HR
      generalize pl 2 = pl2 at hW HR
      go_wp2_with (refine Xzd rfl (.tmp 96) rfl g 4 nd2 pl2 rfl HR.out ?_)
      refine hW.mono ?_
      clear hW HR
      rintro e w3 ⟨rfl, hH, hk3⟩
      have H3 := hZ (HK.out.wrote hH hk3)
      clear hH hk3
      try dsimp only
      go_wp2_with fail
      refine (Qzc _ w3).mono ?_
      rintro e w4 ⟨rfl, rfl⟩
      try dsimp only
      go_wp2_with fail
      go_ret
      exact ⟨rfl, H3.out.1.keep (Below.refl _ _) (fun q hq => ⟨H3.out.1.N_lt q (.inl hq), .inl (.inl hq)⟩), H3.out.2.2.2.1⟩
    · have hali : al.length ≤ 2 := by rw [HAL.out, ahF_length]; omega
      rcases (show k = 0 ∨ k = 1 by omega) with rfl | rfl
      · have HPN : Hid (pl (0 + 1) = block / 16 % 16) := hZ (by simpa using HP1.out)
        have HNXT := hZ (HS.out.next 0 hmk (by omega))
        have hpos := HS.out.pos 0 hmk (by omega)
        have hO := other_any tb (NSet N (.slice (some ⟨g, 0, none⟩) (0 + 1) c) (.slice a al.length ca)) bb first n (Bs 0) (by rw [HNS.out 0 (by omega) hmk]; exact hn) (nd (0 + 1)) hpos al (by omega) a ca (HS.out.zero 0 hmk (by omega)) (by rw [HAL.out]; exact HS.out.new 0 hmk (by omega)) (by rw [HAL.out]; exact HS.out.all 0 hmk (by omega)) wr HK.out.1 (Wzb.of_own HK.out.2.2.1)
        have hW := hZ (fun (va : Value) wx (hh : HolI 201 wx tb (NSet N (.slice (some ⟨g, 0, none⟩) (0 + 1) c) va) bb first n (Bs 0)) => fwrite_any tb (NSet N (.slice (some ⟨g, 0, none⟩) (0 + 1) c) va) bb first n (Bs 0) (nd 0) (pl 0) (by rw [HNS.out 0 (by omega) hmk]; have := HLE.out 0 (by omega); omega) (HPL.out 0 (by omega)) (nd (0 + 1) : Int) ⟨by omega, by omega⟩ (HS.out.may 0 hmk (by omega)) wx hh)
        rw [← HNXT.out] at hW
        have HALN : Hid (ahF nd m (0 + 1) = al ++ [(nd (0 + 1) : Int)]) := hZ (by rw [ahF_succ nd m 0 hmk, HAL.out])
        have HFL : Hid (fl2 nd pl (0 + 1 + 1) = fl2 nd pl (0 + 1) ++ [.int .i64 (nd (0 + 1) : Int), .int .i64 (pl (0 + 1) : Int)]) := hZ rfl
        simp only [Nat.zero_add, Nat.reduceAdd] at hO hW HALN HFL hpos HNXT
        obtain ⟨ndk, hnd⟩ : ∃ x, nd 0 = x := ⟨_, rfl⟩
        obtain ⟨plk, hpl⟩ : ∃ x, pl 0 = x := ⟨_, rfl⟩
        obtain ⟨nd1, hnd1⟩ : ∃ x, nd (0 + 1) = x := ⟨_, rfl⟩
        simp only [Nat.zero_add, Nat.reduceAdd] at hnd1
        rw [hnd, hpl] at hW
        have HND := hZ hnd
        have HPLK := hZ hpl
        have HN1 := hZ hnd1
        rw [hnd1] at hW hO HALN HFL hpos
        clear hnd hpl hnd1 HNXT
        obtain ⟨hp1, hp2⟩ := hpos
        have e4 : (nd1 : Int) ≤ 2048 := by omega
        have e5 : (1 : Int) ≤ nd1 := by omega
        go_wp2_with fail
        refine hO.mono ?_
        clear hO
        rintro e w3 ⟨rfl, hb3⟩
        have H3 := hZ (HK.out.below hb3)
        clear hb3 HK
        try dsimp only
        repeat ((fail_if_success (with_reducible refine Kz1 66 rfl ?_)); (first | go_values | go_skip | go_guarded | go_step | go_upon))
        have hb4 : ∀ o : Obj, Below w3.heap.size w3 (w3.alloc o) := fun o => bZ
        refine Xz0 (fun wx => Hid (SrcIs wx (.slice (some ⟨w3.heap.size, 0, none⟩) 1 1) 1 1 [.int .i64 (nd1 : Int)] ∧ SetI w tb N bb first n (Bs 0) nd pl 0 (.slice (some ⟨g, 0, none⟩) (0 + 1) c) (.slice a al.length ca) al wx)) (hZ ⟨Xz9 w3 [.int .i64 (nd1 : Int)] 3 1 rfl (by intro u hu; simp at hu; subst hu; rfl), H3.out.below (hb4 _)⟩) ?_
        clear hb4 H3
        generalize w3.heap.size = b65
        intro w4 H4
        refine Xz6 rfl (.tmp 63) (.tmp 65) 33 rfl 3 j0 _ 1 8 Tryz.underlying33 HJ.out.1 HJ.out.2.1 HJ.out.2.2.1 HJ.out.2.2.2 rfl (by decide) (.slice a al.length ca) al.length (al.map (Value.int .i64)) rfl H4.out.2.2.2.1 (.slice (some ⟨b65, 0, none⟩) 1 1) 1 [.int .i64 (nd1 : Int)] rfl H4.out.1 (by unfold maxLen; omega) (by omega) ?_
        intro v5 w5 hown hgrow hwh
        obtain ⟨a5, c5, rfl⟩ := Kz3 hown
        have H5 : Hid (SetI w tb N bb first n (Bs 0) nd pl 0 (.slice (some ⟨g, 0, none⟩) (0 + 1) c) (.slice a5 (al.length + 1) c5) (al ++ [(nd1 : Int)]) w5) := hZ (H4.out.2.grewA (Below.refl _ _) hgrow (by simpa using hown) hwh)
        clear hown hgrow hwh H4
        simp only [Act.put, qs0, qs1, qs2]
        have HR : Hid (w5.rangeAt g (0 * 2) [.int .i64 (ndk : Int), .int .i64 (plk : Int)]) := hZ (by
          have h := H5.out.2.1.range 0 (by omega)
          rw [HND.out, HPLK.out] at h
          exact h)
        repeat ((fail_if_success (with_reducible refine Kz1 74 rfl ?_)); (first | (first | (refine Xzd rfl (.tmp 71) rfl g (0 * 2) ndk plk rfl HR.out ?_) | (refine Kzi rfl (.tmp 15) (.tmp 72) rfl w5.heap.size ndk plk 0 0 rfl rfl (heap_alloc_new w5 _) ?_)) | go_values | go_skip | go_guarded | go_step | go_upon))
        have hbx : ∀ o : Obj, Below w5.heap.size w5 ((w5.alloc o).setRow w5.heap.size #[.int .i64 (ndk : Int), .int .i64 (plk : Int)]) := fun o => below_setRow (bZ) (Nat.le_refl _) _
        refine Xz0 (fun wx => Hid (wx.rangeAt w5.heap.size 0 [.int .i64 (ndk : Int), .int .i64 (plk : Int)] ∧ SetI w tb N bb first n (Bs 0) nd pl 0 (.slice (some ⟨g, 0, none⟩) (0 + 1) c) (.slice a5 (al.length + 1) c5) (al ++ [(nd1 : Int)]) wx)) (hZ ⟨pair_range (setRow_heap _ _ _ _ _ (0, 0) (heap_alloc_new w5 _)), H5.out.below (hbx _)⟩) ?_
        clear hbx H5 HR
        generalize w5.heap.size = b15
        intro w6 H6
        go_wp2_with (refine Xzd rfl (.tmp 15) rfl b15 0 ndk plk rfl H6.out.1 ?_)
        refine (hW.out _ w6 H6.out.2.1).mono ?_
        clear hW
        rintro e w7 ⟨rfl, hH, hk7⟩
        have H7 := hZ (H6.out.2.wrote hH hk7)
        clear hH hk7 H6
        try dsimp only
        repeat ((fail_if_success (with_reducible refine Kz1 92 rfl ?_)); (first | go_values | go_skip | go_guarded | go_step | go_upon))
        rw [(pair_and block hbl).1]
        refine Kz5 rfl 119 123 (.tmp 91) rfl i0 _ Tryz.underlying119 HI.out.1 HI.out.2.1 2 HI.out.2.2.1 (by decide) (by decide) (.agg #[.int .i64 (nd1 : Int), .int .i64 ((block / 16 % 16 : Nat) : Int)]) rfl #[.int .i64 (nd1 : Int), .int .i64 ((block / 16 % 16 : Nat) : Int)] rfl rfl ?_
        have hb7 : ∀ o : Obj, Below w7.heap.size w7 (w7.alloc o) := fun o => bZ
        refine Xz0 (fun wx => Hid (SrcIs wx (.slice (some ⟨w7.heap.size, 0, none⟩) 1 1) 1 2 [.int .i64 (nd1 : Int), .int .i64 ((block / 16 % 16 : Nat) : Int)] ∧ SetI w tb N bb first n (Bs (0 + 1)) nd pl 0 (.slice (some ⟨g, 0, none⟩) (0 + 1) c) (.slice a5 (al.length + 1) c5) (al ++ [(nd1 : Int)]) wx)) (hZ ⟨Xz9 w7 [.int .i64 (nd1 : Int), .int .i64 ((block / 16 % 16 : Nat) : Int)] 123 2 rfl (by intro u hu; simp at hu; rcases hu with rfl | rfl <;> rfl), H7.out.below (hb7 _)⟩) ?_
        clear hb7 H7
        generalize w7.heap.size = b92
        intro w8 H8
        refine Xz6 rfl (.tmp 85) (.tmp 92) 119 rfl 123 i0 _ 2 16 Tryz.underlying119 HI.out.1 HI.out.2.1 HI.out.2.2.1 HI.out.2.2.2 rfl (by decide) (.slice (some ⟨g, 0, none⟩) (0 + 1) c) (0 + 1) (fl2 nd pl (0 + 1)) rfl H8.out.2.2.1 (.slice (some ⟨b92, 0, none⟩) 1 1) 1 [.int .i64 (nd1 : Int), .int .i64 ((block / 16 % 16 : Nat) : Int)] rfl H8.out.1 (by unfold maxLen; omega) (by omega) ?_
        intro v9 w9 hown hgrow hwh
        have hway : WayI w9 v9 nd pl (0 + 1 + 1) := by
          unfold WayI
          rw [HFL.out, HPN.out]
          exact hown
        have H9 := hZ (H8.out.2.grewL (Below.refl _ _) hgrow hway hwh)
        obtain ⟨g9, c9, rfl, hg9⟩ := hway.at (by omega)
        clear hown hgrow hwh hway H8
        simp only [Act.put, qs0, qs1, qs2]
        go_wp2_with fail
        have hlen : (al ++ [(nd1 : Int)]).length = al.length + 1 := by simp
        refine ⟨⟨0 + 1, al ++ [(nd1 : Int)], by omega, by omega, ⟨g9, c9, ?_⟩, ⟨a5, c5, ?_⟩, hZ HALN.out.symm, ?_⟩, ?_⟩
        · with_reducible rfl
        · rw [hlen]
        · exact H9
        · show 4 - (0 + 1 + 1) < 4 - (0 + 1)
          omega
      · have HPN : Hid (pl (1 + 1) = block % 16) := hZ (by simpa using HP2.out)
        have HNXT := hZ (HS.out.next 1 hmk (by omega))
        have hpos := HS.out.pos 1 hmk (by omega)
        have hO := other_any tb (NSet N (.slice (some ⟨g, 0, none⟩) (1 + 1) c) (.slice a al.length ca)) bb first n (Bs 1) (by rw [HNS.out 1 (by omega) hmk]; exact hn) (nd (1 + 1)) hpos al (by omega) a ca (HS.out.zero 1 hmk (by omega)) (by rw [HAL.out]; exact HS.out.new 1 hmk (by omega)) (by rw [HAL.out]; exact HS.out.all 1 hmk (by omega)) wr HK.out.1 (Wzb.of_own HK.out.2.2.1)
        have hW := hZ (fun (va : Value) wx (hh : HolI 201 wx tb (NSet N (.slice (some ⟨g, 0, none⟩) (1 + 1) c) va) bb first n (Bs 1)) => fwrite_any tb (NSet N (.slice (some ⟨g, 0, none⟩) (1 + 1) c) va) bb first n (Bs 1) (nd 1) (pl 1) (by rw [HNS.out 1 (by omega) hmk]; have := HLE.out 1 (by omega); omega) (HPL.out 1 (by omega)) (nd (1 + 1) : Int) ⟨by omega, by omega⟩ (HS.out.may 1 hmk (by omega)) wx hh)
        rw [← HNXT.out] at hW
        have HALN : Hid (ahF nd m (1 + 1) = al ++ [(nd (1 + 1) : Int)]) := hZ (by rw [ahF_succ nd m 1 hmk, HAL.out])
        have HFL : Hid (fl2 nd pl (1 + 1 + 1) = fl2 nd pl (1 + 1) ++ [.int .i64 (nd (1 + 1) : Int), .int .i64 (pl (1 + 1) : Int)]) := hZ rfl
        simp only [Nat.zero_add, Nat.reduceAdd] at hO hW HALN HFL hpos HNXT
        obtain ⟨ndk, hnd⟩ : ∃ x, nd 1 = x := ⟨_, rfl⟩
        obtain ⟨plk, hpl⟩ : ∃ x, pl 1 = x := ⟨_, rfl⟩
        obtain ⟨nd1, hnd1⟩ : ∃ x, nd (1 + 1) = x := ⟨_, rfl⟩
        simp only [Nat.zero_add, Nat.reduceAdd] at hnd1
        rw [hnd, hpl] at hW
        have HND := hZ hnd
        have HPLK := hZ hpl
        have HN1 := hZ hnd1
        rw [hnd1] at hW hO HALN HFL hpos
        clear hnd hpl hnd1 HNXT
        obtain ⟨hp1, hp2⟩ := hpos
        have e4 : (nd1 : Int) ≤ 2048 := by omega
        have e5 : (1 : Int) ≤ nd1 := by omega
        go_wp2_with fail
        refine hO.mono ?_
        clear hO
        rintro e w3 ⟨rfl, hb3⟩
        have H3 := hZ (HK.out.below hb3)
        clear hb3 HK
        try dsimp only
        repeat ((fail_if_success (with_reducible refine Kz1 66 rfl ?_)); (first | go_values | go_skip | go_guarded | go_step | go_upon))
        have hb4 : ∀ o : Obj, Below w3.heap.size w3 (w3.alloc o) := fun o => bZ
        refine Xz0 (fun wx => Hid (SrcIs wx (.slice (some ⟨w3.heap.size, 0, none⟩) 1 1) 1 1 [.int .i64 (nd1 : Int)] ∧ SetI w tb N bb first n (Bs 1) nd pl 1 (.slice (some ⟨g, 0, none⟩) (1 + 1) c) (.slice a al.length ca) al wx)) (hZ ⟨Xz9 w3 [.int .i64 (nd1 : Int)] 3 1 rfl (by intro u hu; simp at hu; subst hu; rfl), H3.out.below (hb4 _)⟩) ?_
        clear hb4 H3
        generalize w3.heap.size = b65
        intro w4 H4
        refine Xz6 rfl (.tmp 63) (.tmp 65) 33 rfl 3 j0 _ 1 8 Tryz.underlying33 HJ.out.1 HJ.out.2.1 HJ.out.2.2.1 HJ.out.2.2.2 rfl (by decide) (.slice a al.length ca) al.length (al.map (Value.int .i64)) rfl H4.out.2.2.2.1 (.slice (some ⟨b65, 0, none⟩) 1 1) 1 [.int .i64 (nd1 : Int)] rfl H4.out.1 (by unfold maxLen; omega) (by omega) ?_
        intro v5 w5 hown hgrow hwh
        obtain ⟨a5, c5, rfl⟩ := Kz3 hown
        have H5 : Hid (SetI w tb N bb first n (Bs 1) nd pl 1 (.slice (some ⟨g, 0, none⟩) (1 + 1) c) (.slice a5 (al.length + 1) c5) (al ++ [(nd1 : Int)]) w5) := hZ (H4.out.2.grewA (Below.refl _ _) hgrow (by simpa using hown) hwh)
        clear hown hgrow hwh H4
        simp only [Act.put, qs0, qs1, qs2]
        have HR : Hid (w5.rangeAt g (1 * 2) [.int .i64 (ndk : Int), .int .i64 (plk : Int)]) := hZ (by
          have h := H5.out.2.1.range 1 (by omega)
          rw [HND.out, HPLK.out] at h
          exact h)
        repeat ((fail_if_success (with_reducible refine Kz1 74 rfl ?_)); (first | (first | (refine Xzd rfl (.tmp 71) rfl g (1 * 2) ndk plk rfl HR.out ?_) | (refine Kzi rfl (.tmp 15) (.tmp 72) rfl w5.heap.size ndk plk 0 0 rfl rfl (heap_alloc_new w5 _) ?_)) | go_values | go_skip | go_guarded | go_step | go_upon))
        have hbx : ∀ o : Obj, Below w5.heap.size w5 ((w5.alloc o).setRow w5.heap.size #[.int .i64 (ndk : Int), .int .i64 (plk : Int)]) := fun o => below_setRow (bZ) (Nat.le_refl _) _
        refine Xz0 (fun wx => Hid (wx.rangeAt w5.heap.size 0 [.int .i64 (ndk : Int), .int .i64 (plk : Int)] ∧ SetI w tb N bb first n (Bs 1) nd pl 1 (.slice (some ⟨g, 0, none⟩) (1 + 1) c) (.slice a5 (al.length + 1) c5) (al ++ [(nd1 : Int)]) wx)) (hZ ⟨pair_range (setRow_heap _ _ _ _ _ (0, 0) (heap_alloc_new w5 _)), H5.out.below (hbx _)⟩) ?_
        clear hbx H5 HR
        generalize w5.heap.size = b15
        intro w6 H6
        go_wp2_with (refine Xzd rfl (.tmp 15) rfl b15 0 ndk plk rfl H6.out.1 ?_)
        refine (hW.out _ w6 H6.out.2.1).mono ?_
        clear hW
        rintro e w7 ⟨rfl, hH, hk7⟩
        have H7 := hZ (H6.out.2.wrote hH hk7)
        clear hH hk7 H6
        try dsimp only
        repeat ((fail_if_success (with_reducible refine Kz1 92 rfl ?_)); (first | go_values | go_skip | go_guarded | go_step | go_upon))
        rw [(pair_and block hbl).2]
        refine Kz5 rfl 119 123 (.tmp 91) rfl i0 _ Tryz.underlying119 HI.out.1 HI.out.2.1 2 HI.out.2.2.1 (by decide) (by decide) (.agg #[.int .i64 (nd1 : Int), .int .i64 ((block % 16 : Nat) : Int)]) rfl #[.int .i64 (nd1 : Int), .int .i64 ((block % 16 : Nat) : Int)] rfl rfl ?_
        have hb7 : ∀ o : Obj, Below w7.heap.size w7 (w7.alloc o) := fun o => bZ
        refine Xz0 (fun wx => Hid (SrcIs wx (.slice (some ⟨w7.heap.size, 0, none⟩) 1 1) 1 2 [.int .i64 (nd1 : Int), .int .i64 ((block % 16 : Nat) : Int)] ∧ SetI w tb N bb first n (Bs (1 + 1)) nd pl 1 (.slice (some ⟨g, 0, none⟩) (1 + 1) c) (.slice a5 (al.length + 1) c5) (al ++ [(nd1 : Int)]) wx)) (hZ ⟨Xz9 w7 [.int .i64 (nd1 : Int), .int .i64 ((block % 16 : Nat) : Int)] 123 2 rfl (by intro u hu; simp at hu; rcases hu with rfl | rfl <;> rfl), H7.out.below (hb7 _)⟩) ?_
        clear hb7 H7
        generalize w7.heap.size = b92
        intro w8 H8
        refine Xz6 rfl (.tmp 85) (.tmp 92) 119 rfl 123 i0 _ 2 16 Tryz.underlying119 HI.out.1 HI.out.2.1 HI.out.2.2.1 HI.out.2.2.2 rfl (by decide) (.slice (some ⟨g, 0, none⟩) (1 + 1) c) (1 + 1) (fl2 nd pl (1 + 1)) rfl H8.out.2.2.1 (.slice (some ⟨b92, 0, none⟩) 1 1) 1 [.int .i64 (nd1 : Int), .int .i64 ((block % 16 : Nat) : Int)] rfl H8.out.1 (by unfold maxLen; omega) (by omega) ?_
        intro v9 w9 hown hgrow hwh
        have hway : WayI w9 v9 nd pl (1 + 1 + 1) := by
          unfold WayI
          rw [HFL.out, HPN.out]
          exact hown
        have H9 := hZ (H8.out.2.grewL (Below.refl _ _) hgrow hway hwh)
        obtain ⟨g9, c9, rfl, hg9⟩ := hway.at (by omega)
        clear hown hgrow hwh hway H8
        simp only [Act.put, qs0, qs1, qs2]
        go_wp2_with fail
        have hlen : (al ++ [(nd1 : Int)]).length = al.length + 1 := by simp
        refine ⟨⟨1 + 1, al ++ [(nd1 : Int)], by omega, by omega, ⟨g9, c9, ?_⟩, ⟨a5, c5, ?_⟩, hZ HALN.out.symm, ?_⟩, ?_⟩
        · with_reducible rfl
        · rw [hlen]
        · exact H9
        · show 4 - (1 + 1 + 1) < 4 - (1 + 1)
          omega
end Go.Proofs.YtajmcplanlibnaaGreatDoor
