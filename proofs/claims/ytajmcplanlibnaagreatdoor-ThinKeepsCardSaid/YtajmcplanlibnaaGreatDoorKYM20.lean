/- A depot: the state of a slot is set. A depot: a block is put. A depot: a block is got, dropped; slots are counted. A depot: a live block is got. -/
import Derived.Test.YtajmcplanlibnaaGreatDoorKYM6
import Derived.Lib.SliceRun
import Derived.Test.YtajmcplanlibnaaGreatDoorKYUg
import Derived.Test.YtajmcplanlibnaaGreatDoorKYA0
set_option linter.unusedSimpArgs false
set_option linter.unusedVariables false
set_option linter.unnecessarySimpa false
namespace Go.Proofs.YtajmcplanlibnaaGreatDoor
open Go.RowKit Go.Maps
def deadF (g : List Int) : Bool := (g.take 4).all fun s => decide (s ≠ 1)
def setDF (h : List Int) (k : Nat) (s : Int) : List Int := if deadF (h.set k s) = true then List.replicate 4 0 ++ (h.set k s).drop 4 else h.set k s
theorem setDF_ok {h : List Int} (hp : PgOk h) (k : Nat) (s : Int) (hs : 0 ≤ s ∧ s < 256) : PgOk (setDF h k s) := by
  have h1 : PgOk (h.set k s) := by
    refine ⟨by simp [hp.1], fun y hy => ?_⟩
    rcases List.mem_or_eq_of_mem_set hy with hy | rfl
    · exact hp.2 y hy
    · exact hs
  unfold setDF
  split
  · refine ⟨by simp [hp.1], fun y hy => ?_⟩
    rcases List.mem_append.1 hy with hy | hy
    · rw [List.eq_of_mem_replicate hy]; decide
    · exact h1.2 y (List.mem_of_mem_drop hy)
  · exact h1
theorem all_snoc (l : List Int) (f : Int → Bool) (j : Nat) (hj : j < l.length) : (l.take (j + 1)).all f = ((l.take j).all f && f l[j]) := by
  rw [List.take_succ_eq_append_getElem hj, List.all_append]
  simp
theorem wpList_clear_page {ops : Array Oper} {rest : List Oper} {o : Oper} {a : Act} {w : World} {Q : Exit → Act → World → Prop} (hg : o.guard = none) (x : Operand) (ho : o.op = .call { callee := .builtin .clear, args := #[x], argTypes := #[118] })
    (b c : Nat) (p : List Int) (hx : a.eval x = .slice (some ⟨b, 0, none⟩) 4 c) (hb : w.heap[b]? = some (.cells (v8a p) 37)) (hp : p.length = 64)
    (h : ∀ w', w'.heap[b]? = some (.cells (v8a (List.replicate 4 0 ++ p.drop 4)) 37) → w.grownBy w' (some b) → wpList Tryz.prog ops Q rest (a.put o.dst (.tuple #[])) w') : wpList Tryz.prog ops Q (o :: rest) a w := by
  have hc : ∀ j, j < 4 → (w.cell? ⟨b, 0 + j, none⟩).isSome = true ∧ w.frozen? ⟨b, 0 + j, none⟩ = false := fun j hj => by
    obtain ⟨c0, f0⟩ := Qz6 hb (0 + j) (by omega)
    exact ⟨by rw [c0]; rfl, f0⟩
  have hrun := Go.Lib.run_clear_slice (P := Tryz.prog) w 118 5 o.type (.int .u8 0) Tryz.underlying118 (fun w => by kernel_rfl) rfl rfl b 0 4 c (by decide) (fun j hj => (hc j hj).1) (fun j hj => (hc j hj).2)
  refine wpList_plain hg fun K' hK' => ?_
  unfold Oper.wp
  simp [execOp, ho, resolve, invoke, builtin, hx, hrun, Result.andThen]
  refine hK' _ _ (h _ ?_ (Jz7 b _ 0 w))
  have h1 := Qzb (b := b) (o := 0) (T := 37) (vs := List.replicate 4 (.int .u8 0)) (w := w) (cs := v8 p) (by simpa [v8a] using hb) (by simp [v8, hp])
  show (w.setCells b 0 (List.replicate 4 (.int .u8 0))).heap[b]? = _
  rw [h1]
  simp [v8a, v8, List.map_drop]
def FdS (tb b9 : Nat) (cs : Array Value) (p : List Int) (wx : World) : Prop := wx.heap[tb]? = some (.cells cs 215) ∧ wx.heap[b9]? = some (.cells (v8a p) 37)
set_option maxRecDepth 100000 in
set_option maxHeartbeats 4000000 in
theorem dset_any (tb : Nat) (N : Nat → Prop) (bb first n : Nat) (B : BookS) (slot : Nat) (hs : slot < n * 4) (hn : first + n * 5 ≤ B.n) (s : Int) (hsb : 0 ≤ s ∧ s < 256)
    (hc : WrOk B (first + slot / 4 * 5) (setDF (B.view (first + slot / 4 * 5)) (slot % 4) s)) (w : World) (h : HolI 215 w tb N bb first n B) :
    Calls Tryz.prog 114 #[.pointer (some ⟨tb, 0, none⟩), .int .i64 (slot : Int), .int .u8 s] w fun e w' => e = .returned .nilIface ∧ HolI 215 w' tb N bb first n (B.wrote (first + slot / 4 * 5) (setDF (B.view (first + slot / 4 * 5)) (slot % 4) s)) ∧ Keeps N w w' := by
  have HT := hZ h
  have hok := h.2.1.isOk
  have hn2 := hok.n.2
  have HC := hZ hc
  have hq : first + slot / 4 * 5 < B.n := by omega
  have HPK0 : Hid (PgOk (B.view (first + slot / 4 * 5))) := hZ (BookS.view_ok hok _ hq)
  have HPK : Hid (PgOk (setDF (B.view (first + slot / 4 * 5)) (slot % 4) s)) := hZ (setDF_ok HPK0.out (slot % 4) s hsb)
  have hp := dhead_any tb N bb first n B (slot / 4) hq w h
  obtain ⟨pg, hpg⟩ : ∃ pg, B.view (first + slot / 4 * 5) = pg := ⟨_, rfl⟩
  rw [hpg] at HC HPK0 HPK hp ⊢
  obtain ⟨pq, hpq⟩ : ∃ pq, setDF pg (slot % 4) s = pq := ⟨_, rfl⟩
  have HPQ := hZ hpq
  rw [hpq] at HC HPK ⊢
  have HPG := hZ hpg
  have hs0 : (0 : Int) ≤ slot := by omega
  have hf0 : (0 : Int) ≤ first := by omega
  have hf1 : (first : Int) + (slot : Int) / 4 * 5 < 2048 := by omega
  have hp64 := HPK0.out.1
  have HWB := hZ (fun (N' : Nat → Prop) (wy : World) (hy : BookI wy bb N' B) => Qz8 bb N' B (first + slot / 4 * 5) pq hq HPK.out HC.out wy hy)
  obtain ⟨sb0, sb1⟩ := hsb
  clear h hok hc hpg hpq hq hs
  rw [show ((slot / 4 : Nat) : Int) = (slot : Int) / 4 by omega] at hp
  go_enter Tryz.func114, Tryz.ntmps114
  go_wp2_with fail
  refine hp.mono ?_
  clear hp
  rintro e w2 ⟨rfl, hb2⟩
  try dsimp only
  repeat ((fail_if_success (with_reducible refine Kz1 24 rfl ?_)); (first | (refine Wz2 rfl (.tmp 9) (.tmp 22) rfl w2.heap.size pg (zer 64) rfl rfl (heap_alloc_new w2 _) hp64 rfl ?_) | go_values | go_skip | go_guarded | go_step | go_upon))
  have hbx : ∀ o : Obj, Below w2.heap.size w2 ((w2.alloc o).setRow w2.heap.size (v8a pg)) := fun o => below_setRow (bZ) (Nat.le_refl _) _
  have hb9 : w.heap.size ≤ w2.heap.size := hb2.size
  refine Xz0 (fun wx => Hid (wx.heap[w2.heap.size]? = some (.cells (v8a pg) 37) ∧ Below w.heap.size w wx)) (hZ ⟨setRow_heap _ _ _ _ _ (0, 0) (heap_alloc_new w2 _), hb2.trans ((hbx _).mono hb2.size)⟩) ?_
  clear hbx hb2
  generalize w2.heap.size = b9 at hb9 ⊢
  intro w3 H3
  obtain ⟨c0, f0⟩ := Qz6 H3.out.1 (slot % 4) (by omega)
  go_wp2_with fail
  refine Kz0 (fun wx => Hid (wx.heap[b9]? = some (.cells (v8a (pg.set (slot % 4) s)) 37) ∧ Below w.heap.size w wx)) (hZ ⟨v8_set H3.out.1 _ _, Below.setCell H3.out.2 hb9 _⟩) ?_
  clear c0 f0 H3
  intro w4 H4
  obtain ⟨g, hg⟩ : ∃ g, pg.set (slot % 4) s = g := ⟨_, rfl⟩
  have hgl : g.length = 64 := by rw [← hg]; simp [hp64]
  have HQ : Hid (pq = if deadF g = true then List.replicate 4 0 ++ g.drop 4 else g) := hZ (by rw [← HPQ.out, ← hg]; rfl)
  rw [hg] at H4
  clear hg HPQ
  go_loopw [11, 32] (fun ev jv wr => ∃ j : Nat, jv = .int .i64 (j : Int) ∧ j ≤ 4 ∧ Hid (ev = .bool ((g.take j).all fun x => decide (x ≠ 1))) ∧ (∃ t, ev = .bool t) ∧ wr = w4) (fun _ jv _ => 5 - (intOf jv).toNat)
  case atStart => exact ⟨0, rfl, by omega, hZ rfl, ⟨_, rfl⟩, rfl⟩
  case round =>
    obtain ⟨j, rfl, hj, HEV, ⟨t, rfl⟩, rfl⟩ := hrel
    by_cases hlt : j < 4
    · have hj1 : (j : Int) < 4 := by omega
      obtain ⟨c0, f0⟩ := Qz6 H4.out.1 j (by omega)
      have HSN := hZ (all_snoc g (fun x => decide (x ≠ 1)) j (by omega))
      have hgd : g.getD j 0 = g[j]'(by omega) := by simp [List.getD, List.getElem?_eq_getElem (show j < g.length by omega)]
      rw [hgd] at c0
      obtain ⟨x, hx⟩ : ∃ x, g[j]'(by omega) = x := ⟨_, rfl⟩
      rw [hx] at c0 HSN
      clear hgd hx
      by_cases q : x = 1
      · subst q
        cases t <;> go_wp2_with fail
        all_goals exact ⟨⟨j + 1, by push_cast; rfl, by omega, hZ (by have h := HEV.out; simp only [Value.bool.injEq] at h; rw [HSN.out, ← h]; simp), ⟨_, rfl⟩, (by first | trivial | rfl)⟩, by simp [intOf]; omega⟩
      · cases t <;> go_wp2_with fail
        all_goals exact ⟨⟨j + 1, by push_cast; rfl, by omega, hZ (by have h := HEV.out; simp only [Value.bool.injEq] at h; rw [HSN.out, ← h]; simp [q]), ⟨_, rfl⟩, (by first | trivial | rfl)⟩, by simp [intOf]; omega⟩
    · have hj1 : ¬ ((j : Int) < 4) := by omega
      have htd : t = deadF g := by
        have h := HEV.out
        simp only [Value.bool.injEq] at h
        rw [h, show j = 4 by omega]
        rfl
      cases t with
      | true =>
        rw [if_pos htd.symm] at HQ
        clear htd HEV hlt
        go_wp2_with (refine wpList_clear_page rfl (.tmp 43) rfl b9 64 g rfl H4.out.1 hgl ?_; intro w5 h5 hg5; rw [← HQ.out] at h5; simp only [Act.put])
        have H6 : Hid (w5.heap[b9]? = some (.cells (v8a pq) 37) ∧ Below w.heap.size w w5) := hZ ⟨h5, H4.out.2.grown hg5 (by have := H4.out.2.size; omega) (fun q hq => by cases hq; exact hb9)⟩
        clear h5 hg5 H4 HQ
        have hlt5 := Zz0 H6.out.1
        have H5 : Hid (HolI 215 w5 tb (fun q => N q ∨ q = b9) bb first n B ∧ w5.heap[b9]? = some (.cells (v8a pq) 37) ∧ Keeps N w w5) := hZ ⟨HT.out.keep H6.out.2 (fun q hq => by
          rcases hq with hq | rfl
          · exact ⟨Nat.lt_of_lt_of_le (HT.out.N_lt _ hq) H6.out.2.size, .inl hq⟩
          · exact ⟨hlt5, .inr hb9⟩), H6.out.1, Keeps.of_below H6.out.2⟩
        clear H6 hlt5
        have r0 : ∀ q : SatW (FdS tb b9 (tabC bb first n) pq), q.w.cell? ⟨tb, 0, none⟩ = some (.pointer (some ⟨bb, 0, none⟩)) := fun q => (blk3 q.h.1).1
        have r1 : ∀ q : SatW (FdS tb b9 (tabC bb first n) pq), q.w.cell? ⟨tb, 1, none⟩ = some (.int .i64 (first : Int)) := fun q => (blk3 q.h.1).2.1
        have hWB := HWB.out _ w5.drew (H5.out.1.2.1.below (Below.refl _ _).drew)
        rw [show ((first + slot / 4 * 5 : Nat) : Int) = (first : Int) + (slot : Int) / 4 * 5 by omega] at hWB
        have hne : Nonempty (SatW (FdS tb b9 (tabC bb first n) pq)) := ⟨⟨_, (show FdS tb b9 (tabC bb first n) pq w5.drew from ⟨H5.out.1.1, H5.out.2.1⟩)⟩⟩
        refine Vz0 [(0, true), (1, true), (2, true), (3, true), (4, true), (5, true), (6, true), (7, true), (8, true), (9, true), (10, true), (11, true), (12, false), (13, true)] 13 (fun w' => ∃ p : SatW (FdS tb b9 (tabC bb first n) pq), w' = p.w) (by kernel_rfl) (by kernel_rfl) (fun _ _ d _ _ h => by cases d <;> exact h) (Jz3 (show FdS tb b9 (tabC bb first n) pq w5.drew from ⟨H5.out.1.1, H5.out.2.1⟩)) ?_
        (repeat (with_reducible refine mix_q ?_; simp only [qd1, qd0, qt1, qt0]; go_big_quiet_step (fail); with_reducible refine wpQuiet_nil ?_))
        with_reducible refine mix_q ?_
        simp only [qd1, qd0, qt1, qt0]
        go_big_quiet_want
        refine Zz6 (.tmp 9) rfl b9 pq rfl (fun w' hw' => by obtain ⟨q, rfl⟩ := hw'; exact q.h.2) HPK.out.1 ?_
        simp only [Act.put, qs0, qs1, qs2]
        go_big_quiet_on
        with_reducible refine wpQuiet_nil ?_
        with_reducible refine mix_a ?_; simp only [qd1, qd0, qt1, qt0]
        go_wp2_with fail
        refine hWB.mono ?_
        clear hWB HWB
        rintro e wy ⟨rfl, hby, hky⟩
        have hky' := (Keeps.drew _ w5).trans hky
        have HY : Hid (HolI 215 wy tb (fun q => N q ∨ q = b9) bb first n (B.wrote (first + slot / 4 * 5) pq) ∧ wy.heap[b9]? = some (.cells (v8a pq) 37) ∧ Keeps N w wy) := hZ ⟨⟨hky'.blk (.inr rfl) H5.out.1.1, hby, H5.out.1.2.2⟩, hky'.blk (.inl (.inr rfl)) H5.out.2.1, H5.out.2.2.trans (hky'.mono (fun k _ hk => .inl (.inl hk)))⟩
        clear hby hky hky' H5
        try dsimp only
        go_wp2_with fail
        try with_reducible refine wpList_nil ?_
        with_reducible refine Qz0 ?_
        refine ⟨fun _ => Jz3 (F := FdS tb b9 (tabC bb first n) pq) ⟨HY.out.1.1, HY.out.2.1⟩, ?_⟩
        (repeat (with_reducible refine mix_q ?_; simp only [qd1, qd0, qt1, qt0]; go_big_quiet_step (fail); with_reducible refine wpQuiet_nil ?_))
        with_reducible refine Wz1 ?_
        go_wp2_with fail
        go_ret
        refine ⟨rfl, HY.out.1.keep (Below.refl _ _) (fun q hq => ⟨HY.out.1.N_lt q (.inl hq), .inl (.inl hq)⟩), HY.out.2.2⟩
      | false =>
        rw [if_neg (by rw [← htd]; decide)] at HQ
        clear htd HEV hlt
        go_wp2_with fail
        have H6 : Hid (wr.heap[b9]? = some (.cells (v8a pq) 37) ∧ Below w.heap.size w wr) := hZ ⟨by rw [HQ.out]; exact H4.out.1, H4.out.2⟩
        clear H4 HQ
        have hlt5 := Zz0 H6.out.1
        have H5 : Hid (HolI 215 wr tb (fun q => N q ∨ q = b9) bb first n B ∧ wr.heap[b9]? = some (.cells (v8a pq) 37) ∧ Keeps N w wr) := hZ ⟨HT.out.keep H6.out.2 (fun q hq => by
          rcases hq with hq | rfl
          · exact ⟨Nat.lt_of_lt_of_le (HT.out.N_lt _ hq) H6.out.2.size, .inl hq⟩
          · exact ⟨hlt5, .inr hb9⟩), H6.out.1, Keeps.of_below H6.out.2⟩
        clear H6 hlt5
        have r0 : ∀ q : SatW (FdS tb b9 (tabC bb first n) pq), q.w.cell? ⟨tb, 0, none⟩ = some (.pointer (some ⟨bb, 0, none⟩)) := fun q => (blk3 q.h.1).1
        have r1 : ∀ q : SatW (FdS tb b9 (tabC bb first n) pq), q.w.cell? ⟨tb, 1, none⟩ = some (.int .i64 (first : Int)) := fun q => (blk3 q.h.1).2.1
        have hWB := HWB.out _ wr.drew (H5.out.1.2.1.below (Below.refl _ _).drew)
        rw [show ((first + slot / 4 * 5 : Nat) : Int) = (first : Int) + (slot : Int) / 4 * 5 by omega] at hWB
        have hne : Nonempty (SatW (FdS tb b9 (tabC bb first n) pq)) := ⟨⟨_, (show FdS tb b9 (tabC bb first n) pq wr.drew from ⟨H5.out.1.1, H5.out.2.1⟩)⟩⟩
        refine Vz0 [(0, true), (1, true), (2, true), (3, true), (4, true), (5, true), (6, true), (7, true), (8, true), (9, true), (10, true), (11, true), (12, false), (13, true)] 13 (fun w' => ∃ p : SatW (FdS tb b9 (tabC bb first n) pq), w' = p.w) (by kernel_rfl) (by kernel_rfl) (fun _ _ d _ _ h => by cases d <;> exact h) (Jz3 (show FdS tb b9 (tabC bb first n) pq wr.drew from ⟨H5.out.1.1, H5.out.2.1⟩)) ?_
        (repeat (with_reducible refine mix_q ?_; simp only [qd1, qd0, qt1, qt0]; go_big_quiet_step (fail); with_reducible refine wpQuiet_nil ?_))
        with_reducible refine mix_q ?_
        simp only [qd1, qd0, qt1, qt0]
        go_big_quiet_want
        refine Zz6 (.tmp 9) rfl b9 pq rfl (fun w' hw' => by obtain ⟨q, rfl⟩ := hw'; exact q.h.2) HPK.out.1 ?_
        simp only [Act.put, qs0, qs1, qs2]
        go_big_quiet_on
        with_reducible refine wpQuiet_nil ?_
        with_reducible refine mix_a ?_; simp only [qd1, qd0, qt1, qt0]
        go_wp2_with fail
        refine hWB.mono ?_
        clear hWB HWB
        rintro e wy ⟨rfl, hby, hky⟩
        have hky' := (Keeps.drew _ wr).trans hky
        have HY : Hid (HolI 215 wy tb (fun q => N q ∨ q = b9) bb first n (B.wrote (first + slot / 4 * 5) pq) ∧ wy.heap[b9]? = some (.cells (v8a pq) 37) ∧ Keeps N w wy) := hZ ⟨⟨hky'.blk (.inr rfl) H5.out.1.1, hby, H5.out.1.2.2⟩, hky'.blk (.inl (.inr rfl)) H5.out.2.1, H5.out.2.2.trans (hky'.mono (fun k _ hk => .inl (.inl hk)))⟩
        clear hby hky hky' H5
        try dsimp only
        go_wp2_with fail
        try with_reducible refine wpList_nil ?_
        with_reducible refine Qz0 ?_
        refine ⟨fun _ => Jz3 (F := FdS tb b9 (tabC bb first n) pq) ⟨HY.out.1.1, HY.out.2.1⟩, ?_⟩
        (repeat (with_reducible refine mix_q ?_; simp only [qd1, qd0, qt1, qt0]; go_big_quiet_step (fail); with_reducible refine wpQuiet_nil ?_))
        with_reducible refine Wz1 ?_
        go_wp2_with fail
        go_ret
        refine ⟨rfl, HY.out.1.keep (Below.refl _ _) (fun q hq => ⟨HY.out.1.N_lt q (.inl hq), .inl (.inl hq)⟩), HY.out.2.2⟩
open Go.RowKit Go.Maps
def frR (h : List Int) : Nat → Option Nat
  | 0 => none
  | r + 1 => if h.getD (3 - r) 0 = 0 then some (3 - r) else frR h r
def smR (h : List Int) : Nat → Bool
  | 0 => false
  | r + 1 => smR h r || decide (h.getD (3 - r) 0 ≠ 0)
def atV (b : Nat) : Option Nat → Int
  | none => -1
  | some k => ((b * 4 + k : Nat) : Int)
theorem frR_lt (h : List Int) : ∀ (r k : Nat), frR h r = some k → k < 4
  | 0, k, e => by cases e
  | r + 1, k, e => by
    unfold frR at e
    split at e
    · simp only [Option.some.injEq] at e; omega
    · exact frR_lt h r k e
theorem atV_range (b : Nat) (h : List Int) (r : Nat) : -1 ≤ atV b (frR h r) ∧ atV b (frR h r) < b * 4 + 4 := by
  cases q : frR h r with
  | none => exact ⟨Int.le_refl _, by unfold atV; simp only; omega⟩
  | some k => have := frR_lt h r k q; unfold atV; simp only; omega
def bestF (B : BookS) (first : Nat) (but : Int) : Nat → Int × Bool
  | 0 => (-1, false)
  | b + 1 => if (b : Int) ≠ but ∧ 0 ≤ atV b (frR (B.view (first + b * 5)) 4) ∧ ((bestF B first but b).1 < 0 ∨ smR (B.view (first + b * 5)) 4 = true ∧ (bestF B first but b).2 = false) then (atV b (frR (B.view (first + b * 5)) 4), smR (B.view (first + b * 5)) 4) else bestF B first but b
theorem bestF_range (B : BookS) (first : Nat) (but : Int) : ∀ b, -1 ≤ (bestF B first but b).1 ∧ (bestF B first but b).1 < b * 4
  | 0 => ⟨Int.le_refl _, by show (-1 : Int) < ((0 : Nat) : Int) * 4; decide⟩
  | b + 1 => by
    have ih := bestF_range B first but b
    have h := atV_range b (B.view (first + b * 5)) 4
    unfold bestF
    split
    · exact ⟨h.1, by push_cast; omega⟩
    · exact ⟨ih.1, by push_cast; omega⟩
def PuI (w : World) (b4 : Nat) (p : List Int) (wx : World) : Prop := wx.heap[b4]? = some (.cells (v8a p) 37) ∧ Below w.heap.size w wx
set_option maxRecDepth 100000 in
set_option maxHeartbeats 8000000 in
theorem dput_any (tb : Nat) (N : Nat → Prop) (bb first n : Nat) (B : BookS) (hn : first + n * 5 ≤ B.n) (p : List Int) (hp : PgOk p) (but : Int) (k : Nat) (hk : (bestF B first but n).1 = (k : Int))
    (hc : WrOk B (first + k / 4 * 5) (setDF (B.view (first + k / 4 * 5)) (k % 4) 1))
    (hc2 : WrOk (B.wrote (first + k / 4 * 5) (setDF (B.view (first + k / 4 * 5)) (k % 4) 1)) (first + k / 4 * 5 + 1 + k % 4) p) (w : World) (h : HolI 215 w tb N bb first n B) :
    Calls Tryz.prog 112 #[.pointer (some ⟨tb, 0, none⟩), .agg (v8a p), .int .i64 but] w fun e w' => e = .returned (.tuple #[.int .i64 (k : Int), .nilIface]) ∧ HolI 215 w' tb N bb first n ((B.wrote (first + k / 4 * 5) (setDF (B.view (first + k / 4 * 5)) (k % 4) 1)).wrote (first + k / 4 * 5 + 1 + k % 4) p) ∧ Keeps N w w' := by
  have HT := hZ h
  have hok := h.2.1.isOk
  have hn2 := hok.n.2
  have hkn : k < n * 4 := by have := (bestF_range B first but n).2; omega
  have HB := hZ hk
  have HR := hZ (bestF_range B first but)
  have HPV := hZ hp
  have hp64 := hp.1
  have HV : Hid (∀ i, i < n → PgOk (B.view (first + i * 5))) := hZ (fun i hi => BookS.view_ok hok _ (by omega))
  have hrp := hZ (fun wx (hb : Below w.heap.size w wx) (i : Nat) (hi : i < n) => dhead_any tb N bb first n B i (by omega) wx (HT.out.below hb))
  have hST := hZ (fun (N' : Nat → Prop) wx (hh : HolI 215 wx tb N' bb first n B) => dset_any tb N' bb first n B k hkn hn 1 (by decide) hc wx hh)
  have hB1n : (B.wrote (first + k / 4 * 5) (setDF (B.view (first + k / 4 * 5)) (k % 4) 1)).n = B.n := BookS.wrote_n _ _ _
  generalize B.wrote (first + k / 4 * 5) (setDF (B.view (first + k / 4 * 5)) (k % 4) 1) = B1 at hST hc2 hB1n ⊢
  have hDP := hZ (fun (N' : Nat → Prop) wx (hh : HolI 215 wx tb N' bb first n B1) => dpage_any tb N' bb first n B1 k (by rw [hB1n]; omega) wx hh)
  have HWB := hZ (fun (N' : Nat → Prop) (wy : World) (hy : BookI wy bb N' B1) => Qz8 bb N' B1 (first + k / 4 * 5 + 1 + k % 4) p (by rw [hB1n]; omega) HPV.out hc2 wy hy)
  obtain ⟨pgi, hpgi⟩ : ∃ pgi, first + k / 4 * 5 + 1 + k % 4 = pgi := ⟨_, rfl⟩
  rw [hpgi] at hDP HWB ⊢
  clear h hok hk hp hc hc2 hB1n hpgi
  have hb0 : ∀ o : Obj, Below w.heap.size w (w.alloc o) := fun o => bZ
  go_enter Tryz.func112, Tryz.ntmps112
  repeat ((fail_if_success (with_reducible refine Vz1 "depot.go:73" rfl ?_)); (first | go_values | go_skip | go_guarded | go_step | go_upon))
  refine Xz0 (fun wx => Hid (PuI w w.heap.size p wx)) (hZ ⟨heap_alloc_new w _, hb0 _⟩) ?_
  clear hb0
  intro w1 H1
  have hb4 : w.heap.size ≤ w.heap.size := Nat.le_refl _
  generalize hb4e : w.heap.size = b4 at H1 hb4
  have HB4 := hZ hb4e
  clear hb4e
  obtain ⟨z0, z1, z2⟩ := blk3 ((HT.out.below H1.out.2).1)
  go_wp2_with fail
  clear z0 z1 z2
  go_loopw [8, 9, 26] (fun bv gv iv wr => ∃ (i : Nat) (x : Int) (y : Bool), iv = .int .i64 (i : Int) ∧ i ≤ n ∧ bv = .int .i64 x ∧ gv = .bool y ∧ Hid (bestF B first but i = (x, y)) ∧ Hid (PuI w b4 p wr)) (fun _ _ iv _ => n + 1 - (intOf iv).toNat)
  case atStart => exact ⟨0, -1, false, rfl, by omega, rfl, rfl, hZ rfl, H1⟩
  case round =>
    clear H1
    obtain ⟨i, x, y, rfl, hi, rfl, rfl, HXY, HP⟩ := hrel
    by_cases hlt : i < n
    · have hi1 : (i : Int) < n := by omega
      have hi2 : (n : Int) < 2048 := by omega
      have hNX : Hid (bestF B first but (i + 1) = if (i : Int) ≠ but ∧ 0 ≤ atV i (frR (B.view (first + i * 5)) 4) ∧ (x < 0 ∨ smR (B.view (first + i * 5)) 4 = true ∧ y = false) then (atV i (frR (B.view (first + i * 5)) 4), smR (B.view (first + i * 5)) 4) else (x, y)) := hZ (by rw [bestF, HXY.out])
      have hp := hrp.out wr HP.out.2 i hlt
      have HPK := hZ (HV.out i hlt)
      generalize B.view (first + i * 5) = pg at hp HPK hNX
      have hq64 := HPK.out.1
      go_wp2_with fail
      refine hp.mono ?_
      clear hp
      rintro e w2 ⟨rfl, hb2⟩
      have H2 : Hid (PuI w b4 p w2) := hZ ⟨(hb2.block _ (Zz0 HP.out.1)).trans HP.out.1, HP.out.2.trans (hb2.mono HP.out.2.size)⟩
      clear hb2 HP
      try dsimp only
      repeat ((fail_if_success (with_reducible refine Kz1 35 rfl ?_)); (first | (refine Wz2 rfl (.tmp 11) (.tmp 33) rfl w2.heap.size pg (zer 64) rfl rfl (heap_alloc_new w2 _) hq64 rfl ?_) | go_values | go_skip | go_guarded | go_step | go_upon))
      have hbx : ∀ o : Obj, Below w2.heap.size w2 ((w2.alloc o).setRow w2.heap.size (v8a pg)) := fun o => below_setRow (bZ) (Nat.le_refl _) _
      refine Xz0 (fun wx => Hid (wx.heap[w2.heap.size]? = some (.cells (v8a pg) 37) ∧ PuI w b4 p wx)) (hZ ⟨setRow_heap _ _ _ _ _ (0, 0) (heap_alloc_new w2 _), ((hbx _).block _ (Zz0 H2.out.1)).trans H2.out.1, H2.out.2.trans ((hbx _).mono H2.out.2.size)⟩) ?_
      clear hbx H2
      generalize w2.heap.size = b11
      intro w3 H3
      go_wp2_with fail
      go_loopw [13, 14, 15] (fun av sv kv wr' => ∃ (k' : Nat) (A : Int) (S : Bool), k' ≤ 4 ∧ kv = .int .i64 ((k' : Int) - 1) ∧ av = .int .i64 A ∧ sv = .bool S ∧ Hid (A = atV i (frR pg (4 - k'))) ∧ Hid (S = smR pg (4 - k')) ∧ wr' = w3) (fun _ _ kv _ => (intOf kv + 1).toNat)
      case atStart => exact ⟨4, -1, false, by omega, rfl, rfl, rfl, hZ rfl, hZ rfl, rfl⟩
      case round =>
        obtain ⟨k', A, S, hk4, rfl, rfl, rfl, HA, HS, rfl⟩ := hrel
        rcases (show k' = 0 ∨ ∃ j, k' = j + 1 by cases k' <;> simp) with rfl | ⟨j, rfl⟩
        · have HA4 : Hid (A = atV i (frR pg 4)) := HA
          have HS4 : Hid (S = smR pg 4) := HS
          have hAr := atV_range i pg 4
          rw [← HA4.out] at hAr
          rw [← HA4.out, ← HS4.out] at hNX
          obtain ⟨a0, a1⟩ := hAr
          have H4 := hZ H3.out.2
          clear HA HS HA4 HS4 H3
          by_cases q1 : (i : Int) = but
          · rw [if_neg (fun h => h.1 q1)] at hNX
            go_wp2_with fail
            exact ⟨⟨i + 1, x, y, by push_cast; rw [q1], by omega, rfl, rfl, hNX, H4⟩, by simp [intOf]; omega⟩
          by_cases q2 : A < 0
          · rw [if_neg (fun h => by have := h.2.1; omega)] at hNX
            go_wp2_with fail
            exact ⟨⟨i + 1, x, y, by push_cast; rfl, by omega, rfl, rfl, hNX, H4⟩, by simp [intOf]; omega⟩
          have q2' : 0 ≤ A := by omega
          by_cases q3 : x < 0
          · rw [if_pos ⟨q1, q2', .inl q3⟩] at hNX
            go_wp2_with fail
            exact ⟨⟨i + 1, A, S, by push_cast; rfl, by omega, rfl, rfl, hNX, H4⟩, by simp [intOf]; omega⟩
          have q3' : 0 ≤ x := by omega
          cases S with
          | false =>
            rw [if_neg (fun h => by rcases h.2.2 with h | h; exact q3 h; exact absurd h.1 (by decide))] at hNX
            go_wp2_with fail
            exact ⟨⟨i + 1, x, y, by push_cast; rfl, by omega, rfl, rfl, hNX, H4⟩, by simp [intOf]; omega⟩
          | true =>
            cases y with
            | true =>
              rw [if_neg (fun h => by rcases h.2.2 with h | h; exact q3 h; exact absurd h.2 (by decide))] at hNX
              go_wp2_with fail
              exact ⟨⟨i + 1, x, true, by push_cast; rfl, by omega, rfl, rfl, hNX, H4⟩, by simp [intOf]; omega⟩
            | false =>
              rw [if_pos ⟨q1, q2', .inr ⟨rfl, rfl⟩⟩] at hNX
              go_wp2_with fail
              exact ⟨⟨i + 1, A, true, by push_cast; rfl, by omega, rfl, rfl, hNX, H4⟩, by simp [intOf]; omega⟩
        · have hj : ((j + 1 : Nat) : Int) - 1 = (j : Int) := by omega
          rw [hj]
          have hj3 : j < 4 := by omega
          have hj3' : (j : Int) < 4 := by omega
          obtain ⟨c0, f0⟩ := Qz6 H3.out.1 j (by omega)
          have e4 : 4 - j = (4 - (j + 1)) + 1 := by omega
          have e3 : 3 - (4 - (j + 1)) = j := by omega
          have HFN : Hid (frR pg (4 - j) = if pg.getD j 0 = 0 then some j else frR pg (4 - (j + 1))) := hZ (by rw [e4, frR, e3])
          have HSN : Hid (smR pg (4 - j) = (S || decide (pg.getD j 0 ≠ 0))) := hZ (by rw [e4, smR, e3, HS.out])
          obtain ⟨b, hb⟩ : ∃ b, pg.getD j 0 = b := ⟨_, rfl⟩
          rw [hb] at c0 HFN HSN
          clear hb e4 e3 hj
          by_cases q : b = 0
          · subst q
            rw [if_pos rfl] at HFN
            cases S <;> go_wp2_with fail
            all_goals exact ⟨⟨j, (i : Int) * 4 + j, _, by omega, by first | rfl | (congr 1; omega), rfl, rfl, hZ (by rw [HFN.out]; unfold atV; push_cast; rfl), hZ (by rw [HSN.out]; simp), (by first | trivial | rfl)⟩, by first | (simp [intOf]; done) | (simp [intOf]; omega)⟩
          · rw [if_neg q] at HFN
            cases S <;> go_wp2_with fail
            all_goals exact ⟨⟨j, A, _, by omega, by first | rfl | (congr 1; omega), rfl, rfl, hZ (by rw [HFN.out, HA.out]), hZ (by rw [HSN.out]; simp [q]), (by first | trivial | rfl)⟩, by first | (simp [intOf]; done) | (simp [intOf]; omega)⟩
    · have hin : i = n := by omega
      subst hin
      have hx : x = (k : Int) := by have h := HB.out; rw [HXY.out] at h; exact h
      subst hx
      have hk0 : (0 : Int) ≤ k := by omega
      have hlt4 := Zz0 HP.out.1
      have H5 : Hid (HolI 215 wr tb (fun q => N q ∨ q = b4) bb first i B ∧ wr.heap[b4]? = some (.cells (v8a p) 37) ∧ Keeps N w wr) := hZ ⟨HT.out.keep HP.out.2 (fun q hq => by
        rcases hq with hq | rfl
        · exact ⟨Nat.lt_of_lt_of_le (HT.out.N_lt _ hq) HP.out.2.size, .inl hq⟩
        · exact ⟨hlt4, .inr (by rw [HB4.out]; exact Nat.le_refl _)⟩), HP.out.1, Keeps.of_below HP.out.2⟩
      clear HP hlt4
      go_wp2_with fail
      refine (hST.out _ wr H5.out.1).mono ?_
      rintro e w5 ⟨rfl, hH5, hk5⟩
      have H6 : Hid (HolI 215 w5 tb (fun q => N q ∨ q = b4) bb first i B1 ∧ w5.heap[b4]? = some (.cells (v8a p) 37) ∧ Keeps N w w5) := hZ ⟨hH5, hk5.blk (.inr rfl) H5.out.2.1, H5.out.2.2.trans (hk5.mono (fun q _ hq => .inl hq))⟩
      clear hH5 hk5 H5
      try dsimp only
      go_wp2_with fail
      have r0 : ∀ q : SatW (FdS tb b4 (tabC bb first i) p), q.w.cell? ⟨tb, 0, none⟩ = some (.pointer (some ⟨bb, 0, none⟩)) := fun q => (blk3 q.h.1).1
      have hDP' := hDP.out _ w5.drew (H6.out.1.below (Below.refl _ _).drew)
      have hWB := HWB.out _ w5.drew (H6.out.1.2.1.below (Below.refl _ _).drew)
      clear hDP HWB hST
      have hne : Nonempty (SatW (FdS tb b4 (tabC bb first i) p)) := ⟨⟨_, (show FdS tb b4 (tabC bb first i) p w5.drew from ⟨H6.out.1.1, H6.out.2.1⟩)⟩⟩
      refine Vz0 [(0, true), (1, true), (2, true), (3, true), (4, true), (5, true), (7, true), (6, false), (8, false), (9, true)] 9 (fun w' => ∃ p : SatW (FdS tb b4 (tabC bb first i) p), w' = p.w) (by kernel_rfl) (by kernel_rfl) (fun _ _ d _ _ h => by cases d <;> exact h) (Jz3 (show FdS tb b4 (tabC bb first i) p w5.drew from ⟨H6.out.1.1, H6.out.2.1⟩)) ?_
      (repeat (with_reducible refine mix_q ?_; simp only [qd1, qd0, qt1, qt0]; go_big_quiet_step (fail); with_reducible refine wpQuiet_nil ?_))
      with_reducible refine mix_q ?_
      simp only [qd1, qd0, qt1, qt0]
      go_big_quiet_want
      refine Zz6 (.tmp 4) rfl b4 p rfl (fun w' hw' => by obtain ⟨q, rfl⟩ := hw'; exact q.h.2) hp64 ?_
      simp only [Act.put, qs0, qs1, qs2]
      go_big_quiet_on
      with_reducible refine wpQuiet_nil ?_
      with_reducible refine mix_a ?_; simp only [qd1, qd0, qt1, qt0]
      go_wp2_with fail
      refine hDP'.mono ?_
      rintro e wz ⟨rfl, rfl⟩
      try dsimp only
      go_wp2_with fail
      try with_reducible refine wpList_nil ?_
      with_reducible refine Qz0 ?_
      refine ⟨fun _ => Jz3 (F := FdS tb b4 (tabC bb first i) p) ⟨H6.out.1.1, H6.out.2.1⟩, ?_⟩
      (repeat (with_reducible refine mix_q ?_; simp only [qd1, qd0, qt1, qt0]; go_big_quiet_step (fail); with_reducible refine wpQuiet_nil ?_))
      with_reducible refine mix_a ?_; simp only [qd1, qd0, qt1, qt0]
      go_wp2_with fail
      refine hWB.mono ?_
      clear hWB hDP'
      rintro e wy ⟨rfl, hby, hky⟩
      have hky' := (Keeps.drew _ w5).trans hky
      have HY : Hid (HolI 215 wy tb (fun q => N q ∨ q = b4) bb first i (B1.wrote pgi p) ∧ wy.heap[b4]? = some (.cells (v8a p) 37) ∧ Keeps N w wy) := hZ ⟨⟨hky'.blk (.inr rfl) H6.out.1.1, hby, H6.out.1.2.2⟩, hky'.blk (.inl (.inr rfl)) H6.out.2.1, H6.out.2.2.trans (hky'.mono (fun q _ hq => .inl (.inl hq)))⟩
      clear hby hky hky' H6
      try dsimp only
      go_wp2_with fail
      try with_reducible refine wpList_nil ?_
      with_reducible refine Qz0 ?_
      refine ⟨fun _ => Jz3 (F := FdS tb b4 (tabC bb first i) p) ⟨HY.out.1.1, HY.out.2.1⟩, ?_⟩
      (repeat (with_reducible refine mix_q ?_; simp only [qd1, qd0, qt1, qt0]; go_big_quiet_step (fail); with_reducible refine wpQuiet_nil ?_))
      with_reducible refine Wz1 ?_
      go_wp2_with fail
      refine (Qzc _ wy).mono ?_
      rintro e wz ⟨rfl, rfl⟩
      try dsimp only
      go_wp2_with fail
      go_ret2
      refine ⟨rfl, HY.out.1.keep (Below.refl _ _) (fun q hq => ⟨HY.out.1.N_lt q (.inl hq), .inl (.inl hq)⟩), HY.out.2.2⟩
open Go.RowKit Go.Maps
set_option maxRecDepth 100000 in
theorem dPut_any (tb : Nat) (N : Nat → Prop) (bb first n : Nat) (B : BookS) (hn : first + n * 5 ≤ B.n) (p : List Int) (hp : PgOk p) (k : Nat) (hk : (bestF B first (-1) n).1 = (k : Int))
    (hc : WrOk B (first + k / 4 * 5) (setDF (B.view (first + k / 4 * 5)) (k % 4) 1))
    (hc2 : WrOk (B.wrote (first + k / 4 * 5) (setDF (B.view (first + k / 4 * 5)) (k % 4) 1)) (first + k / 4 * 5 + 1 + k % 4) p) (w : World) (h : HolI 215 w tb N bb first n B) :
    Calls Tryz.prog 46 #[.pointer (some ⟨tb, 0, none⟩), .agg (v8a p)] w fun e w' => e = .returned (.tuple #[.int .i64 (k : Int), .nilIface]) ∧ HolI 215 w' tb N bb first n ((B.wrote (first + k / 4 * 5) (setDF (B.view (first + k / 4 * 5)) (k % 4) 1)).wrote (first + k / 4 * 5 + 1 + k % 4) p) ∧ Keeps N w w' := by
  have HP := hZ (fun wx hh => dput_any tb N bb first n B hn p hp (-1) k hk hc hc2 wx hh)
  generalize (B.wrote (first + k / 4 * 5) (setDF (B.view (first + k / 4 * 5)) (k % 4) 1)).wrote (first + k / 4 * 5 + 1 + k % 4) p = B9 at HP ⊢
  have HT := hZ h
  have hp64 := hp.1
  clear h hk hc hc2
  have hb0 : ∀ o : Obj, Below w.heap.size w (w.alloc o) := fun o => bZ
  go_enter Tryz.func46, Tryz.ntmps46
  repeat ((fail_if_success (with_reducible refine Kz1 6 rfl ?_)); (first | go_values | go_skip | go_guarded | go_step | go_upon))
  refine Xz0 (fun wx => Hid (wx.heap[w.heap.size]? = some (.cells (v8a p) 37) ∧ Below w.heap.size w wx)) (hZ ⟨heap_alloc_new w (.cells (v8a p) 37), hb0 _⟩) ?_
  intro w1 H1
  clear hb0
  go_wp2_with (refine Wz3 rfl (.tmp 3) rfl w.heap.size p rfl H1.out.1 hp64 ?_)
  refine (HP.out w1 (HT.out.below H1.out.2)).mono ?_
  rintro e w2 ⟨rfl, hh, hk⟩
  have H2 := hZ (And.intro hh ((Keeps.of_below H1.out.2).trans hk))
  clear hh hk
  try dsimp only
  go_wp2_with fail
  go_ret2
  exact ⟨rfl, H2.out.1, H2.out.2⟩
theorem blk3f {w : World} {B : Nat} {c0 c1 c2 : Value} {T : Nat} (h : w.heap[B]? = some (.cells #[c0, c1, c2] T)) : w.cell? ⟨B, 0, none⟩ = some c0 ∧ w.cell? ⟨B, 1, none⟩ = some c1 ∧ w.cell? ⟨B, 2, none⟩ = some c2 ∧ w.frozen? ⟨B, 0, none⟩ = false ∧ w.frozen? ⟨B, 1, none⟩ = false ∧ w.frozen? ⟨B, 2, none⟩ = false := by
  simp [World.cell?, World.frozen?, h]
def cntD (B : BookS) (first : Nat) (s : Int) : Nat → Nat
  | 0 => 0
  | i + 1 => cntD B first s i + (if (B.view (first + i / 4 * 5)).getD (i % 4) 0 % 3 = s then 1 else 0)
theorem cntD_le (B : BookS) (first : Nat) (s : Int) : ∀ i, cntD B first s i ≤ i
  | 0 => Nat.le_refl _
  | i + 1 => by have := cntD_le B first s i; unfold cntD; split <;> omega
def CnI (w : World) (b6 : Nat) (B : BookS) (first i : Nat) (wx : World) : Prop := wx.heap[b6]? = some (.cells #[.int .i64 (cntD B first 0 i : Nat), .int .i64 (cntD B first 1 i : Nat), .int .i64 (cntD B first 2 i : Nat)] 297) ∧ Below w.heap.size w wx
set_option maxRecDepth 100000 in
set_option maxHeartbeats 4000000 in
theorem dcount_any (tb : Nat) (N : Nat → Prop) (bb first n : Nat) (B : BookS) (hn : first + n * 5 ≤ B.n) (w : World) (h : HolI 215 w tb N bb first n B) :
    Calls Tryz.prog 103 #[.pointer (some ⟨tb, 0, none⟩)] w fun e w' => e = .returned (.tuple #[.int .i64 (cntD B first 1 (n * 4) : Nat), .int .i64 (cntD B first 2 (n * 4) : Nat), .int .i64 (cntD B first 0 (n * 4) : Nat), .nilIface]) ∧ Below w.heap.size w w' := by
  have HT := hZ h
  have hok := h.2.1.isOk
  have hn2 := hok.n.2
  have HV : Hid (∀ i, i < n * 4 → PgOk (B.view (first + i / 4 * 5))) := hZ (fun i hi => BookS.view_ok hok _ (by omega))
  have hST := hZ (fun wx (hb : Below w.heap.size w wx) (i : Nat) (hi : i < n * 4) => dstate_any tb N bb first n B i hi hn wx (HT.out.below hb))
  obtain ⟨z0, z1, z2⟩ := blk3 h.1
  clear h hok
  have hn0 : (0 : Int) ≤ n := by omega
  have hn3 : (n : Int) ≤ 2048 := by omega
  have hb0 : ∀ o : Obj, Below w.heap.size w (w.alloc o) := fun o => bZ
  go_enter Tryz.func103, Tryz.ntmps103
  repeat ((fail_if_success (with_reducible refine Vz1 "depot.go:136" rfl ?_)); (first | go_values | go_skip | go_guarded | go_step | go_upon))
  refine Xz0 (fun wx => Hid (CnI w w.heap.size B first 0 wx)) (hZ ⟨heap_alloc_new w _, hb0 _⟩) ?_
  clear hb0 z0 z1 z2
  intro w1 H1
  have hb6 : w.heap.size ≤ w.heap.size := Nat.le_refl _
  generalize hb6e : w.heap.size = b6 at H1 hb6
  have HB6 := hZ hb6e
  clear hb6e
  obtain ⟨z0, z1, z2⟩ := blk3 ((HT.out.below H1.out.2).1)
  go_wp2_with fail
  clear z0 z1 z2
  go_loopw [19] (fun iv wr => ∃ i : Nat, iv = .int .i64 (i : Int) ∧ i ≤ n * 4 ∧ Hid (CnI w b6 B first i wr)) (fun iv _ => n * 4 + 1 - (intOf iv).toNat)
  case atStart => exact ⟨0, rfl, by omega, H1⟩
  case round =>
    clear H1
    obtain ⟨i, rfl, hi, HC⟩ := hrel
    by_cases hlt : i < n * 4
    · have hi1 : (i : Int) < n * 4 := by omega
      have hi0 : (0 : Int) ≤ i := by omega
      have hs := hST.out wr HC.out.2 i hlt
      have hu := (HV.out i hlt).2.at (i % 4)
      have e0 : cntD B first 0 (i + 1) = cntD B first 0 i + (if (B.view (first + i / 4 * 5)).getD (i % 4) 0 % 3 = 0 then 1 else 0) := rfl
      have e1 : cntD B first 1 (i + 1) = cntD B first 1 i + (if (B.view (first + i / 4 * 5)).getD (i % 4) 0 % 3 = 1 then 1 else 0) := rfl
      have e2 : cntD B first 2 (i + 1) = cntD B first 2 i + (if (B.view (first + i / 4 * 5)).getD (i % 4) 0 % 3 = 2 then 1 else 0) := rfl
      have l0 := cntD_le B first 0 i
      have l1 := cntD_le B first 1 i
      have l2 := cntD_le B first 2 i
      have HX : Hid (CnI w b6 B first (i + 1) = fun wx => wx.heap[b6]? = some (.cells #[.int .i64 (cntD B first 0 (i + 1) : Nat), .int .i64 (cntD B first 1 (i + 1) : Nat), .int .i64 (cntD B first 2 (i + 1) : Nat)] 297) ∧ Below w.heap.size w wx) := hZ rfl
      have HC' : Hid (wr.heap[b6]? = some (.cells #[.int .i64 (cntD B first 0 i : Nat), .int .i64 (cntD B first 1 i : Nat), .int .i64 (cntD B first 2 i : Nat)] 297) ∧ Below w.heap.size w wr) := HC
      rw [e0, e1, e2] at HX
      clear HC e0 e1 e2
      generalize (B.view (first + i / 4 * 5)).getD (i % 4) 0 = x at hs hu HX
      generalize cntD B first 0 i = c0 at HX HC' l0
      generalize cntD B first 1 i = c1 at HX HC' l1
      generalize cntD B first 2 i = c2 at HX HC' l2
      obtain ⟨u0, u1⟩ := hu
      go_wp2_with fail
      refine hs.mono ?_
      clear hs
      rintro e w2 ⟨rfl, hb2⟩
      have H2 : Hid (w2.heap[b6]? = some (.cells #[.int .i64 (c0 : Int), .int .i64 (c1 : Int), .int .i64 (c2 : Int)] 297) ∧ Below w.heap.size w w2) := hZ ⟨(hb2.block _ (Zz0 HC'.out.1)).trans HC'.out.1, HC'.out.2.trans (hb2.mono HC'.out.2.size)⟩
      clear hb2 HC'
      obtain ⟨y0, y1, y2, g0, g1, g2⟩ := blk3f H2.out.1
      have hbs : ∀ k v, Below w.heap.size w (w2.setCell ⟨b6, k, none⟩ v) := fun k v => Below.setCell H2.out.2 (by rw [HB6.out]; exact Nat.le_refl _) _
      try dsimp only
      rcases (show x % 3 = 0 ∨ x % 3 = 1 ∨ x % 3 = 2 by omega) with q | q | q
      · rw [q] at HX
        go_wp2_with fail
        exact ⟨⟨i + 1, by push_cast; rfl, by omega, hZ (by rw [HX.out]; exact ⟨by rw [Xz3 H2.out.1]; simp, hbs _ _⟩)⟩, by simp [intOf]; omega⟩
      · rw [q] at HX
        go_wp2_with fail
        exact ⟨⟨i + 1, by push_cast; rfl, by omega, hZ (by rw [HX.out]; exact ⟨by rw [Xz3 H2.out.1]; simp, hbs _ _⟩)⟩, by simp [intOf]; omega⟩
      · rw [q] at HX
        go_wp2_with fail
        exact ⟨⟨i + 1, by push_cast; rfl, by omega, hZ (by rw [HX.out]; exact ⟨by rw [Xz3 H2.out.1]; simp, hbs _ _⟩)⟩, by simp [intOf]; omega⟩
    · have hi1 : ¬ ((i : Int) < n * 4) := by omega
      have hin : i = n * 4 := by omega
      have HIN := hZ hin
      obtain ⟨y0, y1, y2⟩ := blk3 HC.out.1
      have r0 := cell_regrown y0
      have r1 := cell_regrown y1
      have r2 := cell_regrown y2
      clear hin
      go_wp2_with fail
      go_quiet (fail)
      go_wp2_with fail
      refine bodyPost_ret (v := .tuple #[.int .i64 (cntD B first 1 i : Nat), .int .i64 (cntD B first 2 i : Nat), .int .i64 (cntD B first 0 i : Nat), .nilIface]) ?_ rfl ⟨by rw [HIN.out], Qz2 HC.out.2 _⟩
      simp [results, Tryz.results103]
open Go.RowKit Go.Maps
set_option maxRecDepth 100000 in
set_option maxHeartbeats 4000000 in
theorem dget_any (tb : Nat) (N : Nat → Prop) (bb first n : Nat) (B : BookS) (slot : Nat) (hs : slot < n * 4) (hn : first + n * 5 ≤ B.n) (hl : (B.view (first + slot / 4 * 5)).getD (slot % 4) 0 = 1) (w : World) (h : HolI 215 w tb N bb first n B) :
    Calls Tryz.prog 102 #[.pointer (some ⟨tb, 0, none⟩), .int .i64 (slot : Int)] w fun e w' => e = .returned (.tuple #[.agg (v8a (B.view (first + slot / 4 * 5 + 1 + slot % 4))), .nilIface]) ∧ Below w.heap.size w w' := by
  have HT := hZ h
  have hok := h.2.1.isOk
  have HV : Hid (PgOk (B.view (first + slot / 4 * 5 + 1 + slot % 4))) := hZ (BookS.view_ok hok _ (by omega))
  have hS := hZ (fun wx (hb : Below w.heap.size w wx) => dstate_any tb N bb first n B slot hs hn wx (HT.out.below hb))
  rw [hl] at hS
  have hDP := hZ (fun wx (hb : Below w.heap.size w wx) => dpage_any tb N bb first n B slot (by omega) wx (HT.out.below hb))
  have hRD := hZ (fun wx (hb : Below w.heap.size w wx) => Qza bb _ B (first + slot / 4 * 5 + 1 + slot % 4) (by omega) wx ((HT.out.below hb).2.1))
  obtain ⟨pgi, hpgi⟩ : ∃ x, first + slot / 4 * 5 + 1 + slot % 4 = x := ⟨_, rfl⟩
  rw [hpgi] at HV hDP hRD ⊢
  obtain ⟨pg, hpg⟩ : ∃ x, B.view pgi = x := ⟨_, rfl⟩
  rw [hpg] at HV hRD ⊢
  have hp64 := HV.out.1
  have hsz : (v8a pg).size = 64 := by simp [v8a, v8, hp64]
  have hb0 : ∀ o : Obj, Below w.heap.size w (w.alloc o) := fun o => bZ
  clear h hok hl hpgi hpg hs
  go_enter Tryz.func102, Tryz.ntmps102
  repeat ((fail_if_success (with_reducible refine Vz1 "depot.go:110" rfl ?_)); (first | go_values | go_skip | go_guarded | go_step | go_upon))
  refine Xz0 (fun wx => Hid (wx.heap[w.heap.size]? = some (.cells (v8a (zer 64)) 37) ∧ Below w.heap.size w wx)) (hZ ⟨heap_alloc_new w (.cells (v8a (zer 64)) 37), hb0 _⟩) ?_
  clear hb0
  intro w1 H1
  go_wp2_with fail
  refine (hS.out w1 H1.out.2).mono ?_
  rintro e w3 ⟨rfl, hb3⟩
  have H3 : Hid (w3.heap[w.heap.size]? = some (.cells (v8a (zer 64)) 37) ∧ Below w.heap.size w w3) := hZ ⟨(hb3.block _ (Zz0 H1.out.1)).trans H1.out.1, H1.out.2.trans (hb3.mono H1.out.2.size)⟩
  clear hb3 H1 hS
  try dsimp only
  obtain ⟨z0, z1, z2⟩ := blk3 ((HT.out.below H3.out.2).1)
  have r0 := cell_regrown z0
  have hDP3 := hZ (fun wx (hb : Below w3.heap.size w3 wx) => hDP.out wx (H3.out.2.trans (hb.mono H3.out.2.size)))
  have hRD3 := hZ (fun wx (hb : Below w3.heap.size w3 wx) => hRD.out wx (H3.out.2.trans (hb.mono H3.out.2.size)))
  clear hDP hRD z0 z1 z2
  go_wp2_with fail
  refine Jz8 (.quiet 0 (.quiet 1 (.quiet 2 (.quiet 3 (.quiet 4 (.quiet 5 (.two 6 11 (.two 7 11 (.quiet 8 (.quiet 9 (.quiet 10 (.one 11 (.one 12 (.quiet 13 .nil)))))) (.one 7 (.quiet 8 (.quiet 9 (.quiet 10 (.one 12 (.quiet 13 .nil))))))) (.one 6 (.one 7 (.quiet 8 (.quiet 9 (.quiet 10 (.one 12 (.quiet 13 .nil))))))))))))))  (fun w' => ∃ p : Regrown, w' = Go.Sort.grow (redrawn w3 p.d) p.os) (by kernel_rfl) (by kernel_rfl) (fun _ _ d _ _ h => by cases d <;> exact h) (Vz2 _) ?_
  (repeat (with_reducible refine Jz6 ?_; simp only [qd1, qd0, qt1, qt0]; go_big_quiet_step (fail); with_reducible refine wpQuiet_nil ?_))
  have hbd : Below w3.heap.size w3 w3.drew := (Below.refl _ _).drew
  apply tail_cut
  · intro TAIL
    with_reducible refine Kze ?_ ?_
    · simp only [qd1, qd0, qt1, qt0]
      go_wp2_with fail
      refine (hDP3.out w3.drew hbd).mono ?_
      rintro e wz ⟨rfl, rfl⟩
      try dsimp only
      go_wp2_with fail
      (try with_reducible refine wpList_nil ?_); with_reducible refine Qz0 ?_
      refine ⟨Jz0 hbd, ?_⟩
      with_reducible refine Kze ?_ ?_
      · simp only [qd1, qd0, qt1, qt0]
        go_wp2_with fail
        refine (hRD3.out w3.drew hbd).mono ?_
        rintro e wa ⟨rfl, hba1⟩
        have hba2 : Below w3.heap.size w3 wa := hbd.trans hba1
        try dsimp only
        go_wp2_with fail
        (try with_reducible refine wpList_nil ?_); with_reducible refine Qz0 ?_
        refine ⟨Jz0 hba2, ?_⟩
        (repeat (with_reducible refine Jz6 ?_; simp only [qd1, qd0, qt1, qt0]; go_big_quiet_step (fail); with_reducible refine wpQuiet_nil ?_))
        with_reducible refine Kz8 ?_; simp only [qd1, qd0, qt1, qt0]
        have hbo : ∀ o : Obj, Below w3.heap.size w3 (wa.alloc o) := fun o => hba2.alloc hba2.size _
        have hsa := hba2.size
        go_wp2_with fail
        (try with_reducible refine wpList_nil ?_); with_reducible refine Qz0 ?_
        refine ⟨Jz0 (hbo _), ?_⟩
        refine Xz7 (fun wx => Hid (wx.heap[wa.heap.size]? = some (.cells (v8a (zer 64)) 37) ∧ Below w3.heap.size w3 wx)) (hZ ⟨heap_alloc_new wa (.cells (v8a (zer 64)) 37), hbo _⟩) ?_
        generalize wa.heap.size = box at hsa ⊢
        intro wb HA
        revert box wb
        exact TAIL
      · simp only [qd1, qd0, qt1, qt0]
        have hbo : ∀ o : Obj, Below w3.heap.size w3 (w3.drew.alloc o) := fun o => hbd.alloc (Nat.le_refl _) _
        go_wp2_with fail
        (try with_reducible refine wpList_nil ?_); with_reducible refine Qz0 ?_
        refine ⟨Jz0 (hbo _), ?_⟩
        refine Xz7 (fun wx => Hid (wx.heap[w3.heap.size]? = some (.cells (v8a (zer 64)) 37) ∧ Below w3.heap.size w3 wx)) (hZ ⟨heap_alloc_new w3.drew (.cells (v8a (zer 64)) 37), hbo _⟩) ?_
        intro wa HA
        with_reducible refine Kz8 ?_; simp only [qd1, qd0, qt1, qt0]
        go_wp2_with fail
        refine (hRD3.out wa HA.out.2).mono ?_
        rintro e wb ⟨rfl, hbb1⟩
        have hbb2 : Below w3.heap.size w3 wb := HA.out.2.trans (hbb1.mono HA.out.2.size)
        have HB : Hid (wb.heap[w3.heap.size]? = some (.cells (v8a (zer 64)) 37) ∧ Below w3.heap.size w3 wb) := hZ ⟨(hbb1.block _ (Zz0 HA.out.1)).trans HA.out.1, hbb2⟩
        try dsimp only
        go_wp2_with fail
        (try with_reducible refine wpList_nil ?_); with_reducible refine Qz0 ?_
        refine ⟨Jz0 hbb2, ?_⟩
        (repeat (with_reducible refine Jz6 ?_; simp only [qd1, qd0, qt1, qt0]; go_big_quiet_step (fail); with_reducible refine wpQuiet_nil ?_))
        exact TAIL _ (Nat.le_refl _) wb HB
    · simp only [qd1, qd0, qt1, qt0]
      have hbo : ∀ o : Obj, Below w3.heap.size w3 (w3.drew.alloc o) := fun o => hbd.alloc (Nat.le_refl _) _
      go_wp2_with fail
      (try with_reducible refine wpList_nil ?_); with_reducible refine Qz0 ?_
      refine ⟨Jz0 (hbo _), ?_⟩
      refine Xz7 (fun wx => Hid (wx.heap[w3.heap.size]? = some (.cells (v8a (zer 64)) 37) ∧ Below w3.heap.size w3 wx)) (hZ ⟨heap_alloc_new w3.drew (.cells (v8a (zer 64)) 37), hbo _⟩) ?_
      intro wa HA
      with_reducible refine Kz8 ?_; simp only [qd1, qd0, qt1, qt0]
      go_wp2_with fail
      refine (hDP3.out wa HA.out.2).mono ?_
      rintro e wz ⟨rfl, rfl⟩
      try dsimp only
      go_wp2_with fail
      (try with_reducible refine wpList_nil ?_); with_reducible refine Qz0 ?_
      refine ⟨Jz0 HA.out.2, ?_⟩
      with_reducible refine Kz8 ?_; simp only [qd1, qd0, qt1, qt0]
      go_wp2_with fail
      refine (hRD3.out wa HA.out.2).mono ?_
      rintro e wb ⟨rfl, hbb1⟩
      have hbb2 : Below w3.heap.size w3 wb := HA.out.2.trans (hbb1.mono HA.out.2.size)
      have HB : Hid (wb.heap[w3.heap.size]? = some (.cells (v8a (zer 64)) 37) ∧ Below w3.heap.size w3 wb) := hZ ⟨(hbb1.block _ (Zz0 HA.out.1)).trans HA.out.1, hbb2⟩
      try dsimp only
      go_wp2_with fail
      (try with_reducible refine wpList_nil ?_); with_reducible refine Qz0 ?_
      refine ⟨Jz0 hbb2, ?_⟩
      (repeat (with_reducible refine Jz6 ?_; simp only [qd1, qd0, qt1, qt0]; go_big_quiet_step (fail); with_reducible refine wpQuiet_nil ?_))
      exact TAIL _ (Nat.le_refl _) wb HB
  intro box hsa wb HA
  with_reducible refine Kz8 ?_; simp only [qd1, qd0, qt1, qt0]
  refine Wz2 rfl (.tmp 8) (.tmp 33) rfl box pg (zer 64) rfl rfl HA.out.1 hp64 rfl ?_
  refine Xz0 (fun wx => Hid (wx.heap[box]? = some (.cells (v8a pg) 37) ∧ w3.heap.size ≤ box ∧ Below w3.heap.size w3 wx)) (hZ ⟨setRow_heap _ _ _ _ _ (0, 0) HA.out.1, hsa, below_setRow HA.out.2 hsa _⟩) ?_
  clear HA
  intro wc HC
  simp only [Act.put, qs0, qs1, qs2]
  (try with_reducible refine wpList_nil ?_); with_reducible refine Qz0 ?_
  refine ⟨Jz0 HC.out.2.2, ?_⟩
  (repeat (with_reducible refine Jz6 ?_; simp only [qd1, qd0, qt1, qt0]; go_big_quiet_step (fail); with_reducible refine wpQuiet_nil ?_))
  with_reducible refine plan_nil ?_
  have hl3 := Zz0 H3.out.1
  have H4 : Hid (wc.heap[box]? = some (.cells (v8a pg) 37) ∧ wc.heap[w.heap.size]? = some (.cells (v8a (zer 64)) 37) ∧ Below w.heap.size w wc) := hZ ⟨HC.out.1, (HC.out.2.2.block _ hl3).trans H3.out.1, H3.out.2.trans (HC.out.2.2.mono H3.out.2.size)⟩
  have hne : box ≠ w.heap.size := by omega
  clear HC H3 hl3 hDP3 hRD3 r0 hbd
  go_wp2_with fail
  have hR : w.heap.size < wc.heap.size := Zz0 H4.out.2.1
  refine Vz0 [(0, true), (1, true), (2, false), (3, false), (4, true)] 4 (fun w' => ∃ p : RegrownB, w' = setO (Go.Sort.grow (redrawn wc p.d) p.os) (w.heap.size) p.o) (by kernel_rfl) (by kernel_rfl) (fun _ _ d _ _ h => by cases d <;> exact h) (Kz6 hR) ?_
  with_reducible refine mix_q ?_
  simp only [qd1, qd0, qt1, qt0]
  go_big_quiet_want
  refine Zz6 (.tmp 8) rfl box pg rfl (by rintro w' ⟨q, rfl⟩; exact blkB H4.out.1 hne _ _ _) hp64 ?_
  simp only [Act.put, qs0, qs1, qs2]
  go_big_quiet_on
  with_reducible refine wpQuiet_nil ?_
  (repeat (with_reducible refine mix_q ?_; simp only [qd1, qd0, qt1, qt0]; go_big_quiet_step (fail); with_reducible refine wpQuiet_nil ?_))
  with_reducible refine mix_a ?_; simp only [qd1, qd0, qt1, qt0]
  go_wp2_with fail
  refine (Qzc _ wc.drew).mono ?_
  rintro e wz ⟨rfl, rfl⟩
  try dsimp only
  go_wp2_with fail
  try with_reducible refine wpList_nil ?_
  with_reducible refine Qz0 ?_
  refine ⟨fun _ => Qz5 hR (Zz2 (Below.refl _ _).drew _), ?_⟩
  (repeat (with_reducible refine mix_q ?_; simp only [qd1, qd0, qt1, qt0]; go_big_quiet_step (fail); with_reducible refine wpQuiet_nil ?_))
  with_reducible refine mix_a ?_; simp only [qd1, qd0, qt1, qt0]
  have hd4 : wc.drew.heap[w.heap.size]? = some (.cells (v8a (zer 64)) 37) := H4.out.2.1
  refine Wz2 rfl (.tmp 4) (.tmp 35) rfl w.heap.size pg (zer 64) rfl rfl hd4 hp64 rfl ?_
  refine Xz0 (fun wx => Hid (wx.heap[w.heap.size]? = some (.cells (v8a pg) 37) ∧ Below w.heap.size w wx ∧ wc.grownBy wx (some w.heap.size))) (hZ ⟨setRow_heap _ _ _ _ _ (0, 0) hd4, below_setRow H4.out.2.2.drew (Nat.le_refl _) _, Xz2 (Zz2 (Below.refl _ _).drew _) (Wzd wc.drew w.heap.size _)⟩) ?_
  intro w8 H8
  simp only [Act.put, qs0, qs1, qs2]
  with_reducible refine wpList_nil ?_
  with_reducible refine Qz0 ?_
  refine ⟨fun _ => Qz5 hR H8.out.2.2, ?_⟩
  (repeat (with_reducible refine mix_q ?_; simp only [qd1, qd0, qt1, qt0]; go_big_quiet_step (fail); with_reducible refine wpQuiet_nil ?_))
  with_reducible refine Wz1 ?_
  go_wp2_with fail
  refine bodyPost_ret (Vz3 Tryz.results102 _ _ w.heap.size 37 (v8a pg) (0, 0) _ rfl .nilIface rfl H8.out.1 Tryz.underlying37 rfl (by rw [hsz]; exact Zz5)) rfl ⟨rfl, H8.out.2.1⟩
open Go.RowKit Go.Maps
variable {fs : Nat}
def stD (fs : Nat) (B : BookS) (s : Nat) : Int := (B.view (fs + s / 4 * 5)).getD (s % 4) 0
def pgS (fs : Nat) (s : Nat) : Nat := fs + s / 4 * 5 + 1 + s % 4
theorem four {g : List Int} (h : g.length = 64) : ∃ a b c d t, g = a :: b :: c :: d :: t ∧ t.length = 60 := by
  match g, h with
  | a :: b :: c :: d :: t, h => exact ⟨a, b, c, d, t, rfl, by simpa using h⟩
theorem dead_iff {g : List Int} (h : g.length = 64) : deadF g = true ↔ ∀ j, j < 4 → g.getD j 0 ≠ 1 := by
  obtain ⟨a, b, c, d, t, rfl, _⟩ := four h
  simp only [deadF, List.take_succ_cons, List.take_zero, List.all_cons, List.all_nil, Bool.and_true, Bool.and_eq_true, decide_eq_true_eq]
  constructor
  · rintro ⟨h0, h1, h2, h3⟩ j hj
    rcases (show j = 0 ∨ j = 1 ∨ j = 2 ∨ j = 3 by omega) with rfl | rfl | rfl | rfl <;> simpa
  · intro h
    exact ⟨by simpa using h 0 (by omega), by simpa using h 1 (by omega), by simpa using h 2 (by omega), by simpa using h 3 (by omega)⟩
theorem set_at (h : List Int) (j : Nat) (s : Int) (i : Nat) (hj : j < h.length) : (h.set j s).getD i 0 = if i = j then s else h.getD i 0 := by
  by_cases e : i = j
  · subst e
    simp [List.getD, List.getElem?_set_self hj]
  · rw [if_neg e]
    simp [List.getD, List.getElem?_set_ne (fun e' => e e'.symm)]
theorem setDF_one {h : List Int} (hl : h.length = 64) (j : Nat) (hj : j < 4) (i : Nat) : (setDF h j 1).getD i 0 = if i = j then 1 else h.getD i 0 := by
  have hd : ¬ deadF (h.set j 1) = true := fun hd => by
    have := (dead_iff (by simp [hl])).1 hd j hj
    rw [set_at _ _ _ _ (by omega), if_pos rfl] at this
    exact this rfl
  unfold setDF
  rw [if_neg hd, set_at _ _ _ _ (by omega)]
theorem pgS_inj {s t : Nat} (h : pgS fs s = pgS fs t) : s = t := by unfold pgS at h; omega
noncomputable def putB (fs : Nat) (B : BookS) (k : Nat) (p : List Int) : BookS := (B.wrote (fs + k / 4 * 5) (setDF (B.view (fs + k / 4 * 5)) (k % 4) 1)).wrote (fs + k / 4 * 5 + 1 + k % 4) p
theorem putB_head (B : BookS) (k : Nat) (p : List Int) (b : Nat) : (putB fs B k p).view (fs + b * 5) = if b = k / 4 then setDF (B.view (fs + k / 4 * 5)) (k % 4) 1 else B.view (fs + b * 5) := by
  unfold putB
  rw [BookS.wrote_view, if_neg (by omega), BookS.wrote_view]
  by_cases h : b = k / 4
  · rw [if_pos (by omega), if_pos h]
  · rw [if_neg (by omega), if_neg h]
theorem putB_page (B : BookS) (k : Nat) (p : List Int) (s : Nat) : (putB fs B k p).view (pgS fs s) = if s = k then p else B.view (pgS fs s) := by
  unfold putB
  rw [BookS.wrote_view]
  by_cases h : s = k
  · rw [if_pos (show pgS fs s = fs + k / 4 * 5 + 1 + k % 4 by rw [h]; rfl), if_pos h]
  · rw [if_neg (show ¬ pgS fs s = fs + k / 4 * 5 + 1 + k % 4 from fun e => h (pgS_inj e)), if_neg h, BookS.wrote_view, if_neg (by unfold pgS; omega)]
theorem putB_st {B : BookS} {k : Nat} (hl : (B.view (fs + k / 4 * 5)).length = 64) (p : List Int) (s : Nat) : stD fs (putB fs B k p) s = if s = k then 1 else stD fs B s := by
  unfold stD
  rw [putB_head]
  by_cases h : s / 4 = k / 4
  · rw [if_pos h, setDF_one hl _ (by omega), h]
    by_cases e : s = k
    · rw [if_pos (by omega), if_pos e]
    · rw [if_neg (by omega), if_neg e]
  · rw [if_neg h, if_neg (fun e => h (by rw [e]))]
theorem putB_n (B : BookS) (k : Nat) (p : List Int) : (putB fs B k p).n = B.n := by unfold putB; rw [BookS.wrote_n, BookS.wrote_n]
theorem frR_spec (h : List Int) : ∀ (r t : Nat), frR h r = some t → t < 4 ∧ h.getD t 0 = 0
  | 0, t, e => by cases e
  | r + 1, t, e => by
    unfold frR at e
    split at e
    · rename_i h0
      simp only [Option.some.injEq] at e
      subst e
      exact ⟨by omega, h0⟩
    · exact frR_spec h r t e
theorem best_spec (B : BookS) (but : Int) : ∀ (n k : Nat), (bestF B fs but n).1 = (k : Int) → k < n * 4 ∧ stD fs B k = 0 ∧ ((k / 4 : Nat) : Int) ≠ but
  | 0, k, e => by
    exfalso
    have : (-1 : Int) = k := e
    omega
  | b + 1, k, e => by
    unfold bestF at e
    split at e
    · rename_i hc
      obtain ⟨h1, h2, _⟩ := hc
      cases hf : frR (B.view (fs + b * 5)) 4 with
      | none => rw [hf] at h2; exact absurd (show (0 : Int) ≤ -1 from h2) (by decide)
      | some t =>
        rw [hf] at e
        have e' : ((b * 4 + t : Nat) : Int) = k := e
        obtain ⟨t4, t0⟩ := frR_spec _ _ _ hf
        obtain rfl : k = b * 4 + t := by omega
        refine ⟨by omega, ?_, ?_⟩
        · unfold stD
          rw [show (b * 4 + t) / 4 = b by omega, show (b * 4 + t) % 4 = t by omega]
          exact t0
        · rw [show (b * 4 + t) / 4 = b by omega]; exact h1
    · have ih := best_spec B but b k e
      exact ⟨by omega, ih.2⟩
theorem frR_none (h : List Int) : ∀ r, r ≤ 4 → frR h r = none → ∀ t, 4 - r ≤ t → t < 4 → h.getD t 0 ≠ 0
  | 0, _, _, t, a, b => by omega
  | r + 1, hr, e, t, a, b => by
    unfold frR at e
    split at e
    · cases e
    · rename_i h0
      by_cases et : t = 3 - r
      · rw [et]; exact h0
      · exact frR_none h r (by omega) e t (by omega) b
theorem smR_iff (h : List Int) : ∀ r, r ≤ 4 → (smR h r = true ↔ ∃ t, 4 - r ≤ t ∧ t < 4 ∧ h.getD t 0 ≠ 0)
  | 0, _ => ⟨fun h => (by cases h), fun ⟨t, a, b, _⟩ => (by omega)⟩
  | r + 1, hr => by
    have ih := smR_iff h r (by omega)
    unfold smR
    rw [Bool.or_eq_true, ih, decide_eq_true_eq]
    constructor
    · rintro (⟨t, a, b, c⟩ | h1)
      · exact ⟨t, by omega, b, c⟩
      · exact ⟨3 - r, by omega, by omega, h1⟩
    · rintro ⟨t, a, b, c⟩
      by_cases et : t = 3 - r
      · right; rw [← et]; exact c
      · left; exact ⟨t, by omega, b, c⟩
theorem stD_box (B : BookS) (b t : Nat) (ht : t < 4) : stD fs B (b * 4 + t) = (B.view (fs + b * 5)).getD t 0 := by
  unfold stD
  rw [show (b * 4 + t) / 4 = b by omega, show (b * 4 + t) % 4 = t by omega]
theorem best_none (B : BookS) (but : Int) : ∀ n, (bestF B fs but n).1 < 0 → ∀ s, s < n * 4 → stD fs B s = 0 → ((s / 4 : Nat) : Int) = but
  | 0, _, s, hs, _ => by omega
  | b + 1, e, s, hs, h0 => by
    unfold bestF at e
    split at e
    · rename_i hc
      exact absurd hc.2.1 (by show ¬ 0 ≤ _; omega)
    · rename_i hc
      have ih := best_none B but b e
      by_cases hb : s / 4 = b
      · apply Classical.byContradiction
        intro hne
        refine hc ⟨by rw [← hb]; exact hne, ?_, .inl e⟩
        cases hf : frR (B.view (fs + b * 5)) 4 with
        | none =>
          have := frR_none _ 4 (by decide) hf (s % 4) (by omega) (by omega)
          rw [← stD_box B b (s % 4) (by omega), show b * 4 + s % 4 = s by omega] at this
          exact absurd h0 this
        | some t => show (0 : Int) ≤ ((b * 4 + t : Nat) : Int); omega
      · exact ih s (by omega) h0
theorem best_begun (B : BookS) (but : Int) : ∀ n k, (bestF B fs but n).1 = ((k : Nat) : Int) → ((bestF B fs but n).2 = true ↔ ∃ t, t < 4 ∧ stD fs B (k / 4 * 4 + t) ≠ 0) ∧
    ((bestF B fs but n).2 = false → ∀ b, b < n → (b : Int) ≠ but → (∃ t, t < 4 ∧ stD fs B (b * 4 + t) = 0) → ∀ t, t < 4 → stD fs B (b * 4 + t) = 0)
  | 0, k, e => by
    exfalso
    have : (-1 : Int) = k := e
    omega
  | b + 1, k, e => by
    have sm : ∀ b, smR (B.view (fs + b * 5)) 4 = true ↔ ∃ t, t < 4 ∧ stD fs B (b * 4 + t) ≠ 0 := fun b => by
      rw [smR_iff _ 4 (by decide)]
      constructor
      · rintro ⟨t, _, a, c⟩; exact ⟨t, a, by rw [stD_box B b t a]; exact c⟩
      · rintro ⟨t, a, c⟩; exact ⟨t, by omega, a, by rw [← stD_box B b t a]; exact c⟩
    have fre : ∀ b, (∃ t, t < 4 ∧ stD fs B (b * 4 + t) = 0) → 0 ≤ atV b (frR (B.view (fs + b * 5)) 4) := fun b ⟨t, ht, h0⟩ => by
      cases hf : frR (B.view (fs + b * 5)) 4 with
      | none =>
        have := frR_none _ 4 (by decide) hf t (by omega) ht
        rw [← stD_box B b t ht] at this
        exact absurd h0 this
      | some t => show (0 : Int) ≤ ((b * 4 + t : Nat) : Int); omega
    unfold bestF at e ⊢
    split at e
    · rename_i hc
      rw [if_pos hc]
      obtain ⟨h1, h2, h3⟩ := hc
      cases hf : frR (B.view (fs + b * 5)) 4 with
      | none => rw [hf] at h2; exact absurd (show (0 : Int) ≤ -1 from h2) (by decide)
      | some t =>
        rw [hf] at e
        have e' : ((b * 4 + t : Nat) : Int) = k := e
        obtain ⟨t4, t0⟩ := frR_spec _ _ _ hf
        obtain rfl : k = b * 4 + t := by omega
        rw [show (b * 4 + t) / 4 = b by omega]
        refine ⟨sm b, fun hs b' hb' hne hfr => ?_⟩
        have hs' : smR (B.view (fs + b * 5)) 4 = false := hs
        by_cases eb : b' = b
        · subst eb
          intro t' ht'
          apply Classical.byContradiction
          intro hn
          have := (sm b').2 ⟨t', ht', hn⟩
          rw [hs'] at this; cases this
        · rcases h3 with h3 | h3
          · obtain ⟨t', ht', h0⟩ := hfr
            have := best_none B but b h3 (b' * 4 + t') (by omega) h0
            rw [show (b' * 4 + t') / 4 = b' by omega] at this
            exact absurd this hne
          · rw [hs'] at h3; cases h3.1
    · rename_i hc
      rw [if_neg hc]
      have ih := best_begun B but b k e
      refine ⟨ih.1, fun hs b' hb' hne hfr => ?_⟩
      by_cases eb : b' = b
      · subst eb
        intro t' ht'
        apply Classical.byContradiction
        intro hn
        exact hc ⟨hne, fre b' hfr, .inr ⟨(sm b').2 ⟨t', ht', hn⟩, hs⟩⟩
      · exact ih.2 hs b' (by omega) hne hfr
theorem cntD_states (B : BookS) (v : Int) : ∀ n, cntD B fs v n = ((List.range n).filter fun s => decide (stD fs B s % 3 = v)).length
  | 0 => rfl
  | n + 1 => by
    rw [cntD, cntD_states B v n, List.range_succ, List.filter_append, List.length_append]
    show _ + (if stD fs B n % 3 = v then 1 else 0) = _
    by_cases h : stD fs B n % 3 = v
    · rw [if_pos h]; simp [h]
    · rw [if_neg h]; simp [h]
structure DpI (fs : Nat) (B : BookS) (n : Nat) (st : Nat → Int) (blk : Nat → List Int) : Prop where
  hst : ∀ s, s < n * 4 → stD fs B s = st s
  pg : ∀ s, s < n * 4 → st s = 1 → B.view (pgS fs s) = blk s
  rng : ∀ s, s < n * 4 → st s = 0 ∨ st s = 1 ∨ st s = 2
  live : ∀ s, s < n * 4 → st s = 2 → ∃ t, t / 4 = s / 4 ∧ st t = 1
theorem DpI.put {B : BookS} {n : Nat} {st : Nat → Int} {blk : Nat → List Int} (h : DpI fs B n st blk) (hok : B.ok) (hn : fs + n * 5 ≤ B.n) {k : Nat} (hk : k < n * 4) (p : List Int) :
    DpI fs (putB fs B k p) n (fun s => if s = k then 1 else st s) (fun s => if s = k then p else blk s) := by
  have hl : (B.view (fs + k / 4 * 5)).length = 64 := (BookS.view_ok hok _ (by omega)).1
  refine ⟨fun s hs => ?_, fun s hs h1 => ?_, fun s hs => ?_, fun s hs h2 => ?_⟩
  · rw [putB_st hl p s]
    by_cases e : s = k
    · rw [if_pos e, if_pos e]
    · rw [if_neg e, if_neg e, h.hst s hs]
  · rw [putB_page]
    by_cases e : s = k
    · rw [if_pos e, if_pos e]
    · rw [if_neg e] at h1
      rw [if_neg e, if_neg e, h.pg s hs h1]
  · show (if s = k then (1 : Int) else st s) = 0 ∨ _
    by_cases e : s = k
    · simp [e]
    · simp only [e, if_false]; exact h.rng s hs
  · by_cases e : s = k
    · rw [if_pos e] at h2; omega
    · rw [if_neg e] at h2
      obtain ⟨t, h3, h4⟩ := h.live s hs h2
      refine ⟨t, h3, ?_⟩
      show (if t = k then (1 : Int) else st t) = 1
      by_cases et : t = k
      · rw [if_pos et]
      · rw [if_neg et]; exact h4
theorem DpI.congr {B B' : BookS} {n : Nat} {st : Nat → Int} {blk : Nat → List Int} (h : DpI fs B n st blk) (he : ∀ i, fs ≤ i → i < fs + n * 5 → B'.view i = B.view i) : DpI fs B' n st blk := by
  refine ⟨fun s hs => ?_, fun s hs h1 => ?_, h.rng, h.live⟩
  · have := h.hst s hs
    unfold stD at this ⊢
    rw [he _ (by omega) (by omega)]; exact this
  · rw [he _ (by unfold pgS; omega) (by unfold pgS; omega)]; exact h.pg s hs h1
theorem DpI.start (B : BookS) (n : Nat) (hz : ∀ i, fs ≤ i → i < fs + n * 5 → B.view i = zer 64) (blk : Nat → List Int) : DpI fs B n (fun _ => 0) blk := by
  refine ⟨fun s hs => ?_, fun s _ h => ?_, fun _ _ => Or.inl rfl, fun s _ h => ?_⟩
  · unfold stD
    rw [hz _ (by omega) (by omega)]
    unfold zer List.getD
    rw [List.getElem?_replicate]
    split <;> rfl
  · exact absurd h (by decide)
  · exact absurd h (by decide)
def cntS (st : Nat → Int) (v : Int) (m : Nat) : Nat := ((List.range m).filter fun s => decide (st s = v)).length
theorem DpI.count {B : BookS} {n : Nat} {st : Nat → Int} {blk : Nat → List Int} (h : DpI fs B n st blk) (v : Int) (hv : v = 0 ∨ v = 1 ∨ v = 2) : cntD B fs v (n * 4) = cntS st v (n * 4) := by
  rw [cntD_states]
  unfold cntS
  congr 1
  refine List.filter_congr (fun s hs => ?_)
  have hs' := List.mem_range.1 hs
  rw [h.hst s hs', decide_eq_decide]
  rcases h.rng s hs' with q | q | q <;> rw [q] <;> omega
open Go.RowKit Go.Maps
theorem putB_ok {fs : Nat} {B : BookS} (h : B.ok) {k : Nat} (hk : fs + k / 4 * 5 + 1 + k % 4 < B.n) {p : List Int} (hp : PgOk p) : (putB fs B k p).ok := by
  unfold putB
  refine BookS.wrote_ok (BookS.wrote_ok h (by omega) (setDF_ok (BookS.view_ok h _ (by omega)) _ _ (by decide))) ?_ hp
  rw [BookS.wrote_n]; exact hk
theorem putB_shut (fs : Nat) (B : BookS) (s : Nat) (p : List Int) : (putB fs B s p).shut = B.shut := by unfold putB; rw [BookS.wrote_shut, BookS.wrote_shut]
theorem putB_cnt {fs : Nat} {B : BookS} {s : Nat} (hs : fs + s / 4 * 5 + 1 + s % 4 < B.n) (p : List Int) : (putB fs B s p).cnt ≤ B.cnt + 2 := by
  have c1 := BookS.wrote_cnt B (fs + s / 4 * 5) (setDF (B.view (fs + s / 4 * 5)) (s % 4) 1) (by omega)
  have c2 := BookS.wrote_cnt (B.wrote (fs + s / 4 * 5) (setDF (B.view (fs + s / 4 * 5)) (s % 4) 1)) (fs + s / 4 * 5 + 1 + s % 4) p (by rw [BookS.wrote_n]; omega)
  unfold putB
  omega
def MayS (st : Nat → Int) (n : Nat) (but : Int) (s : Nat) : Prop :=
  s < n * 4 ∧ st s = 0 ∧ ((s / 4 : Nat) : Int) ≠ but ∧ ((∃ t, t < 4 ∧ st (s / 4 * 4 + t) ≠ 0) ∨ ∀ b, b < n → (b : Int) ≠ but → (∃ t, t < 4 ∧ st (b * 4 + t) = 0) → ∀ t, t < 4 → st (b * 4 + t) = 0)
theorem best_may {fs n : Nat} {st : Nat → Int} {blk : Nat → List Int} {B : BookS} (h : DpI fs B n st blk) (but : Int) {s : Nat} (hs : (bestF B fs but n).1 = (s : Int)) : MayS st n but s := by
  obtain ⟨h1, h2, h3⟩ := best_spec B but n s hs
  have hst : ∀ b t, b < n → t < 4 → stD fs B (b * 4 + t) = st (b * 4 + t) := fun b t hb ht => h.hst _ (by omega)
  obtain ⟨b1, b2⟩ := best_begun B but n s hs
  refine ⟨h1, by rw [← h.hst s h1]; exact h2, h3, ?_⟩
  cases hf : (bestF B fs but n).2 with
  | true =>
    obtain ⟨t, ht, hne⟩ := b1.1 hf
    exact .inl ⟨t, ht, by rw [← hst _ t (by omega) ht]; exact hne⟩
  | false =>
    right
    intro b hb hbut ⟨t, ht, h0⟩ t' ht'
    rw [← hst b t' hb ht']
    exact b2 hf b hb hbut ⟨t, ht, by rw [hst b t hb ht]; exact h0⟩ t' ht'
section
variable {N : Nat → Prop} {tb bb n fs : Nat} {st : Nat → Int} {blk : Nat → List Int} {wx : World} {B : BookS}
theorem hd_put (hn : fs + n * 5 ≤ B.n) (hc : B.cnt ≤ 50) (p : List Int) (hp : PgOk p) (hfree : ∃ s, s < n * 4 ∧ st s = 0) (h1 : HolI 215 wx tb N bb fs n B) (h2 : DpI fs B n st blk) :
    Calls Tryz.prog 46 #[.pointer (some ⟨tb, 0, none⟩), .agg (v8a p)] wx fun e wy => (∃ s : Nat, e = .returned (.tuple #[.int .i64 (s : Int), .nilIface]) ∧ MayS st n (-1) s ∧ HolI 215 wy tb N bb fs n (putB fs B s p) ∧ DpI fs (putB fs B s p) n (fun t => if t = s then 1 else st t) (fun t => if t = s then p else blk t)) ∧ Keeps N wx wy := by
  have hr := bestF_range B fs (-1) n
  obtain ⟨s, hs⟩ : ∃ s : Nat, (bestF B fs (-1) n).1 = (s : Int) := by
    by_cases h0 : (bestF B fs (-1) n).1 < 0
    · obtain ⟨s, hs, hz⟩ := hfree
      have := best_none B (-1) n h0 s hs (by rw [h2.hst s hs]; exact hz)
      omega
    · exact ⟨(bestF B fs (-1) n).1.toNat, by omega⟩
  have hm := best_may h2 (-1) hs
  have hs4 := hm.1
  have c1 := BookS.wrote_cnt B (fs + s / 4 * 5) (setDF (B.view (fs + s / 4 * 5)) (s % 4) 1) (by omega)
  refine (dPut_any tb N bb fs n B hn p hp s hs (wrOk_le hc (by omega) _ _) (wrOk_le (k := 51) (by omega) (by omega) _ _) wx h1).mono ?_
  rintro e wy ⟨rfl, hH, hk⟩
  exact ⟨⟨s, rfl, hm, hH, h2.put h1.2.1.isOk hn hs4 p⟩, hk⟩
theorem hd_get (hn : fs + n * 5 ≤ B.n) {s : Nat} (hs : s < n * 4) (hl : st s = 1) (h1 : HolI 215 wx tb N bb fs n B) (h2 : DpI fs B n st blk) :
    Calls Tryz.prog 102 #[.pointer (some ⟨tb, 0, none⟩), .int .i64 (s : Int)] wx fun e wy => e = .returned (.tuple #[.agg (v8a (blk s)), .nilIface]) ∧ Below wx.heap.size wx wy := by
  rw [← h2.pg s hs hl]
  exact dget_any tb N bb fs n B s hs hn (by have := h2.hst s hs; unfold stD at this; rw [this]; exact hl) wx h1
theorem hd_count (hn : fs + n * 5 ≤ B.n) (h1 : HolI 215 wx tb N bb fs n B) (h2 : DpI fs B n st blk) :
    Calls Tryz.prog 103 #[.pointer (some ⟨tb, 0, none⟩)] wx fun e wy => e = .returned (.tuple #[.int .i64 (cntS st 1 (n * 4) : Nat), .int .i64 (cntS st 2 (n * 4) : Nat), .int .i64 (cntS st 0 (n * 4) : Nat), .nilIface]) ∧ Below wx.heap.size wx wy := by
  rw [← h2.count 1 (by omega), ← h2.count 2 (by omega), ← h2.count 0 (by omega)]
  exact dcount_any tb N bb fs n B hn wx h1
end
section
variable {g : Geo} {N : Nat → Prop} {tb bb n k c : Nat} {st : Nat → Int} {blk : Nat → List Int} {wx wy : World}
end
end Go.Proofs.YtajmcplanlibnaaGreatDoor
