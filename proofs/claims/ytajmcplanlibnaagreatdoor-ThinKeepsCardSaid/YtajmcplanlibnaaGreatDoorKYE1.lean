/- Prints: an entry at a place. -/
import Derived.Test.YtajmcplanlibnaaGreatDoorKYB6
set_option linter.unusedSimpArgs false
set_option linter.unusedVariables false
set_option linter.unnecessarySimpa false
namespace Go.Proofs.YtajmcplanlibnaaGreatDoor
open Go.RowKit Go.Maps
def entC (dg : List Int) (slot refs : Int) : Array Value := (v8 dg ++ ([.int .i64 slot, .int .i64 refs] : List Value)).toArray
theorem Wzg {dg : List Int} (h : dg.length = 32) (slot refs : Int) : (entC dg slot refs).size = 34 := by simp [entC, v8, h]
theorem entC_one (dg : List Int) (slot refs : Int) : (entC dg slot refs).all (·.oneCell') = true := all_oneCell_toArray (fun v hv => by
  rcases List.mem_append.1 hv with hv | hv
  · exact Kz7 dg v hv
  · simp at hv; rcases hv with rfl | rfl <;> rfl)
theorem info_ent : (Tryz.prog.info? 70).map (fun i => (i.zero, i.size, i.bytes)) = some (some (.agg (entC (zer 32) 0 0)), 34, 48) := by kernel_rfl
theorem Vza : (Tryz.prog.info? 70).map (·.size) = some 34 := by kernel_rfl
theorem ent_places : ∃ (it : TypeInfo) (z : Value) (fields : Array Field), Tryz.prog.info? 70 = some it ∧ Tryz.prog.underlying 70 = some (.struct fields) ∧ it.zero = some z ∧ fields.toList.mapM (fun f => (Tryz.prog.info? f.type).map fun i => (f.offset, i.size)) = some [(0, 32), (32, 1), (33, 1)] ∧ z.cells.toList = v8 (zer 32) ++ ([.int .i64 0, .int .i64 0] : List Value) := by
  obtain ⟨it, h1, h2, h3, h4⟩ := info_parts info_ent
  refine ⟨it, _, _, h1, Tryz.underlying70, h2, by kernel_rfl, by kernel_rfl⟩
theorem built_ent (dg : List Int) (slot refs : Int) (hl : dg.length = 32) : Tryz.prog.built 70 [(0, .agg (v8a dg)), (1, .int .i64 slot), (2, .int .i64 refs)] = some (entC dg slot refs) := by
  obtain ⟨it, z, fields, h1, h2, h3, h4, h5⟩ := ent_places
  rw [Jzb h1 h2 h3 h4]
  generalize z.cells = zc at h5 ⊢
  obtain ⟨zl⟩ := zc
  dsimp only at h5
  subst h5
  have ez : (v8 (zer 32)).length = 32 := by simp [v8, zer]
  have el : (v8 dg).length = 32 := by rw [Wz0, hl]
  have e0 : (Value.agg (v8a dg)).cells = v8a dg := rfl
  have e00 : (v8a dg).size = 32 := by simp [v8a, el]
  have e1 : ∀ i, (Value.int .i64 i).cells = #[.int .i64 i] := fun _ => rfl
  rw [Qz7 (off := 0) (by rw [e0, e00]; rfl) (by rw [e0, e00]; simp [ez]), Qz7 (off := 32) (by rw [e1]; rfl) (by rw [e0, e1, e00]; simp [v8a, ez, el]), Qz7 (off := 33) (by rw [e1]; rfl) (by rw [e0, e1, e1, e00]; simp [v8a, ez, el])]
  rw [e0, e00, e1, e1]
  simp only [Instr.fill, Option.some.injEq]
  apply Array.ext'
  simp [entC, v8a, ez, el, List.take_append, List.drop_append]
  rw [List.take_of_length_le (by omega), List.drop_of_length_le (i := 33) (by omega), List.drop_of_length_le (i := 34) (by omega)]
  rfl
def pDg (p : List Int) : List Int := (p.drop 8).take 32
def pSlot (p : List Int) : Int := bits BinOp.or IntKind.i64 (p.getD 1 0) (p.getD 2 0 * 256)
def pRefs (p : List Int) : Int := p.getD 3 0
def isEnt (p : List Int) : Bool := decide (p.getD 0 0 = 1)
def lookC (p : List Int) : Array Value := if isEnt p then entC (pDg p) (pSlot p) (pRefs p) else entC (zer 32) 0 0
theorem Wzi {p : List Int} (h : p.length = 64) : (pDg p).length = 32 := by simp [pDg, h]
def tabC (bb first n : Nat) : Array Value := #[.pointer (some ⟨bb, 0, none⟩), .int .i64 (first : Int), .int .i64 (n : Int)]
def TabI (w : World) (tb : Nat) (N : Nat → Prop) (bb first n : Nat) (B : BookS) : Prop :=
  w.heap[tb]? = some (.cells (tabC bb first n) 190) ∧ BookI w bb (fun k => N k ∨ k = tb) B ∧ ¬ N tb ∧ first + n ≤ B.n ∧ 1 ≤ n
theorem TabI.keep {w w' : World} {tb : Nat} {N N' : Nat → Prop} {bb first n : Nat} {B : BookS} (h : TabI w tb N bb first n B) (hb : Below w.heap.size w w') (hn : ∀ i, N' i → i < w'.heap.size ∧ (N i ∨ w.heap.size ≤ i)) : TabI w' tb N' bb first n B := by
  obtain ⟨h1, h2, h3, h4, h5⟩ := h
  have hl := Zz0 h1
  have hs := hb.size
  refine ⟨(hb.block _ hl).trans h1, h2.keep hb (fun i hi => ?_), fun hN => ?_, h4, h5⟩
  · rcases hi with hi | hi
    · rcases hn i hi with ⟨q1, q2 | q2⟩
      · exact ⟨q1, .inl (.inl q2)⟩
      · exact ⟨q1, .inr q2⟩
    · subst hi; exact ⟨by omega, .inl (.inr rfl)⟩
  · rcases (hn _ hN).2 with q | q
    · exact h3 q
    · omega
theorem TabI.N_lt {w : World} {tb : Nat} {N : Nat → Prop} {bb first n : Nat} {B : BookS} (h : TabI w tb N bb first n B) : ∀ k, N k → k < w.heap.size := fun k hk => h.2.1.N_lt k (.inl hk)
theorem TabI.below {w w' : World} {tb : Nat} {N : Nat → Prop} {bb first n : Nat} {B : BookS} (h : TabI w tb N bb first n B) (hb : Below w.heap.size w w') : TabI w' tb N bb first n B :=
  h.keep hb (fun k hk => ⟨Nat.lt_of_lt_of_le (h.N_lt k hk) hb.size, .inl hk⟩)
theorem blk3 {w : World} {B : Nat} {c0 c1 c2 : Value} {T : Nat} (h : w.heap[B]? = some (.cells #[c0, c1, c2] T)) : w.cell? ⟨B, 0, none⟩ = some c0 ∧ w.cell? ⟨B, 1, none⟩ = some c1 ∧ w.cell? ⟨B, 2, none⟩ = some c2 := by
  simp [World.cell?, h]
theorem results_cell2 {P : Program} {fn : Func} {p q s : Tmp} {ty : TypeId} (h : fn.results = #[.cell p ty, .tmp q, .tmp s]) (tmps : Array Value) (w : World) (g : Nat) (t : TypeId) (cs : Array Value) (fr : Nat × Nat) (d : TypeDesc)
    (hp : tmps.getD p undef = .pointer (some ⟨g, 0, none⟩)) (v u : Value) (hq : tmps.getD q undef = v) (hs : tmps.getD s undef = u) (hg : w.heap[g]? = some (.cells cs t fr))
    (hu : P.underlying ty = some d) (hd : (match d with | .struct _ | .array _ _ => true | _ => false) = true) (hi : (P.info? ty).map (·.size) = some cs.size) :
    (results fn tmps).run P w = .ok (.tuple #[.agg cs, v, u]) w := by
  have hp' : tmps[p]?.getD undef = .pointer (some ⟨g, 0, none⟩) := by simpa using hp
  have hq' : tmps[q]?.getD undef = v := by simpa using hq
  have hs' : tmps[s]?.getD undef = u := by simpa using hs
  simp [results, h, hp', hq', hs', asAddr, run_loadVar_row w g t ty cs fr d hg hu hd hi]
theorem page_rpart {w : World} {B T : Nat} {l : List Int} (h : w.heap[B]? = some (.cells (v8a l) T)) (o m : Nat) : w.rangeAt B o (v8 ((l.drop o).take m)) := fun j v hv => by
  have := page_part h o m j v hv
  have ea : (⟨B, o, none⟩ : Addr).add j = ⟨B, o + j, none⟩ := by unfold Addr.add; split <;> simp_all
  rw [ea] at this; exact this
set_option maxRecDepth 100000 in
set_option maxHeartbeats 4000000 in
theorem look_any (tb : Nat) (N : Nat → Prop) (bb first n : Nat) (B : BookS) (i : Nat) (hi : i < n) (w : World) (h : TabI w tb N bb first n B) :
    Calls Tryz.prog 172 #[.pointer (some ⟨tb, 0, none⟩), .int .i64 (i : Int)] w fun e w' => e = .returned (.tuple #[.agg (lookC (B.view (first + i))), .bool (isEnt (B.view (first + i))), .nilIface]) ∧ Below w.heap.size w w' := by
  have HT := hZ h
  have hok := h.2.1.isOk
  have hn1 := h.2.2.2.1
  have hn2 := hok.n.2
  have HV : Hid (PgOk (B.view (first + i))) := hZ (BookS.view_ok hok _ (by omega))
  have hRB := hZ (fun wx (hb : Below w.heap.size w wx) => Qza bb _ B (first + i) (by omega) wx ((HT.out.below hb).2.1))
  clear h hok
  have hi0 : (0 : Int) ≤ i := by omega
  have hi1 : (i : Int) < n := by omega
  have hf0 : (0 : Int) ≤ first := by omega
  have hf1 : (first : Int) + n ≤ 2048 := by omega
  go_enter Tryz.func172, Tryz.ntmps172
  repeat ((fail_if_success (with_reducible refine Vz1 "prints.go:35" rfl ?_)); (first | go_values | go_skip | go_guarded | go_step | go_upon))
  refine Kz0 (fun wx => Hid (wx.heap[w.heap.size]? = some (.cells (entC (zer 32) 0 0) 70) ∧ Below w.heap.size w wx)) (hZ ⟨heap_alloc_new w (.cells (entC (zer 32) 0 0) 70), bZ⟩) ?_
  intro w1 H1
  obtain ⟨z0, z1, z2⟩ := blk3 ((HT.out.below H1.out.2).1)
  have r0 := cell_regrown z0
  have r1 := cell_regrown z1
  have hC : ∀ wx, Below w1.heap.size w1 wx → Calls Tryz.prog 19 #[.pointer (some ⟨bb, 0, none⟩), .int .i64 ((first : Int) + (i : Int))] wx fun e w' => e = .returned (.tuple #[.agg (v8a (B.view (first + i))), .nilIface]) ∧ Below wx.heap.size wx w' := fun wx hb => by
    have h := hRB.out wx (H1.out.2.trans (hb.mono H1.out.2.size))
    rw [show ((first + i : Nat) : Int) = (first : Int) + (i : Int) by omega] at h
    exact h
  obtain ⟨pg, hpg⟩ : ∃ pg, B.view (first + i) = pg := ⟨_, rfl⟩
  rw [hpg] at HV hC
  have HPG := hZ hpg
  clear hpg
  have hp64 := HV.out.1
  refine Jz8 (.quiet 0 (.quiet 1 (.quiet 2 (.quiet 3 (.quiet 4 (.quiet 5 (.quiet 6 (.quiet 7 (.quiet 8 (.quiet 9 (.two 10 14 (.quiet 11 (.quiet 12 (.quiet 13 (.one 14 (.one 15 (.quiet 16 .nil)))))) (.one 10 (.quiet 11 (.quiet 12 (.quiet 13 (.one 15 (.quiet 16 .nil))))))))))))))))) (fun w' => ∃ p : Regrown, w' = Go.Sort.grow (redrawn w1 p.d) p.os) (by kernel_rfl) (by kernel_rfl) (fun _ _ d _ _ h => by cases d <;> exact h) (Vz2 _) ?_
  (repeat (with_reducible refine Jz6 ?_; simp only [qd1, qd0, qt1, qt0]; go_big_quiet_step (fail); with_reducible refine wpQuiet_nil ?_))
  apply tail_cut
  · intro TAIL
    with_reducible refine Kze ?_ ?_
    · simp only [qd1, qd0, qt1, qt0]
      go_wp2_with fail
      refine (hC w1.drew (Below.refl _ _).drew).mono ?_
      rintro e wa ⟨rfl, hba1⟩
      have hba2 : Below w1.heap.size w1 wa := (Below.refl _ _).drew.trans hba1
      try dsimp only
      go_wp2_with fail
      (try with_reducible refine wpList_nil ?_); with_reducible refine Qz0 ?_
      refine ⟨Jz0 hba2, ?_⟩
      (repeat (with_reducible refine Jz6 ?_; simp only [qd1, qd0, qt1, qt0]; go_big_quiet_step (fail); with_reducible refine wpQuiet_nil ?_))
      with_reducible refine Kz8 ?_; simp only [qd1, qd0, qt1, qt0]
      have hbo : ∀ o : Obj, Below w1.heap.size w1 (wa.alloc o) := fun o => hba2.alloc hba2.size _
      have hsa := hba2.size
      go_wp2_with fail
      (try with_reducible refine wpList_nil ?_); with_reducible refine Qz0 ?_
      refine ⟨Jz0 (hbo _), ?_⟩
      refine Xz7 (fun wx => Hid (wx.heap[wa.heap.size]? = some (.cells (v8a (zer 64)) 37) ∧ Below w1.heap.size w1 wx)) (hZ ⟨heap_alloc_new wa (.cells (v8a (zer 64)) 37), hbo _⟩) ?_
      generalize wa.heap.size = box at hsa ⊢
      intro wb HA
      revert box wb
      exact TAIL
    · simp only [qd1, qd0, qt1, qt0]
      have hbo : ∀ o : Obj, Below w1.heap.size w1 (w1.drew.alloc o) := fun o => (Below.refl _ _).drew.alloc (Nat.le_refl _) _
      go_wp2_with fail
      (try with_reducible refine wpList_nil ?_); with_reducible refine Qz0 ?_
      refine ⟨Jz0 (hbo _), ?_⟩
      refine Xz7 (fun wx => Hid (wx.heap[w1.heap.size]? = some (.cells (v8a (zer 64)) 37) ∧ Below w1.heap.size w1 wx)) (hZ ⟨heap_alloc_new w1.drew (.cells (v8a (zer 64)) 37), hbo _⟩) ?_
      intro wa HA
      with_reducible refine Kz8 ?_; simp only [qd1, qd0, qt1, qt0]
      go_wp2_with fail
      refine (hC wa HA.out.2).mono ?_
      rintro e wb ⟨rfl, hbb1⟩
      have hbb2 : Below w1.heap.size w1 wb := HA.out.2.trans (hbb1.mono HA.out.2.size)
      have HB : Hid (wb.heap[w1.heap.size]? = some (.cells (v8a (zer 64)) 37) ∧ Below w1.heap.size w1 wb) := hZ ⟨(hbb1.block _ (Zz0 HA.out.1)).trans HA.out.1, hbb2⟩
      try dsimp only
      go_wp2_with fail
      (try with_reducible refine wpList_nil ?_); with_reducible refine Qz0 ?_
      refine ⟨Jz0 hbb2, ?_⟩
      (repeat (with_reducible refine Jz6 ?_; simp only [qd1, qd0, qt1, qt0]; go_big_quiet_step (fail); with_reducible refine wpQuiet_nil ?_))
      exact TAIL _ (Nat.le_refl _) wb HB
  intro box hsa wb HA
  with_reducible refine Kz8 ?_; simp only [qd1, qd0, qt1, qt0]
  refine Wz2 rfl (.tmp 7) (.tmp 21) rfl box pg (zer 64) rfl rfl HA.out.1 hp64 rfl ?_
  refine Xz0 (fun wx => Hid (wx.heap[box]? = some (.cells (v8a pg) 37) ∧ w1.heap.size ≤ box ∧ Below w1.heap.size w1 wx)) (hZ ⟨setRow_heap _ _ _ _ _ (0, 0) HA.out.1, hsa, below_setRow HA.out.2 hsa _⟩) ?_
  clear HA
  intro wc HC
  simp only [Act.put, qs0, qs1, qs2]
  (try with_reducible refine wpList_nil ?_); with_reducible refine Qz0 ?_
  refine ⟨Jz0 HC.out.2.2, ?_⟩
  (repeat (with_reducible refine Jz6 ?_; simp only [qd1, qd0, qt1, qt0]; go_big_quiet_step (fail); with_reducible refine wpQuiet_nil ?_))
  with_reducible refine plan_nil ?_
  obtain ⟨c0, f0⟩ := Qz6 HC.out.1 0 (by omega)
  obtain ⟨c1, f1⟩ := Qz6 HC.out.1 1 (by omega)
  obtain ⟨c2, f2⟩ := Qz6 HC.out.1 2 (by omega)
  obtain ⟨c3, f3⟩ := Qz6 HC.out.1 3 (by omega)
  have u0 := HV.out.2.at 0
  have u1 := HV.out.2.at 1
  have u2 := HV.out.2.at 2
  have u3 := HV.out.2.at 3
  have hb4 := HC.out.2.2.block _ (Zz0 H1.out.1)
  have H4 : Hid (wc.heap[w.heap.size]? = some (.cells (entC (zer 32) 0 0) 70) ∧ Below w.heap.size w wc) := hZ ⟨hb4.trans H1.out.1, H1.out.2.trans (HC.out.2.2.mono H1.out.2.size)⟩
  clear hb4
  by_cases he : pg.getD 0 0 = 1
  · have hl : lookC pg = entC (pDg pg) (pSlot pg) (pRefs pg) := by unfold lookC isEnt; rw [he]; rfl
    have hie : isEnt pg = true := by unfold isEnt; rw [he]; rfl
    rw [he] at c0
    go_wp2_with fail
    have hRw : w.heap.size < wc.heap.size := Zz0 H4.out.1
    have hbw : w.heap.size ≠ box := by have := Zz0 H1.out.1; have := HC.out.2.1; omega
    have q1 := cellB (R := w.heap.size) c1 (by simp; omega)
    have q2 := cellB (R := w.heap.size) c2 (by simp; omega)
    have q3 := cellB (R := w.heap.size) c3 (by simp; omega)
    obtain ⟨u1a, u1b⟩ := u1
    obtain ⟨u2a, u2b⟩ := u2
    obtain ⟨u3a, u3b⟩ := u3
    have HSL : Hid (pSlot pg = bits BinOp.or IntKind.i64 (pg.getD 1 0) (pg.getD 2 0 * 256)) := hZ rfl
    have HRF : Hid (pRefs pg = pg.getD 3 0) := hZ rfl
    generalize pg.getD 1 0 = x1 at *
    generalize pg.getD 2 0 = x2 at *
    generalize pg.getD 3 0 = x3 at *
    refine Vz0 [(0, true), (3, true), (4, true), (5, true), (6, true), (7, true), (8, true), (9, true), (10, true), (11, true), (12, true), (13, true), (1, false), (2, true), (14, true), (15, false), (16, true), (17, true)] 17 (fun w' => ∃ p : RegrownB, w' = setO (Go.Sort.grow (redrawn wc p.d) p.os) (w.heap.size) p.o) (by kernel_rfl) (by kernel_rfl) (fun _ _ d _ _ h => by cases d <;> exact h) (Kz6 hRw) ?_
    (repeat (with_reducible refine mix_q ?_; simp only [qd1, qd0, qt1, qt0]; go_big_quiet_step (fail); with_reducible refine wpQuiet_nil ?_))
    with_reducible refine mix_a ?_; simp only [qd1, qd0, qt1, qt0]
    have haa : ∀ wx : World, (Instr.arrayAt 67 (.slice (some ⟨box, 8, none⟩) 32 56)).run Tryz.prog wx = .ok (.pointer (some ⟨box, 8, none⟩)) wx := fun _ => by kernel_rfl
    go_wp2_with fail
    try with_reducible refine wpList_nil ?_
    with_reducible refine Qz0 ?_
    refine ⟨fun _ => Qz5 hRw (Zz2 (Below.refl _ _).drew _), ?_⟩
    have HDL : Hid ((pDg pg).length = 32) := hZ (Wzi hp64)
    have HDR : Hid (∀ wx : World, wx.heap[box]? = some (.cells (v8a pg) 37) → wx.rangeAt box 8 (v8 (pDg pg))) := hZ (fun wx hx => page_rpart hx 8 32)
    rw [← HSL.out, ← HRF.out]
    clear q1 q2 q3 c1 c2 c3 f1 f2 f3 c0 f0 u0 u3a u3b
    generalize pDg pg = dg at HDL HDR hl
    generalize pSlot pg = sl at hl
    generalize pRefs pg = rf at hl
    with_reducible refine mix_q ?_
    simp only [qd1, qd0, qt1, qt0]
    go_big_quiet_want
    refine Jz1 67 (.tmp 34) rfl box 8 rfl (v8 dg) _ (fun w' hw' => HDR.out w' (blk_regrownB HC.out.1 (fun e => hbw e.symm) w' hw')) Tryz.underlying67 rfl (by rw [Wz0, HDL.out]; exact Vz9) ?_
    simp only [Act.put, qs0, qs1, qs2]
    go_big_quiet_on
    with_reducible refine wpQuiet_nil ?_
    with_reducible refine mix_q ?_
    simp only [qd1, qd0, qt1, qt0]
    go_big_quiet_want
    refine Zzd 70 _ rfl (entC dg sl rf) ?hb ?_
    case hb => simp only [List.map_toArray, List.map_cons, List.map_nil]; exact built_ent dg sl rf HDL.out
    simp only [Act.put, qs0, qs1, qs2]
    go_big_quiet_on
    with_reducible refine wpQuiet_nil ?_
    with_reducible refine mix_a ?_; simp only [qd1, qd0, qt1, qt0]
    have hes := Wzg HDL.out sl rf
    refine wpList_store_row rfl 70 (.tmp 4) (.tmp 47) rfl w.heap.size (entC dg sl rf) rfl rfl 70 (entC (zer 32) 0 0) (show wc.drew.heap[w.heap.size]? = _ from H4.out.1) (by rw [hes]; exact Vza) (by rw [hes]; rfl) (entC_one _ _ _) ?_
    have hg7 : wc.grownBy (wc.drew.setRow w.heap.size (entC dg sl rf)) (some w.heap.size) := Xz2 (Zz2 (Below.refl _ _).drew _) (Wzd wc.drew w.heap.size _)
    refine Xz0 (fun wx => Hid (wx.heap[w.heap.size]? = some (.cells (entC dg sl rf) 70) ∧ Below w.heap.size w wx ∧ wc.grownBy wx (some w.heap.size))) (hZ ⟨setRow_heap _ _ _ _ _ (0, 0) (show wc.drew.heap[w.heap.size]? = _ from H4.out.1), below_setRow H4.out.2.drew (Nat.le_refl _) _, hg7⟩) ?_
    intro wd HD
    simp only [Act.put, qs0, qs1, qs2]
    with_reducible refine wpList_nil ?_
    with_reducible refine Qz0 ?_
    refine ⟨fun _ => Qz5 hRw HD.out.2.2, ?_⟩
    (repeat (with_reducible refine mix_q ?_; simp only [qd1, qd0, qt1, qt0]; go_big_quiet_step (fail); with_reducible refine wpQuiet_nil ?_))
    with_reducible refine Wz1 ?_
    go_wp2_with fail
    refine bodyPost_ret (results_cell2 Tryz.results172 _ _ w.heap.size 70 (entC dg sl rf) (0, 0) _ rfl (.bool true) .nilIface rfl rfl HD.out.1 Tryz.underlying70 rfl (by rw [hes]; exact Vza)) rfl ⟨by rw [HPG.out, hl, hie], HD.out.2.1⟩
  · have hie : isEnt pg = false := decide_eq_false he
    have hl : lookC pg = entC (zer 32) 0 0 := by unfold lookC; rw [hie]; rfl
    obtain ⟨x0, hx0⟩ : ∃ x0, pg.getD 0 0 = x0 := ⟨_, rfl⟩
    rw [hx0] at c0 he u0
    clear hx0
    repeat ((fail_if_success (with_reducible refine Vz1 "prints.go:36" rfl ?_)); (first | go_values | go_skip | go_guarded | go_step | go_upon))
    repeat ((fail_if_success (with_reducible refine Vz1 "prints.go:37" rfl ?_)); (first | go_values | go_skip | go_guarded | go_step | go_upon))
    go_wp2_with fail
    refine (Qzc _ wc).mono ?_
    rintro e wd ⟨rfl, rfl⟩
    try dsimp only
    go_wp2_with (refine wpList_store_row rfl 70 (.tmp 4) (.tmp 30) rfl w.heap.size _ rfl rfl 70 (entC (zer 32) 0 0) H4.out.1 ?s2 ?s3 ?s4 ?_)
    case s2 => exact Vza
    case s3 => rfl
    case s4 => kernel_rfl
    refine bodyPost_ret (results_cell2 Tryz.results172 _ _ w.heap.size 70 (entC (zer 32) 0 0) (0, 0) _ rfl (.bool false) .nilIface rfl rfl (setRow_heap _ _ _ _ _ (0, 0) H4.out.1) Tryz.underlying70 rfl Vza) rfl ⟨by rw [HPG.out, hl, hie], below_setRow H4.out.2 (Nat.le_refl _) _⟩
open Go.RowKit Go.Maps
def dgN (d : List Int) : Nat := (bits BinOp.or IntKind.i64 (d.getD 0 0) (d.getD 1 0 * 256)).toNat
theorem dgN_eq (d : List Int) (h : U8s d) : bits BinOp.or IntKind.i64 (d.getD 0 0) (d.getD 1 0 * 256) = (dgN d : Int) ∧ dgN d ≤ 65535 := by
  obtain ⟨k, h1, h2⟩ := or16 (d.getD 0 0) (d.getD 1 0) (h.at 0) (h.at 1)
  unfold dgN
  rw [h1]
  exact ⟨by simp, by simpa using h2⟩
theorem row_cell {w : World} {B T : Nat} {l : List Int} (h : w.heap[B]? = some (.cells (v8a l) T)) (i : Nat) (hi : i < l.length) : w.cell? ⟨B, i, none⟩ = some (.int .u8 (l.getD i 0)) := (Qz6 h i hi).1
set_option maxRecDepth 100000 in
set_option maxHeartbeats 1000000 in
theorem thome_any (tb : Nat) (N : Nat → Prop) (bb first n : Nat) (B : BookS) (d : List Int) (hd : d.length = 32 ∧ U8s d) (w : World) (h : TabI w tb N bb first n B) (hn : n ≤ 2048) :
    Calls Tryz.prog 219 #[.pointer (some ⟨tb, 0, none⟩), .agg (v8a d)] w fun e w' => e = .returned (.int .i64 ((dgN d % n : Nat) : Int)) ∧ Below w.heap.size w w' := by
  have HT := hZ h
  have hn1 := h.2.2.2.2
  clear h
  have hb0 : ∀ o : Obj, Below w.heap.size w (w.alloc o) := fun o => bZ
  go_enter Tryz.func219, Tryz.ntmps219
  repeat ((fail_if_success (with_reducible refine Vz1 "prints.go:68" rfl ?_)); (first | go_values | go_skip | go_guarded | go_step | go_upon))
  repeat (first | go_values | go_skip | go_guarded | go_step | go_upon)
  refine Kz0 (fun wx => Hid (wx.heap[w.heap.size]? = some (.cells (v8a d) 67) ∧ Below w.heap.size w wx)) (hZ ⟨heap_alloc_new w (.cells (v8a d) 67), hb0 _⟩) ?_
  clear hb0
  intro w1 H1
  obtain ⟨z0, z1, z2⟩ := blk3 ((HT.out.below H1.out.2).1)
  have c0 := row_cell H1.out.1 0 (by omega)
  have c1 := row_cell H1.out.1 1 (by omega)
  have u0 := hd.2.at 0
  have u1 := hd.2.at 1
  obtain ⟨hq, hq2⟩ := dgN_eq d hd.2
  have HQ := hZ hq
  clear hq
  generalize d.getD 0 0 = x0 at *
  generalize d.getD 1 0 = x1 at *
  obtain ⟨u0a, u0b⟩ := u0
  obtain ⟨u1a, u1b⟩ := u1
  have r2 := cell_regrown z2
  have k0 := cell_regrown c0
  have k1 := cell_regrown c1
  have g0 : (n : Int) ≠ 0 := by omega
  have hbits : bits BinOp.or IntKind.i64 x0 (x1 * 256) % (n : Int) = ((dgN d % n : Nat) : Int) := by rw [HQ.out]; omega
  have hn0 : (0 : Int) < n := by omega
  refine wp_region_quiet_below (by kernel_rfl) (by kernel_rfl) ?_
  (repeat (go_big_quiet_step (fail)))
  refine wpQuiet_nil ?_
  intro wq hwq
  have hq := Qz1 hwq
  clear hwq
  go_wp2_with fail
  go_ret
  refine ⟨?_, H1.out.2.trans (hq.mono H1.out.2.size)⟩
  show Ending.returned (.int .i64 ((bits BinOp.or IntKind.i64 x0 (x1 * 256)).tmod n)) = _
  rw [HQ.out, Int.tmod_eq_emod_of_nonneg (by omega), ← Int.natCast_emod]
theorem guard_h32 : Tryz.prog.eqGuardType Tryz.prog.depth 67 = false := by kernel_rfl
theorem h32_eql (w : World) (x y : List Int) (hx : x.length = 32) (hy : y.length = 32) : (binOp .eql 67 (.agg (v8a x)) (.agg (v8a y))).run Tryz.prog w = .ok (.bool (decide (x = y))) w := by
  obtain ⟨i, hi⟩ := info_u8'
  exact run_eql_u8 Tryz.underlying67 hi cells_u8 plain_u8 Tryz.underlying5 w x y hx hy
section
variable {ops : Array Oper} {rest : List Oper} {o : Oper} {a : Act} {w : World} {Q : Exit → Act → World → Prop}
theorem dg_eql (hgd : o.guard = none) (x y : Operand) (t2 : TypeId) (ho : o.op = .binOp .eql 67 x y t2) (p q : List Int) (hx : a.eval x = .agg (v8a p)) (hy : a.eval y = .agg (v8a q)) (hp : p.length = 32) (hq : q.length = 32)
    (h : wpList Tryz.prog ops Q rest (a.put o.dst (.bool (decide (p = q)))) w) : wpList Tryz.prog ops Q (o :: rest) a w := by
  refine wpList_plain hgd fun K' hK' => ?_
  unfold Oper.wp execOp
  simp only [ho, hx, hy, Sem.run_bind, run_eqGuard_agg w .eql _ x y (v8a p) (v8a q) guard_h32, h32_eql w p q hp hq, Result.andThen_ok]
  exact hK' _ _ h
theorem dg_load (hgd : o.guard = none) (x : Operand) (ho : o.op = .load 67 x) (g off : Nat) (p : List Int) (hx : a.eval x = .pointer (some ⟨g, off, none⟩)) (hg : w.rangeAt g off (v8 p)) (hp : p.length = 32)
    (h : wpList Tryz.prog ops Q rest (a.put o.dst (.agg (v8a p))) w) : wpList Tryz.prog ops Q (o :: rest) a w :=
  wpList_load_mid hgd _ x ho g off hx (v8 p) _ hg Tryz.underlying67 rfl (by rw [Wz0, hp]; exact Vz9) h
theorem quiet_dg {op : Oper} {C : World → Prop} {K : Act → Prop} (x : Operand) (ho : op.op = .load 67 x) (g : Nat) (p : List Int) (hx : a.eval x = .pointer (some ⟨g, 0, none⟩)) (hS : ∀ w, C w → w.heap[g]? = some (.cells (v8a p) 67)) (hp : p.length = 32)
    (h : K (a.put op.dst (.agg (v8a p)))) : op.quiet Tryz.prog a C K :=
  Jz1 _ x ho g 0 hx (v8 p) _ (fun w hw => Vz6 (hS w hw)) Tryz.underlying67 rfl (by rw [Wz0, hp]; exact Vz9) h
theorem ent_load (hgd : o.guard = none) (x : Operand) (ho : o.op = .load 70 x) (g : Nat) (dg : List Int) (sl rf : Int) (hx : a.eval x = .pointer (some ⟨g, 0, none⟩)) (hg : w.heap[g]? = some (.cells (entC dg sl rf) 70)) (hp : dg.length = 32)
    (h : wpList Tryz.prog ops Q rest (a.put o.dst (.agg (entC dg sl rf))) w) : wpList Tryz.prog ops Q (o :: rest) a w :=
  wpList_load_row hgd _ x ho g hx _ (entC dg sl rf) (0, 0) _ hg Tryz.underlying70 rfl (by rw [Wzg hp]; exact Vza) h
theorem Zza (hgd : o.guard = none) (x y : Operand) (ho : o.op = .store 70 x y) (g : Nat) (dg dg' : List Int) (sl rf sl' rf' : Int) (hx : a.eval x = .pointer (some ⟨g, 0, none⟩)) (hy : a.eval y = .agg (entC dg sl rf)) (hg : w.heap[g]? = some (.cells (entC dg' sl' rf') 70)) (hp : dg.length = 32) (hq : dg'.length = 32)
    (h : wpList Tryz.prog ops Q rest (a.put o.dst undef) (w.setRow g (entC dg sl rf))) : wpList Tryz.prog ops Q (o :: rest) a w :=
  wpList_store_row hgd _ x y ho g (entC dg sl rf) hx hy _ (entC dg' sl' rf') hg (by rw [Wzg hp]; exact Vza) (by rw [Wzg hp, Wzg hq]) (entC_one _ _ _) h
end
theorem ent_rdg {w : World} {B T : Nat} {dg : List Int} {sl rf : Int} (h : w.heap[B]? = some (.cells (entC dg sl rf) T)) : w.rangeAt B 0 (v8 dg) := fun j v hv => by
  have hj : j < (v8 dg).length := (List.getElem?_eq_some_iff.1 hv).1
  rw [cell_of_row w B (0 + j) _ T (0, 0) h]
  simp only [entC, Nat.zero_add, List.getElem?_toArray]
  rw [List.getElem?_append_left hj]; exact hv
theorem Kzg {w : World} {B T : Nat} {dg : List Int} {sl rf : Int} (hl : dg.length = 32) (h : w.heap[B]? = some (.cells (entC dg sl rf) T)) : w.cell? ⟨B, 32, none⟩ = some (.int .i64 sl) ∧ w.cell? ⟨B, 33, none⟩ = some (.int .i64 rf) := by
  have e : (v8 dg).length = 32 := by rw [Wz0, hl]
  constructor
  · rw [cell_of_row w B 32 _ T (0, 0) h]; simp [entC, List.getElem?_append, e]
  · rw [cell_of_row w B 33 _ T (0, 0) h]; simp [entC, List.getElem?_append, e]
set_option maxRecDepth 100000 in
set_option maxHeartbeats 1000000 in
theorem findFn_any (cb : Nat) (d dg : List Int) (sl rf : Int) (hd : d.length = 32) (hg : dg.length = 32) (w : World) (h : w.heap[cb]? = some (.cells (v8a d) 67)) :
    Calls Tryz.prog 171 #[.agg (entC dg sl rf), .pointer (some ⟨cb, 0, none⟩)] w fun e w' => e = .returned (.bool (decide (dg = d) && decide (rf < 15))) ∧ Below w.heap.size w w' := by
  have HB := hZ h
  have hb0 : ∀ o : Obj, Below w.heap.size w (w.alloc o) := fun o => bZ
  clear h
  go_enter Tryz.func171, Tryz.ntmps171
  repeat ((fail_if_success (with_reducible refine Kz1 4 rfl ?_)); (first | go_values | go_skip | go_guarded | go_step | go_upon))
  refine Xz0 (fun wx => Hid (wx.heap[w.heap.size]? = some (.cells (entC dg sl rf) 70) ∧ Below w.heap.size w wx)) (hZ ⟨heap_alloc_new w (.cells (entC dg sl rf) 70), hb0 _⟩) ?_
  clear hb0
  intro w1 H1
  obtain ⟨c1, c2⟩ := Kzg hg H1.out.1
  have hcb := (H1.out.2.block _ (Zz0 HB.out)).trans HB.out
  by_cases he : dg = d
  · have hde : decide (dg = d) = true := decide_eq_true he
    go_wp2_with (first | (refine dg_load rfl (.tmp 4) rfl w.heap.size 0 dg rfl (ent_rdg H1.out.1) hg ?_) | (refine dg_load rfl (.tmp 1) rfl cb 0 d rfl (Vz6 hcb) hd ?_) | (refine dg_eql rfl (.tmp 5) (.tmp 6) _ rfl dg d rfl rfl hg hd ?_; simp only [hde]))
    go_ret
    exact ⟨by rw [hde]; simp, H1.out.2⟩
  · have hde : decide (dg = d) = false := decide_eq_false he
    go_wp2_with (first | (refine dg_load rfl (.tmp 4) rfl w.heap.size 0 dg rfl (ent_rdg H1.out.1) hg ?_) | (refine dg_load rfl (.tmp 1) rfl cb 0 d rfl (Vz6 hcb) hd ?_) | (refine dg_eql rfl (.tmp 5) (.tmp 6) _ rfl dg d rfl rfl hg hd ?_; simp only [hde]))
    go_ret
    exact ⟨by rw [hde]; simp, H1.out.2⟩
set_option maxRecDepth 100000 in
theorem freeFn_any (w : World) : Calls Tryz.prog 170 #[] w fun e w' => e = .returned (.bool true) ∧ w = w' := by
  go_enter Tryz.func170, Tryz.ntmps170
  go_wp2_with fail
  go_ret
  exact ⟨rfl, rfl⟩
open Go.RowKit Go.Maps
def seekO (h n : Nat) (Q : Nat → Bool) : Option Nat := ((List.range n).map fun k => (h + k) % n).find? Q
theorem seekO_found {h n k : Nat} {Q : Nat → Bool} (hk : k < n) (hno : ∀ j, j < k → Q ((h + j) % n) = false) (hy : Q ((h + k) % n) = true) : seekO h n Q = some ((h + k) % n) := by
  unfold seekO
  have e : List.range n = List.range k ++ (List.range (n - k)).map (k + ·) := by
    rw [← List.range_add, show k + (n - k) = n by omega]
  rw [e, List.map_append, List.find?_append]
  have h1 : ((List.range k).map fun k => (h + k) % n).find? Q = none := by
    rw [List.find?_eq_none]
    intro x hx
    obtain ⟨j, hj, rfl⟩ := List.mem_map.1 hx
    rw [hno j (List.mem_range.1 hj)]; simp
  rw [h1]
  obtain ⟨m, hm⟩ : ∃ m, n - k = m + 1 := ⟨n - k - 1, by omega⟩
  rw [hm, List.range_succ_eq_map]
  simp [hy]
theorem seekO_none {h n : Nat} {Q : Nat → Bool} (hno : ∀ j, j < n → Q ((h + j) % n) = false) : seekO h n Q = none := by
  unfold seekO
  rw [List.find?_eq_none]
  intro x hx
  obtain ⟨j, hj, rfl⟩ := List.mem_map.1 hx
  rw [hno j (List.mem_range.1 hj)]; simp
theorem seekO_spec {h n i : Nat} {Q : Nat → Bool} (hs : seekO h n Q = some i) : i < n ∧ Q i = true := by
  unfold seekO at hs
  have h1 := List.mem_of_find?_eq_some hs
  have h2 := List.find?_some hs
  obtain ⟨j, hj, rfl⟩ := List.mem_map.1 h1
  have := List.mem_range.1 hj
  exact ⟨Nat.mod_lt _ (by omega), h2⟩
theorem seekO_no {h n : Nat} {Q : Nat → Bool} (hs : seekO h n Q = none) (i : Nat) (hi : i < n) : Q i = false := by
  unfold seekO at hs
  rw [List.find?_eq_none] at hs
  have hn : 0 < n := by omega
  have hm : i ∈ (List.range n).map fun k => (h + k) % n := by
    refine List.mem_map.2 ⟨(i + n - h % n) % n, List.mem_range.2 (Nat.mod_lt _ hn), ?_⟩
    have h1 := Nat.mod_lt h hn
    show (h + (i + n - h % n) % n) % n = i
    rw [Nat.add_mod, Nat.mod_mod, ← Nat.add_mod]
    have e : h + (i + n - h % n) = i + n + n * (h / n) := by
      have := Nat.div_add_mod h n
      omega
    rw [e, Nat.add_mul_mod_self_left, Nat.add_mod_right, Nat.mod_eq_of_lt hi]
  have := hs i hm
  simpa using this
theorem ent_load_g {ops : Array Oper} {rest : List Oper} {o : Oper} {a : Act} {w : World} {Q : Exit → Act → World → Prop} (hw : Region.wanted o (yielded ops a.tmps) = true) (x : Operand) (ho : o.op = .load 70 x) (g : Nat) (dg : List Int) (sl rf : Int) (hx : a.eval x = .pointer (some ⟨g, 0, none⟩)) (hg : w.heap[g]? = some (.cells (entC dg sl rf) 70)) (hp : dg.length = 32)
    (h : wpList Tryz.prog ops Q rest (a.put o.dst (.agg (entC dg sl rf))) w) : wpList Tryz.prog ops Q (o :: rest) a w := by
  refine wpList_step fun K hK => ?_
  rw [if_pos hw]
  exact wp_load_row _ x ho g hx _ (entC dg sl rf) (0, 0) _ hg Tryz.underlying70 rfl (by rw [Wzg hp]; exact Vza) (hK _ _ h)
def SkX (w : World) (box : Nat) (d : List Int) (wx : World) : Prop := wx.heap[box]? = some (.cells (v8a d) 67) ∧ Below w.heap.size w wx
theorem SkX.below {w wx wy : World} {box : Nat} {d : List Int} (h : SkX w box d wx) (hb : Below wx.heap.size wx wy) : SkX w box d wy := ⟨(hb.block _ (Zz0 h.1)).trans h.1, h.2.trans (hb.mono h.2.size)⟩
set_option maxRecDepth 100000 in
set_option maxHeartbeats 4000000 in
theorem seekFind_any (tb : Nat) (N : Nat → Prop) (bb first n : Nat) (B : BookS) (d : List Int) (hd : d.length = 32 ∧ U8s d) (cb : Nat) (w : World) (h : TabI w tb N bb first n B) (hc : w.heap[cb]? = some (.cells (v8a d) 67)) :
    Calls Tryz.prog 169 #[.pointer (some ⟨tb, 0, none⟩), .func (.func 171) #[] #[.pointer (some ⟨cb, 0, none⟩)], .nilFunc, .agg (v8a d)] w fun e w' => e = .returned (.tuple #[.int .i64 (((seekO (dgN d) n (fun i => isEnt (B.view (first + i)) && (decide (pDg (B.view (first + i)) = d) && decide (pRefs (B.view (first + i)) < 15)))).getD 0 : Nat) : Int), .bool (seekO (dgN d) n (fun i => isEnt (B.view (first + i)) && (decide (pDg (B.view (first + i)) = d) && decide (pRefs (B.view (first + i)) < 15)))).isSome, .nilIface]) ∧ Below w.heap.size w w' := by
  have HT := hZ h
  have hok := h.2.1.isOk
  have HOK := hZ hok
  have hn1 := h.2.2.2.1
  have hn0 := h.2.2.2.2
  have hn2 := hok.n.2
  clear h hok
  obtain ⟨Q, hQ⟩ : ∃ Q : Nat → Bool, Q = fun i => isEnt (B.view (first + i)) && (decide (pDg (B.view (first + i)) = d) && decide (pRefs (B.view (first + i)) < 15)) := ⟨_, rfl⟩
  rw [← hQ]
  have HQ := hZ hQ
  clear hQ
  have hb0 : ∀ o : Obj, Below w.heap.size w (w.alloc o) := fun o => bZ
  have HC := hZ hc
  clear hc
  have hq1 : ∀ wx : World, (binOp .neq 23 .nilFunc .nilFunc).run Tryz.prog wx = .ok (.bool false) wx := fun _ => by kernel_rfl
  have hq2 : ∀ wx : World, (binOp .neq 291 (.func (.func 171) #[] #[.pointer (some ⟨cb, 0, none⟩)]) .nilFunc).run Tryz.prog wx = .ok (.bool true) wx := fun _ => by kernel_rfl
  go_enter Tryz.func169, Tryz.ntmps169
  repeat ((fail_if_success (with_reducible refine Vz1 "prints.go:86" rfl ?_)); (first | go_values | go_skip | go_guarded | go_step | go_upon))
  refine Xz0 (fun wx => Hid (SkX w w.heap.size d wx)) (hZ ⟨heap_alloc_new w (.cells (v8a d) 67), hb0 _⟩) ?_
  clear hb0
  generalize w.heap.size = box
  intro w1 H1
  obtain ⟨z0, z1, z2⟩ := blk3 ((HT.out.below H1.out.2).1)
  go_wp2_with fail
  go_loopw [11, 24] (fun _ kv wr => ∃ k : Nat, kv = .int .i64 k ∧ k ≤ n ∧ (∀ j, j < k → Q ((dgN d + j) % n) = false) ∧ Hid (SkX w box d wr)) (fun _ kv _ => n - (intOf kv).toNat)
  case atStart => exact ⟨0, rfl, by omega, fun j hj => by omega, H1⟩
  case round =>
    clear H1 z0 z1 z2
    obtain ⟨k, rfl, hk, hno, H⟩ := hrel
    have HNO := hZ hno
    clear hno
    by_cases hlt : k < n
    · have hk0 : (0 : Int) ≤ k := by omega
      have hk1 : (k : Int) < n := by omega
      have hn3 : (n : Int) ≤ 2048 := by omega
      have hn4 : (n : Int) ≠ 0 := by omega
      have hh0 : dgN d % n < n := Nat.mod_lt _ (by omega)
      have HEI : Hid (((dgN d % n : Nat) + (k : Int)) % (n : Int) = (((dgN d + k) % n : Nat) : Int)) := hZ (by
        rw [← Int.natCast_add, ← Int.natCast_emod, Nat.mod_add_mod])
      obtain ⟨ii, hii⟩ : ∃ ii : Nat, (dgN d + k) % n = ii := ⟨_, rfl⟩
      have hil : ii < n := by rw [← hii]; exact Nat.mod_lt _ (by omega)
      have HII := hZ hii
      rw [hii] at HEI
      clear hii
      have hHM := thome_any tb N bb first n B d hd wr.drew (HT.out.below H.out.2.drew) (by omega)
      obtain ⟨hm, hhm⟩ : ∃ hm : Nat, dgN d % n = hm := ⟨_, rfl⟩
      rw [hhm] at hHM hh0 HEI
      clear hhm
      obtain ⟨z0, z1, z2⟩ := blk3 ((HT.out.below H.out.2).1)
      have r2 := cell_regrown z2
      go_wp2_with fail
      refine Vz0 [(0, true), (1, true), (3, true), (5, true), (6, true), (7, true), (8, true), (2, false), (4, true), (9, true), (10, true)] 10 (fun w' => ∃ p : Regrown, w' = Go.Sort.grow (redrawn wr p.d) p.os) (by kernel_rfl) (by kernel_rfl) (fun _ _ d _ _ h => by cases d <;> exact h) (Vz2 _) ?_
      with_reducible refine mix_q ?_
      simp only [qd1, qd0, qt1, qt0]
      go_big_quiet_step (fail)
      with_reducible refine wpQuiet_nil ?_
      with_reducible refine mix_q ?_
      simp only [qd1, qd0, qt1, qt0]
      go_big_quiet_want
      refine quiet_dg (.tmp 7) rfl box d rfl (Wz4 H.out.1) hd.1 ?_
      simp only [Act.put, qs0, qs1, qs2]
      go_big_quiet_on
      with_reducible refine wpQuiet_nil ?_
      (repeat (with_reducible refine mix_q ?_; simp only [qd1, qd0, qt1, qt0]; go_big_quiet_step (fail); with_reducible refine wpQuiet_nil ?_))
      with_reducible refine mix_a ?_; simp only [qd1, qd0, qt1, qt0]
      go_wp2_with fail
      refine hHM.mono ?_
      clear hHM
      rintro e w2 ⟨rfl, hb2⟩
      have hb2' : Below wr.heap.size wr w2 := (Below.refl _ _).drew.trans hb2
      have H2 := hZ (H.out.below hb2')
      try dsimp only
      go_wp2_with fail
      try with_reducible refine wpList_nil ?_
      with_reducible refine Qz0 ?_
      refine ⟨fun _ => Jz0 hb2', ?_⟩
      clear hb2 hb2' H
      have hm0 : (0 : Int) ≤ hm := by omega
      have hmn : (hm : Int) < n := by omega
      have htm : ((hm : Int) + k).tmod n = (ii : Int) := by rw [Int.tmod_eq_emod_of_nonneg (by omega), HEI.out]
      (repeat (with_reducible refine mix_q ?_; simp only [qd1, qd0, qt1, qt0]; go_big_quiet_step (fail); with_reducible refine wpQuiet_nil ?_))
      with_reducible refine Wz1 ?_
      have HF : Hid (Q ii = true → seekO (dgN d) n Q = some ii) := hZ (fun hy => by rw [← HII.out]; exact seekO_found hlt HNO.out (by rw [HII.out]; exact hy))
      have HNX : Hid (Q ii = false → ∀ j, j < k + 1 → Q ((dgN d + j) % n) = false) := hZ (fun hn j hj => by
        by_cases e : j = k
        · subst e; rw [HII.out]; exact hn
        · exact HNO.out j (by omega))
      have hLK := look_any tb N bb first n B ii hil w2 (HT.out.below H2.out.2)
      have hQi : Q ii = (fun i => isEnt (B.view (first + i)) && (decide (pDg (B.view (first + i)) = d) && decide (pRefs (B.view (first + i)) < 15))) ii := congrFun HQ.out ii
      dsimp only at hQi
      have HPK : Hid (PgOk (B.view (first + ii))) := hZ (BookS.view_ok HOK.out _ (by omega))
      generalize B.view (first + ii) = pg at hLK hQi HPK
      clear htm hm0 hmn r2 z0 z1 z2 hh0
      go_wp2_with fail
      refine hLK.mono ?_
      clear hLK
      rintro e w3 ⟨rfl, hb3⟩
      have H3 := hZ (H2.out.below hb3)
      clear hb3 H2
      obtain ⟨dg, sl, rf, hlk, hdg, hdgp⟩ : ∃ dg sl rf, lookC pg = entC dg sl rf ∧ dg.length = 32 ∧ (isEnt pg = true → dg = pDg pg ∧ sl = pSlot pg ∧ rf = pRefs pg) := by
        cases he : isEnt pg with
        | true => exact ⟨_, _, _, by unfold lookC; rw [he]; rfl, Wzi HPK.out.1, fun _ => ⟨rfl, rfl, rfl⟩⟩
        | false => exact ⟨zer 32, 0, 0, by unfold lookC; rw [he]; rfl, rfl, fun h => by cases h⟩
      rw [hlk]
      have HDP := hZ hdgp
      clear hlk hdgp
      try dsimp only
      repeat ((fail_if_success (with_reducible refine Kz1 45 rfl ?_)); (first | (refine Zza rfl (.tmp 13) (.tmp 41) rfl w3.heap.size dg (zer 32) sl rf 0 0 rfl rfl (heap_alloc_new w3 _) hdg rfl ?_) | go_values | go_skip | go_guarded | go_step | go_upon))
      have hbx : ∀ o : Obj, Below w3.heap.size w3 ((w3.alloc o).setRow w3.heap.size (entC dg sl rf)) := fun o => below_setRow (bZ) (Nat.le_refl _) _
      refine Xz0 (fun wx => Hid (SkX w box d wx ∧ wx.heap[w3.heap.size]? = some (.cells (entC dg sl rf) 70))) (hZ ⟨H3.out.below (hbx _), setRow_heap _ _ _ _ _ (0, 0) (heap_alloc_new w3 _)⟩) ?_
      clear hbx H3
      generalize w3.heap.size = b13
      intro w4 H4
      have HQI := hZ hQi
      clear hQi
      cases he : isEnt pg with
      | true =>
        obtain ⟨rfl, rfl, rfl⟩ := HDP.out he
        have hcb4 := (H4.out.1.2.block _ (Zz0 HC.out)).trans HC.out
        go_wp2_with (refine ent_load_g rfl (.tmp 13) rfl b13 _ _ _ rfl H4.out.2 hdg ?_)
        refine (findFn_any cb d (pDg pg) (pSlot pg) (pRefs pg) hd.1 hdg w4 hcb4).mono ?_
        rintro e w5 ⟨rfl, hb5⟩
        have H5 := hZ (H4.out.1.below hb5)
        clear hb5 hcb4 H4
        obtain ⟨b, hb⟩ : ∃ b, (decide (pDg pg = d) && decide (pRefs pg < 15)) = b := ⟨_, rfl⟩
        rw [hb]
        have HQb : Hid (Q ii = b) := hZ (by rw [HQI.out, he, hb]; rfl)
        clear hb
        cases b with
        | false =>
          try dsimp only
          go_wp2_with fail
          exact ⟨⟨k + 1, by go_num, by omega, HNX.out HQb.out, H5⟩, by simp [intOf]; omega⟩
        | true =>
          try dsimp only
          go_wp2_with fail
          go_ret3
          exact ⟨by rw [HF.out HQb.out]; rfl, H5.out.2⟩
      | false =>
        have HQb : Hid (Q ii = false) := hZ (by rw [HQI.out, he]; rfl)
        go_wp2_with fail
        exact ⟨⟨k + 1, by go_num, by omega, HNX.out HQb.out, hZ H4.out.1⟩, by simp [intOf]; omega⟩
    · obtain rfl : k = n := by omega
      go_wp2_with fail
      go_ret3
      exact ⟨by rw [seekO_none HNO.out]; rfl, H.out.2⟩
set_option maxRecDepth 100000 in
set_option maxHeartbeats 4000000 in
theorem seekFree_any (tb : Nat) (N : Nat → Prop) (bb first n : Nat) (B : BookS) (d : List Int) (hd : d.length = 32 ∧ U8s d) (w : World) (h : TabI w tb N bb first n B) :
    Calls Tryz.prog 169 #[.pointer (some ⟨tb, 0, none⟩), .nilFunc, .func (.func 170) #[] #[], .agg (v8a d)] w fun e w' => e = .returned (.tuple #[.int .i64 (((seekO (dgN d) n (fun i => !isEnt (B.view (first + i)))).getD 0 : Nat) : Int), .bool (seekO (dgN d) n (fun i => !isEnt (B.view (first + i)))).isSome, .nilIface]) ∧ Below w.heap.size w w' := by
  have HT := hZ h
  have hok := h.2.1.isOk
  have HOK := hZ hok
  have hn1 := h.2.2.2.1
  have hn0 := h.2.2.2.2
  have hn2 := hok.n.2
  clear h hok
  obtain ⟨Q, hQ⟩ : ∃ Q : Nat → Bool, Q = fun i => !isEnt (B.view (first + i)) := ⟨_, rfl⟩
  rw [← hQ]
  have HQ := hZ hQ
  clear hQ
  have hb0 : ∀ o : Obj, Below w.heap.size w (w.alloc o) := fun o => bZ
  have hq1 : ∀ wx : World, (binOp .neq 291 .nilFunc .nilFunc).run Tryz.prog wx = .ok (.bool false) wx := fun _ => by kernel_rfl
  have hq2 : ∀ wx : World, (binOp .neq 23 (.func (.func 170) #[] #[]) .nilFunc).run Tryz.prog wx = .ok (.bool true) wx := fun _ => by kernel_rfl
  go_enter Tryz.func169, Tryz.ntmps169
  repeat ((fail_if_success (with_reducible refine Vz1 "prints.go:86" rfl ?_)); (first | go_values | go_skip | go_guarded | go_step | go_upon))
  refine Xz0 (fun wx => Hid (SkX w w.heap.size d wx)) (hZ ⟨heap_alloc_new w (.cells (v8a d) 67), hb0 _⟩) ?_
  clear hb0
  generalize w.heap.size = box
  intro w1 H1
  obtain ⟨z0, z1, z2⟩ := blk3 ((HT.out.below H1.out.2).1)
  go_wp2_with fail
  go_loopw [11, 24] (fun _ kv wr => ∃ k : Nat, kv = .int .i64 k ∧ k ≤ n ∧ (∀ j, j < k → Q ((dgN d + j) % n) = false) ∧ Hid (SkX w box d wr)) (fun _ kv _ => n - (intOf kv).toNat)
  case atStart => exact ⟨0, rfl, by omega, fun j hj => by omega, H1⟩
  case round =>
    clear H1 z0 z1 z2
    obtain ⟨k, rfl, hk, hno, H⟩ := hrel
    have HNO := hZ hno
    clear hno
    by_cases hlt : k < n
    · have hk0 : (0 : Int) ≤ k := by omega
      have hk1 : (k : Int) < n := by omega
      have hn3 : (n : Int) ≤ 2048 := by omega
      have hn4 : (n : Int) ≠ 0 := by omega
      have hh0 : dgN d % n < n := Nat.mod_lt _ (by omega)
      have HEI : Hid (((dgN d % n : Nat) + (k : Int)) % (n : Int) = (((dgN d + k) % n : Nat) : Int)) := hZ (by
        rw [← Int.natCast_add, ← Int.natCast_emod, Nat.mod_add_mod])
      obtain ⟨ii, hii⟩ : ∃ ii : Nat, (dgN d + k) % n = ii := ⟨_, rfl⟩
      have hil : ii < n := by rw [← hii]; exact Nat.mod_lt _ (by omega)
      have HII := hZ hii
      rw [hii] at HEI
      clear hii
      have hHM := thome_any tb N bb first n B d hd wr.drew (HT.out.below H.out.2.drew) (by omega)
      obtain ⟨hm, hhm⟩ : ∃ hm : Nat, dgN d % n = hm := ⟨_, rfl⟩
      rw [hhm] at hHM hh0 HEI
      clear hhm
      obtain ⟨z0, z1, z2⟩ := blk3 ((HT.out.below H.out.2).1)
      have r2 := cell_regrown z2
      go_wp2_with fail
      refine Vz0 [(0, true), (1, true), (3, true), (5, true), (6, true), (7, true), (8, true), (2, false), (4, true), (9, true), (10, true)] 10 (fun w' => ∃ p : Regrown, w' = Go.Sort.grow (redrawn wr p.d) p.os) (by kernel_rfl) (by kernel_rfl) (fun _ _ d _ _ h => by cases d <;> exact h) (Vz2 _) ?_
      with_reducible refine mix_q ?_
      simp only [qd1, qd0, qt1, qt0]
      go_big_quiet_step (fail)
      with_reducible refine wpQuiet_nil ?_
      with_reducible refine mix_q ?_
      simp only [qd1, qd0, qt1, qt0]
      go_big_quiet_want
      refine quiet_dg (.tmp 7) rfl box d rfl (Wz4 H.out.1) hd.1 ?_
      simp only [Act.put, qs0, qs1, qs2]
      go_big_quiet_on
      with_reducible refine wpQuiet_nil ?_
      (repeat (with_reducible refine mix_q ?_; simp only [qd1, qd0, qt1, qt0]; go_big_quiet_step (fail); with_reducible refine wpQuiet_nil ?_))
      with_reducible refine mix_a ?_; simp only [qd1, qd0, qt1, qt0]
      go_wp2_with fail
      refine hHM.mono ?_
      clear hHM
      rintro e w2 ⟨rfl, hb2⟩
      have hb2' : Below wr.heap.size wr w2 := (Below.refl _ _).drew.trans hb2
      have H2 := hZ (H.out.below hb2')
      try dsimp only
      go_wp2_with fail
      try with_reducible refine wpList_nil ?_
      with_reducible refine Qz0 ?_
      refine ⟨fun _ => Jz0 hb2', ?_⟩
      clear hb2 hb2' H
      have hm0 : (0 : Int) ≤ hm := by omega
      have hmn : (hm : Int) < n := by omega
      have htm : ((hm : Int) + k).tmod n = (ii : Int) := by rw [Int.tmod_eq_emod_of_nonneg (by omega), HEI.out]
      (repeat (with_reducible refine mix_q ?_; simp only [qd1, qd0, qt1, qt0]; go_big_quiet_step (fail); with_reducible refine wpQuiet_nil ?_))
      with_reducible refine Wz1 ?_
      have HF : Hid (Q ii = true → seekO (dgN d) n Q = some ii) := hZ (fun hy => by rw [← HII.out]; exact seekO_found hlt HNO.out (by rw [HII.out]; exact hy))
      have HNX : Hid (Q ii = false → ∀ j, j < k + 1 → Q ((dgN d + j) % n) = false) := hZ (fun hn j hj => by
        by_cases e : j = k
        · subst e; rw [HII.out]; exact hn
        · exact HNO.out j (by omega))
      have hLK := look_any tb N bb first n B ii hil w2 (HT.out.below H2.out.2)
      have hQi : Q ii = (fun i => !isEnt (B.view (first + i))) ii := congrFun HQ.out ii
      dsimp only at hQi
      have HPK : Hid (PgOk (B.view (first + ii))) := hZ (BookS.view_ok HOK.out _ (by omega))
      generalize B.view (first + ii) = pg at hLK hQi HPK
      clear htm hm0 hmn r2 z0 z1 z2 hh0
      go_wp2_with fail
      refine hLK.mono ?_
      clear hLK
      rintro e w3 ⟨rfl, hb3⟩
      have H3 := hZ (H2.out.below hb3)
      clear hb3 H2
      obtain ⟨dg, sl, rf, hlk, hdg, hdgp⟩ : ∃ dg sl rf, lookC pg = entC dg sl rf ∧ dg.length = 32 ∧ (isEnt pg = true → dg = pDg pg ∧ sl = pSlot pg ∧ rf = pRefs pg) := by
        cases he : isEnt pg with
        | true => exact ⟨_, _, _, by unfold lookC; rw [he]; rfl, Wzi HPK.out.1, fun _ => ⟨rfl, rfl, rfl⟩⟩
        | false => exact ⟨zer 32, 0, 0, by unfold lookC; rw [he]; rfl, rfl, fun h => by cases h⟩
      rw [hlk]
      have HDP := hZ hdgp
      clear hlk hdgp
      try dsimp only
      repeat ((fail_if_success (with_reducible refine Kz1 45 rfl ?_)); (first | (refine Zza rfl (.tmp 13) (.tmp 41) rfl w3.heap.size dg (zer 32) sl rf 0 0 rfl rfl (heap_alloc_new w3 _) hdg rfl ?_) | go_values | go_skip | go_guarded | go_step | go_upon))
      have hbx : ∀ o : Obj, Below w3.heap.size w3 ((w3.alloc o).setRow w3.heap.size (entC dg sl rf)) := fun o => below_setRow (bZ) (Nat.le_refl _) _
      refine Xz0 (fun wx => Hid (SkX w box d wx ∧ wx.heap[w3.heap.size]? = some (.cells (entC dg sl rf) 70))) (hZ ⟨H3.out.below (hbx _), setRow_heap _ _ _ _ _ (0, 0) (heap_alloc_new w3 _)⟩) ?_
      clear hbx H3
      generalize w3.heap.size = b13
      intro w4 H4
      have HQI := hZ hQi
      clear hQi
      cases he : isEnt pg with
      | true =>
        have HQb : Hid (Q ii = false) := hZ (by rw [HQI.out, he]; rfl)
        go_wp2_with fail
        exact ⟨⟨k + 1, by go_num, by omega, HNX.out HQb.out, hZ H4.out.1⟩, by simp [intOf]; omega⟩
      | false =>
        have HQb : Hid (Q ii = true) := hZ (by rw [HQI.out, he]; rfl)
        go_wp2_with fail
        refine (freeFn_any w4).mono ?_
        rintro e w5 ⟨rfl, rfl⟩
        try dsimp only
        go_wp2_with fail
        go_ret3
        exact ⟨by rw [HF.out HQb.out]; rfl, H4.out.1.2⟩
    · obtain rfl : k = n := by omega
      go_wp2_with fail
      go_ret3
      exact ⟨by rw [seekO_none HNO.out]; rfl, H.out.2⟩
end Go.Proofs.YtajmcplanlibnaaGreatDoor
