/- A volume: the block of a number. -/
import Derived.Test.YtajmcplanlibnaaGreatDoorKYZ0
import Derived.Test.YtajmcplanlibnaaGreatDoorKYUg
set_option linter.unusedSimpArgs false
set_option linter.unusedVariables false
set_option linter.unnecessarySimpa false
namespace Go.Proofs.YtajmcplanlibnaaGreatDoor
open Go.RowKit Go.Maps
def VcF (vb : Nat) (C : Cfg) (lv : Value) (bb t1 t2 t3 b : Nat) (cs : Array Value) (T : Nat) (wx : World) : Prop := wx.heap[vb]? = some (.cells (volC C lv bb t1 t2 t3) 235) ∧ wx.heap[b]? = some (.cells cs T)
theorem Xze {w : World} {vb : Nat} {C : Cfg} {lv : Value} {bb t1 t2 t3 T : Nat} (h : w.heap[vb]? = some (.cells (volC C lv bb t1 t2 t3) T)) : w.cell? ⟨vb, 5, none⟩ = some lv ∧ w.cell? ⟨vb, 6, none⟩ = some (ptrV bb) ∧ w.cell? ⟨vb, 7, none⟩ = some (ptrV t1) ∧ w.cell? ⟨vb, 8, none⟩ = some (ptrV t2) ∧ w.cell? ⟨vb, 9, none⟩ = some (ptrV t3) := by
  refine ⟨?_, ?_, ?_, ?_, ?_⟩ <;> (rw [cell_of_row w vb _ _ _ (0, 0) h]; rfl)
section
variable {vb : Nat} {N : Nat → Prop} {C : Cfg} {lv : Value} {bb t1 t2 t3 : Nat} {B : BookS} {st : Nat → Int} {blk : Nat → List Int} {E : Nat → Option En} {M : Nat → Nat → Nat → Int} {r1 : Nat → Nat} {r2 : Nat → Nat → Nat}
set_option maxRecDepth 100000 in
set_option maxHeartbeats 2000000 in
theorem vblock_zero (w : World) : Calls Tryz.prog 182 #[ptrV vb, .int .i64 0] w fun e w' => e = .returned (.tuple #[.agg (v8a (zer 64)), .nilIface]) ∧ Below w.heap.size w w' := by
  have hb0 : ∀ o : Obj, Below w.heap.size w (w.alloc o) := fun o => bZ
  go_enter Tryz.func182, Tryz.ntmps182
  go_upto_region 1 with fail
  refine Kz0 (fun wx => Hid (wx.heap[w.heap.size]? = some (.cells (v8a (zer 64)) 37) ∧ Below w.heap.size w wx)) (hZ ⟨heap_alloc_new w (.cells (v8a (zer 64)) 37), hb0 _⟩) ?_
  clear hb0
  intro w1 H1
  go_wp2_with (first | (refine Qz4 rfl 37 _ rfl (v8a (zer 64)) Qzj ?_) | (refine Wz2 rfl (.tmp 4) (.tmp 10) rfl w.heap.size (zer 64) (zer 64) rfl rfl H1.out.1 rfl rfl ?_))
  exact bodyPost_ret (Vz3 Tryz.results182 _ _ w.heap.size 37 (v8a (zer 64)) (0, 0) _ rfl .nilIface rfl (setRow_heap _ _ _ _ _ (0, 0) H1.out.1) Tryz.underlying37 rfl Zz5) rfl ⟨rfl, below_setRow H1.out.2 (Nat.le_refl _) _⟩
set_option maxRecDepth 100000 in
set_option maxHeartbeats 4000000 in
theorem vblock_some {p s : Nat} {e : En} (hp : p < C.prints) (hE : E p = some e) (hs : e.2.1 = (s : Int)) (hs4 : s < C.boxes * 4) (hl : st s = 1) (hpg : PgOk (blk s)) (w : World) (h : VolS vb N C lv bb t1 t2 t3 B st blk E M r1 r2 w) :
    Calls Tryz.prog 182 #[ptrV vb, .int .i64 ((p : Int) + 1)] w fun e w' => e = .returned (.tuple #[.agg (v8a (blk s)), .nilIface]) ∧ Below w.heap.size w w' := by
  have HV := hZ h
  have HG := hZ (fun wx (hb : Below w.heap.size w wx) => v_get (h.below hb) hp hE)
  have HD := hZ (fun wx (hb : Below w.heap.size w wx) => v_dget (h.below hb) hs4 hl)
  have hel := (h.mod.tab.ok p e hp hE).1.1
  have hp2 := h.fit.prints.2
  obtain ⟨dg, sl, rf⟩ := e
  dsimp only at hs hel HG
  subst hs
  have hp64 := hpg.1
  generalize blk s = pg at *
  have hb0 : ∀ o : Obj, Below w.heap.size w (w.alloc o) := fun o => bZ
  have hx0 : ((p : Int) + 1 == 0) = false := by simp; omega
  have hxl : (0 : Int) ≤ p := by omega
  have hxu : (p : Int) ≤ 2048 := by omega
  clear h hpg hl hE
  go_enter Tryz.func182, Tryz.ntmps182
  go_upto_region 1 with fail
  refine Kz0 (fun wx => Hid (wx.heap[w.heap.size]? = some (.cells (v8a (zer 64)) 37) ∧ Below w.heap.size w wx)) (hZ ⟨heap_alloc_new w (.cells (v8a (zer 64)) 37), hb0 _⟩) ?_
  clear hb0
  intro w1 H1
  obtain ⟨z5, z6, z7, z8, z9⟩ := (HV.out.below H1.out.2).vol.cells
  have hG1 := HG.out w1 H1.out.2
  unfold ptrV at hG1 z6 z7 z8 z9 ⊢
  go_wp2_with fail
  refine hG1.mono ?_
  clear hG1 z5 z6 z7 z8 z9
  rintro e w2 ⟨rfl, hb2⟩
  have H2 : Hid (w2.heap[w.heap.size]? = some (.cells (v8a (zer 64)) 37) ∧ Below w.heap.size w w2) := hZ ⟨(hb2.block _ (Zz0 H1.out.1)).trans H1.out.1, H1.out.2.trans (hb2.mono H1.out.2.size)⟩
  clear hb2 H1 HG
  try dsimp only
  go_upto_region 4 with (first | (refine Zza rfl (.tmp 6) (.tmp 19) rfl w2.heap.size dg (zer 32) (s : Int) rf 0 0 rfl rfl (heap_alloc_new w2 _) hel rfl ?_))
  have hbx : ∀ o : Obj, Below w2.heap.size w2 ((w2.alloc o).setRow w2.heap.size (entC dg (s : Int) rf)) := fun o => below_setRow (bZ) (Nat.le_refl _) _
  refine Kz0 (fun wx => Hid (wx.heap[w2.heap.size]? = some (.cells (entC dg (s : Int) rf) 70) ∧ wx.heap[w.heap.size]? = some (.cells (v8a (zer 64)) 37) ∧ Below w.heap.size w wx)) (hZ ⟨setRow_heap _ _ _ _ _ (0, 0) (heap_alloc_new w2 _), ((hbx _).block _ (Zz0 H2.out.1)).trans H2.out.1, H2.out.2.trans ((hbx _).mono H2.out.2.size)⟩) ?_
  clear hbx H2
  generalize w2.heap.size = b6
  intro w3 H3
  try simp only [Act.put]
  go_wp2_with fail
  have hV3 := (HV.out.below H3.out.2.2).vol.vol
  have r1 : ∀ q : SatW (VcF vb C lv bb t1 t2 t3 b6 (entC dg (s : Int) rf) 70), q.w.cell? ⟨vb, 7, none⟩ = some (ptrV t1) := fun q => (Xze q.h.1).2.2.1
  have r2 : ∀ q : SatW (VcF vb C lv bb t1 t2 t3 b6 (entC dg (s : Int) rf) 70), q.w.cell? ⟨b6, 32, none⟩ = some (.int .i64 (s : Int)) := fun q => (Kzg hel q.h.2).1
  have hne : Nonempty (SatW (VcF vb C lv bb t1 t2 t3 b6 (entC dg (s : Int) rf) 70)) := ⟨⟨_, (show VcF vb C lv bb t1 t2 t3 b6 (entC dg (s : Int) rf) 70 w3.drew from ⟨hV3, H3.out.1⟩)⟩⟩
  refine Vz0 [(0, true), (1, true), (2, true), (3, true), (4, true), (5, true), (6, false), (7, true), (8, true), (9, false), (10, true)] 10 (fun w' => ∃ p : SatW (VcF vb C lv bb t1 t2 t3 b6 (entC dg (s : Int) rf) 70), w' = p.w) (by kernel_rfl) (by kernel_rfl) (fun _ _ d _ _ h => by cases d <;> exact h) (Jz3 (show VcF vb C lv bb t1 t2 t3 b6 (entC dg (s : Int) rf) 70 w3.drew from ⟨hV3, H3.out.1⟩)) ?_
  (repeat (with_reducible refine mix_q ?_; simp only [qd1, qd0, qt1, qt0]; go_big_quiet_step (fail); with_reducible refine wpQuiet_nil ?_))
  with_reducible refine mix_a ?_; simp only [qd1, qd0, qt1, qt0]
  go_wp2_with fail
  refine (HD.out w3.drew (H3.out.2.2.trans ((Below.refl _ _).drew.mono H3.out.2.2.size))).mono ?_
  rintro e w4 ⟨rfl, hb4⟩
  have hb34 : Below w3.heap.size w3 w4 := (Below.refl _ _).drew.trans hb4
  have H4 : Hid (VcF vb C lv bb t1 t2 t3 b6 (entC dg (s : Int) rf) 70 w4 ∧ w4.heap[w.heap.size]? = some (.cells (v8a (zer 64)) 37) ∧ Below w.heap.size w w4) := hZ ⟨⟨(hb34.block _ (Zz0 hV3)).trans hV3, (hb34.block _ (Zz0 H3.out.1)).trans H3.out.1⟩, (hb34.block _ (Zz0 H3.out.2.1)).trans H3.out.2.1, H3.out.2.2.trans (hb34.mono H3.out.2.2.size)⟩
  clear hb4 hb34 hV3 H3 HD
  try dsimp only
  go_wp2_with fail
  try with_reducible refine wpList_nil ?_
  with_reducible refine Qz0 ?_
  refine ⟨fun _ => Jz3 (F := VcF vb C lv bb t1 t2 t3 b6 (entC dg (s : Int) rf) 70) H4.out.1, ?_⟩
  (repeat (with_reducible refine mix_q ?_; simp only [qd1, qd0, qt1, qt0]; go_big_quiet_step (fail); with_reducible refine wpQuiet_nil ?_))
  with_reducible refine mix_a ?_; simp only [qd1, qd0, qt1, qt0]
  refine Wz2 rfl (.tmp 4) (.tmp 32) rfl w.heap.size pg (zer 64) rfl rfl H4.out.2.1 hp64 rfl ?_
  simp only [Act.put, qs0, qs1, qs2]
  try with_reducible refine wpList_nil ?_
  with_reducible refine Qz0 ?_
  refine ⟨fun _ => Jz3 (F := VcF vb C lv bb t1 t2 t3 b6 (entC dg (s : Int) rf) 70) ⟨?vol, ?ent⟩, ?_⟩
  case vol => rw [setRow_other _ _ _ _ (Zze H4.out.1.1 H4.out.2.1 (by decide))]; exact H4.out.1.1
  case ent => rw [setRow_other _ _ _ _ (Zze H4.out.1.2 H4.out.2.1 (by decide))]; exact H4.out.1.2
  (repeat (with_reducible refine mix_q ?_; simp only [qd1, qd0, qt1, qt0]; go_big_quiet_step (fail); with_reducible refine wpQuiet_nil ?_))
  with_reducible refine Wz1 ?_
  go_wp2_with fail
  exact bodyPost_ret (Vz3 Tryz.results182 _ _ w.heap.size 37 (v8a pg) (0, 0) _ rfl .nilIface rfl (setRow_heap _ _ _ _ _ (0, 0) H4.out.2.1) Tryz.underlying37 rfl (by rw [pgsz hp64]; exact Zz5)) rfl ⟨rfl, below_setRow H4.out.2.2 (Nat.le_refl _) _⟩
end
open Go.RowKit Go.Maps
theorem page_byin {w : World} {b T : Nat} {p : List Int} (h : w.heap[b]? = some (.cells (v8a p) T)) : ByIn w (some ⟨b, 0, none⟩) p := fun i hi => by
  refine ⟨b, 0, rfl, Zz0 h, ?_⟩
  rw [cell_of_row w b (0 + i) _ T (0, 0) h]
  simp [v8a, v8, hi]
theorem quiet_ent {op : Oper} {a : Act} {C : World → Prop} {K : Act → Prop} (x : Operand) (ho : op.op = .load 70 x) (g : Nat) (dg : List Int) (sl rf : Int) (hx : a.eval x = .pointer (some ⟨g, 0, none⟩)) (hS : ∀ w, C w → w.heap[g]? = some (.cells (entC dg sl rf) 70)) (hp : dg.length = 32)
    (h : K (a.put op.dst (.agg (entC dg sl rf)))) : op.quiet Tryz.prog a C K :=
  Jz1 _ x ho g 0 hx (v8 dg ++ [.int .i64 sl, .int .i64 rf]) _ (fun w hw j v hv => by rw [cell_of_row w g (0 + j) _ _ (0, 0) (hS w hw)]; simpa [entC] using hv) Tryz.underlying70 rfl (by simp only [List.length_append, Wz0, hp]; exact Vza) h
theorem ent_sl_set {w : World} {B T : Nat} {dg : List Int} {sl rf : Int} (hl : dg.length = 32) (h : w.heap[B]? = some (.cells (entC dg sl rf) T)) (r : Int) : (w.setCell ⟨B, 32, none⟩ (.int .i64 r)).heap[B]? = some (.cells (entC dg r rf) T) := by
  have hv : (v8 dg).length = 32 := by rw [Wz0, hl]
  have e : (entC dg sl rf).setIfInBounds 32 (.int .i64 r) = entC dg r rf := by
    unfold entC
    rw [List.setIfInBounds_toArray]
    congr 1
    rw [List.set_append_right _ _ (by omega), hv]
    rfl
  rw [Xz3 h, e]
theorem built_entD (dg : List Int) (hl : dg.length = 32) : Tryz.prog.built 70 [(0, .agg (v8a dg))] = some (entC dg 0 0) := by
  obtain ⟨it, z, fields, h1, h2, h3, h4, h5⟩ := ent_places
  rw [Jzb h1 h2 h3 h4]
  generalize z.cells = zc at h5 ⊢
  obtain ⟨zl⟩ := zc
  dsimp only at h5
  subst h5
  have ez : (v8 (zer 32)).length = 32 := by simp [v8, zer]
  have el : (v8 dg).length = 32 := by rw [Wz0, hl]
  have e0 : (Value.agg (v8a dg)).cells = v8a dg := rfl
  have e00 : (v8a dg).size = 32 := by simp [v8a, el]
  rw [Qz7 (off := 0) (by rw [e0, e00]; rfl) (by rw [e0, e00]; simp [ez])]
  rw [e0, e00]
  simp only [Instr.fill, Option.some.injEq]
  apply Array.ext'
  simp [entC, v8a, ez, el, List.take_append, List.drop_append]
def WtB (w : World) (b3 b6 : Nat) (p d : List Int) (wx : World) : Prop := wx.heap[b3]? = some (.cells (v8a p) 37) ∧ wx.heap[b6]? = some (.cells (v8a d) 67) ∧ w.heap.size ≤ b3 ∧ w.heap.size ≤ b6 ∧ Below w.heap.size w wx
theorem WtB.below {w wx wy : World} {b3 b6 : Nat} {p d : List Int} (h : WtB w b3 b6 p d wx) (hb : Below wx.heap.size wx wy) : WtB w b3 b6 p d wy :=
  ⟨(hb.block _ (Zz0 h.1)).trans h.1, (hb.block _ (Zz0 h.2.1)).trans h.2.1, h.2.2.1, h.2.2.2.1, h.2.2.2.2.trans (hb.mono h.2.2.2.2.size)⟩
theorem VolI.frame {w w' : World} {vb : Nat} {N : Nat → Prop} {C : Cfg} {lv : Value} {bb t1 t2 t3 : Nat} {B : BookS} (h : VolI w vb N C lv bb t1 t2 t3 B) (hk : Keeps (fun k => ¬ N k) w w') : VolI w' vb N C lv bb t1 t2 t3 B := by
  obtain ⟨n1, n2, n3, n4, n5⟩ := h.nots
  have hb : BookI w' bb (NV N vb t1 t2 t3 lv) B := by
    obtain ⟨db, rb, nb, ov, hX⟩ := h.book
    exact ⟨db, rb, nb, ov, hX.frame (hk.mono (fun k _ hn hN => hn (.inl hN)))⟩
  exact ⟨hk.blk n1 h.vol, Xz5 h.luns (fun k hk' => hk.block k (h.N_lt k (.inr (.inr (.inr (.inr (.inr hk')))))) (n5 k hk')), hk.blk n2 h.dep, hk.blk n3 h.tab, hk.blk n4 h.rad, hb, h.nots⟩
section
variable {vb : Nat} {N : Nat → Prop} {C : Cfg} {lv : Value} {bb t1 t2 t3 : Nat} {B : BookS} {st : Nat → Int} {blk : Nat → List Int} {E : Nat → Option En} {M : Nat → Nat → Nat → Int} {r1 : Nat → Nat} {r2 : Nat → Nat → Nat}
set_option maxRecDepth 100000 in
set_option maxHeartbeats 8000000 in
theorem want_new (hc : B.cnt ≤ 40) (p : List Int) (hp : PgOk p) (hnz : p ≠ zer 64) (hno : ∀ q e', q < C.prints → E q = some e' → ¬ (e'.1 = shaF p ∧ e'.2.2 < 15)) (hr : ∃ q, q < C.prints ∧ E q = none) (hf : ∃ s, s < C.boxes * 4 ∧ st s = 0) (w : World) (h : VolS vb N C lv bb t1 t2 t3 B st blk E M r1 r2 w) :
    Calls Tryz.prog 232 #[ptrV vb, .agg (v8a p)] w fun e w' => (∃ i s : Nat, i < C.prints ∧ E i = none ∧ s < C.boxes * 4 ∧ st s = 0 ∧ e = .returned (.tuple #[.int .i64 ((i : Int) + 1), .nilIface]) ∧ ∃ B', VolS vb N C lv bb t1 t2 t3 B' (fun t => if t = s then 1 else st t) (fun t => if t = s then p else blk t) (setM E i (some (shaF p, (s : Int), 1))) M r1 r2 w' ∧ B'.cnt ≤ B.cnt + 3 ∧ B'.shut = B.shut ∧ B'.n = B.n) ∧ Keeps N w w' := by
  have HV := hZ h
  have HP := hZ hp
  have hp64 := hp.1
  have hd : (shaF p).length = 32 ∧ U8s (shaF p) := ⟨Vz8 p, shaF_u8 p hp.2⟩
  have HSH := hZ (fun wx (b : Nat) (hb : wx.heap[b]? = some (.cells (v8a p) 37)) => (by
    have h := shaSum_any (some ⟨b, 0, none⟩) p 64 wx (page_byin hb) (by rw [hp64]; decide) hp.2 (fun h => by cases h)
    rw [hp64] at h
    exact h : Calls Tryz.prog 184 #[.slice (some ⟨b, 0, none⟩) (64 : Nat) 64] wx fun e w' => e = .returned (.agg (v8a (shaF p))) ∧ Below wx.heap.size wx w'))
  have HNO := hZ hno
  have HR := hZ hr
  have HF := hZ hf
  obtain ⟨d, hdd⟩ : ∃ d, shaF p = d := ⟨_, rfl⟩
  rw [hdd] at hd HSH HNO ⊢
  have HD := hZ hd
  have hd32 := hd.1
  have hne : decide (p = zer 64) = false := decide_eq_false hnz
  have hpr := h.fit.prints.2
  have hbx64 := h.fit.boxes.2
  have hb0 : ∀ o : Obj, Below w.heap.size w (w.alloc o) := fun o => bZ
  clear h hp hno hr hf hdd hd hnz
  unfold ptrV
  go_enter Tryz.func232, Tryz.ntmps232
  go_upto_region 1 with fail
  refine Kz0 (fun wx => Hid (wx.heap[w.heap.size]? = some (.cells (v8a p) 37) ∧ Below w.heap.size w wx)) (hZ ⟨heap_alloc_new w (.cells (v8a p) 37), hb0 _⟩) ?_
  clear hb0
  obtain ⟨b3, hb3, hb3'⟩ : ∃ b3, w.heap.size = b3 ∧ w.heap.size ≤ b3 := ⟨_, rfl, Nat.le_refl _⟩
  rw [hb3]
  intro w1 H1
  rw [← hb3] at H1
  have hS1 := HSH.out w1 b3 (by rw [← hb3]; exact H1.out.1)
  clear HSH
  repeat ((fail_if_success (with_reducible refine Kz1 15 rfl ?_)); (first | (refine Wz3 rfl (.tmp 3) rfl b3 p rfl (by rw [← hb3]; exact H1.out.1) hp64 ?_) | go_values | go_skip | go_guarded | go_step | go_upon))
  obtain ⟨z, hz⟩ : ∃ z, zer 64 = z := ⟨_, rfl⟩
  have HZ : Hid (Tryz.prog.built 37 [] = some (v8a z)) := hZ (by rw [← hz]; exact Qzj)
  have hz64 : z.length = 64 := by rw [← hz]; rfl
  rw [hz] at hne
  clear hz
  refine Qz4 rfl 37 _ rfl (v8a z) (by simp only [List.map_toArray, List.map_nil]; exact HZ.out) ?_
  go_wp2_with (first | (refine page_eql_g2 rfl _ _ _ rfl p z rfl rfl hp64 hz64 ?_; rw [hne]))
  refine hS1.mono ?_
  clear hS1
  rintro e w2 ⟨rfl, hb2⟩
  have H2 : Hid (w2.heap[b3]? = some (.cells (v8a p) 37) ∧ Below w.heap.size w w2) := hZ ⟨by rw [← hb3]; exact (hb2.block _ (Zz0 H1.out.1)).trans H1.out.1, H1.out.2.trans (hb2.mono H1.out.2.size)⟩
  clear hb2 H1 hb3
  try dsimp only
  go_upto_region 4 with (refine dg_store rfl (.tmp 6) (.tmp 18) rfl w2.heap.size d (zer 32) rfl rfl (heap_alloc_new w2 _) hd32 rfl ?_)
  have hbx : ∀ o : Obj, Below w2.heap.size w2 ((w2.alloc o).setRow w2.heap.size (v8a d)) := fun o => below_setRow (bZ) (Nat.le_refl _) _
  refine Kz0 (fun wx => Hid (WtB w b3 w2.heap.size p d wx)) (hZ ⟨((hbx _).block _ (Zz0 H2.out.1)).trans H2.out.1, setRow_heap _ _ _ _ _ (0, 0) (heap_alloc_new w2 _), hb3', H2.out.2.size, H2.out.2.trans ((hbx _).mono H2.out.2.size)⟩) ?_
  clear hbx H2
  generalize w2.heap.size = b6
  intro w3 H3
  try simp only [Act.put]
  go_wp2_with fail
  have hV3 := (HV.out.below H3.out.2.2.2.2).vol.vol
  have c1 : ∀ q : SatW (VcF vb C lv bb t1 t2 t3 b6 (v8a d) 67), q.w.cell? ⟨vb, 8, none⟩ = some (.pointer (some ⟨t2, 0, none⟩)) := fun q => (Xze q.h.1).2.2.2.1
  have hne : Nonempty (SatW (VcF vb C lv bb t1 t2 t3 b6 (v8a d) 67)) := ⟨⟨_, (show VcF vb C lv bb t1 t2 t3 b6 (v8a d) 67 w3.drew from ⟨hV3, H3.out.2.1⟩)⟩⟩
  refine Vz0 [(0, true), (1, true), (2, true), (3, true), (4, true), (5, false), (6, true), (7, true), (8, true), (9, true), (10, true), (11, true), (12, true)] 12 (fun w' => ∃ p : SatW (VcF vb C lv bb t1 t2 t3 b6 (v8a d) 67), w' = p.w) (by kernel_rfl) (by kernel_rfl) (fun _ _ d _ _ h => by cases d <;> exact h) (Jz3 (show VcF vb C lv bb t1 t2 t3 b6 (v8a d) 67 w3.drew from ⟨hV3, H3.out.2.1⟩)) ?_
  (repeat (with_reducible refine mix_q ?_; simp only [qd1, qd0, qt1, qt0]; go_big_quiet_step (fail); with_reducible refine wpQuiet_nil ?_))
  with_reducible refine mix_q ?_
  simp only [qd1, qd0, qt1, qt0]
  go_big_quiet_want
  refine quiet_dg (.tmp 6) rfl b6 d rfl (by rintro _ ⟨q, rfl⟩; exact q.h.2) hd32 ?_
  simp only [Act.put, qs0, qs1, qs2]
  go_big_quiet_on
  with_reducible refine wpQuiet_nil ?_
  with_reducible refine mix_a ?_; simp only [qd1, qd0, qt1, qt0]
  have hFD := v_find (HV.out.below (H3.out.2.2.2.2.trans ((Below.refl _ _).drew.mono H3.out.2.2.2.2.size))) d HD.out
  unfold ptrV at hFD
  go_wp2_with fail
  refine hFD.mono ?_
  clear hFD c1 hne
  rintro e w4 ⟨hF, hb4⟩
  have hb34 : Below w3.heap.size w3 w4 := (Below.refl _ _).drew.trans hb4
  have H4 := hZ (H3.out.below hb34)
  rcases hF with ⟨q, e', hq, hE, h1, h2, rfl⟩ | ⟨_, rfl⟩
  · exact absurd ⟨h1, h2⟩ (HNO.out q e' hq hE)
  clear hb4 hb34 hV3 H3 HNO
  try dsimp only
  go_wp2_with fail
  try with_reducible refine wpList_nil ?_
  with_reducible refine Qz0 ?_
  refine ⟨fun _ => Jz3 (F := VcF vb C lv bb t1 t2 t3 b6 (v8a d) 67) ⟨(HV.out.below H4.out.2.2.2.2).vol.vol, H4.out.2.1⟩, ?_⟩
  (repeat (with_reducible refine mix_q ?_; simp only [qd1, qd0, qt1, qt0]; go_big_quiet_step (fail); with_reducible refine wpQuiet_nil ?_))
  with_reducible refine mix_q ?_
  simp only [qd1, qd0, qt1, qt0]
  go_big_quiet_want
  refine quiet_of_run (.int .i64 0) (fun _ _ => rfl) ?_
  simp only [Act.put, qs0, qs1, qs2]
  go_big_quiet_on
  with_reducible refine wpQuiet_nil ?_
  with_reducible refine mix_q ?_
  simp only [qd1, qd0, qt1, qt0]
  go_big_quiet_want
  refine quiet_of_run (.bool false) (fun _ _ => rfl) ?_
  simp only [Act.put, qs0, qs1, qs2]
  go_big_quiet_on
  with_reducible refine wpQuiet_nil ?_
  with_reducible refine mix_q ?_
  simp only [qd1, qd0, qt1, qt0]
  go_big_quiet_want
  refine quiet_of_run (.nilIface) (fun _ _ => rfl) ?_
  simp only [Act.put, qs0, qs1, qs2]
  go_big_quiet_on
  with_reducible refine wpQuiet_nil ?_
  (repeat (with_reducible refine mix_q ?_; simp only [qd1, qd0, qt1, qt0]; go_big_quiet_step (fail); with_reducible refine wpQuiet_nil ?_))
  with_reducible refine Wz1 ?_
  go_upto_region 8 with (first | (refine dg_load rfl (.tmp 6) rfl b6 0 d rfl (Vz6 H4.out.2.1) hd32 ?_) | (refine Qz4 rfl 70 _ rfl (entC d 0 0) (by simp only [List.map_toArray, List.map_cons, List.map_nil]; exact built_entD d hd32) ?_) | (refine Zza rfl (.tmp 10) (.tmp 33) rfl w4.heap.size d (zer 32) 0 0 0 0 rfl rfl (heap_alloc_new w4 _) hd32 rfl ?_))
  have hbx : ∀ o : Obj, Below w4.heap.size w4 ((w4.alloc o).setRow w4.heap.size (entC d 0 0)) := fun o => below_setRow (bZ) (Nat.le_refl _) _
  refine Kz0 (fun wx => Hid (WtB w b3 b6 p d wx ∧ wx.heap[w4.heap.size]? = some (.cells (entC d 0 0) 70) ∧ w.heap.size ≤ w4.heap.size)) (hZ ⟨H4.out.below (hbx _), setRow_heap _ _ _ _ _ (0, 0) (heap_alloc_new w4 _), H4.out.2.2.2.2.size⟩) ?_
  clear hbx H4
  generalize w4.heap.size = b10
  intro w5 H5
  try simp only [Act.put]
  go_wp2_with fail
  have hV5 := (HV.out.below H5.out.1.2.2.2.2).vol.vol
  have c1 : ∀ q : SatW (VcF vb C lv bb t1 t2 t3 b6 (v8a d) 67), q.w.cell? ⟨vb, 8, none⟩ = some (.pointer (some ⟨t2, 0, none⟩)) := fun q => (Xze q.h.1).2.2.2.1
  have hne : Nonempty (SatW (VcF vb C lv bb t1 t2 t3 b6 (v8a d) 67)) := ⟨⟨_, (show VcF vb C lv bb t1 t2 t3 b6 (v8a d) 67 w5.drew from ⟨hV5, H5.out.1.2.1⟩)⟩⟩
  refine Vz0 [(0, true), (1, true), (2, true), (3, true), (4, true), (5, false), (6, true), (7, true), (8, true), (9, true), (10, true)] 10 (fun w' => ∃ p : SatW (VcF vb C lv bb t1 t2 t3 b6 (v8a d) 67), w' = p.w) (by kernel_rfl) (by kernel_rfl) (fun _ _ d _ _ h => by cases d <;> exact h) (Jz3 (show VcF vb C lv bb t1 t2 t3 b6 (v8a d) 67 w5.drew from ⟨hV5, H5.out.1.2.1⟩)) ?_
  (repeat (with_reducible refine mix_q ?_; simp only [qd1, qd0, qt1, qt0]; go_big_quiet_step (fail); with_reducible refine wpQuiet_nil ?_))
  with_reducible refine mix_q ?_
  simp only [qd1, qd0, qt1, qt0]
  go_big_quiet_want
  refine quiet_dg (.tmp 6) rfl b6 d rfl (by rintro _ ⟨q, rfl⟩; exact q.h.2) hd32 ?_
  simp only [Act.put, qs0, qs1, qs2]
  go_big_quiet_on
  with_reducible refine wpQuiet_nil ?_
  with_reducible refine mix_a ?_; simp only [qd1, qd0, qt1, qt0]
  have hFR := v_free (HV.out.below (H5.out.1.2.2.2.2.trans ((Below.refl _ _).drew.mono H5.out.1.2.2.2.2.size))) d HD.out HR.out
  unfold ptrV at hFR
  go_wp2_with fail
  refine hFR.mono ?_
  clear hFR c1
  rintro e w6 ⟨⟨i, hi, hEi, rfl⟩, hb6⟩
  have hb56 : Below w5.heap.size w5 w6 := (Below.refl _ _).drew.trans hb6
  have H6 : Hid (WtB w b3 b6 p d w6 ∧ w6.heap[b10]? = some (.cells (entC d 0 0) 70) ∧ w.heap.size ≤ b10) := hZ ⟨H5.out.1.below hb56, (hb56.block _ (Zz0 H5.out.2.1)).trans H5.out.2.1, H5.out.2.2⟩
  clear hb6 hb56 hV5 H5
  try dsimp only
  go_wp2_with fail
  try with_reducible refine wpList_nil ?_
  with_reducible refine Qz0 ?_
  refine ⟨fun _ => Jz3 (F := VcF vb C lv bb t1 t2 t3 b6 (v8a d) 67) ⟨(HV.out.below H6.out.1.2.2.2.2).vol.vol, H6.out.1.2.1⟩, ?_⟩
  (repeat (with_reducible refine mix_q ?_; simp only [qd1, qd0, qt1, qt0]; go_big_quiet_step (fail); with_reducible refine wpQuiet_nil ?_))
  with_reducible refine Wz1 ?_
  go_wp2_with fail
  have HN' : Hid (VolS vb (fun q => N q ∨ q = b3 ∨ q = b6 ∨ q = b10) C lv bb t1 t2 t3 B st blk E M r1 r2 w6) := hZ ⟨HV.out.vol.keep H6.out.1.2.2.2.2 (fun q hq => by
    rcases hq with hq | rfl | rfl | rfl
    · exact ⟨Nat.lt_of_lt_of_le (HV.out.vol.N_lt q (.inl hq)) H6.out.1.2.2.2.2.size, .inl hq⟩
    · exact ⟨Zz0 H6.out.1.1, .inr H6.out.1.2.2.1⟩
    · exact ⟨Zz0 H6.out.1.2.1, .inr H6.out.1.2.2.2.1⟩
    · exact ⟨Zz0 H6.out.2.1, .inr H6.out.2.2⟩), HV.out.mod, HV.out.fit⟩
  have c1 : ∀ q : SatW (VcF vb C lv bb t1 t2 t3 b3 (v8a p) 37), q.w.cell? ⟨vb, 7, none⟩ = some (.pointer (some ⟨t1, 0, none⟩)) := fun q => (Xze q.h.1).2.2.1
  have hne : Nonempty (SatW (VcF vb C lv bb t1 t2 t3 b3 (v8a p) 37)) := ⟨⟨_, (show VcF vb C lv bb t1 t2 t3 b3 (v8a p) 37 w6.drew from ⟨HN'.out.vol.vol, H6.out.1.1⟩)⟩⟩
  refine Vz0 [(0, true), (1, true), (2, true), (3, true), (4, true), (5, false), (6, true), (7, true), (8, true), (9, true), (10, false), (11, true)] 11 (fun w' => ∃ p : SatW (VcF vb C lv bb t1 t2 t3 b3 (v8a p) 37), w' = p.w) (by kernel_rfl) (by kernel_rfl) (fun _ _ d _ _ h => by cases d <;> exact h) (Jz3 (show VcF vb C lv bb t1 t2 t3 b3 (v8a p) 37 w6.drew from ⟨HN'.out.vol.vol, H6.out.1.1⟩)) ?_
  (repeat (with_reducible refine mix_q ?_; simp only [qd1, qd0, qt1, qt0]; go_big_quiet_step (fail); with_reducible refine wpQuiet_nil ?_))
  with_reducible refine mix_q ?_
  simp only [qd1, qd0, qt1, qt0]
  go_big_quiet_want
  refine Zz6 (.tmp 3) rfl b3 p rfl (by rintro _ ⟨q, rfl⟩; exact q.h.2) hp64 ?_
  simp only [Act.put, qs0, qs1, qs2]
  go_big_quiet_on
  with_reducible refine wpQuiet_nil ?_
  with_reducible refine mix_a ?_; simp only [qd1, qd0, qt1, qt0]
  have hPU := v_dput (HN'.out.below (Below.refl _ _).drew) (by omega) p HP.out HF.out
  unfold ptrV at hPU
  go_wp2_with fail
  refine hPU.mono ?_
  clear hPU c1
  rintro e w7 ⟨⟨s, rfl, hs4, hss, B1, hV7, hc7, hsh7, hn7⟩, hk7⟩
  have hk67 : Keeps (fun q => N q ∨ q = b3 ∨ q = b6 ∨ q = b10) w6 w7 := (Keeps.of_below (Below.refl _ _).drew).trans hk7
  have H7 : Hid (w7.heap[b3]? = some (.cells (v8a p) 37) ∧ w7.heap[b10]? = some (.cells (entC d 0 0) 70) ∧ VolS vb (fun q => N q ∨ q = b3 ∨ q = b6 ∨ q = b10) C lv bb t1 t2 t3 B1 (fun t => if t = s then 1 else st t) (fun t => if t = s then p else blk t) E M r1 r2 w7 ∧ Keeps N w w7) := hZ ⟨hk67.blk (.inr (.inl rfl)) H6.out.1.1, hk67.blk (.inr (.inr (.inr rfl))) H6.out.2.1, hV7, (Keeps.of_below H6.out.1.2.2.2.2).trans (hk67.mono (fun q _ hq => .inl hq))⟩
  have HS := hZ (And.intro hs4 hss)
  have hN10 : ¬ N b10 := fun hq => by have := HV.out.vol.N_lt b10 (.inl hq); have := H6.out.2.2; omega
  have hsl : (s : Int) < 256 := by omega
  clear hk7 hk67 hV7 H6 HN' hs4 hss
  try dsimp only
  go_wp2_with fail
  try with_reducible refine wpList_nil ?_
  with_reducible refine Qz0 ?_
  refine ⟨fun _ => Jz3 (F := VcF vb C lv bb t1 t2 t3 b3 (v8a p) 37) ⟨H7.out.2.2.1.vol.vol, H7.out.1⟩, ?_⟩
  (repeat (with_reducible refine mix_q ?_; simp only [qd1, qd0, qt1, qt0]; go_big_quiet_step (fail); with_reducible refine wpQuiet_nil ?_))
  with_reducible refine mix_a ?_; simp only [qd1, qd0, qt1, qt0]
  obtain ⟨y0, y1⟩ := Kzg hd32 H7.out.2.1
  have f0 := ent_fr H7.out.2.1 32
  go_wp2_with fail
  try with_reducible refine wpList_nil ?_
  with_reducible refine Qz0 ?_
  have hg : w7.grownBy (w7.setCell ⟨b10, 32, none⟩ (.int .i64 (s : Int))) (some b10) := Zz4 _ _ _ _
  refine ⟨fun _ => Jz3 (F := VcF vb C lv bb t1 t2 t3 b3 (v8a p) 37) ⟨?vol, ?ent⟩, ?_⟩
  case vol => rw [Zz1 (Zze H7.out.2.2.1.vol.vol H7.out.2.1 (by decide)).symm rfl]; exact H7.out.2.2.1.vol.vol
  case ent => rw [Zz1 (Zze H7.out.1 H7.out.2.1 (by decide)).symm rfl]; exact H7.out.1
  (repeat (with_reducible refine mix_q ?_; simp only [qd1, qd0, qt1, qt0]; go_big_quiet_step (fail); with_reducible refine wpQuiet_nil ?_))
  with_reducible refine Wz1 ?_
  have hkw : Keeps (fun q => q ≠ b10) w7 (w7.setCell ⟨b10, 32, none⟩ (.int .i64 (s : Int))) := Keeps.of_grown hg (by simp)
  have H8 : Hid ((w7.setCell ⟨b10, 32, none⟩ (.int .i64 (s : Int))).heap[b10]? = some (.cells (entC d (s : Int) 0) 70) ∧ VolS vb (fun q => N q ∨ q = b3 ∨ q = b6 ∨ q = b10) C lv bb t1 t2 t3 B1 (fun t => if t = s then 1 else st t) (fun t => if t = s then p else blk t) E M r1 r2 (w7.setCell ⟨b10, 32, none⟩ (.int .i64 (s : Int))) ∧ Keeps N w (w7.setCell ⟨b10, 32, none⟩ (.int .i64 (s : Int)))) := hZ ⟨ent_sl_set hd32 H7.out.2.1 _, ⟨H7.out.2.2.1.vol.frame (hkw.mono (fun k _ hn e => hn (.inr (.inr (.inr e))))), H7.out.2.2.1.mod, H7.out.2.2.1.fit⟩, H7.out.2.2.2.trans (hkw.mono (fun k _ hk e => hN10 (e ▸ hk)))⟩
  clear hkw hg f0 y0 y1 H7
  generalize w7.setCell ⟨b10, 32, none⟩ (.int .i64 (s : Int)) = w8 at H8 ⊢
  obtain ⟨y0, y1⟩ := Kzg hd32 H8.out.1
  have f1 := ent_fr H8.out.1 33
  go_upto_region 26 with fail
  have hg : w8.grownBy (w8.setCell ⟨b10, 33, none⟩ (.int .i64 1)) (some b10) := Zz4 _ _ _ _
  have hkw : Keeps (fun q => q ≠ b10) w8 (w8.setCell ⟨b10, 33, none⟩ (.int .i64 1)) := Keeps.of_grown hg (by simp)
  refine Kz0 (fun wx => Hid (wx.heap[b10]? = some (.cells (entC d (s : Int) 1) 70) ∧ VolS vb (fun q => N q ∨ q = b3 ∨ q = b6 ∨ q = b10) C lv bb t1 t2 t3 B1 (fun t => if t = s then 1 else st t) (fun t => if t = s then p else blk t) E M r1 r2 wx ∧ Keeps N w wx)) (hZ ⟨ent_rf_set hd32 H8.out.1 _, ⟨H8.out.2.1.vol.frame (hkw.mono (fun k _ hn e => hn (.inr (.inr (.inr e))))), H8.out.2.1.mod, H8.out.2.1.fit⟩, H8.out.2.2.trans (hkw.mono (fun k _ hk e => hN10 (e ▸ hk)))⟩) ?_
  clear hkw hg f1 y0 y1 H8
  intro w9 H9
  try simp only [Act.put]
  go_wp2_with fail
  have hi0 : (0 : Int) ≤ i := by omega
  have hi2 : (i : Int) ≤ 2048 := by omega
  have c1 : ∀ q : SatW (VcF vb C lv bb t1 t2 t3 b10 (entC d (s : Int) 1) 70), q.w.cell? ⟨vb, 8, none⟩ = some (.pointer (some ⟨t2, 0, none⟩)) := fun q => (Xze q.h.1).2.2.2.1
  have hne : Nonempty (SatW (VcF vb C lv bb t1 t2 t3 b10 (entC d (s : Int) 1) 70)) := ⟨⟨_, (show VcF vb C lv bb t1 t2 t3 b10 (entC d (s : Int) 1) 70 w9.drew from ⟨H9.out.2.1.vol.vol, H9.out.1⟩)⟩⟩
  refine Vz0 [(0, true), (1, true), (2, true), (3, true), (4, true), (5, true), (6, true), (7, true), (8, false), (9, true), (10, true)] 10 (fun w' => ∃ p : SatW (VcF vb C lv bb t1 t2 t3 b10 (entC d (s : Int) 1) 70), w' = p.w) (by kernel_rfl) (by kernel_rfl) (fun _ _ d _ _ h => by cases d <;> exact h) (Jz3 (show VcF vb C lv bb t1 t2 t3 b10 (entC d (s : Int) 1) 70 w9.drew from ⟨H9.out.2.1.vol.vol, H9.out.1⟩)) ?_
  (repeat (with_reducible refine mix_q ?_; simp only [qd1, qd0, qt1, qt0]; go_big_quiet_step (fail); with_reducible refine wpQuiet_nil ?_))
  with_reducible refine mix_q ?_
  simp only [qd1, qd0, qt1, qt0]
  go_big_quiet_want
  refine quiet_ent (.tmp 10) rfl b10 d (s : Int) 1 rfl (by rintro _ ⟨q, rfl⟩; exact q.h.2) hd32 ?_
  simp only [Act.put, qs0, qs1, qs2]
  go_big_quiet_on
  with_reducible refine wpQuiet_nil ?_
  with_reducible refine mix_a ?_; simp only [qd1, qd0, qt1, qt0]
  have hSE := v_tset (H9.out.2.1.below (Below.refl _ _).drew) (by omega) hi HD.out ⟨by omega, hsl⟩ (rf := 1) ⟨by decide, by decide⟩
  unfold ptrV at hSE
  go_wp2_with fail
  refine hSE.mono ?_
  clear hSE c1
  rintro e w10 ⟨rfl, ⟨B2, hV10, hc10, hsh10, hn10⟩, hk10⟩
  have hk910 : Keeps N w9 w10 := (Keeps.of_below (Below.refl _ _).drew).trans (hk10.mono (fun q _ hq => .inl hq))
  have H10 : Hid (VolS vb N C lv bb t1 t2 t3 B2 (fun t => if t = s then 1 else st t) (fun t => if t = s then p else blk t) (setM E i (some (d, (s : Int), 1))) M r1 r2 w10 ∧ B2.cnt ≤ B.cnt + 3 ∧ B2.shut = B.shut ∧ B2.n = B.n ∧ Keeps N w w10) := hZ ⟨⟨hV10.vol.less (fun q hq => .inl hq), hV10.mod, hV10.fit⟩, by omega, hsh10.trans hsh7, hn10.trans hn7, H9.out.2.2.trans hk910⟩
  have hvx : VcF vb C lv bb t1 t2 t3 b10 (entC d (s : Int) 1) 70 w10 := ⟨hV10.vol.vol, hk10.blk (.inr (.inr (.inr rfl))) H9.out.1⟩
  clear hk910 hk10 hV10 H9
  try dsimp only
  go_wp2_with fail
  try with_reducible refine wpList_nil ?_
  with_reducible refine Qz0 ?_
  refine ⟨fun _ => Jz3 (F := VcF vb C lv bb t1 t2 t3 b10 (entC d (s : Int) 1) 70) hvx, ?_⟩
  (repeat (with_reducible refine mix_q ?_; simp only [qd1, qd0, qt1, qt0]; go_big_quiet_step (fail); with_reducible refine wpQuiet_nil ?_))
  with_reducible refine Wz1 ?_
  go_wp2_with fail
  go_ret2
  exact ⟨⟨i, s, hi, hEi, HS.out.1, HS.out.2, rfl, B2, H10.out.1, H10.out.2.1, H10.out.2.2.1, H10.out.2.2.2.1⟩, H10.out.2.2.2.2⟩
end
open Go.RowKit Go.Maps
section
variable {vb : Nat} {N : Nat → Prop} {C : Cfg} {lv : Value} {bb t1 t2 t3 : Nat} {B : BookS} {st : Nat → Int} {blk : Nat → List Int} {E : Nat → Option En} {M : Nat → Nat → Nat → Int} {r1 : Nat → Nat} {r2 : Nat → Nat → Nat}
set_option maxRecDepth 100000 in
set_option maxHeartbeats 8000000 in
theorem want_old (hc : B.cnt ≤ 40) (p : List Int) (hp : PgOk p) (hnz : p ≠ zer 64) (hsome : ∃ q e', q < C.prints ∧ E q = some e' ∧ e'.1 = shaF p ∧ e'.2.2 < 15) (hall : ∀ q e', q < C.prints → E q = some e' → e'.1 = shaF p → e'.2.2 < 15 → ∃ s : Nat, e'.2.1 = (s : Int) ∧ s < C.boxes * 4 ∧ st s = 1 ∧ blk s = p) (w : World) (h : VolS vb N C lv bb t1 t2 t3 B st blk E M r1 r2 w) :
    Calls Tryz.prog 232 #[ptrV vb, .agg (v8a p)] w fun e w' => (∃ (i : Nat) (e' : En), i < C.prints ∧ E i = some e' ∧ e'.1 = shaF p ∧ e'.2.2 < 15 ∧ e = .returned (.tuple #[.int .i64 ((i : Int) + 1), .nilIface]) ∧ ∃ B', VolS vb N C lv bb t1 t2 t3 B' st blk (setM E i (some (shaF p, e'.2.1, e'.2.2 + 1))) M r1 r2 w' ∧ B'.cnt ≤ B.cnt + 1 ∧ B'.shut = B.shut ∧ B'.n = B.n) ∧ Keeps N w w' := by
  have HV := hZ h
  have HP := hZ hp
  have hp64 := hp.1
  have hd : (shaF p).length = 32 ∧ U8s (shaF p) := ⟨Vz8 p, shaF_u8 p hp.2⟩
  have HSH := hZ (fun wx (b : Nat) (hb : wx.heap[b]? = some (.cells (v8a p) 37)) => (by
    have h := shaSum_any (some ⟨b, 0, none⟩) p 64 wx (page_byin hb) (by rw [hp64]; decide) hp.2 (fun h => by cases h)
    rw [hp64] at h
    exact h : Calls Tryz.prog 184 #[.slice (some ⟨b, 0, none⟩) (64 : Nat) 64] wx fun e w' => e = .returned (.agg (v8a (shaF p))) ∧ Below wx.heap.size wx w'))
  have HSM := hZ hsome
  have HAL := hZ hall
  obtain ⟨d, hdd⟩ : ∃ d, shaF p = d := ⟨_, rfl⟩
  rw [hdd] at hd HSH HSM HAL ⊢
  have HD := hZ hd
  have hd32 := hd.1
  have hne : decide (p = zer 64) = false := decide_eq_false hnz
  have hpr := h.fit.prints.2
  have hbx64 := h.fit.boxes.2
  have hb0 : ∀ o : Obj, Below w.heap.size w (w.alloc o) := fun o => bZ
  clear h hp hsome hall hdd hd hnz
  unfold ptrV
  go_enter Tryz.func232, Tryz.ntmps232
  go_upto_region 1 with fail
  refine Kz0 (fun wx => Hid (wx.heap[w.heap.size]? = some (.cells (v8a p) 37) ∧ Below w.heap.size w wx)) (hZ ⟨heap_alloc_new w (.cells (v8a p) 37), hb0 _⟩) ?_
  clear hb0
  obtain ⟨b3, hb3, hb3'⟩ : ∃ b3, w.heap.size = b3 ∧ w.heap.size ≤ b3 := ⟨_, rfl, Nat.le_refl _⟩
  rw [hb3]
  intro w1 H1
  rw [← hb3] at H1
  have hS1 := HSH.out w1 b3 (by rw [← hb3]; exact H1.out.1)
  clear HSH
  repeat ((fail_if_success (with_reducible refine Kz1 15 rfl ?_)); (first | (refine Wz3 rfl (.tmp 3) rfl b3 p rfl (by rw [← hb3]; exact H1.out.1) hp64 ?_) | go_values | go_skip | go_guarded | go_step | go_upon))
  obtain ⟨z, hz⟩ : ∃ z, zer 64 = z := ⟨_, rfl⟩
  have HZ : Hid (Tryz.prog.built 37 [] = some (v8a z)) := hZ (by rw [← hz]; exact Qzj)
  have hz64 : z.length = 64 := by rw [← hz]; rfl
  rw [hz] at hne
  clear hz
  refine Qz4 rfl 37 _ rfl (v8a z) (by simp only [List.map_toArray, List.map_nil]; exact HZ.out) ?_
  go_wp2_with (first | (refine page_eql_g2 rfl _ _ _ rfl p z rfl rfl hp64 hz64 ?_; rw [hne]))
  refine hS1.mono ?_
  clear hS1
  rintro e w2 ⟨rfl, hb2⟩
  have H2 : Hid (w2.heap[b3]? = some (.cells (v8a p) 37) ∧ Below w.heap.size w w2) := hZ ⟨by rw [← hb3]; exact (hb2.block _ (Zz0 H1.out.1)).trans H1.out.1, H1.out.2.trans (hb2.mono H1.out.2.size)⟩
  clear hb2 H1 hb3
  try dsimp only
  go_upto_region 4 with (refine dg_store rfl (.tmp 6) (.tmp 18) rfl w2.heap.size d (zer 32) rfl rfl (heap_alloc_new w2 _) hd32 rfl ?_)
  have hbx : ∀ o : Obj, Below w2.heap.size w2 ((w2.alloc o).setRow w2.heap.size (v8a d)) := fun o => below_setRow (bZ) (Nat.le_refl _) _
  refine Kz0 (fun wx => Hid (WtB w b3 w2.heap.size p d wx)) (hZ ⟨((hbx _).block _ (Zz0 H2.out.1)).trans H2.out.1, setRow_heap _ _ _ _ _ (0, 0) (heap_alloc_new w2 _), hb3', H2.out.2.size, H2.out.2.trans ((hbx _).mono H2.out.2.size)⟩) ?_
  clear hbx H2
  generalize w2.heap.size = b6
  intro w3 H3
  try simp only [Act.put]
  go_wp2_with fail
  have hV3 := (HV.out.below H3.out.2.2.2.2).vol.vol
  have c1 : ∀ q : SatW (VcF vb C lv bb t1 t2 t3 b6 (v8a d) 67), q.w.cell? ⟨vb, 8, none⟩ = some (.pointer (some ⟨t2, 0, none⟩)) := fun q => (Xze q.h.1).2.2.2.1
  have hne : Nonempty (SatW (VcF vb C lv bb t1 t2 t3 b6 (v8a d) 67)) := ⟨⟨_, (show VcF vb C lv bb t1 t2 t3 b6 (v8a d) 67 w3.drew from ⟨hV3, H3.out.2.1⟩)⟩⟩
  refine Vz0 [(0, true), (1, true), (2, true), (3, true), (4, true), (5, false), (6, true), (7, true), (8, true), (9, true), (10, true), (11, true), (12, true)] 12 (fun w' => ∃ p : SatW (VcF vb C lv bb t1 t2 t3 b6 (v8a d) 67), w' = p.w) (by kernel_rfl) (by kernel_rfl) (fun _ _ d _ _ h => by cases d <;> exact h) (Jz3 (show VcF vb C lv bb t1 t2 t3 b6 (v8a d) 67 w3.drew from ⟨hV3, H3.out.2.1⟩)) ?_
  (repeat (with_reducible refine mix_q ?_; simp only [qd1, qd0, qt1, qt0]; go_big_quiet_step (fail); with_reducible refine wpQuiet_nil ?_))
  with_reducible refine mix_q ?_
  simp only [qd1, qd0, qt1, qt0]
  go_big_quiet_want
  refine quiet_dg (.tmp 6) rfl b6 d rfl (by rintro _ ⟨q, rfl⟩; exact q.h.2) hd32 ?_
  simp only [Act.put, qs0, qs1, qs2]
  go_big_quiet_on
  with_reducible refine wpQuiet_nil ?_
  with_reducible refine mix_a ?_; simp only [qd1, qd0, qt1, qt0]
  have hFD := v_find (HV.out.below (H3.out.2.2.2.2.trans ((Below.refl _ _).drew.mono H3.out.2.2.2.2.size))) d HD.out
  unfold ptrV at hFD
  go_wp2_with fail
  refine hFD.mono ?_
  clear hFD c1 hne
  rintro e w4 ⟨hF, hb4⟩
  have hb34 : Below w3.heap.size w3 w4 := (Below.refl _ _).drew.trans hb4
  have H4 := hZ (H3.out.below hb34)
  rcases hF with ⟨i, e', hi, hE, h1, h2, rfl⟩ | ⟨hno, _⟩
  case inr =>
    obtain ⟨q, e', a1, a2, a3, a4⟩ := HSM.out
    exact absurd ⟨a3, a4⟩ (hno q e' a1 a2)
  have hok := HV.out.mod.tab.ok i e' hi hE
  obtain ⟨s, hs1, hs4, hst, hbk⟩ := HAL.out i e' hi hE h1 h2
  obtain ⟨dg, sl, rf⟩ := e'
  dsimp only at h1 h2 hs1 hok
  subst h1 hs1
  have HE := hZ hE
  have HS := hZ (And.intro hs4 (And.intro hst hbk))
  have hrf : 1 ≤ rf := hok.2.2.1
  have hsl : (s : Int) < 256 := hok.2.1.2
  have hi0 : (0 : Int) ≤ i := by omega
  have hi2 : (i : Int) ≤ 2048 := by omega
  clear hb4 hb34 hV3 H3 hE hok hs4 hst hbk HSM HAL
  try dsimp only
  go_wp2_with fail
  try with_reducible refine wpList_nil ?_
  with_reducible refine Qz0 ?_
  refine ⟨fun _ => Jz3 (F := VcF vb C lv bb t1 t2 t3 b6 (v8a dg) 67) ⟨(HV.out.below H4.out.2.2.2.2).vol.vol, H4.out.2.1⟩, ?_⟩
  (repeat (with_reducible refine mix_q ?_; simp only [qd1, qd0, qt1, qt0]; go_big_quiet_step (fail); with_reducible refine wpQuiet_nil ?_))
  with_reducible refine mix_q ?_
  simp only [qd1, qd0, qt1, qt0]
  go_big_quiet_want
  refine quiet_of_run (.int .i64 (i : Int)) (fun _ _ => rfl) ?_
  simp only [Act.put, qs0, qs1, qs2]
  go_big_quiet_on
  with_reducible refine wpQuiet_nil ?_
  with_reducible refine mix_q ?_
  simp only [qd1, qd0, qt1, qt0]
  go_big_quiet_want
  refine quiet_of_run (.bool true) (fun _ _ => rfl) ?_
  simp only [Act.put, qs0, qs1, qs2]
  go_big_quiet_on
  with_reducible refine wpQuiet_nil ?_
  with_reducible refine mix_q ?_
  simp only [qd1, qd0, qt1, qt0]
  go_big_quiet_want
  refine quiet_of_run (.nilIface) (fun _ _ => rfl) ?_
  simp only [Act.put, qs0, qs1, qs2]
  go_big_quiet_on
  with_reducible refine wpQuiet_nil ?_
  (repeat (with_reducible refine mix_q ?_; simp only [qd1, qd0, qt1, qt0]; go_big_quiet_step (fail); with_reducible refine wpQuiet_nil ?_))
  with_reducible refine Wz1 ?_
  go_upto_region 8 with (first | (refine dg_load rfl (.tmp 6) rfl b6 0 dg rfl (Vz6 H4.out.2.1) hd32 ?_) | (refine Qz4 rfl 70 _ rfl (entC dg 0 0) (by simp only [List.map_toArray, List.map_cons, List.map_nil]; exact built_entD dg hd32) ?_) | (refine Zza rfl (.tmp 10) (.tmp 33) rfl w4.heap.size dg (zer 32) 0 0 0 0 rfl rfl (heap_alloc_new w4 _) hd32 rfl ?_))
  have hbx : ∀ o : Obj, Below w4.heap.size w4 ((w4.alloc o).setRow w4.heap.size (entC dg 0 0)) := fun o => below_setRow (bZ) (Nat.le_refl _) _
  refine Kz0 (fun wx => Hid (WtB w b3 b6 p dg wx ∧ wx.heap[w4.heap.size]? = some (.cells (entC dg 0 0) 70) ∧ w.heap.size ≤ w4.heap.size)) (hZ ⟨H4.out.below (hbx _), setRow_heap _ _ _ _ _ (0, 0) (heap_alloc_new w4 _), H4.out.2.2.2.2.size⟩) ?_
  clear hbx H4
  generalize w4.heap.size = b10
  intro w5 H5
  try simp only [Act.put]
  obtain ⟨z5, z6, z7, z8, z9⟩ := (HV.out.below H5.out.1.2.2.2.2).vol.cells
  have hGT := v_get (HV.out.below H5.out.1.2.2.2.2) hi HE.out
  unfold ptrV at hGT z6 z7 z8 z9
  go_wp2_with fail
  refine hGT.mono ?_
  clear hGT z5 z6 z7 z8 z9
  rintro e w6 ⟨rfl, hb6⟩
  have H6 : Hid (WtB w b3 b6 p dg w6 ∧ w6.heap[b10]? = some (.cells (entC dg 0 0) 70) ∧ w.heap.size ≤ b10) := hZ ⟨H5.out.1.below hb6, (hb6.block _ (Zz0 H5.out.2.1)).trans H5.out.2.1, H5.out.2.2⟩
  clear hb6 H5
  try dsimp only
  go_upto_region 10 with (first | (refine Zza rfl (.tmp 11) (.tmp 42) rfl w6.heap.size dg (zer 32) (s : Int) rf 0 0 rfl rfl (heap_alloc_new w6 _) hd32 rfl ?_))
  have hbx : ∀ o : Obj, Below w6.heap.size w6 ((w6.alloc o).setRow w6.heap.size (entC dg (s : Int) rf)) := fun o => below_setRow (bZ) (Nat.le_refl _) _
  refine Kz0 (fun wx => Hid ((WtB w b3 b6 p dg wx ∧ wx.heap[b10]? = some (.cells (entC dg 0 0) 70) ∧ w.heap.size ≤ b10) ∧ wx.heap[w6.heap.size]? = some (.cells (entC dg (s : Int) rf) 70) ∧ b10 ≠ w6.heap.size)) (hZ ⟨⟨H6.out.1.below (hbx _), ((hbx _).block _ (Zz0 H6.out.2.1)).trans H6.out.2.1, H6.out.2.2⟩, setRow_heap _ _ _ _ _ (0, 0) (heap_alloc_new w6 _), fun e => by have := Zz0 H6.out.2.1; omega⟩) ?_
  clear hbx H6
  generalize w6.heap.size = b11
  intro w7 H7
  try simp only [Act.put]
  go_wp2_with fail
  obtain ⟨z5, z6, z7, z8, z9⟩ := (HV.out.below H7.out.1.1.2.2.2.2).vol.cells
  obtain ⟨y0, y1⟩ := Kzg hd32 H7.out.2.1
  unfold ptrV at z7
  have q0 := cell_regrown z7
  have q1 := cell_regrown y0
  have hDG := hZ (fun wx (hb : Below w7.heap.size w7 wx) => (by
    have h := v_dget (HV.out.below (H7.out.1.1.2.2.2.2.trans (hb.mono H7.out.1.1.2.2.2.2.size))) HS.out.1 HS.out.2.1
    rw [HS.out.2.2] at h
    exact h : Calls Tryz.prog 102 #[.pointer (some ⟨t1, 0, none⟩), .int .i64 (s : Int)] wx fun e w' => e = .returned (.tuple #[.agg (v8a p), .nilIface]) ∧ Below wx.heap.size wx w'))
  clear z5 z6 z7 z8 z9 y0 y1
  refine Jz8 (.quiet 0 (.quiet 1 (.quiet 2 (.quiet 3 (.quiet 4 (.quiet 5 (.two 6 10 (.quiet 7 (.quiet 8 (.quiet 9 (.one 10 (.one 11 (.quiet 12 .nil)))))) (.one 6 (.quiet 7 (.quiet 8 (.quiet 9 (.one 11 (.quiet 12 .nil))))))))))))) (fun w' => ∃ p : Regrown, w' = Go.Sort.grow (redrawn w7 p.d) p.os) (by kernel_rfl) (by kernel_rfl) (fun _ _ d _ _ h => by cases d <;> exact h) (Vz2 _) ?_
  (repeat (with_reducible refine Jz6 ?_; simp only [qd1, qd0, qt1, qt0]; go_big_quiet_step (fail); with_reducible refine wpQuiet_nil ?_))
  apply tail_cut
  · intro TAIL
    with_reducible refine Kze ?_ ?_
    · simp only [qd1, qd0, qt1, qt0]
      go_wp2_with fail
      refine (hDG.out w7.drew (Below.refl _ _).drew).mono ?_
      rintro e wa ⟨rfl, hba1⟩
      have hba2 : Below w7.heap.size w7 wa := (Below.refl _ _).drew.trans hba1
      try dsimp only
      go_wp2_with fail
      (try with_reducible refine wpList_nil ?_); with_reducible refine Qz0 ?_
      refine ⟨Jz0 hba2, ?_⟩
      (repeat (with_reducible refine Jz6 ?_; simp only [qd1, qd0, qt1, qt0]; go_big_quiet_step (fail); with_reducible refine wpQuiet_nil ?_))
      with_reducible refine Kz8 ?_; simp only [qd1, qd0, qt1, qt0]
      have hbo : ∀ o : Obj, Below w7.heap.size w7 (wa.alloc o) := fun o => hba2.alloc hba2.size _
      have hsa := hba2.size
      go_wp2_with fail
      (try with_reducible refine wpList_nil ?_); with_reducible refine Qz0 ?_
      refine ⟨Jz0 (hbo _), ?_⟩
      refine Xz7 (fun wx => Hid (wx.heap[wa.heap.size]? = some (.cells (v8a (zer 64)) 37) ∧ Below w7.heap.size w7 wx)) (hZ ⟨heap_alloc_new wa (.cells (v8a (zer 64)) 37), hbo _⟩) ?_
      generalize wa.heap.size = box at hsa ⊢
      intro wb HA
      revert box wb
      exact TAIL
    · simp only [qd1, qd0, qt1, qt0]
      have hbo : ∀ o : Obj, Below w7.heap.size w7 (w7.drew.alloc o) := fun o => (Below.refl _ _).drew.alloc (Nat.le_refl _) _
      go_wp2_with fail
      (try with_reducible refine wpList_nil ?_); with_reducible refine Qz0 ?_
      refine ⟨Jz0 (hbo _), ?_⟩
      refine Xz7 (fun wx => Hid (wx.heap[w7.heap.size]? = some (.cells (v8a (zer 64)) 37) ∧ Below w7.heap.size w7 wx)) (hZ ⟨heap_alloc_new w7.drew (.cells (v8a (zer 64)) 37), hbo _⟩) ?_
      intro wa HA
      with_reducible refine Kz8 ?_; simp only [qd1, qd0, qt1, qt0]
      go_wp2_with fail
      refine (hDG.out wa HA.out.2).mono ?_
      rintro e wb ⟨rfl, hbb1⟩
      have hbb2 : Below w7.heap.size w7 wb := HA.out.2.trans (hbb1.mono HA.out.2.size)
      have HB : Hid (wb.heap[w7.heap.size]? = some (.cells (v8a (zer 64)) 37) ∧ Below w7.heap.size w7 wb) := hZ ⟨(hbb1.block _ (Zz0 HA.out.1)).trans HA.out.1, hbb2⟩
      try dsimp only
      go_wp2_with fail
      (try with_reducible refine wpList_nil ?_); with_reducible refine Qz0 ?_
      refine ⟨Jz0 hbb2, ?_⟩
      (repeat (with_reducible refine Jz6 ?_; simp only [qd1, qd0, qt1, qt0]; go_big_quiet_step (fail); with_reducible refine wpQuiet_nil ?_))
      exact TAIL _ (Nat.le_refl _) wb HB
  intro box hsa wb HA
  with_reducible refine Kz8 ?_; simp only [qd1, qd0, qt1, qt0]
  refine Wz2 rfl (.tmp 13) (.tmp 55) rfl box p (zer 64) rfl rfl HA.out.1 hp64 rfl ?_
  refine Xz0 (fun wx => Hid (wx.heap[box]? = some (.cells (v8a p) 37) ∧ w7.heap.size ≤ box ∧ Below w7.heap.size w7 wx)) (hZ ⟨setRow_heap _ _ _ _ _ (0, 0) HA.out.1, hsa, below_setRow HA.out.2 hsa _⟩) ?_
  clear HA
  intro wc HC
  simp only [Act.put, qs0, qs1, qs2]
  (try with_reducible refine wpList_nil ?_); with_reducible refine Qz0 ?_
  refine ⟨Jz0 HC.out.2.2, ?_⟩
  (repeat (with_reducible refine Jz6 ?_; simp only [qd1, qd0, qt1, qt0]; go_big_quiet_step (fail); with_reducible refine wpQuiet_nil ?_))
  with_reducible refine plan_nil ?_
  clear q0 q1 hDG
  have H8 : Hid ((WtB w b3 b6 p dg wc ∧ wc.heap[b10]? = some (.cells (entC dg 0 0) 70) ∧ w.heap.size ≤ b10) ∧ wc.heap[b11]? = some (.cells (entC dg (s : Int) rf) 70) ∧ b10 ≠ b11 ∧ wc.heap[box]? = some (.cells (v8a p) 37)) := hZ ⟨⟨H7.out.1.1.below HC.out.2.2, (HC.out.2.2.block _ (Zz0 H7.out.1.2.1)).trans H7.out.1.2.1, H7.out.1.2.2⟩, (HC.out.2.2.block _ (Zz0 H7.out.2.1)).trans H7.out.2.1, H7.out.2.2, HC.out.1⟩
  clear HC H7
  have hee : decide (p = p) = true := by simp
  go_upto_region 18 with (first | (refine page_eql_g2 rfl _ _ _ rfl p p rfl rfl hp64 hp64 ?_; rw [hee]) | (refine Wz3 rfl (.tmp 13) rfl box p rfl H8.out.2.2.2 hp64 ?_) | (refine Wz3 rfl (.tmp 3) rfl b3 p rfl H8.out.1.1.1 hp64 ?_) | (refine ent_load rfl (.tmp 11) rfl b11 dg (s : Int) rf rfl H8.out.2.1 hd32 ?_) | (refine Zza rfl (.tmp 10) (.tmp 64) rfl b10 dg dg (s : Int) rf 0 0 rfl rfl H8.out.1.2.1 hd32 hd32 ?_))
  have HV9 : Hid ((wc.setRow b10 (entC dg (s : Int) rf)).heap[b10]? = some (.cells (entC dg (s : Int) rf) 70) ∧ Below w.heap.size w (wc.setRow b10 (entC dg (s : Int) rf)) ∧ w.heap.size ≤ b10) := hZ ⟨setRow_heap _ _ _ _ _ (0, 0) H8.out.1.2.1, below_setRow H8.out.1.1.2.2.2.2 H8.out.1.2.2 _, H8.out.1.2.2⟩
  clear H8
  generalize wc.setRow b10 (entC dg (s : Int) rf) = w8 at HV9 ⊢
  obtain ⟨y0, y1⟩ := Kzg hd32 HV9.out.1
  have f1 := ent_fr HV9.out.1 33
  go_upto_region 26 with fail
  have hN10 : ¬ N b10 := fun hq => by have := HV.out.vol.N_lt b10 (.inl hq); have := HV9.out.2.2; omega
  refine Kz0 (fun wx => Hid (wx.heap[b10]? = some (.cells (entC dg (s : Int) (rf + 1)) 70) ∧ VolS vb (fun q => N q ∨ q = b10) C lv bb t1 t2 t3 B st blk E M r1 r2 wx ∧ Below w.heap.size w wx)) (hZ ⟨ent_rf_set hd32 HV9.out.1 _, ⟨(HV.out.vol.keep (HV9.out.2.1.setCell HV9.out.2.2 _) (fun q hq => by
    rcases hq with hq | rfl
    · exact ⟨by rw [World.size_setCell]; exact Nat.lt_of_lt_of_le (HV.out.vol.N_lt q (.inl hq)) HV9.out.2.1.size, .inl hq⟩
    · exact ⟨by rw [World.size_setCell]; exact Zz0 HV9.out.1, .inr HV9.out.2.2⟩)), HV.out.mod, HV.out.fit⟩, HV9.out.2.1.setCell HV9.out.2.2 _⟩) ?_
  clear HV9 f1 y0 y1
  intro w9 H9
  try simp only [Act.put]
  obtain ⟨rq, hrq⟩ : ∃ rq, rf + 1 = rq := ⟨_, rfl⟩
  rw [hrq] at H9
  have hrq2 : 2 ≤ rq ∧ rq ≤ 15 := by omega
  go_wp2_with fail
  have c1 : ∀ q : SatW (VcF vb C lv bb t1 t2 t3 b10 (entC dg (s : Int) rq) 70), q.w.cell? ⟨vb, 8, none⟩ = some (.pointer (some ⟨t2, 0, none⟩)) := fun q => (Xze q.h.1).2.2.2.1
  have hne : Nonempty (SatW (VcF vb C lv bb t1 t2 t3 b10 (entC dg (s : Int) rq) 70)) := ⟨⟨_, (show VcF vb C lv bb t1 t2 t3 b10 (entC dg (s : Int) rq) 70 w9.drew from ⟨H9.out.2.1.vol.vol, H9.out.1⟩)⟩⟩
  refine Vz0 [(0, true), (1, true), (2, true), (3, true), (4, true), (5, true), (6, true), (7, true), (8, false), (9, true), (10, true)] 10 (fun w' => ∃ p : SatW (VcF vb C lv bb t1 t2 t3 b10 (entC dg (s : Int) rq) 70), w' = p.w) (by kernel_rfl) (by kernel_rfl) (fun _ _ d _ _ h => by cases d <;> exact h) (Jz3 (show VcF vb C lv bb t1 t2 t3 b10 (entC dg (s : Int) rq) 70 w9.drew from ⟨H9.out.2.1.vol.vol, H9.out.1⟩)) ?_
  (repeat (with_reducible refine mix_q ?_; simp only [qd1, qd0, qt1, qt0]; go_big_quiet_step (fail); with_reducible refine wpQuiet_nil ?_))
  with_reducible refine mix_q ?_
  simp only [qd1, qd0, qt1, qt0]
  go_big_quiet_want
  refine quiet_ent (.tmp 10) rfl b10 dg (s : Int) rq rfl (by rintro _ ⟨q, rfl⟩; exact q.h.2) hd32 ?_
  simp only [Act.put, qs0, qs1, qs2]
  go_big_quiet_on
  with_reducible refine wpQuiet_nil ?_
  with_reducible refine mix_a ?_; simp only [qd1, qd0, qt1, qt0]
  have hSE := v_tset (H9.out.2.1.below (Below.refl _ _).drew) (by omega) hi HD.out ⟨by omega, hsl⟩ (rf := rq) ⟨by omega, by omega⟩
  unfold ptrV at hSE
  rw [if_pos (show 0 < rq by omega)] at hSE
  go_wp2_with fail
  refine hSE.mono ?_
  clear hSE c1
  rintro e w10 ⟨rfl, ⟨B2, hV10, hc10, hsh10, hn10⟩, hk10⟩
  have hk910 : Keeps N w w10 := (Keeps.of_below (H9.out.2.2.trans ((Below.refl _ _).drew.mono H9.out.2.2.size))).trans (hk10.mono (fun q _ hq => .inl hq))
  have H10 : Hid (VolS vb N C lv bb t1 t2 t3 B2 st blk (setM E i (some (dg, (s : Int), rq))) M r1 r2 w10 ∧ B2.cnt ≤ B.cnt + 1 ∧ B2.shut = B.shut ∧ B2.n = B.n ∧ Keeps N w w10) := hZ ⟨⟨hV10.vol.less (fun q hq => .inl hq), hV10.mod, hV10.fit⟩, hc10, hsh10, hn10, hk910⟩
  have hvx : VcF vb C lv bb t1 t2 t3 b10 (entC dg (s : Int) rq) 70 w10 := ⟨hV10.vol.vol, hk10.blk (.inr rfl) H9.out.1⟩
  clear hk910 hk10 hV10 H9
  try dsimp only
  go_wp2_with fail
  try with_reducible refine wpList_nil ?_
  with_reducible refine Qz0 ?_
  refine ⟨fun _ => Jz3 (F := VcF vb C lv bb t1 t2 t3 b10 (entC dg (s : Int) rq) 70) hvx, ?_⟩
  (repeat (with_reducible refine mix_q ?_; simp only [qd1, qd0, qt1, qt0]; go_big_quiet_step (fail); with_reducible refine wpQuiet_nil ?_))
  with_reducible refine Wz1 ?_
  go_wp2_with fail
  go_ret2
  exact ⟨⟨i, (dg, (s : Int), rf), hi, HE.out, rfl, h2, rfl, B2, by rw [← hrq] at H10; exact H10.out.1, H10.out.2.1, H10.out.2.2.1, H10.out.2.2.2.1⟩, H10.out.2.2.2.2⟩
end
open Go.RowKit Go.Maps
section
variable {vb : Nat} {N : Nat → Prop} {C : Cfg} {lv : Value} {bb t1 t2 t3 : Nat} {B : BookS} {st : Nat → Int} {blk : Nat → List Int} {E : Nat → Option En} {M : Nat → Nat → Nat → Int} {r1 : Nat → Nat} {r2 : Nat → Nat → Nat}
set_option maxRecDepth 100000 in
theorem leave_zero (w : World) : Calls Tryz.prog 233 #[ptrV vb, .int .i64 0] w fun e w' => e = .returned .nilIface ∧ w = w' := by
  go_enter Tryz.func233, Tryz.ntmps233
  go_wp2_with fail
  go_ret
  exact ⟨rfl, rfl⟩
def WantP (vb : Nat) (N : Nat → Prop) (C : Cfg) (lv : Value) (bb t1 t2 t3 : Nat) (B : BookS) (M : Nat → Nat → Nat → Int) (r1 : Nat → Nat) (r2 : Nat → Nat → Nat) (P : Nat → (Nat → Int) → (Nat → List Int) → (Nat → Option En) → Prop) (w : World) (e : Ending) (w' : World) : Prop :=
  (∃ (i : Nat) (st' : Nat → Int) (blk' : Nat → List Int) (E' : Nat → Option En) (B' : BookS), i < C.prints ∧ e = .returned (.tuple #[.int .i64 ((i : Int) + 1), .nilIface]) ∧ VolS vb N C lv bb t1 t2 t3 B' st' blk' E' M r1 r2 w' ∧ B'.cnt ≤ B.cnt + 3 ∧ B'.shut = B.shut ∧ B'.n = B.n ∧ P i st' blk' E') ∧ Keeps N w w'
def PutP (vb : Nat) (N : Nat → Prop) (C : Cfg) (lv : Value) (bb t1 t2 t3 : Nat) (B : BookS) (M : Nat → Nat → Nat → Int) (l block : Nat) (P : Nat → (Nat → Int) → (Nat → List Int) → (Nat → Option En) → Prop) (w : World) (e : Ending) (w' : World) : Prop :=
  e = .returned .nilIface ∧ (∃ (i : Nat) (st' : Nat → Int) (blk' : Nat → List Int) (E' : Nat → Option En) (B' : BookS) (r1' : Nat → Nat) (r2' : Nat → Nat → Nat), i < C.prints ∧ VolS vb N C lv bb t1 t2 t3 B' st' blk' E' (layM M l (block / 16) (block % 16) ((i : Int) + 1)) r1' r2' w' ∧ B'.cnt ≤ B.cnt + 6 ∧ B'.shut = B.shut ∧ B'.n = B.n ∧ P i st' blk' E') ∧ Keeps N w w'
set_option maxRecDepth 100000 in
set_option maxHeartbeats 4000000 in
theorem put_nil {P : Nat → (Nat → Int) → (Nat → List Int) → (Nat → Option En) → Prop} (hc : B.cnt ≤ 40) {l block : Nat} (hl : l < 4) (hbk : block < 256) (hM0 : M l (block / 16) (block % 16) = 0)
    (hroom : lkF r1 r2 + (if r1 l = 0 then 1 else 0) + (if r2 l (block / 16) = 0 then 1 else 0) ≤ C.nodes) (p : List Int) (hp : p.length = 64) (w : World) (h : VolS vb N C lv bb t1 t2 t3 B st blk E M r1 r2 w)
    (hW : ∀ wx, Below w.heap.size w wx → Calls Tryz.prog 232 #[ptrV vb, .agg (v8a p)] wx (WantP vb N C lv bb t1 t2 t3 B M r1 r2 P wx)) :
    Calls Tryz.prog 220 #[ptrV vb, .int .i64 (l : Int), .int .i64 (block : Int), .agg (v8a p)] w (PutP vb N C lv bb t1 t2 t3 B M l block P w) := by
  have HV := hZ h
  have HW := hZ hW
  have HRO := hZ hroom
  have hb0 : ∀ o : Obj, Below w.heap.size w (w.alloc o) := fun o => bZ
  have hpr := h.fit.prints.2
  clear h hW hroom
  unfold ptrV at *
  go_enter Tryz.func220, Tryz.ntmps220
  go_upto_region 1 with fail
  refine Kz0 (fun wx => Hid (wx.heap[w.heap.size]? = some (.cells (v8a p) 37) ∧ Below w.heap.size w wx)) (hZ ⟨heap_alloc_new w (.cells (v8a p) 37), hb0 _⟩) ?_
  clear hb0
  intro w1 H1
  obtain ⟨z5, z6, z7, z8, z9⟩ := (HV.out.below H1.out.2).vol.cells
  have hRG := v_rget (HV.out.below H1.out.2) hl hbk
  rw [hM0] at hRG
  unfold ptrV at hRG z6 z7 z8 z9
  go_wp2_with fail
  refine hRG.mono ?_
  clear hRG z5 z6 z7 z8 z9
  rintro e w2 ⟨rfl, hb2⟩
  have H2 : Hid (w2.heap[w.heap.size]? = some (.cells (v8a p) 37) ∧ Below w.heap.size w w2) := hZ ⟨(hb2.block _ (Zz0 H1.out.1)).trans H1.out.1, H1.out.2.trans (hb2.mono H1.out.2.size)⟩
  clear hb2 H1
  try dsimp only
  have hWA := HW.out w2 H2.out.2
  go_wp2_with (refine Wz3 rfl (.tmp 7) rfl w.heap.size p rfl H2.out.1 hp ?_)
  refine hWA.mono ?_
  clear hWA HW
  rintro e w3 ⟨⟨i, st', blk', E', B', hi, rfl, hV3, hc3, hs3, hn3, hP⟩, hk3⟩
  have H3 : Hid (VolS vb N C lv bb t1 t2 t3 B' st' blk' E' M r1 r2 w3 ∧ B'.shut = B.shut ∧ B'.n = B.n ∧ P i st' blk' E' ∧ Keeps N w w3) := hZ ⟨hV3, hs3, hn3, hP, (Keeps.of_below H2.out.2).trans hk3⟩
  clear hV3 hs3 hn3 hP hk3 H2
  try dsimp only
  go_wp2_with fail
  refine (leave_zero (vb := vb) w3).mono ?_
  rintro e w4 ⟨rfl, rfl⟩
  try dsimp only
  obtain ⟨z5, z6, z7, z8, z9⟩ := H3.out.1.vol.cells
  have hRS := v_rset H3.out.1 (by omega) hl hbk ((i : Int) + 1) ⟨by omega, by omega⟩ HRO.out
  unfold ptrV at hRS z6 z7 z8 z9
  go_wp2_with fail
  refine hRS.mono ?_
  clear hRS z5 z6 z7 z8 z9
  rintro e w5 ⟨rfl, ⟨B2, r1', r2', hV5, hc5, hs5, hn5⟩, hk5⟩
  have H5 := hZ (And.intro hV5 (And.intro (hs5.trans H3.out.2.1) (And.intro (hn5.trans H3.out.2.2.1) (H3.out.2.2.2.2.trans hk5))))
  clear hV5 hs5 hn5 hk5
  try dsimp only
  go_wp2_with fail
  go_ret
  exact ⟨rfl, ⟨i, st', blk', E', B2, r1', r2', hi, H5.out.1, by omega, H5.out.2.1, H5.out.2.2.1, H3.out.2.2.2.1⟩, H5.out.2.2.2⟩
end
end Go.Proofs.YtajmcplanlibnaaGreatDoor
