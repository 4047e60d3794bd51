/- A volume that is being mounted: its box, its config's box, its book, the holders that are there. -/
import Derived.Test.YtajmcplanlibnaaGreatDoorKYZ0
import Derived.Test.YtajmcplanlibnaaGreatDoorKYZ3
import Derived.Test.YtajmcplanlibnaaGreatDoorKYV9
import Derived.Deep.DeepCutAuto
import Derived.Test.YtajmcplanlibnaaGreatDoorKYA0
set_option linter.unusedSimpArgs false
set_option linter.unusedVariables false
set_option linter.unnecessarySimpa false
namespace Go.Proofs.YtajmcplanlibnaaGreatDoor
open Go.RowKit Go.Maps
def volM (C : Cfg) (lv x6 x7 x8 x9 : Value) : Array Value := (cfgL C lv ++ [x6, x7, x8, x9]).toArray
def NMt (N : Nat → Prop) (c0 vb : Nat) (lv : Value) (hs : List (Nat × Array Value × Nat)) : Nat → Prop := fun k => N k ∨ k = c0 ∨ k = vb ∨ lv.ownBlock = some k ∨ ∃ h ∈ hs, h.1 = k
def MtF (c0 vb : Nat) (C : Cfg) (lv x6 x7 x8 x9 : Value) (w : World) : Prop := w.heap[c0]? = some (.cells (cfgC C lv) 102) ∧ w.heap[vb]? = some (.cells (volM C lv x6 x7 x8 x9) 235)
theorem MtF.cells {c0 vb : Nat} {C : Cfg} {lv x6 x7 x8 x9 : Value} {w : World} (h : MtF c0 vb C lv x6 x7 x8 x9 w) : w.cell? ⟨vb, 6, none⟩ = some x6 ∧ w.cell? ⟨vb, 7, none⟩ = some x7 ∧ w.cell? ⟨vb, 8, none⟩ = some x8 ∧ w.cell? ⟨vb, 9, none⟩ = some x9 := by
  refine ⟨?_, ?_, ?_, ?_⟩ <;> (rw [cell_of_row w vb _ _ _ (0, 0) h.2]; rfl)
def MtG (c0 vb : Nat) (C : Cfg) (lv x6 : Value) (w : World) : Prop := ∃ x7 x8 x9, MtF c0 vb C lv x6 x7 x8 x9 w
theorem MtG.six {c0 vb : Nat} {C : Cfg} {lv x6 : Value} {w : World} (h : MtG c0 vb C lv x6 w) : w.cell? ⟨vb, 6, none⟩ = some x6 := by
  obtain ⟨x7, x8, x9, h⟩ := h
  exact h.cells.1
theorem MtG.cfg {c0 vb : Nat} {C : Cfg} {lv x6 : Value} {w : World} (h : MtG c0 vb C lv x6 w) : w.cell? ⟨c0, 2, none⟩ = some (.int .i64 (C.boxes : Int)) ∧ w.cell? ⟨c0, 3, none⟩ = some (.int .i64 (C.prints : Int)) ∧ w.cell? ⟨c0, 4, none⟩ = some (.int .i64 (C.nodes : Int)) := by
  obtain ⟨x7, x8, x9, h⟩ := h
  refine ⟨?_, ?_, ?_⟩ <;> (rw [cell_of_row w c0 _ _ _ (0, 0) h.1]; rfl)
theorem DiskI.nots_db {w : World} {db : Nat} {N : Nat → Prop} {d : DiskS} (h : DiskI w db N d) : ¬ N db := by
  obtain ⟨fb, cv, lb, c, ⟨fc, hfc, h1⟩, ⟨rest, h2⟩, h3, h4, h5, n1, n2, n3, n4, n5, h6⟩ := h
  exact n1
structure MtI (w0 : World) (N : Nat → Prop) (c0 vb : Nat) (C : Cfg) (lv : Value) (bb : Nat) (x6 x7 x8 x9 : Value) (hs : List (Nat × Array Value × Nat)) (B : BookS) (w : World) : Prop where
  read : MtF c0 vb C lv x6 x7 x8 x9 w
  luns : w.ownsRow w0.heap.size 3 1 lv C.luns.length (lunsV C)
  holds : ∀ h ∈ hs, w.heap[h.1]? = some (.cells h.2.1 h.2.2) ∧ w0.heap.size ≤ h.1 ∧ h.2.2 ≠ 235
  book : BookI w bb (NMt N c0 vb lv hs) B
  keeps : Keeps N w0 w
  lo : w0.heap.size ≤ c0 ∧ w0.heap.size ≤ vb
  nlt : ∀ k, N k → k < w0.heap.size
section
variable {w0 w w' : World} {N : Nat → Prop} {c0 vb : Nat} {C : Cfg} {lv : Value} {bb : Nat} {x6 x7 x8 x9 : Value} {hs : List (Nat × Array Value × Nat)} {B B' : BookS}
theorem MtI.nv (h : MtI w0 N c0 vb C lv bb x6 x7 x8 x9 hs B w) : vb ≠ c0 := fun e => by
  have h1 := h.read.1
  have h2 := h.read.2
  rw [e, h1] at h2
  simp at h2
theorem MtI.nl (h : MtI w0 N c0 vb C lv bb x6 x7 x8 x9 hs B w) : ∀ k, lv.ownBlock = some k → k ≠ vb ∧ k ≠ c0 := fun k hk =>
  ⟨Vz5 h.read.2 h.luns (by decide) hk, Vz5 h.read.1 h.luns (by decide) hk⟩
theorem MtI.booked (h : MtI w0 N c0 vb C lv bb x6 x7 x8 x9 hs B w) (h' : BookI w' bb (NMt N c0 vb lv hs) B') (hk : Keeps (NMt N c0 vb lv hs) w w') : MtI w0 N c0 vb C lv bb x6 x7 x8 x9 hs B' w' := by
  refine ⟨⟨hk.blk (.inr (.inl rfl)) h.read.1, hk.blk (.inr (.inr (.inl rfl))) h.read.2⟩, hk.own h.luns (fun k hk' => .inr (.inr (.inr (.inl hk')))), fun x hx => ⟨hk.blk (.inr (.inr (.inr (.inr ⟨x, hx, rfl⟩)))) (h.holds x hx).1, (h.holds x hx).2⟩, h', h.keeps.trans (hk.mono (fun k _ hn => .inl hn)), h.lo, h.nlt⟩
theorem MtI.below (h : MtI w0 N c0 vb C lv bb x6 x7 x8 x9 hs B w) (hb : Below w.heap.size w w') : MtI w0 N c0 vb C lv bb x6 x7 x8 x9 hs B w' :=
  h.booked (h.book.below hb) (Keeps.of_below hb)
theorem MtI.drew (h : MtI w0 N c0 vb C lv bb x6 x7 x8 x9 hs B w) : MtI w0 N c0 vb C lv bb x6 x7 x8 x9 hs B w.drew := h.below (Below.refl _ _).drew
theorem BookI.grow {N' : Nat → Prop} (h : BookI w bb N B) (hk : Keeps (fun k => ¬ N k) w w') (hn : ∀ i, N' i → i < w'.heap.size ∧ (N i ∨ w.heap.size ≤ i)) : BookI w' bb N' B := by
  obtain ⟨db, rb, nb, ov, hX⟩ := h
  exact ⟨db, rb, nb, ov, hX.grow hk hn⟩
theorem MtI.start {B : BookS} (hr : MtF c0 vb C lv x6 x7 x8 x9 w) (ho : w.ownsRow w0.heap.size 3 1 lv C.luns.length (lunsV C)) (hb : Below w0.heap.size w0 w) (lo : w0.heap.size ≤ c0 ∧ w0.heap.size ≤ vb) (nlt : ∀ k, N k → k < w0.heap.size) (h' : BookI w' bb (NMt N c0 vb lv []) B) (hk : Keeps (NMt N c0 vb lv []) w w') : MtI w0 N c0 vb C lv bb x6 x7 x8 x9 [] B w' :=
  ⟨⟨hk.blk (.inr (.inl rfl)) hr.1, hk.blk (.inr (.inr (.inl rfl))) hr.2⟩, hk.own ho (fun k hk' => .inr (.inr (.inr (.inl hk')))), fun x hx => (by cases hx), h', (Keeps.of_below hb).trans (hk.mono (fun k _ hn => .inl hn)), lo, nlt⟩
theorem mt_disk {db : Nat} {d : DiskS} (hr : MtF c0 vb C lv x6 x7 x8 x9 w) (ho : w.ownsRow w0.heap.size 3 1 lv C.luns.length (lunsV C)) (hb : Below w0.heap.size w0 w) (lo : w0.heap.size ≤ c0 ∧ w0.heap.size ≤ vb) (hN : ¬ N db) (hD : DiskI w0 db N d) : DiskI w db (NMt N c0 vb lv []) d ∧ ¬ NMt N c0 vb lv [] db := by
  have hlt := hD.lt
  refine ⟨hD.keep hb (fun i hi => ?_), fun hn => ?_⟩
  · rcases hi with hi | rfl | rfl | hi | ⟨x, hx, _⟩
    · exact ⟨Nat.lt_of_lt_of_le (hD.N_lt i hi) hb.size, .inl hi⟩
    · exact ⟨Zz0 hr.1, .inr lo.1⟩
    · exact ⟨Zz0 hr.2, .inr lo.2⟩
    · exact ⟨(ho.lt i hi).2, .inr (ho.lt i hi).1⟩
    · cases hx
  · rcases hn with hn | hn | hn | hn | ⟨x, hx, _⟩
    · exact hN hn
    · omega
    · omega
    · have := (ho.lt db hn).1; omega
    · cases hx
theorem MtI.held {t f n T : Nat} (h : MtI w0 N c0 vb C lv bb x6 x7 x8 x9 hs B w) (hb : Below w.heap.size w w') (ht : w.heap.size ≤ t) (hH : HolI T w' t (NMt N c0 vb lv hs) bb f n B) (hT : T ≠ 235) : MtI w0 N c0 vb C lv bb x6 x7 x8 x9 ((t, tabC bb f n, T) :: hs) B w' := by
  have h2 := h.below hb
  refine ⟨h2.read, h2.luns, fun x hx => ?_, hH.2.1.less (fun k hk => ?_), h2.keeps, h2.lo, h2.nlt⟩
  · rcases List.mem_cons.1 hx with rfl | hx
    · exact ⟨hH.1, Nat.le_trans h.keeps.size ht, hT⟩
    · exact h2.holds x hx
  · rcases hk with hk | hk | hk | hk | ⟨x, hx, rfl⟩
    · exact .inl (.inl hk)
    · exact .inl (.inr (.inl hk))
    · exact .inl (.inr (.inr (.inl hk)))
    · exact .inl (.inr (.inr (.inr (.inl hk))))
    · rcases List.mem_cons.1 hx with rfl | hx
      · exact .inr rfl
      · exact .inl (.inr (.inr (.inr (.inr ⟨x, hx, rfl⟩))))
theorem sync_view {B : BookS} {size n S k db : Nat} (hg : GdS B size n S k db) (hd : B.done.ok) (hk : k ≤ 10000) (i : Nat) (hi : i < n) : B.done.synced.view i = B.view i := by
  have e1 : B.done.synced.view i = B.done.synced.base i := BookS.base_view (show B.done.synced.opn = none from BookS.done_opn B) i
  rw [e1, BookS.synced_base (B := B.done) hd i (by rw [BookS.done_n, hg.n]; exact hi)]
  exact BookS.done_base_lim hg.ok hg.lim hk i (by rw [hg.n]; exact hi)
theorem Wzh (h : B.opn = none) : B.cnt = 0 := by
  unfold BookS.cnt BookS.f
  rw [h]
  show (keysF (fun _ => none) _).length = 0
  rw [Zzj]; rfl
theorem MtI.put {y6 y7 y8 y9 : Value} (h : MtI w0 N c0 vb C lv bb x6 x7 x8 x9 hs B w) (o : Nat) (v : Value) (e : (volM C lv x6 x7 x8 x9).setIfInBounds o v = volM C lv y6 y7 y8 y9) : MtI w0 N c0 vb C lv bb y6 y7 y8 y9 hs B (w.setCell ⟨vb, o, none⟩ v) := by
  have hg := Zz4 w vb o v
  have hne : ∀ k, k ≠ vb → (w.setCell ⟨vb, o, none⟩ v).heap[k]? = w.heap[k]? := fun k hk => Below.heap_setCell _ _ _ _ (fun e => hk e)
  have hs' : (w.setCell ⟨vb, o, none⟩ v).heap.size = w.heap.size := by simp [World.setCell]
  refine ⟨⟨(hne _ (fun e => h.nv e.symm)).trans h.read.1, ?_⟩, Xz5 h.luns (fun k hk => hne k (h.nl k hk).1), fun x hx => ⟨(hne _ (fun e => ?_)).trans (h.holds x hx).1, (h.holds x hx).2⟩, h.book.grow (Keeps.set w vb o v (fun hn => hn (.inr (.inr (.inl rfl))))) (fun i hi => ⟨by rw [hs']; exact h.book.N_lt i hi, .inl hi⟩), h.keeps.trans (Keeps.set w vb o v (fun hn => by have := h.nlt _ hn; have := h.lo.2; omega)), h.lo, h.nlt⟩
  · have h1 := Xz3 (i := o) h.read.2 v
    rw [e] at h1
    exact h1
  · have h1 := (h.holds x hx).1
    rw [e, h.read.2] at h1
    simp only [Option.some.injEq, Obj.cells.injEq] at h1
    exact (h.holds x hx).2.2 h1.2.1.symm
theorem MtI.vol {t1 t2 t3 : Nat} (h : MtI w0 N c0 vb C lv bb (ptrV bb) (ptrV t1) (ptrV t2) (ptrV t3) [(t3, tabC bb C.f3 C.nodes, 201), (t2, tabC bb C.f2 C.prints, 190), (t1, tabC bb 5 C.boxes, 215)] B w) : VolI w vb N C lv bb t1 t2 t3 B := by
  have h1 := h.holds _ (.head _)
  have h2 := h.holds _ (.tail _ (.head _))
  have h3 := h.holds _ (.tail _ (.tail _ (.head _)))
  have hx : ∀ k, w0.heap.size ≤ k → ¬ N k := fun k hk hn => by have := h.nlt k hn; omega
  refine ⟨h.read.2, own_mono h.luns (Nat.zero_le _), h3.1, h2.1, h1.1, h.book.less (fun k hk => ?_), hx _ h.lo.2, hx _ h3.2.1, hx _ h2.2.1, hx _ h1.2.1, fun k hk => hx _ (h.luns.lt k hk).1⟩
  rcases hk with hk | hk | hk | hk | hk | hk
  · exact .inl hk
  · exact .inr (.inr (.inl hk))
  · exact .inr (.inr (.inr (.inr ⟨_, .tail _ (.tail _ (.head _)), hk.symm⟩)))
  · exact .inr (.inr (.inr (.inr ⟨_, .tail _ (.head _), hk.symm⟩)))
  · exact .inr (.inr (.inr (.inr ⟨_, .head _, hk.symm⟩)))
  · exact .inr (.inr (.inr (.inl hk)))
end
open Go.RowKit Go.Maps
def MtOk (db : Nat) (d : DiskS) (size n S k : Nat) (Bm : BookS) : Prop := ∀ (N : Nat → Prop) (w : World), ¬ N db → DiskI w db N d →
  Calls Tryz.prog 13 #[.pointer (some ⟨db, 0, none⟩), .int .i64 (size : Int)] w fun e w' => (∃ bb, e = .returned (.tuple #[.pointer (some ⟨bb, 0, none⟩), .nilIface]) ∧ w.heap.size ≤ bb ∧ BookI w' bb N Bm ∧ GdS Bm size n S k db) ∧ Keeps N w w'
theorem lunsAt_of {w : World} {C : Cfg} {a : Option Addr} {cap : Nat} {base : Nat} (h : w.ownsRow base 3 1 (.slice a C.luns.length cap) C.luns.length (lunsV C)) : LunsAt w C a ∧ SrcIs w (.slice a C.luns.length cap) C.luns.length 1 (lunsV C) := by
  rw [lunsV_ints] at h ⊢
  have hl : (C.luns.map fun n : Nat => (n : Int)).length = C.luns.length := List.length_map _
  rw [← hl] at h
  have hI := Wzb.of_own h
  refine ⟨fun i hi => ?_, ?_⟩
  · obtain ⟨b, off, h1, h2, h3, _⟩ := hI i (by rw [hl]; exact hi)
    refine ⟨b, off, h1, h2, ?_⟩
    rw [h3]
    simp [List.getD, hi]
  · rw [hl] at h
    rcases h.2 with ⟨hv, hn⟩ | ⟨g, c, cur, hv, _⟩
    · refine .inl ⟨hv, hn, ?_⟩
      have : C.luns = [] := List.eq_nil_of_length_eq_zero hn
      rw [this]; rfl
    · refine .inr ⟨⟨g, 0, none⟩, c, hv, h.1, World.ownsRow.cells h (by rw [hv]; rfl), fun u hu => ?_⟩
      obtain ⟨x, _, rfl⟩ := List.mem_map.1 hu
      rfl
theorem row_rangeL {w : World} {b T : Nat} {l : List Value} (h : w.heap[b]? = some (.cells l.toArray T)) : w.rangeAt b 0 l := fun j v hv => by
  rw [cell_of_row w b (0 + j) _ T (0, 0) h]
  simpa using hv
theorem built_vol (c0 c1 c2 c3 c4 c5 : Value) : Tryz.prog.built 235 [(0, .agg #[c0, c1, c2, c3, c4, c5])] = some #[c0, c1, c2, c3, c4, c5, .pointer none, .pointer none, .pointer none, .pointer none] := by kernel_rfl
noncomputable def mtB (C : Cfg) (Bm : BookS) : BookS := open Classical in if Bm.view 0 = signF C then Bm else (Bm.wrote 0 (signF C)).done.synced
theorem mtB_sign {C : Cfg} {Bm : BookS} (h : Bm.view 0 = signF C) : mtB C Bm = Bm := by unfold mtB; rw [if_pos h]
theorem mtB_zero {C : Cfg} {Bm : BookS} (h : Bm.view 0 = zer 64) : mtB C Bm = (Bm.wrote 0 (signF C)).done.synced := by unfold mtB; rw [if_neg (by rw [h]; exact fun e => signF_nz C e.symm)]
def MtV (C : Cfg) (Bm : BookS) : Prop := ∀ i, i < min 2048 (C.sec - 2 - C.ring) → (mtB C Bm).view i = if i = 0 then signF C else Bm.view i
theorem mtB_opn {C : Cfg} {Bm : BookS} (h : Bm.opn = none) : (mtB C Bm).opn = none := by
  unfold mtB
  split
  · exact h
  · exact BookS.done_opn _
theorem mtB_cache {C : Cfg} {Bm : BookS} (h : Bm.disk.cache = []) : (mtB C Bm).disk.cache = [] := by
  unfold mtB
  split
  · exact h
  · rfl
theorem GdS.up {B : BookS} {size n S k db : Nat} (h : GdS B size n S k db) : GdS B size n S (k + 1) db :=
  ⟨h.ok, h.logged, h.lim.mono (Nat.le_succ _), h.size, h.n, h.len, h.db⟩
set_option maxRecDepth 100000 in
set_option maxHeartbeats 4000000 in
theorem vmount_any (C : Cfg) (a : Option Addr) (cap db k base : Nat) (N : Nat → Prop) (d : DiskS) (Bm : BookS) (hC : C.fits (min 2048 (C.sec - 2 - C.ring))) (hlen : d.firm.length = C.sec) (hM : MtOk db d C.ring (min 2048 (C.sec - 2 - C.ring)) C.sec k Bm) (hk : k ≤ 100) (ho : Bm.opn = none) (hv : Bm.view 0 = signF C ∨ Bm.view 0 = zer 64) (w : World) (hD : DiskI w db N d) (hL : w.ownsRow base 3 1 (.slice a C.luns.length cap) C.luns.length (lunsV C)) :
    Calls Tryz.prog 51 #[ptrV db, .agg (cfgC C (.slice a C.luns.length cap))] w fun e w' => (∃ vb lv bb t1 t2 t3, e = .returned (.tuple #[ptrV vb, .nilIface]) ∧ w.heap.size ≤ vb ∧ VolI w' vb N C lv bb t1 t2 t3 (mtB C Bm)) ∧ GdS (mtB C Bm) C.ring (min 2048 (C.sec - 2 - C.ring)) C.sec (k + 1) db ∧ MtV C Bm ∧ Keeps N w w' := by
  have HLA := hZ (lunsAt_of hL).1
  have HLS := hZ (lunsAt_of hL).2
  have HD := hZ hD
  have HM := hZ hM
  have HR := hZ (fun wx (hx : LunsAt wx C a) => vright_ok C a cap hC wx hx)
  have HSG := hZ (fun wx (v : Option Addr) (c : Nat) (hx : SrcIs wx (.slice v C.luns.length c) C.luns.length 1 (lunsV C)) => sign_any C v c hC.ring.2 hC.boxes.2 hC.prints.2 hC.nodes.2 hC.luns.2 (fun n hn => (hC.size n hn).2) wx hx)
  have HCF := hZ hC
  have HSEC : Hid (d.firm.length = C.sec ∧ 1 ≤ C.sec ∧ C.sec ≤ 4096) := hZ ⟨hlen, hC.sec.1, hC.sec.2⟩
  have hlu := hC.luns
  have HOV := hZ (And.intro ho hv)
  have hb0 : ∀ o : Obj, Below w.heap.size w (w.alloc o) := fun o => bZ
  clear hL hD hM hC ho hv hlen
  unfold ptrV
  go_enter Tryz.func51, Tryz.ntmps51
  go_upto_region 1 with fail
  refine Kz0 (fun wx => Hid (wx.heap[w.heap.size]? = some (.cells (cfgC C (.slice a C.luns.length cap)) 102) ∧ Below w.heap.size w wx)) (hZ ⟨heap_alloc_new w _, hb0 _⟩) ?_
  clear hb0
  intro w1 H1
  obtain ⟨z0, z1, z2, z3, z4, z5⟩ := Zz8 H1.out.1
  have q0 := cell_regrown z0
  have HQ := hZ (fun (d : Nat) (os : Array Obj) => Calls.regrown_of (HR.out (Go.Sort.grow (redrawn w1 d) os) ((HLA.out.below H1.out.2).below (Qz1 ⟨⟨d, os⟩, rfl⟩))))
  have HZ := hZ (fun (dd : Nat) (os : Array Obj) => Calls.regrown_of ((diskSize_any db N d (Go.Sort.grow (redrawn w1 dd) os) ((HD.out.below H1.out.2).below (Qz1 ⟨⟨dd, os⟩, rfl⟩))).mono (fun e w' ⟨h1, h2⟩ => ⟨h1, by subst h2; exact Below.refl _ _⟩)))
  rw [HSEC.out.1] at HZ
  clear z0 z1 z2 z3 z4 z5
  refine wp_region_quiet_below (by kernel_rfl) (by kernel_rfl) ?_
  go_big_quiet_want
  refine Jz1 102 (.tmp 3) rfl w.heap.size 0 rfl [.int .i64 (C.sec : Int), .int .i64 (C.ring : Int), .int .i64 (C.boxes : Int), .int .i64 (C.prints : Int), .int .i64 (C.nodes : Int), .slice a C.luns.length cap] _ (fun wx hwx j v hv => by
    rw [cell_of_row wx w.heap.size (0 + j) _ _ (0, 0) (Wz4 H1.out.1 wx hwx)]
    simpa [cfgC] using hv) Tryz.underlying102 rfl info_cfg ?_
  simp only [Act.put, qs0, qs1, qs2]
  go_big_quiet_on
  repeat (go_big_quiet_step (first | exact HQ.out _ _ | exact HZ.out _ _))
  with_reducible refine wpQuiet_nil ?_
  intro wq hwq
  have hq := Qz1 hwq
  clear hwq q0 HQ HZ
  have H2 : Hid (wq.heap[w.heap.size]? = some (.cells (cfgC C (.slice a C.luns.length cap)) 102) ∧ Below w.heap.size w wq) := hZ ⟨(hq.block _ (Zz0 H1.out.1)).trans H1.out.1, H1.out.2.trans (hq.mono H1.out.2.size)⟩
  clear hq H1
  obtain ⟨z0, z1, z2, z3, z4, z5⟩ := Zz8 H2.out.1
  obtain ⟨i1, hi1, hy0, hy1, hy2⟩ := info_parts info_int
  repeat ((fail_if_success (with_reducible refine Kz1 24 rfl ?_)); (first | go_values | go_skip | go_guarded | go_step | go_upon))
  refine Jz2 rfl (.const (.slice none 0 0)) (.tmp 23) 33 rfl w.heap.size 3 i1 (.int .i64 0) 1 8 Tryz.underlying33 hi1 hy0 hy1 hy2 rfl (by decide) (.slice none 0 0) 0 [] rfl (World.ownsRow_nil _ _ _ _) (.slice a C.luns.length cap) C.luns.length (lunsV C) rfl (HLS.out.belowZ H2.out.2) ?c1 ?c2 ?c3 ?_
  case c1 => unfold maxLen; omega
  case c2 => omega
  case c3 => exact H2.out.2.size
  intro lv w3 ho3 hg3
  obtain ⟨a3, c3, rfl⟩ := Kz3 ho3
  have hb3 : Below wq.heap.size wq w3 := (Below.refl _ _).grown hg3 (Nat.le_refl _) (fun q hq => by simp [Value.ownBlock] at hq)
  clear z0 z1 z2 z3 z4 z5
  refine Xz0 (fun wx => Hid (wx.ownsRow w.heap.size 3 1 (.slice a3 C.luns.length c3) C.luns.length (lunsV C) ∧ wx.heap[w.heap.size]? = some (.cells (cfgC C (.slice a C.luns.length cap)) 102) ∧ Below w.heap.size w wx)) (hZ ⟨by rw [Nat.zero_add] at ho3; exact ho3, (hb3.block _ (Zz0 H2.out.1)).trans H2.out.1, H2.out.2.trans (hb3.mono H2.out.2.size)⟩) ?_
  rw [Nat.zero_add]
  clear ho3 hg3 hb3 H2
  intro w4 H4
  obtain ⟨z0, z1, z2, z3, z4, z5⟩ := Zz8 H4.out.2.1
  have f5 := ent_fr H4.out.2.1 5
  go_upto_region 4 with fail
  refine Kz0 (fun wx => Hid (wx.ownsRow w.heap.size 3 1 (.slice a3 C.luns.length c3) C.luns.length (lunsV C) ∧ wx.heap[w.heap.size]? = some (.cells (cfgC C (.slice a3 C.luns.length c3)) 102) ∧ Below w.heap.size w wx)) (hZ ⟨Xz5 H4.out.1 (fun q hq => Below.heap_setCell _ _ _ _ (fun e => Vz5 H4.out.2.1 H4.out.1 (by decide) hq e)), Xz3 H4.out.2.1 _, by have hb4 := H4.out.2.2; repeat (first | with_reducible assumption | (with_reducible refine Below.setCell ?_ (by first | omega | (simp; done) | (simp; omega)) _) | (with_reducible refine Below.alloc ?_ (by first | omega | (simp; done) | (simp; omega)) _) | (with_reducible refine Below.drew ?_) | (with_reducible refine Qz2 ?_ _) | with_reducible exact Below.refl _ _ | (with_reducible refine Below.trans ?_ (Below.mono (by assumption) (by first | omega | (simp; done) | (simp; omega)))))⟩) ?_
  clear H4 z0 z1 z2 z3 z4 z5 f5
  intro w5 H5
  have hvb : w.heap.size < w5.heap.size := Zz0 H5.out.2.1
  repeat ((fail_if_success (with_reducible refine Kz1 26 rfl ?_)); (first | go_values | go_skip | go_guarded | go_step | go_upon))
  refine wpList_load_mid rfl 102 (.tmp 3) rfl w.heap.size 0 rfl (cfgL C (.slice a3 C.luns.length c3)) _ (row_rangeL (show w5.heap[w.heap.size]? = some (.cells (cfgL C (.slice a3 C.luns.length c3)).toArray _) from H5.out.2.1)) Tryz.underlying102 rfl info_cfg ?_
  simp only [Act.put, qs0, qs1, qs2]
  refine Qz4 rfl 235 _ rfl (volM C (.slice a3 C.luns.length c3) (.pointer none) (.pointer none) (.pointer none) (.pointer none)) ?bu ?_
  case bu =>
    simp only [List.map_toArray, List.map_cons, List.map_nil]
    exact built_vol _ _ _ _ _ _
  simp only [Act.put, qs0, qs1, qs2]
  go_upto_region 5 with fail
  have hba : ∀ o : Obj, Below w5.heap.size w5 (w5.alloc o) := fun o => bZ
  refine Kz0 (fun wx => Hid (MtF w.heap.size w5.heap.size C (.slice a3 C.luns.length c3) (.pointer none) (.pointer none) (.pointer none) (.pointer none) wx ∧ wx.ownsRow w.heap.size 3 1 (.slice a3 C.luns.length c3) C.luns.length (lunsV C) ∧ Below w.heap.size w wx ∧ w.heap.size ≤ w5.heap.size)) (hZ ⟨⟨((hba _).block _ (Zz0 H5.out.2.1)).trans H5.out.2.1, heap_alloc_new w5 _⟩, Vz4 H5.out.1 (hba _), H5.out.2.2.trans ((hba _).mono H5.out.2.2.size), H5.out.2.2.size⟩) ?_
  clear hba H5 hvb
  generalize w5.heap.size = vb
  intro w6 H6
  obtain ⟨z0, z1, z2, z3, z4, z5⟩ := Zz8 H6.out.1.1
  have HNL := hZ (fun k (hk : N k) => HD.out.N_lt k hk)
  have hDk := mt_disk H6.out.1 H6.out.2.1 H6.out.2.2.1 ⟨Nat.le_refl _, H6.out.2.2.2⟩ (show ¬ N db from HD.out.nots_db) HD.out
  have hMT := HM.out _ w6 hDk.2 hDk.1
  go_wp2_with fail
  refine hMT.mono ?_
  clear hMT hDk
  rintro e w7 ⟨⟨bb, rfl, hlb, hBI, hGI⟩, hk7⟩
  have HG := hZ hGI
  clear hGI
  have H7 : Hid (MtI w N w.heap.size vb C (.slice a3 C.luns.length c3) bb (.pointer none) (.pointer none) (.pointer none) (.pointer none) [] Bm w7) := hZ (MtI.start H6.out.1 H6.out.2.1 H6.out.2.2.1 ⟨Nat.le_refl _, H6.out.2.2.2⟩ HNL.out hBI hk7)
  clear hBI hk7 hlb z0 z1 z2 z3 z4 z5 H6
  try dsimp only
  obtain ⟨y6, y7, y8, y9⟩ := H7.out.read.cells
  have f6 := ent_fr H7.out.read.2 6
  go_upto_region 7 with fail
  refine Kz0 (fun wx => Hid (MtI w N w.heap.size vb C (.slice a3 C.luns.length c3) bb (.pointer (some ⟨bb, 0, none⟩)) (.pointer none) (.pointer none) (.pointer none) [] Bm wx)) (hZ (H7.out.put 6 _ rfl)) ?_
  clear H7 y6 y7 y8 y9 f6
  intro w8 H8
  have hn0 : 0 < Bm.n := by
    rw [HG.out.n]
    have h1 := HCF.out.need
    omega
  have hRD := Qza bb _ Bm 0 hn0 w8 H8.out.book
  have hpo : PgOk (Bm.view 0) := by
    rcases HOV.out.2 with h | h
    · rw [h]; exact signF_ok C
    · rw [h]; exact zer_pg
  have hp64 := hpo.1
  clear hpo
  obtain ⟨pg, hpg⟩ : ∃ pg, Bm.view 0 = pg := ⟨_, rfl⟩
  rw [hpg] at hRD hp64
  have HPG := hZ hpg
  clear hpg
  obtain ⟨y6, y7, y8, y9⟩ := H8.out.read.cells
  go_wp2_with fail
  refine hRD.mono ?_
  clear hRD y6 y7 y8 y9
  rintro e w9 ⟨rfl, hb9⟩
  have H9 := hZ (H8.out.below hb9)
  clear hb9 H8
  try dsimp only
  go_upto_region 10 with (refine Wz2 rfl (.tmp 8) (.tmp 49) rfl w9.heap.size pg (zer 64) rfl rfl (heap_alloc_new w9 _) hp64 rfl ?_)
  have hbx : ∀ o : Obj, Below w9.heap.size w9 ((w9.alloc o).setRow w9.heap.size (v8a pg)) := fun o => below_setRow (bZ) (Nat.le_refl _) _
  refine Kz0 (fun wx => Hid (wx.heap[w9.heap.size]? = some (.cells (v8a pg) 37) ∧ MtI w N w.heap.size vb C (.slice a3 C.luns.length c3) bb (.pointer (some ⟨bb, 0, none⟩)) (.pointer none) (.pointer none) (.pointer none) [] Bm wx)) (hZ ⟨setRow_heap _ _ _ _ _ (0, 0) (heap_alloc_new w9 _), H9.out.below (hbx _)⟩) ?_
  clear hbx H9
  generalize w9.heap.size = b8
  intro w10 H10
  repeat ((fail_if_success (with_reducible refine Kz1 55 rfl ?_)); (first | go_values | go_skip | go_guarded | go_step | go_upon))
  refine Wz3 rfl (.tmp 8) rfl b8 pg rfl H10.out.1 hp64 ?_
  simp only [Act.put, qs0, qs1, qs2]
  with_reducible refine wpList_nil ?_
  refine (‹∀ a w, Code.wp Tryz.prog (Code.block 0 _) _ a w → _›) _ _ ?_
  go_cut [7] (fun s wx => Hid (MtI w N w.heap.size vb C (.slice a3 C.luns.length c3) bb (.pointer (some ⟨bb, 0, none⟩)) (.pointer none) (.pointer none) (.pointer none) [] (mtB C Bm) wx ∧ GdS (mtB C Bm) C.ring (min 2048 (C.sec - 2 - C.ring)) C.sec (k + 1) db ∧ MtV C Bm))
  case first =>
    have hS10 := HSG.out w10 a3 c3 ((lunsAt_of (own_mono H10.out.2.luns (Nat.zero_le _))).2)
    have hsl := (signF_ok C).1
    go_upto_region 14 with fail
    repeat ((fail_if_success (with_reducible refine Kz1 59 rfl ?_)); (first | go_values | go_skip | go_guarded | go_step | go_upon))
    refine wpList_load_mid rfl 102 (.tmp 3) rfl w.heap.size 0 rfl (cfgL C (.slice a3 C.luns.length c3)) _ (row_rangeL (show w10.heap[w.heap.size]? = some (.cells (cfgL C (.slice a3 C.luns.length c3)).toArray _) from H10.out.2.read.1)) Tryz.underlying102 rfl info_cfg ?_
    simp only [Act.put, qs0, qs1, qs2]
    go_wp2_with fail
    refine hS10.mono ?_
    clear hS10
    rintro e w11 ⟨rfl, hb11⟩
    have H11 := hZ (H10.out.2.below hb11)
    clear hb11 H10
    try dsimp only
    repeat ((fail_if_success (with_reducible refine Kz1 61 rfl ?_)); (first | go_values | go_skip | go_guarded | go_step | go_upon))
    refine page_eql rfl (.tmp 55) (.tmp 60) _ rfl pg (signF C) rfl rfl hp64 hsl ?_
    rcases HOV.out.2 with hsz | hsz
    · have hpe : pg = signF C := HPG.out.symm.trans hsz
      have hdec : decide (pg = signF C) = true := decide_eq_true hpe
      rw [hdec]
      simp only [Act.put, qs0, qs1, qs2]
      go_wp2_with fail
      go_meet
      have hMV : MtV C Bm := fun i hi => by
        rw [mtB_sign hsz]
        by_cases h0 : i = 0
        · rw [if_pos h0, h0]; exact hsz
        · rw [if_neg h0]
      rw [mtB_sign hsz]
      exact hZ ⟨H11.out, HG.out.up, hMV⟩
    · have hpe : pg = zer 64 := HPG.out.symm.trans hsz
      have hMZ := hZ (mtB_zero (C := C) hsz)
      have HSZ := hZ hsz
      clear hsz
      have HPGZ := HPG
      clear HPG HPGZ
      subst hpe
      have hdec : decide (zer 64 = signF C) = false := decide_eq_false (fun e => signF_nz C e.symm)
      rw [hdec]
      simp only [Act.put, qs0, qs1, qs2]
      repeat ((fail_if_success (with_reducible refine Kz1 63 rfl ?_)); (first | go_values | go_skip | go_guarded | go_step | go_upon))
      refine Qz4 rfl 37 #[] rfl (v8a (zer 64)) ?bz ?_
      case bz =>
        simp only [List.map_toArray, List.map_nil]
        exact Qzj
      simp only [Act.put, qs0, qs1, qs2]
      refine page_eql rfl (.tmp 55) (.tmp 63) _ rfl (zer 64) (zer 64) rfl rfl rfl rfl ?_
      rw [decide_eq_true (rfl : zer 64 = zer 64)]
      simp only [Act.put, qs0, qs1, qs2]
      go_upto_region 16 with fail
      have r1 : ∀ q : SatW (MtF w.heap.size vb C (.slice a3 C.luns.length c3) (.pointer (some ⟨bb, 0, none⟩)) (.pointer none) (.pointer none) (.pointer none)), q.w.cell? ⟨vb, 6, none⟩ = some (.pointer (some ⟨bb, 0, none⟩)) := fun q => q.h.cells.1
      have hne : Nonempty (SatW (MtF w.heap.size vb C (.slice a3 C.luns.length c3) (.pointer (some ⟨bb, 0, none⟩)) (.pointer none) (.pointer none) (.pointer none))) := ⟨⟨_, (show MtF w.heap.size vb C (.slice a3 C.luns.length c3) (.pointer (some ⟨bb, 0, none⟩)) (.pointer none) (.pointer none) (.pointer none) w11.drew from H11.out.drew.read)⟩⟩
      refine Vz0 [(0, true), (1, true), (2, true), (3, true), (4, true), (5, false), (6, false), (7, true)] 7 (fun w' => ∃ p : SatW (MtF w.heap.size vb C (.slice a3 C.luns.length c3) (.pointer (some ⟨bb, 0, none⟩)) (.pointer none) (.pointer none) (.pointer none)), w' = p.w) (by kernel_rfl) (by kernel_rfl) (fun _ _ d _ _ h => by cases d <;> exact h) (Jz3 (show MtF w.heap.size vb C (.slice a3 C.luns.length c3) (.pointer (some ⟨bb, 0, none⟩)) (.pointer none) (.pointer none) (.pointer none) w11.drew from H11.out.drew.read)) ?_
      (repeat (with_reducible refine mix_q ?_; simp only [qd1, qd0, qt1, qt0]; go_big_quiet_step (fail); with_reducible refine wpQuiet_nil ?_))
      with_reducible refine mix_q ?_
      simp only [qd1, qd0, qt1, qt0]
      go_big_quiet_want
      refine Jz1 102 (.tmp 3) rfl w.heap.size 0 rfl (cfgL C (.slice a3 C.luns.length c3)) _ (fun wx hwx => by
        obtain ⟨q, rfl⟩ := hwx
        exact row_rangeL (show q.w.heap[w.heap.size]? = some (.cells (cfgL C (.slice a3 C.luns.length c3)).toArray _) from q.h.1)) Tryz.underlying102 rfl info_cfg ?_
      simp only [Act.put, qs0, qs1, qs2]
      go_big_quiet_on
      with_reducible refine wpQuiet_nil ?_
      (repeat (with_reducible refine mix_q ?_; simp only [qd1, qd0, qt1, qt0]; go_big_quiet_step (fail); with_reducible refine wpQuiet_nil ?_))
      with_reducible refine mix_a ?_; simp only [qd1, qd0, qt1, qt0]
      have hS11 := HSG.out w11.drew a3 c3 ((lunsAt_of (own_mono H11.out.drew.luns (Nat.zero_le _))).2)
      go_wp2_with fail
      refine hS11.mono ?_
      clear hS11
      rintro e w12 ⟨rfl, hb12⟩
      have H12 := hZ (H11.out.drew.below hb12)
      clear hb12 H11
      try dsimp only
      go_wp2_with fail
      try with_reducible refine wpList_nil ?_
      with_reducible refine Qz0 ?_
      refine ⟨fun _ => Jz3 (F := MtF w.heap.size vb C (.slice a3 C.luns.length c3) (.pointer (some ⟨bb, 0, none⟩)) (.pointer none) (.pointer none) (.pointer none)) H12.out.read, ?_⟩
      (repeat (with_reducible refine mix_q ?_; simp only [qd1, qd0, qt1, qt0]; go_big_quiet_step (fail); with_reducible refine wpQuiet_nil ?_))
      with_reducible refine mix_a ?_; simp only [qd1, qd0, qt1, qt0]
      have hWR := Qz8 bb _ Bm 0 (signF C) hn0 (signF_ok C) (.inr (.inr (by have h := Wzh HOV.out.1; unfold BookS.cnt at h; omega))) w12 H12.out.book
      go_wp2_with fail
      refine hWR.mono ?_
      clear hWR
      rintro e w13 ⟨rfl, hB13, hk13⟩
      have H13 := hZ (H12.out.booked hB13 hk13)
      clear hB13 hk13 H12
      try dsimp only
      go_wp2_with fail
      try with_reducible refine wpList_nil ?_
      with_reducible refine Qz0 ?_
      refine ⟨fun _ => Jz3 (F := MtF w.heap.size vb C (.slice a3 C.luns.length c3) (.pointer (some ⟨bb, 0, none⟩)) (.pointer none) (.pointer none) (.pointer none)) H13.out.read, ?_⟩
      (repeat (with_reducible refine mix_q ?_; simp only [qd1, qd0, qt1, qt0]; go_big_quiet_step (fail); with_reducible refine wpQuiet_nil ?_))
      with_reducible refine Wz1 ?_
      have HGW := hZ (HG.out.wrote 0 (signF C) H13.out.book.isOk)
      have hCM := g_commitT (by omega) (by have h := BookS.wrote_cnt Bm 0 (signF C) hn0; rw [Wzh HOV.out.1] at h; omega) (fun i p hp => by
        rcases BookS.wrote_f Bm 0 (signF C) i with h1 | ⟨h0, h1⟩
        · rw [h1, opn_f HOV.out.1] at hp; cases hp
        · rw [h1] at hp; cases hp; exact ⟨by omega, signF_tame C⟩) w13 H13.out.book HGW.out
      obtain ⟨y6, y7, y8, y9⟩ := H13.out.read.cells
      go_wp2_with fail
      refine hCM.mono ?_
      clear hCM y6 y7 y8 y9
      rintro e w14 ⟨rfl, hB14, hG14, hk14⟩
      have hMV : Hid (MtV C Bm) := hZ (fun i hi => by
        rw [hMZ.out, sync_view HGW.out hB14.isOk (by omega) i hi, BookS.wrote_view])
      clear HGW
      have H14 := hZ (H13.out.booked hB14 hk14)
      have HG14 := hZ hG14
      clear hB14 hk14 hG14 H13
      have hSY := g_sync w14 H14.out.book HG14.out
      try dsimp only
      obtain ⟨y6, y7, y8, y9⟩ := H14.out.read.cells
      go_wp2_with fail
      refine hSY.mono ?_
      clear hSY y6 y7 y8 y9
      rintro e w15 ⟨rfl, hB15, hG15, hk15⟩
      have H15 := hZ (H14.out.booked hB15 hk15)
      have HG15 := hZ hG15
      clear hB15 hk15 hG15 H14 HG14
      try dsimp only
      go_wp2_with fail
      go_meet
      rw [hMZ.out]
      exact hZ ⟨H15.out, HG15.out, hMV.out⟩
  case rest =>
    have H15 := hZ hcut.out.1
    have HG15 := hZ hcut.out.2.1
    have HMV := hZ hcut.out.2.2
    clear hcut
    go_upto_region 24 with fail
    have hC := HCF.out
    have hn15 := H15.out.book.isOk
    have hneed := hC.need
    have hBn : (mtB C Bm).n = min 2048 (C.sec - 2 - C.ring) := HG15.out.n
    have hbx := hC.boxes
    have hpx := hC.prints
    have hnx := hC.nodes
    have ef2 : (5 : Int) + (C.boxes : Int) * 5 = ((C.f2 : Nat) : Int) := by unfold Cfg.f2; push_cast; omega
    have ef3 : ((C.f2 : Nat) : Int) + (C.prints : Int) = ((C.f3 : Nat) : Int) := by unfold Cfg.f3; push_cast; omega
    have hf2 : C.f2 ≤ 2048 := by unfold Cfg.f3 at hneed; omega
    have hf3 : C.f3 ≤ 2048 := by omega
    have HDN : Hid (∀ wx, BookI wx bb (NMt N w.heap.size vb (.slice a3 C.luns.length c3) []) (mtB C Bm) → Calls Tryz.prog 43 #[.pointer (some ⟨bb, 0, none⟩), .int .i64 5, .int .i64 (C.boxes : Int)] wx _) := hZ (fun wx hx => depotNew_any bb 5 C.boxes _ _ ⟨hbx.1, hbx.2, by rw [hBn]; unfold Cfg.f3 Cfg.f2 at hneed; omega⟩ wx hx)
    generalize hBf : mtB C Bm = Bf at *
    have HBF := hZ hBf
    clear hBf
    have r1 : ∀ q : SatW (MtG w.heap.size vb C (.slice a3 C.luns.length c3) (.pointer (some ⟨bb, 0, none⟩))), q.w.cell? ⟨vb, 6, none⟩ = some (.pointer (some ⟨bb, 0, none⟩)) := fun q => q.h.six
    have r2 : ∀ q : SatW (MtG w.heap.size vb C (.slice a3 C.luns.length c3) (.pointer (some ⟨bb, 0, none⟩))), q.w.cell? ⟨w.heap.size, 2, none⟩ = some (.int .i64 (C.boxes : Int)) := fun q => q.h.cfg.1
    have r3 : ∀ q : SatW (MtG w.heap.size vb C (.slice a3 C.luns.length c3) (.pointer (some ⟨bb, 0, none⟩))), q.w.cell? ⟨w.heap.size, 3, none⟩ = some (.int .i64 (C.prints : Int)) := fun q => q.h.cfg.2.1
    have r4 : ∀ q : SatW (MtG w.heap.size vb C (.slice a3 C.luns.length c3) (.pointer (some ⟨bb, 0, none⟩))), q.w.cell? ⟨w.heap.size, 4, none⟩ = some (.int .i64 (C.nodes : Int)) := fun q => q.h.cfg.2.2
    have hne : Nonempty (SatW (MtG w.heap.size vb C (.slice a3 C.luns.length c3) (.pointer (some ⟨bb, 0, none⟩)))) := ⟨⟨_, (show MtG w.heap.size vb C (.slice a3 C.luns.length c3) (.pointer (some ⟨bb, 0, none⟩)) wc.drew from ⟨_, _, _, H15.out.drew.read⟩)⟩⟩
    refine Vz0 [(0, true), (1, true), (2, true), (3, true), (4, true), (5, true), (6, true), (7, true), (8, false), (9, true), (10, true), (11, true), (12, true), (13, true), (14, false)] 99 (fun w' => ∃ p : SatW (MtG w.heap.size vb C (.slice a3 C.luns.length c3) (.pointer (some ⟨bb, 0, none⟩))), w' = p.w) (by kernel_rfl) (by kernel_rfl) (fun _ _ d _ _ h => by cases d <;> exact h) (Jz3 (show MtG w.heap.size vb C (.slice a3 C.luns.length c3) (.pointer (some ⟨bb, 0, none⟩)) wc.drew from ⟨_, _, _, H15.out.drew.read⟩)) ?_
    (repeat (with_reducible refine mix_q ?_; simp only [qd1, qd0, qt1, qt0]; go_big_quiet_step (fail); with_reducible refine wpQuiet_nil ?_))
    with_reducible refine mix_a ?_; simp only [qd1, qd0, qt1, qt0]
    go_wp2_with fail
    refine (HDN.out _ H15.out.drew.book).mono ?_
    rintro e w16 ⟨⟨t1, rfl, hle, hho⟩, hbe⟩
    have H16 := hZ (H15.out.drew.held hbe hle hho (by decide))
    clear hbe hle hho H15
    try dsimp only
    go_wp2_with fail
    try with_reducible refine wpList_nil ?_
    with_reducible refine Qz0 ?_
    refine ⟨fun _ => Jz3 (F := MtG w.heap.size vb C (.slice a3 C.luns.length c3) (.pointer (some ⟨bb, 0, none⟩))) ⟨_, _, _, H16.out.read⟩, ?_⟩
    (repeat (with_reducible refine mix_q ?_; simp only [qd1, qd0, qt1, qt0]; go_big_quiet_step (fail); with_reducible refine wpQuiet_nil ?_))
    with_reducible refine mix_a ?_; simp only [qd1, qd0, qt1, qt0]
    obtain ⟨y6, y7, y8, y9⟩ := H16.out.read.cells
    have f7 := ent_fr H16.out.read.2 7
    go_wp2_with fail
    try with_reducible refine wpList_nil ?_
    with_reducible refine Qz0 ?_
    have H17 := hZ (H16.out.put 7 (.pointer (some ⟨t1, 0, none⟩)) rfl)
    refine ⟨fun _ => Jz3 (F := MtG w.heap.size vb C (.slice a3 C.luns.length c3) (.pointer (some ⟨bb, 0, none⟩))) ⟨_, _, _, H17.out.read⟩, ?_⟩
    with_reducible refine Wz1 ?_
    clear y6 y7 y8 y9 f7 H16
    go_upto_region 25 with fail
    refine Kz0 (fun wx => Hid (MtI w N w.heap.size vb C (.slice a3 C.luns.length c3) bb (.pointer (some ⟨bb, 0, none⟩)) (.pointer (some ⟨t1, 0, none⟩)) (.pointer none) (.pointer none) [(t1, tabC bb 5 C.boxes, 215)] Bf wx)) H17 ?_
    clear H17 hne HDN
    intro w18 H18
    obtain ⟨z0, z1, z2, z3, z4, z5⟩ := Zz8 H18.out.read.1
    have hDP := Zzi (C.boxes : Int) ⟨by omega, by omega⟩ w18
    go_wp2_with fail
    refine hDP.mono ?_
    clear hDP
    rintro e w18' ⟨rfl, rfl⟩
    try dsimp only
    go_upto_region 26 with fail
    try rw [ef2]
    have HPN : Hid (∀ wx, BookI wx bb (NMt N w.heap.size vb (.slice a3 C.luns.length c3) [(t1, tabC bb 5 C.boxes, 215)]) Bf → Calls Tryz.prog 31 #[.pointer (some ⟨bb, 0, none⟩), .int .i64 (C.f2 : Int), .int .i64 (C.prints : Int)] wx fun e w' => (∃ tb, e = .returned (.tuple #[.pointer (some ⟨tb, 0, none⟩), .nilIface]) ∧ wx.heap.size ≤ tb ∧ HolI 190 w' tb (NMt N w.heap.size vb (.slice a3 C.luns.length c3) [(t1, tabC bb 5 C.boxes, 215)]) bb C.f2 C.prints Bf) ∧ Below wx.heap.size wx w') := hZ (fun wx hx => (printsNew_any bb C.f2 C.prints _ _ ⟨hpx.1, by rw [hBn]; unfold Cfg.f3 at hneed; omega⟩ wx hx).mono (fun e w' h => by
      obtain ⟨⟨tb, h1, h2, h3⟩, h4⟩ := h
      exact ⟨⟨tb, h1, h2, ⟨h3.1, h3.2.1, h3.2.2.1⟩⟩, h4⟩))
    clear z0 z1 z2 z3 z4 z5
    have hne : Nonempty (SatW (MtG w.heap.size vb C (.slice a3 C.luns.length c3) (.pointer (some ⟨bb, 0, none⟩)))) := ⟨⟨_, (show MtG w.heap.size vb C (.slice a3 C.luns.length c3) (.pointer (some ⟨bb, 0, none⟩)) w18.drew from ⟨_, _, _, H18.out.drew.read⟩)⟩⟩
    refine Vz0 [(0, true), (1, true), (2, true), (3, true), (4, true), (5, true), (6, true), (7, true), (8, false), (9, true), (10, true), (11, true), (12, true), (13, true), (14, false)] 99 (fun w' => ∃ p : SatW (MtG w.heap.size vb C (.slice a3 C.luns.length c3) (.pointer (some ⟨bb, 0, none⟩))), w' = p.w) (by kernel_rfl) (by kernel_rfl) (fun _ _ d _ _ h => by cases d <;> exact h) (Jz3 (show MtG w.heap.size vb C (.slice a3 C.luns.length c3) (.pointer (some ⟨bb, 0, none⟩)) w18.drew from ⟨_, _, _, H18.out.drew.read⟩)) ?_
    (repeat (with_reducible refine mix_q ?_; simp only [qd1, qd0, qt1, qt0]; go_big_quiet_step (fail); with_reducible refine wpQuiet_nil ?_))
    with_reducible refine mix_a ?_; simp only [qd1, qd0, qt1, qt0]
    go_wp2_with fail
    refine (HPN.out _ H18.out.drew.book).mono ?_
    rintro e w19 ⟨⟨t2, rfl, hle, hho⟩, hbe⟩
    have H19 := hZ (H18.out.drew.held hbe hle hho (by decide))
    clear hbe hle hho H18
    try dsimp only
    go_wp2_with fail
    try with_reducible refine wpList_nil ?_
    with_reducible refine Qz0 ?_
    refine ⟨fun _ => Jz3 (F := MtG w.heap.size vb C (.slice a3 C.luns.length c3) (.pointer (some ⟨bb, 0, none⟩))) ⟨_, _, _, H19.out.read⟩, ?_⟩
    (repeat (with_reducible refine mix_q ?_; simp only [qd1, qd0, qt1, qt0]; go_big_quiet_step (fail); with_reducible refine wpQuiet_nil ?_))
    with_reducible refine mix_a ?_; simp only [qd1, qd0, qt1, qt0]
    obtain ⟨y6, y7, y8, y9⟩ := H19.out.read.cells
    have f8 := ent_fr H19.out.read.2 8
    go_wp2_with fail
    try with_reducible refine wpList_nil ?_
    with_reducible refine Qz0 ?_
    have H20 := hZ (H19.out.put 8 (.pointer (some ⟨t2, 0, none⟩)) rfl)
    refine ⟨fun _ => Jz3 (F := MtG w.heap.size vb C (.slice a3 C.luns.length c3) (.pointer (some ⟨bb, 0, none⟩))) ⟨_, _, _, H20.out.read⟩, ?_⟩
    with_reducible refine Wz1 ?_
    clear y6 y7 y8 y9 f8 H19
    go_upto_region 27 with fail
    refine Kz0 (fun wx => Hid (MtI w N w.heap.size vb C (.slice a3 C.luns.length c3) bb (.pointer (some ⟨bb, 0, none⟩)) (.pointer (some ⟨t1, 0, none⟩)) (.pointer (some ⟨t2, 0, none⟩)) (.pointer none) [(t2, tabC bb C.f2 C.prints, 190), (t1, tabC bb 5 C.boxes, 215)] Bf wx)) H20 ?_
    clear H20 hne HPN
    intro w21 H21
    obtain ⟨z0, z1, z2, z3, z4, z5⟩ := Zz8 H21.out.read.1
    go_upto_region 28 with fail
    try rw [ef3]
    have HRN := hZ (fun wx (hx : BookI wx bb (NMt N w.heap.size vb (.slice a3 C.luns.length c3) [(t2, tabC bb C.f2 C.prints, 190), (t1, tabC bb 5 C.boxes, 215)]) Bf) => radixNew_any bb C.f3 C.nodes _ _ ⟨hnx.1, by omega, by rw [hBn]; omega⟩ wx hx)
    clear z0 z1 z2 z3 z4 z5
    have hne : Nonempty (SatW (MtG w.heap.size vb C (.slice a3 C.luns.length c3) (.pointer (some ⟨bb, 0, none⟩)))) := ⟨⟨_, (show MtG w.heap.size vb C (.slice a3 C.luns.length c3) (.pointer (some ⟨bb, 0, none⟩)) w21.drew from ⟨_, _, _, H21.out.drew.read⟩)⟩⟩
    refine Vz0 [(0, true), (1, true), (2, true), (3, true), (4, true), (5, true), (6, true), (7, true), (8, false), (9, true), (10, true), (11, true), (12, true), (13, true), (14, false)] 99 (fun w' => ∃ p : SatW (MtG w.heap.size vb C (.slice a3 C.luns.length c3) (.pointer (some ⟨bb, 0, none⟩))), w' = p.w) (by kernel_rfl) (by kernel_rfl) (fun _ _ d _ _ h => by cases d <;> exact h) (Jz3 (show MtG w.heap.size vb C (.slice a3 C.luns.length c3) (.pointer (some ⟨bb, 0, none⟩)) w21.drew from ⟨_, _, _, H21.out.drew.read⟩)) ?_
    (repeat (with_reducible refine mix_q ?_; simp only [qd1, qd0, qt1, qt0]; go_big_quiet_step (fail); with_reducible refine wpQuiet_nil ?_))
    with_reducible refine mix_a ?_; simp only [qd1, qd0, qt1, qt0]
    go_wp2_with fail
    refine (HRN.out _ H21.out.drew.book).mono ?_
    rintro e w22 ⟨⟨t3, rfl, hle, hho⟩, hbe⟩
    have H22 := hZ (H21.out.drew.held hbe hle hho (by decide))
    clear hbe hle hho H21
    try dsimp only
    go_wp2_with fail
    try with_reducible refine wpList_nil ?_
    with_reducible refine Qz0 ?_
    refine ⟨fun _ => Jz3 (F := MtG w.heap.size vb C (.slice a3 C.luns.length c3) (.pointer (some ⟨bb, 0, none⟩))) ⟨_, _, _, H22.out.read⟩, ?_⟩
    (repeat (with_reducible refine mix_q ?_; simp only [qd1, qd0, qt1, qt0]; go_big_quiet_step (fail); with_reducible refine wpQuiet_nil ?_))
    with_reducible refine mix_a ?_; simp only [qd1, qd0, qt1, qt0]
    obtain ⟨y6, y7, y8, y9⟩ := H22.out.read.cells
    have f9 := ent_fr H22.out.read.2 9
    go_wp2_with fail
    try with_reducible refine wpList_nil ?_
    with_reducible refine Qz0 ?_
    have H23 := hZ (H22.out.put 9 (.pointer (some ⟨t3, 0, none⟩)) rfl)
    refine ⟨fun _ => Jz3 (F := MtG w.heap.size vb C (.slice a3 C.luns.length c3) (.pointer (some ⟨bb, 0, none⟩))) ⟨_, _, _, H23.out.read⟩, ?_⟩
    with_reducible refine Wz1 ?_
    clear y6 y7 y8 y9 f9 H22
    go_wp2_with fail
    go_ret2
    rw [HBF.out]
    exact ⟨⟨vb, _, bb, t1, t2, t3, rfl, H23.out.lo.2, H23.out.vol⟩, HG15.out, HMV.out, H23.out.keeps⟩
open Go.RowKit Go.Maps
def C0 : Cfg := ⟨400, 100, 12, 60, 30, [40, 20]⟩
theorem C0_n : min 2048 (C0.sec - 2 - C0.ring) = 298 := by decide
theorem C0_fits : C0.fits 298 := ⟨by decide, by decide, by decide, by decide, by decide, by decide, by decide, by decide⟩
theorem VolM.start (C : Cfg) (B : BookS) (hz : ∀ i, 5 ≤ i → i ≤ C.f3 + C.nodes → B.view i = zer 64) : VolM C B (fun _ => 0) (fun _ => zer 64) (fun _ => none) (fun _ _ _ => 0) (fun _ => 0) (fun _ _ => 0) :=
  ⟨DpI.start B C.boxes (fun i h1 h2 => hz i h1 (by unfold Cfg.f3 Cfg.f2; omega)) _, EnV.start (fun i h1 h2 => hz i (by unfold Cfg.f2 at h1; omega) (by unfold Cfg.f3; omega)), (ForI.start C.nodes).congrV (fun p hp => hz _ (by unfold Cfg.f3 Cfg.f2; omega) (by omega)) (fun _ _ _ _ _ _ => rfl)⟩
theorem mt_fresh (db : Nat) : MtOk db ⟨List.replicate 400 (zer 64), []⟩ 100 298 400 1 (fr 100 298 400 db) := fun N w hN hD => g_fresh 100 298 400 db (by decide) (by decide) (by decide) (by decide) (by decide) N w hN hD
theorem mt_again {B : BookS} {size n S k db : Nat} (hk : k ≤ 10000) (hS : n = min 2048 (S - 2 - size)) (hg : GdS B size n S k db) (ho : B.opn = none) (eb : Nat) : MtOk eb B.disk size n S (k + 1) (B.moved eb).homed := fun N w hN hD => g_mount hk hS w hN hD hg ho
noncomputable def b0 (db : Nat) : BookS := mtB C0 (fr 100 298 400 db)
theorem b0_opn (db : Nat) : (b0 db).opn = none := mtB_opn (fr_opn _ _ _ _)
theorem b0_cache (db : Nat) : (b0 db).disk.cache = [] := mtB_cache (fr_cache _ _ _ _)
theorem vmount_zero (a : Option Addr) (cap db base : Nat) (N : Nat → Prop) (w : World) (hD : DiskI w db N ⟨List.replicate 400 (zer 64), []⟩) (hL : w.ownsRow base 3 1 (.slice a 2 cap) 2 (lunsV C0)) :
    Calls Tryz.prog 51 #[ptrV db, .agg (cfgC C0 (.slice a 2 cap))] w fun e w' => (∃ vb lv bb t1 t2 t3, e = .returned (.tuple #[ptrV vb, .nilIface]) ∧ w.heap.size ≤ vb ∧ VolI w' vb N C0 lv bb t1 t2 t3 (b0 db)) ∧ GdS (b0 db) 100 298 400 2 db ∧ (∀ i, i < 298 → (b0 db).view i = if i = 0 then signF C0 else zer 64) ∧ Keeps N w w' := by
  have h := vmount_any C0 a cap db 1 base N ⟨List.replicate 400 (zer 64), []⟩ (fr 100 298 400 db) (by rw [C0_n]; exact C0_fits) List.length_replicate (by rw [C0_n]; exact mt_fresh db) (by decide) (fr_opn _ _ _ _) (.inr (fr_view 100 298 400 db (by decide) (by decide) (by decide) (by decide) 0 (by decide))) w hD hL
  rw [C0_n] at h
  refine h.mono ?_
  rintro e w' ⟨h1, h2, h3, h4⟩
  refine ⟨h1, h2, fun i hi => ?_, h4⟩
  have h5 := h3 i (by rw [C0_n]; exact hi)
  rw [fr_view 100 298 400 db (by decide) (by decide) (by decide) (by decide) i hi] at h5
  exact h5
theorem vmount_again (a : Option Addr) (cap db eb k base : Nat) (N : Nat → Prop) (B : BookS) (hk : k ≤ 90) (hg : GdS B 100 298 400 k db) (ho : B.opn = none) (h0 : B.view 0 = signF C0) (w : World) (hD : DiskI w eb N B.disk) (hL : w.ownsRow base 3 1 (.slice a 2 cap) 2 (lunsV C0)) :
    Calls Tryz.prog 51 #[ptrV eb, .agg (cfgC C0 (.slice a 2 cap))] w fun e w' => (∃ vb lv bb t1 t2 t3 B', e = .returned (.tuple #[ptrV vb, .nilIface]) ∧ w.heap.size ≤ vb ∧ VolI w' vb N C0 lv bb t1 t2 t3 B' ∧ B'.n = 298 ∧ ∀ i, i < 298 → B'.view i = B.view i) ∧ Keeps N w w' := by
  have hb : ∀ i, i < 298 → (B.moved eb).homed.view i = B.view i := fun i hi => by
    rw [BookS.base_view (show (B.moved eb).homed.opn = none from ho), g_mount_base hg eb i hi, BookS.base_view ho]
  have h := vmount_any C0 a cap eb (k + 1) base N B.disk (B.moved eb).homed (by rw [C0_n]; exact C0_fits) hg.len (by rw [C0_n]; exact mt_again (by omega) (by decide) hg ho eb) (by omega) ho (.inl ((hb 0 (by decide)).trans h0)) w hD hL
  rw [C0_n] at h
  refine h.mono ?_
  rintro e w' ⟨⟨vb, lv, bb, t1, t2, t3, h1, h2, h3⟩, hgn, h4, h5⟩
  refine ⟨⟨vb, lv, bb, t1, t2, t3, _, h1, h2, h3, hgn.n, fun i hi => ?_⟩, h5⟩
  rw [h4 i (by rw [C0_n]; exact hi), hb i hi]
  by_cases e0 : i = 0
  · rw [if_pos e0, e0, h0]
  · rw [if_neg e0]
open Go.RowKit Go.Maps
set_option maxRecDepth 100000 in
theorem num11_nil (w : World) : Calls Tryz.prog 55 #[.nilIface] w fun e w' => e = .returned (.int .i64 0) ∧ w = w' := by
  go_enter Tryz.func55, Tryz.ntmps55
  go_wp2_with fail
  go_ret
  exact ⟨rfl, rfl⟩
set_option maxRecDepth 100000 in
theorem num11_err (v : Value) (n : Int) (w : World) (hv : ErrV w v n) (hg : EtAt w) : Calls Tryz.prog 55 #[v] w fun e w' => e = .returned (.int .i64 n) ∧ Below w.heap.size w w' := by
  obtain ⟨te, xe, rfl⟩ := hv.iface
  obtain ⟨k, hk⟩ := hv
  have hb0 : Below w.heap.size w (w.alloc (.cells #[.int .i64 0] 137)) := bZ
  have hA := as_any k (.iface te xe) n w.heap.size (.int .i64 0) (w.alloc (.cells #[.int .i64 0] 137)) (hk.below hb0) (hg.below hb0 hg.pos) (heap_alloc_new _ _)
  clear hk
  go_enter Tryz.func55, Tryz.ntmps55
  go_wp2_with fail
  refine hA.mono ?_
  rintro e w2 ⟨rfl, hx, hb⟩
  have z0 : w2.cell? ⟨w.heap.size, 0, none⟩ = some (.int .i64 n) := by simp [World.cell?, hx]
  try dsimp only
  go_wp2_with fail
  go_ret
  exact ⟨rfl, hb0.trans hb⟩
def blk7 : List Int := 7 :: (zer 62 ++ [3])
theorem blk7_ok : PgOk blk7 := ⟨rfl, fun x hx => by
  have h : ∀ x ∈ blk7, 0 ≤ x ∧ x < 256 := by decide
  exact h x hx⟩
theorem blk7_nz : blk7 ≠ zer 64 := by decide
set_option maxRecDepth 100000 in
set_option maxHeartbeats 1000000 in
theorem block11_any (w : World) : Calls Tryz.prog 122 #[.int .u8 7] w fun e w' => e = .returned (.slice (some ⟨w.heap.size, 0, none⟩) 64 64) ∧ w'.rangeAt w.heap.size 0 (v8 blk7) ∧ w.heap.size < w'.heap.size ∧ Below w.heap.size w w' := by
  have hb0 : ∀ o : Obj, Below w.heap.size w (w.alloc o) := fun o => bZ
  have hm : (Instr.makeSlice 118 (.int .i64 64) (.int .i64 64)).run Tryz.prog w = .ok (.slice (some ⟨w.heap.size, 0, none⟩) 64 64) (w.alloc (.cells (v8a (zer 64)) 5)) := by kernel_rfl
  go_enter Tryz.func122, Tryz.ntmps122
  go_upto_region 2 with fail
  refine Kz0 (fun wx => Hid (wx.heap[w.heap.size]? = some (.cells (v8a (zer 64)) 5) ∧ Below w.heap.size w wx)) (hZ ⟨heap_alloc_new w _, hb0 _⟩) ?_
  clear hb0 hm
  intro w1 H1
  have f0 := ent_fr H1.out.1 0
  have z0 : w1.cell? ⟨w.heap.size, 0, none⟩ = some (.int .u8 0) := by rw [cell_of_row w1 _ _ _ _ (0, 0) H1.out.1]; rfl
  have f63 := ent_fr H1.out.1 63
  have z63 : w1.cell? ⟨w.heap.size, 63, none⟩ = some (.int .u8 0) := by rw [cell_of_row w1 _ _ _ _ (0, 0) H1.out.1]; rfl
  go_wp2_with fail
  go_ret
  have hF : ((w1.setCell ⟨w.heap.size, 0, none⟩ (.int .u8 7)).setCell ⟨w.heap.size, 63, none⟩ (.int .u8 3)).heap[w.heap.size]? = some (.cells (v8a blk7) 5) := (Xz3 (Xz3 H1.out.1 _) _).trans rfl
  have hb4 := H1.out.2
  refine ⟨rfl, fun j v hv => ?_, Zz0 hF, by repeat (first | with_reducible assumption | (with_reducible refine Below.setCell ?_ (by first | omega | (simp; done) | (simp; omega)) _) | (with_reducible refine Below.alloc ?_ (by first | omega | (simp; done) | (simp; omega)) _) | (with_reducible refine Below.drew ?_) | (with_reducible refine Qz2 ?_ _) | with_reducible exact Below.refl _ _ | (with_reducible refine Below.trans ?_ (Below.mono (by assumption) (by first | omega | (simp; done) | (simp; omega)))))⟩
  rw [cell_of_row _ _ (0 + j) _ _ (0, 0) hF]
  simpa [v8a] using hv
set_option maxRecDepth 100000 in
set_option maxHeartbeats 1000000 in
theorem plain_any (w : World) : Calls Tryz.prog 50 #[] w fun e w' => (∃ a cap, e = .returned (.agg (cfgC C0 (.slice a 2 cap))) ∧ w'.ownsRow w.heap.size 3 1 (.slice a 2 cap) 2 (lunsV C0)) ∧ Below w.heap.size w w' := by
  have hb0 : ∀ o : Obj, Below w.heap.size w (w.alloc o) := fun o => bZ
  go_enter Tryz.func50, Tryz.ntmps50
  go_wp2_with fail
  refine bodyPost_ret (v := .agg (cfgC C0 (.slice (some ⟨w.heap.size + 1, 0, none⟩) 2 2))) (by simp [results, Tryz.results50, go_sem, cfgC, C0]) rfl ⟨⟨some ⟨w.heap.size + 1, 0, none⟩, 2, rfl, ?_⟩, ?_⟩
  · have h := own_new (w.alloc (.cells (cfgC C0 (.slice (some ⟨w.heap.size + 1, 0, none⟩) 2 2)) 102)) (lunsV C0) 3 w.heap.size 2 rfl (by decide) (by simp)
    rw [World.size_alloc] at h
    exact h
  · exact (hb0 _).alloc (by simp) _
def PickIn (w : World) (a : Option Addr) (len : Nat) (K : Nat → Int) : Prop := ∀ i, i < len → ∃ b off, a = some ⟨b, off, none⟩ ∧ b < w.heap.size ∧ w.cell? ⟨b, off + i, none⟩ = some (.int .i64 (K i))
theorem PickIn.below {w w' : World} {a : Option Addr} {len : Nat} {K : Nat → Int} (h : PickIn w a len K) (hb : Below w.heap.size w w') : PickIn w' a len K := fun i hi => by
  obtain ⟨b, off, h1, h2, h3⟩ := h i hi
  exact ⟨b, off, h1, Nat.lt_of_lt_of_le h2 hb.size, (hb.cell (p := ⟨b, off + i, none⟩) h2).trans h3⟩
set_option maxRecDepth 100000 in
set_option maxHeartbeats 4000000 in
theorem crash_any (pl : Nat) (K : Nat → Int) (a1 : Option Addr) (cp : Nat) (hpl : pl ≤ maxLen) (db : Nat) (N : Nat → Prop) (d : DiskS) (hc : d.cache = []) (w : World) (hp : PickIn w a1 pl K) (h : DiskI w db N d) :
    Calls Tryz.prog 23 #[.pointer (some ⟨db, 0, none⟩), .slice a1 pl cp] w fun e w' => (∃ eb, e = .returned (.pointer (some ⟨eb, 0, none⟩)) ∧ w.heap.size ≤ eb ∧ DiskI w' eb (fun k => k < w.heap.size) ⟨d.firm, []⟩) ∧ Below w.heap.size w w' := by
  have HOK := hZ h.isOk
  have HP := hZ hp
  have hpl2 : (pl : Int) ≤ 9223372036854775807 := by unfold maxLen at hpl; omega
  have hpl0 : (0 : Int) ≤ pl := by omega
  clear hp hpl
  obtain ⟨fb, cv, lb, c, ⟨fc, hfc, h1⟩, ⟨rest, h2⟩, h3, _⟩ := h
  obtain ⟨ac, cc, rfl⟩ := Kz3 h3
  rw [hc] at h1
  have H1 := hZ h1
  have H2 := hZ h2
  obtain ⟨z0, z1, z2, z3, z4, _⟩ := blk5 h1
  clear h1 h2 h3
  have HSRC : Hid (∀ wx, Below w.heap.size w wx → SrcIs wx (.slice (some ⟨fb, 0, none⟩) d.firm.length fc) d.firm.length 64 (v8 d.firm.flatten)) := hZ (fun wx hb => .inr ⟨⟨fb, 0, none⟩, fc, rfl, by rw [Wz0, flat64 _ HOK.out.2.1]; omega, fun j v hj => by
    have ea : (⟨fb, 0, none⟩ : Addr).add j = ⟨fb, j, none⟩ := by unfold Addr.add; split <;> simp_all
    rw [ea, cell_of_row wx fb j _ _ (0, 0) ((hb.block _ (Zz0 H2.out)).trans H2.out), List.getElem?_toArray, List.getElem?_append_left (List.getElem?_eq_some_iff.1 hj).1]
    exact hj, Kz7 _⟩)
  have hfl := HOK.out.1
  have hmb : ∀ wx : World, (Instr.makeSlice 176 (.int .i64 0) (.int .i64 0)).run Tryz.prog wx = .ok (.slice (some ⟨wx.heap.size, 0, none⟩) 0 0) (wx.alloc (.cells #[] 4)) := fun _ => by kernel_rfl
  have hmm : ∀ wx : World, (Instr.makeMap 138 none).run Tryz.prog wx = .ok (.map (some wx.heap.size)) (wx.alloc (.map #[] 0)) := fun _ => by kernel_rfl
  obtain ⟨ip, hip, hpz0, hpz1, hpz2⟩ := info_parts info_pg
  go_enter Tryz.func23, Tryz.ntmps23
  go_upto_region 4 with fail
  refine Kz0 (fun wx => Hid (Below w.heap.size w wx)) (hZ (bZ)) ?_
  clear z0 z1 z2 z3 z4 hmb
  intro w0 HB0
  obtain ⟨z0, z1, z2, z3, z4, _⟩ := blk5 ((HB0.out.block _ (Zz0 H1.out)).trans H1.out)
  have hs0 := HB0.out.size
  go_wp2_with fail
  go_loopw [21] (fun iv wr => ∃ i : Nat, iv = .int .i64 (i : Int) ∧ i ≤ pl ∧ Hid (Below w.heap.size w wr)) (fun iv _ => pl + 1 - (intOf iv).toNat)
  case atStart => exact ⟨0, rfl, Nat.zero_le _, HB0⟩
  clear HB0 hs0 z0 z1 z2 z3 z4
  obtain ⟨i, rfl, hi, HB0⟩ := hrel
  have hi0 : (0 : Int) ≤ i := by omega
  by_cases hit : i < pl
  · have hi1 : (i : Int) < (pl : Int) := by omega
    obtain ⟨b, off, rfl, hbs, hc⟩ := HP.out i hit
    have hc' := (HB0.out.cell (p := ⟨b, off + i, none⟩) hbs).trans hc
    clear hc
    generalize K i = x at hc'
    by_cases hx : x < 0
    · have hx0 : ¬ (0 ≤ x) := by omega
      go_wp2_with fail
      go_roundw
      · exact ⟨i + 1, by push_cast; rfl, by omega, HB0⟩
      · simp only [intOf]; omega
    · have hx0 : 0 ≤ x := by omega
      have hx1 : ¬ (x < 0) := hx
      go_wp2_with fail
      go_roundw
      · exact ⟨i + 1, by push_cast; rfl, by omega, HB0⟩
      · simp only [intOf]; omega
  have hi1 : ¬ ((i : Int) < (pl : Int)) := by omega
  have hs0 := HB0.out.size
  obtain ⟨z0, z1, z2, z3, z4, _⟩ := blk5 ((HB0.out.block _ (Zz0 H1.out)).trans H1.out)
  go_upto_region 10 with fail
  repeat ((fail_if_success (with_reducible refine Kz1 41 rfl ?_)); (first | go_values | go_skip | go_guarded | go_step | go_upon))
  refine Jz2 rfl (.const (.slice none 0 0)) (.tmp 40) 52 rfl w.heap.size 37 ip _ 64 64 Tryz.underlying52 hip hpz0 hpz1 hpz2 rfl (by decide) (.slice none 0 0) 0 [] rfl ?c0 (.slice (some ⟨fb, 0, none⟩) d.firm.length fc) d.firm.length (v8 d.firm.flatten) rfl ?c4 ?c1 ?c2 ?c3 ?_
  case c0 => exact World.ownsRow_nil _ _ _ _
  case c4 => exact HSRC.out _ HB0.out
  case c1 => unfold maxLen; omega
  case c2 => omega
  case c3 => exact hs0
  intro v1 w1 ho1 hg1
  have hb1 : Below w.heap.size w w1 := HB0.out.grown hg1 hs0 (fun k hk => by simp [Value.ownBlock] at hk)
  have ho1' := ho1
  rcases ho1.2 with ⟨hv, hn⟩ | ⟨g, cap, cur, hv, hgb, hgk, hn, hm, hs, ht⟩
  · omega
  subst hv
  rw [List.nil_append, Nat.zero_add] at ht
  rw [Nat.zero_add] at hn
  have hrest : ∃ rest : List Value, cur = (v8 d.firm.flatten ++ rest).toArray := ⟨cur.toList.drop (d.firm.length * 64), by
    apply Array.ext'
    rw [← ht]
    simp⟩
  obtain ⟨rst, hcur⟩ := hrest
  subst hcur
  have HG := hZ hgk
  have HB1 := hZ hb1
  have hgl := Zz0 hgk
  clear ho1 ho1' hg1 hgk hb1 hm hs ht HSRC z0 z1 z2 z3 z4
  have hs1 := HB1.out.size
  obtain ⟨z0, z1, z2, z3, z4, _⟩ := blk5 ((HB1.out.block _ (Zz0 H1.out)).trans H1.out)
  rw [Nat.zero_add]
  go_upto_region 11 with fail
  have hm1 := heap_alloc_new w1 (.map #[] 0)
  have hq : MapIs Tryz.prog 3 (w1.alloc (.map #[] 0)) w1.heap.size 0 (fun _ => none) := mapIs_made Tryz.prog 3 w1
  have hdk : ((w1.alloc (.map #[] 0)).alloc (.cells #[.slice (some ⟨g, 0, none⟩) d.firm.length cap, .slice none 0 0, .map (some w1.heap.size), .int .i64 (-1), .bool false] 141)).heap[w1.heap.size + 1]? = some (.cells #[.slice (some ⟨g, 0, none⟩) d.firm.length cap, .slice none 0 0, .map (some w1.heap.size), .int .i64 (-1), .bool false] 141) := by
    have h := heap_alloc_new (w1.alloc (.map #[] 0)) (.cells #[.slice (some ⟨g, 0, none⟩) d.firm.length cap, .slice none 0 0, .map (some w1.heap.size), .int .i64 (-1), .bool false] 141)
    simp only [World.size_alloc] at h
    exact h
  refine Kz0 (fun wx => Hid (wx.heap[w1.heap.size + 1]? = some (.cells #[.slice (some ⟨g, 0, none⟩) d.firm.length cap, .slice none 0 0, .map (some w1.heap.size), .int .i64 (-1), .bool false] 141)) ∧ Hid (MapIs Tryz.prog 3 wx w1.heap.size 0 (fun _ => none)) ∧ Hid (wx.heap[g]? = some (.cells (v8 d.firm.flatten ++ rst).toArray 37)) ∧ Hid (Below w.heap.size w wx ∧ w1.heap.size + 2 ≤ wx.heap.size)) ⟨hZ hdk, hZ (hq.alloc _), hZ ((heap_alloc_old _ _ (by simp; omega)).trans ((heap_alloc_old _ _ hgl).trans HG.out)), hZ ⟨(HB1.out.alloc hs1 _).alloc (by simp; omega) _, by simp⟩⟩ ?_
  clear hm1 hq hdk z0 z1 z2 z3 z4
  rintro w2 ⟨HD2, HM2, HG2, HB2⟩
  obtain ⟨z0, z1, z2, z3, z4, _⟩ := blk5 ((HB2.out.1.block _ (Zz0 H1.out)).trans H1.out)
  go_wp2_with fail
  refine wp_loop_once ?_
  go_wp2_with fail
  go_ret
  refine ⟨⟨w1.heap.size + 1, rfl, by omega, g, .slice none 0 0, w1.heap.size, 0, ⟨cap, hn, HD2.out⟩, ⟨rst, HG2.out⟩, World.ownsRow_nil _ _ _ _, by rw [lastL_nil]; exact HM2.out, Nat.zero_le _, by omega, by omega, by omega, fun k hk => by simp [Value.ownBlock] at hk, fun i hi => by have := HB2.out.1.size; omega, ⟨HOK.out.1, HOK.out.2.1, (fun x hx => by cases hx), Nat.zero_le _⟩⟩, HB2.out.1⟩
end Go.Proofs.YtajmcplanlibnaaGreatDoor
