/- A book: all that is in the ring goes to its place. -/
import Derived.Test.YtajmcplanlibnaaGreatDoorKYB4
import Derived.Test.YtajmcplanlibnaaGreatDoorKYS1
set_option linter.unusedSimpArgs false
set_option linter.unusedVariables false
set_option linter.unnecessarySimpa false
namespace Go.Proofs.YtajmcplanlibnaaGreatDoor
open Go.RowKit Go.Maps
structure SatW (F : World → Prop) where
  w : World
  h : F w
theorem Jz3 {F : World → Prop} {w : World} (h : F w) : ∃ p : SatW F, w = p.w := ⟨⟨w, h⟩, rfl⟩
def newsC (B : BookS) : List (Nat × List Int) := (keysF B.news B.n).map fun i => (2 + B.size + i, pgD (B.news i))
def BookS.lastH (B : BookS) : List Int := shaF (B.last ++ (List.range 8).map (Kz9 (B.gen + 1)))
def BookS.homeD (B : BookS) : DiskS := ⟨(Qz3 (Qz3 B.disk.firm B.disk.cache) (newsC B)).set ((B.gen + 1) % 2).toNat (Wz5 (B.gen + 1) B.num B.pl B.lastH), []⟩
def BookS.homed (B : BookS) : BookS := { B with gen := B.gen + 1, news := fun _ => none, disk := B.homeD, last := B.lastH, used := 0 }
theorem BookX.disked {w w' : World} {bb : Nat} {N : Nat → Prop} {B : BookS} {db rb nb : Nat} {ov : Value} (h : BookX w bb N B db rb nb ov) (d : DiskS) (hk : Keeps (fun k => N k ∨ k = bb ∨ k = rb ∨ k = nb ∨ ovB ov k) w w') (hd : DiskI w' db (fun k => N k ∨ k = bb ∨ k = rb ∨ k = nb ∨ ovB ov k) d) (hl : d.firm.length = B.disk.firm.length) :
    BookX w' bb N { B with disk := d } db rb nb ov := by
  refine ⟨hk.blk (.inr (.inl rfl)) h.cells, hk.blk (.inr (.inr (.inl rfl))) h.ring, hd, hk.map (.inr (.inr (.inr (.inl rfl)))) h.news, ?_, h.ne, h.nots, ?_, h.dbs⟩
  · have ho := h.opn
    show OpenI w' ov B.n B.opn
    cases hB : B.opn with
    | none => rw [hB] at ho; exact ho
    | some f =>
      rw [hB] at ho
      obtain ⟨ob, h1, h2⟩ := ho
      exact ⟨ob, h1, hk.map (.inr (.inr (.inr (.inr h1)))) h2⟩
  · obtain ⟨o1, o2, o3, o4, o5, o6, o7, o8, o9, o10, o11⟩ := h.ok
    exact ⟨o1, o2, by show _ ≤ d.firm.length; rw [hl]; exact o3, o4, o5, o6, o7, o8, o9, o10, hd.isOk⟩
theorem news_met {f : PgF} {n : Nat} {left : Lit → Bool} {ks : List Int} (hf : PgMap f n) (hm : Met .i64 (pgL f) left ks) (hl : ∀ kl, left kl = false) (hw : ∀ x ∈ ks, (Lit.int .i64 x).wf = true) (hn : n ≤ 2048) :
    (ks.mergeSort fun x y => decide (x ≤ y)) = (keysF f n).map (fun i : Nat => (i : Int)) := by
  refine keys_sorted hm.1 (fun x => ?_)
  constructor
  · intro hx
    have := ((hm.2 x (hw x hx)).1 hx).1
    unfold pgL at this
    dsimp only at this
    split at this
    · rename_i h0
      cases hq : f x.toNat with
      | none => rw [hq] at this; cases this
      | some p => exact ⟨x.toNat, by omega, (hf _ p hq).1, by rw [hq]; rfl⟩
    · cases this
  · rintro ⟨i, rfl, hi, hp⟩
    have hwf : (Lit.int .i64 (i : Int)).wf = true := by
      have := Kzb (i : Int) (by omega)
      obtain ⟨x, e1, e2, e3⟩ := Maps.keyOf_int_inv Tryz.underlying3 this
      cases e1; exact e3
    refine (hm.2 _ hwf).2 ⟨?_, hl _⟩
    rw [pgL_at]
    cases hq : f i with
    | none => rw [hq] at hp; cases hp
    | some p => rfl
theorem key_wf {x : Int} (h : keyOf Tryz.prog 3 (.int .i64 x) = some (.int .i64 x)) : (Lit.int .i64 x).wf = true := by
  obtain ⟨y, e1, e2, e3⟩ := Maps.keyOf_int_inv Tryz.underlying3 h
  cases e1; exact e3
theorem info_int : (Tryz.prog.info? 3).map (fun i => (i.zero, i.size, i.bytes)) = some (some (.int .i64 0), 1, 8) := by kernel_rfl
theorem BookX.gens {w : World} {bb : Nat} {N : Nat → Prop} {B : BookS} {db rb nb : Nat} {ov : Value} (h : BookX w bb N B db rb nb ov) (g : Int) (hg : 0 ≤ g ∧ g < 4611686018427387904) :
    BookX (w.setCell ⟨bb, 4, none⟩ (.int .u64 g)) bb N { B with gen := g } db rb nb ov := by
  have hbr : bb ≠ rb := Zze h.cells h.ring (by decide)
  have hbn : nb ≠ bb := Xz4 h.cells h.news
  obtain ⟨o1, o2, o3, o4, o5, o6, o7, o8, o9, o10, o11⟩ := h.ok
  refine ⟨Xz3 (i := 4) h.cells (.int .u64 g), Zz1 hbr h.ring, h.disk.keeps (Keeps.set _ _ _ _ (fun hn => hn (.inr (.inl rfl)))), h.news.setCell hbn _, ?_, h.ne, h.nots, ⟨o1, o2, o3, hg, o5, o6, o7, o8, o9, o10, o11⟩, h.dbs⟩
  have ho := h.opn
  show OpenI _ ov B.n B.opn
  cases hB : B.opn with
  | none => rw [hB] at ho; exact ho
  | some f =>
    rw [hB] at ho
    obtain ⟨ob, h1, h2⟩ := ho
    exact ⟨ob, h1, h2.setCell (Xz4 h.cells h2) _⟩
theorem BookX.cuts {w w' : World} {bb : Nat} {N : Nat → Prop} {B : BookS} {db rb nb : Nat} {ov : Value} (h : BookX w bb N B db rb nb ov) (c : List Int) (hc : c.length = 32 ∧ U8s c) (hk : Keeps (fun k => k ≠ rb) w w')
    (hr : w'.heap[rb]? = some (.cells (ringC db 2 B.size B.pl B.num c 0) 252)) : BookX w' bb N { B with last := c, used := 0 } db rb nb ov := by
  have hbr : bb ≠ rb := Zze h.cells h.ring (by decide)
  have hbn : nb ≠ rb := Xz4 h.ring h.news
  obtain ⟨o1, o2, o3, o4, o5, o6, o7, o8, o9, o10, o11⟩ := h.ok
  refine ⟨hk.blk hbr h.cells, hr, h.disk.keeps (hk.mono (fun k _ hn e => hn (.inr (.inr (.inl e))))), hk.map hbn h.news, ?_, h.ne, h.nots, ⟨o1, o2, o3, o4, o5, o6, o7, o8, hc, Nat.zero_le _, o11⟩, h.dbs⟩
  have ho := h.opn
  show OpenI _ ov B.n B.opn
  cases hB : B.opn with
  | none => rw [hB] at ho; exact ho
  | some f =>
    rw [hB] at ho
    obtain ⟨ob, h1, h2⟩ := ho
    exact ⟨ob, h1, hk.map (Xz4 h.ring h2) h2⟩
theorem BookX.cleared {w w' : World} {bb : Nat} {N : Nat → Prop} {B : BookS} {db rb nb : Nat} {ov : Value} (h : BookX w bb N B db rb nb ov) (hk : Keeps (fun k => k ≠ nb) w w') (hm : MapIs Tryz.prog 3 w' nb 0 (fun _ => none)) :
    BookX w' bb N { B with news := fun _ => none } db rb nb ov := by
  have hbn : nb ≠ bb := Xz4 h.cells h.news
  have hrn : nb ≠ rb := Xz4 h.ring h.news
  obtain ⟨o1, o2, o3, o4, o5, o6, o7, o8, o9, o10, o11⟩ := h.ok
  refine ⟨hk.blk (fun e => hbn e.symm) h.cells, hk.blk (fun e => hrn e.symm) h.ring, h.disk.keeps (hk.mono (fun k _ hn e => hn (.inr (.inr (.inr (.inl e)))))), ?_, ?_, h.ne, h.nots, ⟨o1, o2, o3, o4, PgMap.none _, o6, o7, o8, o9, o10, o11⟩, h.dbs⟩
  · show MapIs Tryz.prog 3 w' nb (keysF (fun _ => none) B.n).length (pgL fun _ => none)
    rw [Zzj, pgL_none]; exact hm
  · have ho := h.opn
    show OpenI _ ov B.n B.opn
    cases hB : B.opn with
    | none => rw [hB] at ho; exact ho
    | some f =>
      rw [hB] at ho
      obtain ⟨ob, h1, h2⟩ := ho
      exact ⟨ob, h1, hk.map (fun e => h.ne (by rw [← e]; exact h1)) h2⟩
theorem gen_calls {P : Program} {f : FuncId} {args : Array Value} {w : World} {R : Ending → World → Prop} (F : World → Prop) (h : F w) (k : ∀ w', F w' → Calls P f args w' R) : Calls P f args w R := k w h
theorem mark_by {w : World} {B T : Nat} {pl : Nat} {n : Int} {last : List Int} (h : w.heap[B]? = some (.cells (markC pl n last) T)) : ByIn w (some ⟨B, 2, none⟩) last := fun i hi => by
  refine ⟨B, 2, rfl, Zz0 h, ?_⟩
  have := mark_last h i (.int .u8 (last.getD i 0)) (v8_get last i hi)
  have ea : (⟨B, 2, none⟩ : Addr).add i = ⟨B, 2 + i, none⟩ := by unfold Addr.add; split <;> simp_all
  rw [ea] at this; exact this
theorem mark_rlast {w : World} {B T : Nat} {pl : Nat} {n : Int} {last : List Int} (h : w.heap[B]? = some (.cells (markC pl n last) T)) : w.rangeAt B 2 (v8 last) := fun j v hv => by
  have := mark_last h j v hv
  have ea : (⟨B, 2, none⟩ : Addr).add j = ⟨B, 2 + j, none⟩ := by unfold Addr.add; split <;> simp_all
  rw [ea] at this; exact this
theorem mark_store {w : World} {B T : Nat} {pl : Nat} {n : Int} {last c : List Int} (hl : last.length = 32) (hc : c.length = 32) (h : w.heap[B]? = some (.cells (markC pl n last) T)) : (w.setCells B 2 (v8 c)).heap[B]? = some (.cells (markC pl n c) T) := by
  have hc8 : (v8 c).length = 32 := by rw [Wz0, hc]
  have hl8 : (v8 last).length = 32 := by rw [Wz0, hl]
  rw [Qzb (cs := .int .i64 (pl : Int) :: .int .u64 n :: v8 last) (vs := v8 c) (o := 2) h (by simp [hl8, hc8])]
  have := mark_row pl n last c hl hc
  rw [← this, hc8]
  rfl
def HmX (w : World) (bb : Nat) (N : Nat → Prop) (B : BookS) (db rb nb box : Nat) (ov : Value) (mk : Array Value) (wx : World) : Prop :=
  BookX wx bb (fun k => N k ∨ k = box) B db rb nb ov ∧ wx.heap[box]? = some (.cells mk 148) ∧ Keeps N w wx ∧ ¬ N box
theorem HmX.below {w wx wy : World} {bb : Nat} {N : Nat → Prop} {B : BookS} {db rb nb box : Nat} {ov : Value} {mk : Array Value} (h : HmX w bb N B db rb nb box ov mk wx) (hb : Below wx.heap.size wx wy) : HmX w bb N B db rb nb box ov mk wy :=
  ⟨h.1.keep hb (fun k hk => ⟨Nat.lt_of_lt_of_le (h.1.N_lt k hk) hb.size, .inl hk⟩), (hb.block _ (Zz0 h.2.1)).trans h.2.1, h.2.2.1.trans (Keeps.of_below hb), h.2.2.2⟩
theorem homed_eq (B : BookS) (lh : List Int) (h : B.lastH = lh) : B.homed = { { { { B with disk := B.homeD } with gen := B.gen + 1 } with last := lh, used := 0 } with news := fun _ => none } := by
  simp only [BookS.homed, h]
def HmF (bb : Nat) (cs : Array Value) (box : Nat) (mk : Array Value) (wx : World) : Prop := wx.heap[bb]? = some (.cells cs 146) ∧ wx.heap[box]? = some (.cells mk 148)
def genB (g : Int) (i : Nat) : List Int := (List.range i).map (Kz9 (g + 1))
theorem genB_next (g : Int) (i : Nat) : genB g (i + 1) = genB g i ++ [(g + 1) / 2 ^ (8 * i) % 256] := by unfold genB; rw [List.range_succ, List.map_append]; rfl
theorem genB_length (g : Int) (i : Nat) : (genB g i).length = i := by simp [genB]
theorem genB_u8 (g : Int) (i : Nat) : U8s (genB g i) := fun x hx => by
  unfold genB at hx
  obtain ⟨j, _, rfl⟩ := List.mem_map.1 hx
  exact byteAt_u8 _ _
theorem one_by {w : World} {x : Int} {e : Nat} : ByIn (w.alloc (.cells #[.int .u8 x] e)) (some ⟨w.heap.size, 0, none⟩) [x] := fun i hi => by
  have : i = 0 := by simp at hi; exact hi
  subst this
  refine ⟨_, _, rfl, by simp, ?_⟩
  have h := cell_of_row (w.alloc (.cells #[.int .u8 x] e)) w.heap.size 0 _ e (0, 0) (heap_alloc_new w _)
  rw [Nat.add_zero, h]; rfl
theorem newsC_take (B : BookS) (j : Nat) (hj : j < (keysF B.news B.n).length) : (newsC B).take (j + 1) = (newsC B).take j ++ [(2 + B.size + (keysF B.news B.n)[j], pgD (B.news (keysF B.news B.n)[j]))] := by
  have h2 : j < (newsC B).length := by simpa [newsC] using hj
  rw [List.take_succ_eq_append_getElem h2]
  simp [newsC]
theorem keysF_get (f : PgF) (n j : Nat) (hj : j < (keysF f n).length) : (keysF f n)[j] < n ∧ (f (keysF f n)[j]).isSome = true := by
  have h := List.getElem_mem hj
  unfold keysF at h
  rw [List.mem_filter, List.mem_range] at h
  exact h
def BkF (bb : Nat) (cs : Array Value) (wx : World) : Prop := wx.heap[bb]? = some (.cells cs 146)
set_option maxRecDepth 100000 in
set_option maxHeartbeats 4000000 in
theorem home_any (bb : Nat) (N : Nat → Prop) (B : BookS) (hg : B.gen < 4611686018427387903) (w : World) (h : BookI w bb N B) :
    Calls Tryz.prog 67 #[.pointer (some ⟨bb, 0, none⟩)] w fun e w' => e = .returned .nilIface ∧ BookI w' bb N B.homed ∧ Keeps N w w' := by
  obtain ⟨db, rb, nb, ov, hX⟩ := h
  have HX := hZ hX
  have HOK := hZ hX.ok
  have hn2 := hX.ok.n.2
  obtain ⟨z0, z1, z2, z3, z4, z5, z6, z7, _⟩ := Xz1 hX.cells
  have hFL := Wze db _ B.disk w hX.disk
  clear hX
  go_enter Tryz.func67, Tryz.ntmps67
  go_wp2_with fail
  refine hFL.mono ?_
  clear hFL
  rintro e w1 ⟨rfl, hd1, hk1⟩
  have HX1 : Hid (BookX w1 bb N { B with disk := ⟨Qz3 B.disk.firm B.disk.cache, []⟩ } db rb nb ov) := hZ (HX.out.disked _ hk1 hd1 (Kz2 _ _))
  have HK1 : Hid (Keeps N w w1) := hZ (hk1.mono (fun k _ hk => .inl hk))
  clear hd1 hk1 HX z0 z1 z2 z3 z4 z5 z6 z7
  obtain ⟨z0, z1, z2, z3, z4, z5, z6, z7, _⟩ := Xz1 HX1.out.cells
  try dsimp only
  go_wp2_with (at_range; refine wpList_range_is _ rfl _ 142 rfl 3 37 (int_keyed Tryz.underlying3) Tryz.underlying142 nb _ (pgL B.news) rfl HX1.out.news ?_; intro w2 left0 hr0 hl0 hb2; go_frame)
  generalize hrr : w1.heap.size = r at hr0 hb2 ⊢
  have HB2 : Hid (Below w1.heap.size w1 w2) := hZ (by rw [hrr]; exact hb2)
  have hrn : r ≠ nb := fun e => by have := HX1.out.news.lt; omega
  have HR0 := hZ hr0
  have HL0 := hZ hl0
  clear hr0 hl0 hb2 z0 z1 z2 z3 z4 z5 z6 z7
  have hkl : (keysF B.news B.n).length ≤ 2048 := Nat.le_trans (Xzh _ _) hn2
  go_loopw [4, 5] (fun lv iv wr => ∃ (ks : List Int) (left : Lit → Bool) (cnt : Nat), Hid (MapR Tryz.prog 3 wr nb r (keysF B.news B.n).length (pgL B.news) left cnt) ∧ Hid (Met .i64 (pgL B.news) left ks) ∧ Hid (∀ x ∈ ks, (Lit.int .i64 x).wf = true) ∧ Hid (wr.ownsRow r 3 1 lv ks.length (ks.map (Value.int .i64))) ∧ ks.length + cnt ≤ 2048 ∧ Hid (Below w1.heap.size w1 wr)) (fun _ _ wr => wr.rangeLeft nb r)
  case atStart => exact ⟨[], left0, _, HR0, hZ (Met.start HL0.out (fun x hx => trivial)), hZ (fun x hx => by cases hx), hZ (World.ownsRow_nil _ _ _ _), by simpa using hkl, HB2⟩
  case round =>
    obtain ⟨ks, left, cnt, HR, HM, HW, HO, hkc, HB⟩ := hrel
    obtain ⟨au, cu, rfl⟩ := Kz3 HO.out
    obtain ⟨mi, si, se, c0i, hit⟩ := HR.out.iter
    have hlr := HR.out.lt
    have hob : ∀ k, (Value.slice au ks.length cu).ownBlock = some k → r < k := fun k hk => by
      have h1 := (HO.out.lt k hk).1
      have h2 : k ≠ r := fun e => by
        subst e
        rcases HO.out.2 with ⟨hv, _⟩ | ⟨g, c', cur, hv, _, hg, _⟩
        · rw [hv] at hk; simp [Value.ownBlock] at hk
        · rw [hv] at hk; simp only [Value.ownBlock, Option.some.injEq] at hk; subst hk; rw [hit] at hg; cases hg
      omega
    have HOB := hZ hob
    have HNR : Hid (nb < r) := hZ (by have := HX1.out.news.lt; omega)
    clear hob hit
    obtain ⟨i0, hi0', hz0, hz1, hz2⟩ := info_parts info_int
    go_wp2_with (at_next; refine wpList_next_is _ rfl _ rfl 3 .i64 (int_keyed Tryz.underlying3) Tryz.underlying3 nb r _ (pgL B.news) left cnt rfl HR.out ?done ?more)
    case more =>
      intro x v w3 cnt3 hkey hlx hfx hr3 hlt hg3 hs3 hen
      have HR3 := hZ hr3
      have HG3 := hZ hg3
      have HS3 : Hid (w3.heap.size = wr.heap.size) := hZ hs3
      have HKX : Hid (keyOf Tryz.prog 3 (.int .i64 x) = some (.int .i64 x) ∧ left (.int .i64 x) = true ∧ pgL B.news (.int .i64 x) = some v) := hZ ⟨hkey, hlx, hfx⟩
      clear hr3 hg3 hs3 hkey hlx hfx
      have HO3 : Hid (w3.ownsRow r 3 1 (.slice au ks.length cu) ks.length (ks.map (Value.int .i64))) := hZ (Xz5 HO.out (fun k hk => HG3.out.block k (HO.out.lt k hk).2 (fun e => by have := HOB.out k hk; simp at e; omega)))
      go_wp2_with (at_builtin; refine Jz2 rfl _ _ 33 rfl r 3 i0 (.int .i64 0) 1 8 Tryz.underlying33 hi0' hz0 hz1 hz2 rfl (by decide) (.slice au ks.length cu) ks.length (ks.map (Value.int .i64)) rfl ?c0 (.slice (some ⟨w3.heap.size, 0, none⟩) 1 1) 1 [.int .i64 x] rfl (Xz9 w3 [.int .i64 x] 3 1 rfl (by intro u hu; rw [List.mem_singleton] at hu; subst hu; rfl)) ?c1 ?c2 ?c3 ?_)
      case c0 => exact Vz4 HO3.out (bZ)
      case c1 => unfold maxLen; omega
      case c2 => omega
      case c3 => have := HS3.out; simp; omega
      intro v4 w4 ho4 hg4
      go_wp2_with fail
      have hal : ∀ o : Obj, Below w3.heap.size w3 (w3.alloc o) := fun o => bZ
      have hnn : ∀ k, k ≤ r → w4.heap[k]? = w3.heap[k]? := fun k hk => by
        have h1 : k < w3.heap.size := by have := HS3.out; omega
        rw [hg4.block k (by simp; omega) (fun e => by have := HOB.out k e.symm; omega)]
        exact heap_alloc_old _ _ h1
      have hr4 := HR3.out.kept (hnn nb (by have := HNR.out; omega)) (hnn r (Nat.le_refl _))
      have hB4 : Below w1.heap.size w1 w4 := by
        refine (HB.out.trans (Keeps.below (N := fun k => k < r) (a := wr) (b := w4) ?_ HB.out.size (fun i hi => by omega)))
        refine (Keeps.of_grown HG3.out (fun k hk => by simp at hk; omega)).trans ((Keeps.of_below (hal _)).trans (Keeps.of_grown hg4 (fun k hk => by have := HOB.out k hk; omega)))
      refine ⟨⟨ks ++ [x], _, cnt3, hZ hr4, hZ (HM.out.step (key_wf HKX.out.1) HKX.out.2.1 HKX.out.2.2 HW.out), hZ (fun y hy => ?_), hZ (by simpa using ho4), by simp; omega, hZ hB4⟩, ?_⟩
      · rcases List.mem_append.1 hy with hy | hy
        · exact HW.out y hy
        · rw [List.mem_singleton.1 hy]; exact key_wf HKX.out.1
      · rw [hr4.left_eq, HR.out.left_eq]; exact hlt
    case done =>
      intro hld
      have HSO : Hid ((ks.mergeSort fun x y => decide (x ≤ y)) = (keysF B.news B.n).map (fun i : Nat => (i : Int))) := hZ (news_met HOK.out.news HM.out hld HW.out hn2)
      have HKL : Hid (ks.length = (keysF B.news B.n).length) := hZ (by have := congrArg List.length HSO.out; simpa using this)
      have hSI := sortInts_own (.slice au ks.length cu) ks wr (own_mono HO.out (Nat.zero_le _)) (by omega)
      clear hld HM HR HW
      go_wp2_with fail
      refine hSI.mono ?_
      clear hSI
      rintro e w3 ⟨rfl, ho3, hg3⟩
      rw [HSO.out] at ho3
      have hB3 : Hid (Below w1.heap.size w1 w3) := hZ (HB.out.trans (Keeps.below (N := fun k => k < r) (a := wr) (b := w3) (Keeps.of_grown hg3 (fun k hk => by have := HOB.out k hk; omega)) HB.out.size (fun i hi => by omega)))
      have HO3 := hZ ho3
      clear ho3 hg3 HB HO HSO
      have HX3 : Hid (BookX w3 bb (fun k => N k ∨ (Value.slice au ks.length cu).ownBlock = some k) { B with disk := ⟨Qz3 B.disk.firm B.disk.cache, (newsC B).take 0⟩ } db rb nb ov) := hZ (HX1.out.keep hB3.out (fun k hk => by
        rcases hk with hk | hk
        · exact ⟨Nat.lt_of_lt_of_le (HX1.out.N_lt k hk) hB3.out.size, .inl hk⟩
        · have := HOB.out k hk; exact ⟨(HO3.out.lt k hk).2, .inr (by omega)⟩))
      have HK3 : Hid (Keeps N w w3) := hZ (HK1.out.trans ((Keeps.of_below hB3.out)))
      clear hB3 HK1 HX1 HB2 HR0 HL0
      have hks : (ks.length : Int) ≤ 2048 := by omega
      try dsimp only
      go_wp2_with fail
      go_loopw [3, 7, 33] (fun ev iv jv wr => ∃ j : Nat, ev = .nilIface ∧ jv = .int .i64 j ∧ j ≤ ks.length ∧ Hid (BookX wr bb (fun k => N k ∨ (Value.slice au ks.length cu).ownBlock = some k) { B with disk := ⟨Qz3 B.disk.firm B.disk.cache, (newsC B).take j⟩ } db rb nb ov) ∧ Hid (wr.ownsRow 0 3 1 (.slice au ks.length cu) ks.length (((keysF B.news B.n).map (fun i : Nat => (i : Int))).map (Value.int .i64))) ∧ Hid (Keeps N w wr)) (fun _ _ jv _ => ks.length - (intOf jv).toNat)
      case atStart => exact ⟨0, rfl, rfl, by omega, HX3, HO3, HK3⟩
      case round =>
        clear HX3 HO3 HK3
        obtain ⟨j, rfl, rfl, hj, HX, HO, HK⟩ := hrel
        by_cases hlt : j < ks.length
        · have hj0 : (0 : Int) ≤ j := by omega
          have hj1 : (j : Int) < ks.length := by omega
          obtain ⟨g, rfl⟩ : ∃ g, au = some ⟨g, 0, none⟩ := by
            rcases HO.out.2 with ⟨hv, hn⟩ | ⟨g, c, cur, hv, _⟩
            · omega
            · simp only [Value.slice.injEq] at hv; exact ⟨g, hv.1⟩
          have hjk : j < (keysF B.news B.n).length := by have := HKL.out; omega
          have HNX := hZ (newsC_take B j hjk)
          obtain ⟨hi1, hi2⟩ := keysF_get B.news B.n j hjk
          have HCE : Hid (wr.cell? ⟨g, j, none⟩ = some (.int .i64 ((keysF B.news B.n)[j] : Int))) := hZ (by
            have h := HO.out.cells (g := g) rfl j (.int .i64 ((keysF B.news B.n)[j] : Int)) (by simp [hjk])
            have ea : (⟨g, 0, none⟩ : Addr).add j = ⟨g, j, none⟩ := by unfold Addr.add; split <;> simp_all
            rw [ea] at h; exact h)
          generalize (keysF B.news B.n)[j] = i at HNX hi1 hi2 HCE
          clear hjk
          have hce := HCE.out
          obtain ⟨z0, z1, z2, z3, z4, z5, z6, z7, _⟩ := Xz1 HX.out.cells
          have hz1 := HOK.out.size.2
          have hroom := HOK.out.room
          have hfl : (Qz3 B.disk.firm B.disk.cache).length = B.disk.firm.length := Kz2 _ _
          have hi0 : (0 : Int) ≤ i := by omega
          have hs0 : (0 : Int) ≤ B.size := by omega
          have hs1 : (B.size : Int) ≤ 4096 := by omega
          have hi3 : (i : Int) < 2048 := by omega
          have HPG : Hid (PgOk (pgD (B.news i))) := hZ (by
            cases hq : B.news i with
            | none => rw [hq] at hi2; cases hi2
            | some p => exact (HOK.out.news i p hq).2)
          repeat ((fail_if_success (with_reducible refine Vz1 "pages.go:181" rfl ?_)); (first | go_values | go_skip | go_guarded | go_step | go_upon))
          repeat ((fail_if_success (with_reducible refine Vz1 "pages.go:182" rfl ?_)); (first | go_values | go_skip | go_guarded | go_step | go_upon))
          have HD12 := hZ (fun wx (hx : DiskI wx db (fun k => (N k ∨ (Value.slice (some ⟨g, 0, none⟩) ks.length cu).ownBlock = some k) ∨ k = bb ∨ k = rb ∨ k = nb ∨ ovB ov k) ⟨Qz3 B.disk.firm B.disk.cache, (newsC B).take j⟩) => diskWrite_any db _ _ (2 + B.size + i) (pgD (B.news i)) (by show _ < (Qz3 B.disk.firm B.disk.cache).length; omega) HPG.out (by show ((newsC B).take j).length ≤ _; rw [List.length_take]; omega) wx hx)
          have r0 : ∀ q : SatW (BkF bb (bookC db rb B nb ov)), q.w.cell? ⟨bb, 0, none⟩ = some (.pointer (some ⟨db, 0, none⟩)) := fun q => (Xz1 q.h).1
          have r2 : ∀ q : SatW (BkF bb (bookC db rb B nb ov)), q.w.cell? ⟨bb, 2, none⟩ = some (.int .i64 (B.size : Int)) := fun q => (Xz1 q.h).2.2.1
          have r5 : ∀ q : SatW (BkF bb (bookC db rb B nb ov)), q.w.cell? ⟨bb, 5, none⟩ = some (.map (some nb)) := fun q => (Xz1 q.h).2.2.2.2.2.1
          have hne : Nonempty (SatW (BkF bb (bookC db rb B nb ov))) := ⟨⟨_, (show BkF bb (bookC db rb B nb ov) wr.drew from HX.out.cells)⟩⟩
          refine Vz0 [(0, true), (1, true), (2, true), (3, true), (4, true), (5, true), (6, true), (7, true), (8, true), (9, true), (10, true), (11, true), (12, true), (13, true), (14, true), (15, true), (16, false), (17, false), (18, true)] 18 (fun w' => ∃ p : SatW (BkF bb (bookC db rb B nb ov)), w' = p.w) (by kernel_rfl) (by kernel_rfl) (fun _ _ d _ _ h => by cases d <;> exact h) (Jz3 (show BkF bb (bookC db rb B nb ov) wr.drew from HX.out.cells)) ?_
          (repeat (with_reducible refine mix_q ?_; simp only [qd1, qd0, qt1, qt0]; go_big_quiet_step (fail); with_reducible refine wpQuiet_nil ?_))
          with_reducible refine mix_a ?_; simp only [qd1, qd0, qt1, qt0]
          go_wp2_with (at_lookup; refine wpList_look_is _ rfl _ _ 142 rfl 3 37 (int_keyed Tryz.underlying3) Tryz.underlying142 (.agg (v8a (zer 64))) (zero_page _) nb _ (pgL B.news) rfl HX.out.news.drew (.int .i64 (i : Int)) (.int .i64 (i : Int)) rfl (Kzb _ (by omega)) ?_; rw [pgL_at, pgD_agg])
          try with_reducible refine wpList_nil ?_
          with_reducible refine Qz0 ?_
          refine ⟨Jz3 (w := wr.drew) (F := BkF bb (bookC db rb B nb ov)) HX.out.cells, ?_⟩
          with_reducible refine mix_a ?_; simp only [qd1, qd0, qt1, qt0]
          go_wp2_with fail
          have hDW := HD12.out wr.drew (HX.out.disk.below (Below.refl _ _).drew)
          rw [show ((2 + B.size + i : Nat) : Int) = 2 + (B.size : Int) + (i : Int) by omega] at hDW
          refine hDW.mono ?_
          clear hDW
          rintro e w4 ⟨rfl, hd4, hk4⟩
          have hk4' := (Keeps.drew _ wr).trans hk4
          have HX4 : Hid (BookX w4 bb (fun k => N k ∨ (Value.slice (some ⟨g, 0, none⟩) ks.length cu).ownBlock = some k) { B with disk := ⟨Qz3 B.disk.firm B.disk.cache, (newsC B).take (j + 1)⟩ } db rb nb ov) := hZ (by
            rw [HNX.out]
            exact HX.out.disked _ hk4' hd4 rfl)
          have HO4 := hZ (hk4'.own HO.out (fun k hk => .inl (.inr hk)))
          have HK4 : Hid (Keeps N w w4) := hZ (HK.out.trans (hk4'.mono (fun k _ hk => .inl (.inl hk))))
          clear hk4 hk4' hd4
          try dsimp only
          go_wp2_with fail
          with_reducible refine Qz0 ?_
          refine ⟨fun _ => Jz3 (F := BkF bb (bookC db rb B nb ov)) HX4.out.cells, ?_⟩
          (repeat (with_reducible refine mix_q ?_; simp only [qd1, qd0, qt1, qt0]; go_big_quiet_step (fail); with_reducible refine wpQuiet_nil ?_))
          with_reducible refine Wz1 ?_
          go_wp2_with fail
          exact ⟨⟨j + 1, rfl, by go_num, by omega, HX4, HO4, HK4⟩, by simp [intOf]; omega⟩
        · obtain rfl : j = ks.length := by omega
          have HXF : Hid (BookX wr bb N { B with disk := ⟨Qz3 B.disk.firm B.disk.cache, newsC B⟩ } db rb nb ov) := hZ (by
            have h := HX.out.drop (N' := N) (fun k hk => .inl hk)
            have e : (newsC B).take ks.length = newsC B := List.take_of_length_le (by simp [newsC]; have := HKL.out; omega)
            rw [e] at h; exact h)
          clear HX HO
          obtain ⟨z0, z1, z2, z3, z4, z5, z6, z7, _⟩ := Xz1 HXF.out.cells
          have hFL := Wze db _ _ wr HXF.out.disk
          go_wp2_with fail
          refine hFL.mono ?_
          clear hFL
          rintro e w5 ⟨rfl, hd5, hk5⟩
          have HX5 : Hid (BookX w5 bb N { B with disk := ⟨Qz3 (Qz3 B.disk.firm B.disk.cache) (newsC B), []⟩ } db rb nb ov) := hZ (HXF.out.disked _ hk5 hd5 (Kz2 _ _))
          have HK5 : Hid (Keeps N w w5) := hZ (HK.out.trans (hk5.mono (fun k _ hk => .inl hk)))
          clear hk5 hd5 HXF HK z0 z1 z2 z3 z4 z5 z6 z7
          obtain ⟨z0, z1, z2, z3, z4, z5, z6, z7, _⟩ := Xz1 HX5.out.cells
          have hHD := ringHead_any rb db 2 B.size B.pl B.used B.num B.last w5 HOK.out.last.1 HX5.out.ring
          try dsimp only
          go_wp2_with fail
          refine hHD.mono ?_
          clear hHD
          rintro e w6 ⟨rfl, hb6⟩
          have HB6 := hZ hb6
          clear hb6 z0 z1 z2 z3 z4 z5 z6 z7
          try dsimp only
          have hl6 : w5.heap.size ≤ w6.heap.size := HB6.out.size
          repeat ((fail_if_success (with_reducible refine Kz1 78 rfl ?_)); (first | (refine wpList_store_row rfl 148 (.tmp 8) (.tmp 69) rfl w6.heap.size (markC B.pl B.num B.last) rfl rfl 148 (markC 0 0 (zer 32)) (heap_alloc_new w6 _) (by rw [Jz5 _ _ _ HOK.out.last.1]; exact Wz7) (by rw [Jz5 _ _ _ HOK.out.last.1]; rfl) (Xza _ _ _) ?_) | go_values | go_skip | go_guarded | go_step | go_upon))
          have hbx : ∀ o : Obj, Below w5.heap.size w5 ((w6.alloc o).setRow w6.heap.size (markC B.pl B.num B.last)) := fun o => below_setRow (HB6.out.alloc hl6 _) hl6 _
          refine gen_calls (fun wx => Hid (HmX w bb N { B with disk := ⟨Qz3 (Qz3 B.disk.firm B.disk.cache) (newsC B), []⟩ } db rb nb w6.heap.size ov (markC B.pl B.num B.last) wx)) (hZ ⟨HX5.out.keep (hbx _) (fun k hk => ?_), setRow_heap _ _ _ _ _ (0, 0) (heap_alloc_new w6 _), HK5.out.trans (Keeps.of_below (hbx _)), fun hn => by have := HX5.out.N_lt _ hn; omega⟩) ?_
          · rcases hk with hk | hk
            · exact ⟨Nat.lt_of_lt_of_le (HX5.out.N_lt k hk) (hbx _).size, .inl hk⟩
            · subst hk; exact ⟨by simp [World.setRow], .inr hl6⟩
          clear hbx HX5 HK5 HB6
          generalize w6.heap.size = box
          intro w7 H7
          have hNW := hashNew_D w7 (fun k => k < w7.heap.size) (fun i hi => hi)
          refine hNW.mono ?_
          clear hNW
          rintro e w8 ⟨rfl, hh8, hb8⟩
          have HH8 := hZ hh8
          have HB8 := hZ hb8
          clear hh8 hb8
          have hl32 := HOK.out.last.1
          have hbox := Zz0 H7.out.2.1
          have hWR := Wz8 w7.heap.size (fun k => k < w7.heap.size) [] (some ⟨box, 2, none⟩) B.last 32 w8 HH8.out (mark_by (H7.out.below HB8.out).2.1) (by omega) (by simp) HOK.out.last.2 (fun h => by cases h) (fun x hx _ => by cases hx; show box ≠ _; omega)
          rw [hl32] at hWR
          try dsimp only
          go_wp2_with fail
          refine hWR.mono ?_
          clear hWR
          rintro e w9 ⟨rfl, hh9, hk9⟩
          have HH9 : Hid (HashD w9 w7.heap.size (fun k => k < w7.heap.size) (B.last ++ genB B.gen 0)) := hZ (by rw [show B.last ++ genB B.gen 0 = [] ++ B.last from (by simp [genB])]; exact hh9)
          have HB9 : Hid (Below w7.heap.size w7 w9) := hZ (HB8.out.trans (hk9.below HB8.out.size (fun i hi => hi)))
          clear hh9 hk9 HH8 HB8
          have hg0 : 0 ≤ B.gen := HOK.out.gen.1
          try dsimp only
          go_wp2_with fail
          go_loopw [10, 75] (fun _ iv wr => ∃ i : Nat, iv = .int .i64 i ∧ i ≤ 8 ∧ Hid (HashD wr w7.heap.size (fun k => k < w7.heap.size) (B.last ++ genB B.gen i)) ∧ Hid (Below w7.heap.size w7 wr)) (fun _ iv _ => 8 - (intOf iv).toNat)
          case atStart => exact ⟨0, rfl, by omega, HH9, HB9⟩
          case round =>
            clear HH9 HB9
            obtain ⟨i, rfl, hi, HH, HB⟩ := hrel
            by_cases hlt : i < 8
            · have hi0 : (0 : Int) ≤ i := by omega
              have hi8 : (i : Int) < 8 := by omega
              obtain ⟨z0, z1, z2, z3, z4, z5, z6, z7, _⟩ := Xz1 (H7.out.below HB.out).1.cells
              go_wp2_with fail
              have hal : ∀ o : Obj, Below wr.heap.size wr (wr.alloc o) := fun o => bZ
              have hsb := HB.out.size
              have hWR := Wz8 w7.heap.size (fun k => k < w7.heap.size) (B.last ++ genB B.gen i) (some ⟨wr.heap.size, 0, none⟩) [(B.gen + 1) / 2 ^ (8 * i) % 256] 1 (wr.alloc (.cells #[.int .u8 ((B.gen + 1) / 2 ^ (8 * i) % 256)] 5)) (HH.out.keep (hal _) (fun k hk => ⟨by simp; omega, .inl hk⟩)) one_by (by simp) (by simp [genB_length]; omega) (fun x hx => by rw [List.mem_singleton.1 hx]; exact byteAt_u8 (B.gen + 1) i) (fun h => by cases h) (fun x hx _ => by
                cases hx
                have hlh : w7.heap.size < wr.heap.size := HH.out.1.lt
                show wr.heap.size ≠ _; omega)
              refine hWR.mono ?_
              clear hWR
              rintro e w10 ⟨rfl, hh10, hk10⟩
              have HH10 : Hid (HashD w10 w7.heap.size (fun k => k < w7.heap.size) (B.last ++ genB B.gen (i + 1))) := hZ (by rw [genB_next, ← List.append_assoc]; exact hh10)
              have HB10 : Hid (Below w7.heap.size w7 w10) := hZ (HB.out.trans (((Keeps.of_below (hal _)).trans hk10).below HB.out.size (fun i hi => hi)))
              clear hh10 hk10 hal HH HB
              try dsimp only
              go_wp2_with fail
              exact ⟨⟨i + 1, by go_num, by omega, HH10, HB10⟩, by simp [intOf]; omega⟩
            · obtain rfl : i = 8 := by omega
              have hSM := hashSum_D w7.heap.size (fun k => k < w7.heap.size) (B.last ++ genB B.gen 8) wr HH.out
              have HLH : Hid (B.lastH = shaF (B.last ++ genB B.gen 8)) := hZ rfl
              rw [← HLH.out] at hSM
              have HL32 : Hid (B.lastH.length = 32 ∧ U8s B.lastH) := hZ (by
                rw [HLH.out]
                refine ⟨Vz8 _, shaF_u8 _ (fun x hx => ?_)⟩
                rcases List.mem_append.1 hx with hx | hx
                · exact HOK.out.last.2 x hx
                · exact genB_u8 _ _ x hx)
              have H11 := H7.out.below HB.out
              clear HLH HH
              generalize hlh : B.lastH = lh at hSM HL32
              have HLE := hZ hlh
              clear hlh
              go_wp2_with fail
              refine hSM.mono ?_
              clear hSM
              rintro e w11 ⟨rfl, hb11⟩
              have H12 := hZ (H11.below hb11)
              clear H11 hb11 HB H7
              have hlh8 : (v8a lh).size = 32 := by unfold v8a; rw [List.size_toArray, Wz0, HL32.out.1]
              try dsimp only
              repeat ((fail_if_success (with_reducible refine Kz1 94 rfl ?_)); (first | (refine wpList_store_mid rfl 67 (.tmp 93) (.tmp 92) rfl box 2 (v8a lh) rfl rfl (by rw [hlh8]; exact blk_there H12.out.2.1 (by rw [Jz5 _ _ _ hl32]; decide)) (by rw [hlh8]; exact Vz9) (all_oneCell_toArray (Kz7 lh)) ?_) | go_values | go_skip | go_guarded | go_step | go_upon))
              have hkx : Keeps (fun k => k ≠ box) w11 (w11.setCells box 2 (v8a lh).toList) := Keeps.of_grown (Jz7 _ _ _ _) (fun k hk e => by cases hk; exact e rfl)
              refine Xz0 (fun wx => Hid (HmX w bb N { B with disk := ⟨Qz3 (Qz3 B.disk.firm B.disk.cache) (newsC B), []⟩ } db rb nb box ov (markC B.pl B.num lh) wx)) ?_ ?_
              · exact hZ ⟨H12.out.1.frame (hkx.mono (fun k _ hn e => hn (.inr e))), mark_store hl32 HL32.out.1 H12.out.2.1, H12.out.2.2.1.trans (hkx.mono (fun k _ hn e => H12.out.2.2.2 (e ▸ hn))), H12.out.2.2.2⟩
              clear H12 hkx
              intro w12 H12
              obtain ⟨z0, z1, z2, z3, z4, z5, z6, z7, _⟩ := Xz1 H12.out.1.cells
              repeat ((fail_if_success (with_reducible refine Vz1 "pages.go:196" rfl ?_)); (first | go_values | go_skip | go_guarded | go_step | go_upon))
              have hg1 : B.gen + 1 < 4611686018427387904 := by omega
              have r0 : ∀ q : SatW (HmF bb (bookC db rb B nb ov) box (markC B.pl B.num lh)), q.w.cell? ⟨bb, 0, none⟩ = some (.pointer (some ⟨db, 0, none⟩)) := fun q => (Xz1 q.h.1).1
              have r4 : ∀ q : SatW (HmF bb (bookC db rb B nb ov) box (markC B.pl B.num lh)), q.w.cell? ⟨bb, 4, none⟩ = some (.int .u64 B.gen) := fun q => (Xz1 q.h.1).2.2.2.2.1
              have HML : Hid ((Value.int .i64 (B.pl : Int) :: .int .u64 B.num :: v8 lh).length = 34) := hZ (by simp only [List.length_cons, Wz0, HL32.out.1])
              have hs1 := HOK.out.size
              have hroom := HOK.out.room
              have hplb := HOK.out.pl
              have HTI := hZ (fun wx => title_any (B.gen + 1) B.num B.pl lh wx ⟨by omega, by omega⟩ ⟨HOK.out.num.1, by have := HOK.out.num.2; omega⟩ (by omega) HL32.out)
              have HTO : Hid (PgOk (Wz5 (B.gen + 1) B.num B.pl lh)) := hZ (titleF_ok _ _ _ _ (by omega) HL32.out.1 HL32.out.2)
              have HHD : Hid (B.homeD = ⟨Qz3 (Qz3 (Qz3 B.disk.firm B.disk.cache) (newsC B)) [(((B.gen + 1) % 2).toNat, Wz5 (B.gen + 1) B.num B.pl lh)], []⟩) := hZ (by rw [← HLE.out]; rfl)
              generalize Wz5 (B.gen + 1) B.num B.pl lh = tt at HTI HTO HHD
              have hne : Nonempty (SatW (HmF bb (bookC db rb B nb ov) box (markC B.pl B.num lh))) := ⟨⟨_, (show HmF bb (bookC db rb B nb ov) box (markC B.pl B.num lh) w12.drew from ⟨H12.out.1.cells, H12.out.2.1⟩)⟩⟩
              refine Vz0 [(0, true), (1, true), (2, true), (3, true), (4, true), (5, true), (6, true), (7, true), (8, true), (9, true), (10, true), (11, true), (12, true), (13, true), (14, true), (15, true), (16, true), (17, false), (18, false), (19, true)] 19 (fun w' => ∃ p : SatW (HmF bb (bookC db rb B nb ov) box (markC B.pl B.num lh)), w' = p.w) (by kernel_rfl) (by kernel_rfl) (fun _ _ d _ _ h => by cases d <;> exact h) (Jz3 (show HmF bb (bookC db rb B nb ov) box (markC B.pl B.num lh) w12.drew from ⟨H12.out.1.cells, H12.out.2.1⟩)) ?_
              (repeat (with_reducible refine mix_q ?_; simp only [qd1, qd0, qt1, qt0]; go_big_quiet_step (fail); with_reducible refine wpQuiet_nil ?_))
              with_reducible refine mix_q ?_
              simp only [qd1, qd0, qt1, qt0]
              go_big_quiet_want
              refine Jz1 148 (.tmp 8) rfl box 0 rfl (.int .i64 (B.pl : Int) :: .int .u64 B.num :: v8 lh) _ (fun w' hw' => by obtain ⟨q, rfl⟩ := hw'; exact Jzc q.h.2) Tryz.underlying148 rfl (by rw [HML.out]; exact Wz7) ?_
              simp only [Act.put, qs0, qs1, qs2]
              go_big_quiet_on
              with_reducible refine wpQuiet_nil ?_
              with_reducible refine mix_a ?_; simp only [qd1, qd0, qt1, qt0]
              go_wp2_with fail
              refine (HTI.out w12.drew).mono ?_
              rintro e w13 ⟨rfl, hb13⟩
              have H13 := hZ (H12.out.below ((Below.refl _ _).drew.trans hb13))
              clear hb13
              try dsimp only
              go_wp2_with fail
              try with_reducible refine wpList_nil ?_
              with_reducible refine Qz0 ?_
              refine ⟨fun _ => Jz3 (F := HmF bb (bookC db rb B nb ov) box (markC B.pl B.num lh)) ⟨H13.out.1.cells, H13.out.2.1⟩, ?_⟩
              with_reducible refine mix_a ?_; simp only [qd1, qd0, qt1, qt0]
              go_wp2_with fail
              have hfl2 : (Qz3 (Qz3 B.disk.firm B.disk.cache) (newsC B)).length = B.disk.firm.length := by rw [Kz2, Kz2]
              have hDW := diskWrite_any db _ _ ((B.gen + 1) % 2).toNat tt (by show _ < (Qz3 (Qz3 B.disk.firm B.disk.cache) (newsC B)).length; omega) HTO.out (by show ([] : List (Nat × List Int)).length ≤ _; simp) w13 H13.out.1.disk
              rw [show ((((B.gen + 1) % 2).toNat : Nat) : Int) = (B.gen + 1) % 2 by omega] at hDW
              refine hDW.mono ?_
              clear hDW
              rintro e w14 ⟨rfl, hd14, hk14⟩
              have H14 : Hid (HmX w bb N { B with disk := ⟨Qz3 (Qz3 B.disk.firm B.disk.cache) (newsC B), [(((B.gen + 1) % 2).toNat, tt)]⟩ } db rb nb box ov (markC B.pl B.num lh) w14) := hZ ⟨H13.out.1.disked _ hk14 hd14 rfl, hk14.blk (.inl (.inr rfl)) H13.out.2.1, H13.out.2.2.1.trans (hk14.mono (fun k _ hk => .inl (.inl hk))), H13.out.2.2.2⟩
              clear hd14 hk14 H13 H12
              try dsimp only
              go_wp2_with fail
              with_reducible refine Qz0 ?_
              refine ⟨fun _ => Jz3 (F := HmF bb (bookC db rb B nb ov) box (markC B.pl B.num lh)) ⟨H14.out.1.cells, H14.out.2.1⟩, ?_⟩
              (repeat (with_reducible refine mix_q ?_; simp only [qd1, qd0, qt1, qt0]; go_big_quiet_step (fail); with_reducible refine wpQuiet_nil ?_))
              with_reducible refine Wz1 ?_
              clear r0 r4 hne z0 z1 z2 z3 z4 z5 z6 z7 HTI HML
              obtain ⟨z0, z1, z2, z3, z4, z5, z6, z7, f4, f6⟩ := Xz1 H14.out.1.cells
              have hFL := Wze db _ _ w14 H14.out.1.disk
              go_wp2_with fail
              refine hFL.mono ?_
              clear hFL
              rintro e w15 ⟨rfl, hd15, hk15⟩
              have H15 : Hid (HmX w bb N { B with disk := B.homeD } db rb nb box ov (markC B.pl B.num lh) w15) := hZ (by
                rw [HHD.out]
                exact ⟨H14.out.1.disked _ hk15 hd15 (Kz2 _ _), hk15.blk (.inl (.inr rfl)) H14.out.2.1, H14.out.2.2.1.trans (hk15.mono (fun k _ hk => .inl (.inl hk))), H14.out.2.2.2⟩)
              clear hd15 hk15 H14 z0 z1 z2 z3 z4 z5 z6 z7 f4 f6
              obtain ⟨z0, z1, z2, z3, z4, z5, z6, z7, f4, f6⟩ := Xz1 H15.out.1.cells
              try dsimp only
              repeat ((fail_if_success (with_reducible refine Vz1 "pages.go:201" rfl ?_)); (first | go_values | go_skip | go_guarded | go_step | go_upon))
              repeat ((fail_if_success (with_reducible refine Vz1 "pages.go:205" rfl ?_)); (first | go_values | go_skip | go_guarded | go_step | go_upon))
              repeat ((fail_if_success (with_reducible refine Vz1 "pages.go:206" rfl ?_)); (first | go_values | go_skip | go_guarded | go_step | go_upon))
              have hbbx : bb ≠ box := fun e => H15.out.1.nots.1 (.inr e)
              refine Kz0 (fun wx => Hid (HmX w bb N { { B with disk := B.homeD } with gen := B.gen + 1 } db rb nb box ov (markC B.pl B.num lh) wx)) (hZ ⟨H15.out.1.gens (B.gen + 1) ⟨by omega, by omega⟩, Zz1 hbbx H15.out.2.1, H15.out.2.2.1.trans (Keeps.set _ _ _ _ (fun hn => H15.out.1.nots.1 (.inl hn))), H15.out.2.2.2⟩) ?_
              clear H15 z0 z1 z2 z3 z4 z5 z6 z7 f4 f6
              intro w16 H16
              obtain ⟨z0, z1, z2, z3, z4, z5, z6, z7, f4, f6⟩ := Xz1 H16.out.1.cells
              have r1 := cell_regrown z1
              have HLN : Hid ((v8 lh).length = 32) := hZ (by rw [Wz0, HL32.out.1])
              refine Zz3 6 (fun w' => ∃ p : Regrown, w' = Go.Sort.grow (redrawn w16 p.d) p.os) (by kernel_rfl) (by kernel_rfl) (fun _ _ d _ _ h => by cases d <;> exact h) (Vz2 _) ?_
              simp only [List.take_succ_cons, List.take_zero]
              repeat (go_big_quiet_step (fail))
              go_big_quiet_want
              refine Jz1 67 (.tmp 140) rfl box 2 rfl (v8 lh) _ (fun w' hw' => mark_rlast (Wz4 H16.out.2.1 w' hw')) Tryz.underlying67 rfl (by rw [HLN.out]; exact Vz9) ?_
              simp only [Act.put, qs0, qs1, qs2]
              repeat (go_big_quiet_step (fail))
              try go_big_quiet_on
              repeat (go_big_quiet_step (fail))
              with_reducible refine wpQuiet_nil ?_
              with_reducible refine mix_a ?_; simp only [qd1, qd0, qt1, qt0]
              have hCU := ringCut_any rb db 2 B.size B.pl B.used B.num B.last lh w16.drew hl32 HL32.out.1 (show w16.drew.heap[rb]? = _ from H16.out.1.ring)
              go_wp2_with fail
              refine hCU.mono ?_
              clear hCU
              rintro e w17 ⟨rfl, hr17, hk17⟩
              have hk17' := (Keeps.drew _ w16).trans hk17
              have hrN : ¬ (N rb ∨ rb = box) := H16.out.1.nots.2.1
              have H17 : Hid (BookX w17 bb N { { { B with disk := B.homeD } with gen := B.gen + 1 } with last := lh, used := 0 } db rb nb ov ∧ Keeps N w w17) := hZ ⟨(H16.out.1.cuts lh HL32.out hk17' hr17).drop (fun k hk => .inl hk), H16.out.2.2.1.trans (hk17'.mono (fun k _ hk e => hrN (.inl (e ▸ hk))))⟩
              clear hk17 hk17' hr17 r1 H16 z0 z1 z2 z3 z4 z5 z6 z7 f4 f6
              obtain ⟨z0, z1, z2, z3, z4, z5, z6, z7, f4, f6⟩ := Xz1 H17.out.1.cells
              try dsimp only
              go_wp2_with fail
              try with_reducible refine wpList_nil ?_
              with_reducible refine Qz0 ?_
              first | (with_reducible refine Wz1 ?_) | (refine ⟨fun h => absurd h (by simp), ?_⟩; with_reducible refine Wz1 ?_)
              go_wp2_with (refine wpList_clear_is _ rfl (.tmp 146) 142 rfl 3 37 Tryz.underlying142 nb _ (pgL B.news) rfl H17.out.1.news ?_)
              intro w18 hm ht
              have hk18 : Keeps (fun k => k ≠ nb) w17 w18 := Keeps.of_turned ht (by simp)
              have hx18 := H17.out.1.cleared hk18 hm
              have hnN : ¬ N nb := H17.out.1.nots.2.2.1
              go_wp2_with fail
              go_ret
              refine ⟨rfl, ⟨db, rb, nb, ov, ?_⟩, H17.out.2.trans (hk18.mono (fun k _ hk e => hnN (e ▸ hk)))⟩
              rw [homed_eq B lh HLE.out]
              exact hx18
end Go.Proofs.YtajmcplanlibnaaGreatDoor
