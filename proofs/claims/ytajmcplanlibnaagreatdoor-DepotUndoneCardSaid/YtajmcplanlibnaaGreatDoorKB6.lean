/- A book is mounted on a disk of zeros. -/
import Derived.Test.YtajmcplanlibnaaGreatDoorKB5
set_option linter.unusedSimpArgs false
set_option linter.unusedVariables false
set_option linter.unnecessarySimpa false
namespace Go.Proofs.YtajmcplanlibnaaGreatDoor
open Go.RowKit Go.Maps
def newB (size n : Nat) (d : DiskS) : BookS := { size := size, n := n, gen := 0, news := fun _ => none, opn := none, disk := d, pl := 0, num := 0, last := zer 32, used := 0, db := none }
theorem built_book (db size nb : Nat) (n : Int) : Tryz.prog.built 146 [(0, .pointer (some ⟨db, 0, none⟩)), (2, .int .i64 (size : Int)), (3, .int .i64 n), (5, .map (some nb))] = some #[.pointer (some ⟨db, 0, none⟩), .pointer none, .int .i64 (size : Int), .int .i64 n, .int .u64 0, .map (some nb), .map none, .bool false] := by kernel_rfl
theorem book_build {ops : Array Oper} {rest : List Oper} {o : Oper} {a : Act} {w : World} {Q : Exit → Act → World → Prop} (hg : o.guard = none) (p0 p2 p3 p5 : Operand) (ho : o.op = .build 146 #[(0, p0), (2, p2), (3, p3), (5, p5)]) (db size nb : Nat) (n : Int)
    (h0 : a.eval p0 = .pointer (some ⟨db, 0, none⟩)) (h2 : a.eval p2 = .int .i64 (size : Int)) (h3 : a.eval p3 = .int .i64 n) (h5 : a.eval p5 = .map (some nb))
    (h : wpList Tryz.prog ops Q rest (a.put o.dst (.agg #[.pointer (some ⟨db, 0, none⟩), .pointer none, .int .i64 (size : Int), .int .i64 n, .int .u64 0, .map (some nb), .map none, .bool false])) w) : wpList Tryz.prog ops Q (o :: rest) a w := by
  refine wpList_build_to hg _ _ ho _ ?_ h
  simp only [List.map_toArray, List.map_cons, List.map_nil, h0, h2, h3, h5]
  exact built_book db size nb n
def MtX (w : World) (db bb nb mb size : Nat) (n : Int) (wx : World) : Prop :=
  wx.heap[bb]? = some (.cells #[.pointer (some ⟨db, 0, none⟩), .pointer none, .int .i64 (size : Int), .int .i64 n, .int .u64 0, .map (some nb), .map none, .bool false] 146) ∧ MapIs Tryz.prog 3 wx nb 0 (fun _ => none) ∧
  wx.heap[mb]? = some (.cells (markC 0 0 (zer 32)) 148) ∧ Below w.heap.size w wx ∧ w.heap.size ≤ bb ∧ w.heap.size ≤ nb ∧ w.heap.size ≤ mb
theorem MtX.below {w wx wy : World} {db bb nb mb size : Nat} {n : Int} (h : MtX w db bb nb mb size n wx) (hb : Below wx.heap.size wx wy) : MtX w db bb nb mb size n wy :=
  ⟨(hb.block _ (lt_of_blk h.1)).trans h.1, h.2.1.below hb h.2.1.lt, (hb.block _ (lt_of_blk h.2.2.1)).trans h.2.2.1, h.2.2.2.1.trans (hb.mono h.2.2.2.1.size), h.2.2.2.2⟩
theorem blk8c {w : World} {B : Nat} {c0 c1 c2 c3 c4 c5 c6 c7 : Value} {T : Nat} (h : w.heap[B]? = some (.cells #[c0, c1, c2, c3, c4, c5, c6, c7] T)) :
    w.cell? ⟨B, 0, none⟩ = some c0 ∧ w.cell? ⟨B, 1, none⟩ = some c1 ∧ w.cell? ⟨B, 2, none⟩ = some c2 ∧ w.cell? ⟨B, 3, none⟩ = some c3 ∧ w.cell? ⟨B, 4, none⟩ = some c4 ∧ w.frozen? ⟨B, 1, none⟩ = false := by
  simp [World.cell?, World.frozen?, h]
set_option maxRecDepth 100000 in
set_option maxHeartbeats 4000000 in
theorem mount_zero (db size : Nat) (N : Nat → Prop) (d : DiskS) (w : World) (hs : 96 ≤ size ∧ size ≤ 4096) (hr : 2 + size + 1 ≤ d.firm.length) (h : DiskI w db N d) (hN : ¬ N db) (hz : ∀ i, i < d.firm.length → d.view i = zer 64) :
    Calls Tryz.prog 13 #[.pointer (some ⟨db, 0, none⟩), .int .i64 (size : Int)] w fun e w' => (∃ bb, e = .returned (.tuple #[.pointer (some ⟨bb, 0, none⟩), .nilIface]) ∧ w.heap.size ≤ bb ∧ BookI w' bb N (newB size (min 2048 (d.firm.length - 2 - size)) d).homed) ∧ Keeps N w w' := by
  have HD := Lib.hid h
  have HZ := Lib.hid hz
  have hfl := h.isOk.1
  obtain ⟨hs1, hs2⟩ := hs
  clear h hz
  have g1 : (96 : Int) ≤ size := by omega
  have g2 : (size : Int) ≤ 4096 := by omega
  have g3 : (2 : Int) + size + 1 ≤ d.firm.length := by omega
  have g4 : (d.firm.length : Int) ≤ 4096 := by omega
  have hSZ := Lib.hid (fun wx (hx : DiskI wx db N d) => diskSize_any db N d wx hx)
  go_enter Tryz.func13, Tryz.ntmps13
  go_wp2_with fail
  refine (hSZ.out w HD.out).mono ?_
  rintro e w1 ⟨rfl, rfl⟩
  try dsimp only
  go_wp2_with fail
  refine (hSZ.out w HD.out).mono ?_
  rintro e w1 ⟨rfl, rfl⟩
  try dsimp only
  have hmm : ∀ wx : World, (Instr.makeMap 142 none).run Tryz.prog wx = .ok (.map (some wx.heap.size)) (wx.alloc (.map #[] 0)) := fun _ => by kernel_rfl
  repeat ((fail_if_success (with_reducible refine stop_at 51 rfl ?_)); (first | go_values | go_skip | go_guarded | go_step | go_upon))
  refine book_build rfl (.tmp 42) (.tmp 43) (.tmp 49) (.tmp 50) rfl db size w.heap.size _ rfl rfl rfl rfl ?_
  simp only [Act.put, List.setIfInBounds_toArray, List.set_cons_zero, List.set_cons_succ]
  repeat ((fail_if_success (with_reducible refine stop_at 53 rfl ?_)); (first | go_values | go_skip | go_guarded | go_step | go_upon))
  have hnn : ((min 2048 (d.firm.length - 2 - size) : Nat) : Int) = min 2048 ((d.firm.length : Int) - 2 - size) := by omega
  obtain ⟨b0, b1, b2⟩ := heap3 w (.map #[] 0) (.cells #[.pointer (some ⟨db, 0, none⟩), .pointer none, .int .i64 (size : Int), .int .i64 (min 2048 ((d.firm.length : Int) - 2 - size)), .int .u64 0, .map (some w.heap.size), .map none, .bool false] 146) (.cells (markC 0 0 (zer 32)) 148)
  refine gen_world (fun wx => Hid (MtX w db (w.heap.size + 1) w.heap.size (w.heap.size + 1 + 1) size (min 2048 ((d.firm.length : Int) - 2 - size)) wx)) (Lib.hid ⟨b1, (mapIs_made Tryz.prog 3 w).of_block (b0.trans (heap_alloc_new w _).symm), b2, by repeat (first | with_reducible assumption | (with_reducible refine Below.setCell ?_ (by first | omega | (simp; done) | (simp; omega)) _) | (with_reducible refine Below.alloc ?_ (by first | omega | (simp; done) | (simp; omega)) _) | (with_reducible refine Below.drew ?_) | (with_reducible refine below_dN ?_ _) | with_reducible exact Below.refl _ _ | (with_reducible refine Below.trans ?_ (Below.mono (by assumption) (by first | omega | (simp; done) | (simp; omega))))), by omega, Nat.le_refl _, by omega⟩) ?_
  clear b0 b1 b2 hmm
  have hb1 : w.heap.size ≤ w.heap.size + 1 := by omega
  have hbn : w.heap.size ≠ w.heap.size + 1 := by omega
  generalize w.heap.size + 1 + 1 = mb
  generalize hbb : w.heap.size + 1 = bb at hb1 hbn ⊢
  generalize hnb : w.heap.size = nb at hbn ⊢
  intro w1 H1
  have HRD := Lib.hid (fun wx (hx : DiskI wx db N d) (i : Nat) (hi : i < d.firm.length) => (by have h := diskRead_any db N d i hi wx hx; rw [HZ.out i hi] at h; exact h : Calls Tryz.prog 28 #[.pointer (some ⟨db, 0, none⟩), .int .i64 (i : Int)] wx fun e w' => e = .returned (.tuple #[.agg (v8a (zer 64)), .nilIface]) ∧ Below wx.heap.size wx w'))
  generalize hNN : min 2048 ((d.firm.length : Int) - 2 - size) = nn at hnn H1 ⊢
  have HNN := Lib.hid hNN
  clear hNN
  go_wp2_with fail
  go_loopw [8, 53] (fun _ iv wr => ∃ i : Nat, iv = .int .i64 i ∧ i ≤ 2 ∧ Hid (MtX w db bb nb mb size nn wr)) (fun _ iv _ => 2 - (intOf iv).toNat)
  case atStart => exact ⟨0, rfl, by omega, H1⟩
  case round =>
    clear H1
    obtain ⟨i, rfl, hi, H⟩ := hrel
    by_cases hlt : i < 2
    · have hi0 : (0 : Int) ≤ i := by omega
      have hi2 : (i : Int) < 2 := by omega
      have hRD := HRD.out wr (HD.out.below H.out.2.2.2.1) i (by omega)
      go_wp2_with fail
      refine hRD.mono ?_
      clear hRD
      rintro e w2 ⟨rfl, hb2⟩
      have H2 := Lib.hid (H.out.below hb2)
      clear hb2 H
      try dsimp only
      repeat ((fail_if_success (with_reducible refine stop_at 62 rfl ?_)); (first | (refine page_store rfl (.tmp 9) (.tmp 60) rfl w2.heap.size (zer 64) (zer 64) rfl rfl (heap_alloc_new w2 _) rfl rfl ?_) | go_values | go_skip | go_guarded | go_step | go_upon))
      have hbx : ∀ o : Obj, Below w2.heap.size w2 ((w2.alloc o).setRow w2.heap.size (v8a (zer 64))) := fun o => below_setRow ((Below.refl _ _).alloc (Nat.le_refl _) _) (Nat.le_refl _) _
      refine gen_world (fun wx => Hid (MtX w db bb nb mb size nn wx ∧ wx.heap[w2.heap.size]? = some (.cells (v8a (zer 64)) 37))) (Lib.hid ⟨H2.out.below (hbx _), setRow_heap _ _ _ _ _ (0, 0) (heap_alloc_new w2 _)⟩) ?_
      clear hbx H2
      generalize w2.heap.size = box
      intro w3 H3
      have hRE := read_any (zer 64) w3 zer_pg
      go_wp2_with (refine page_load rfl (.tmp 9) rfl box (zer 64) rfl H3.out.2 rfl ?_)
      refine hRE.mono ?_
      clear hRE
      rintro e w4 ⟨⟨G, num, pl, last, rfl, hG, hnum, hpl, hl, hlu⟩, hb4⟩
      have H4 := Lib.hid (H3.out.1.below hb4)
      clear hb4 H3
      rw [zero_title]
      try dsimp only
      repeat ((fail_if_success (with_reducible refine stop_at 72 rfl ?_)); (first | (refine wpList_store_row rfl 148 (.tmp 12) (.tmp 70) rfl w4.heap.size (markC pl num last) rfl rfl 148 (markC 0 0 (zer 32)) (heap_alloc_new w4 _) (by rw [markC_size _ _ _ hl]; exact info_mks) (by rw [markC_size _ _ _ hl]; rfl) (markC_one _ _ _) ?_) | go_values | go_skip | go_guarded | go_step | go_upon))
      have hbx : ∀ o : Obj, Below w4.heap.size w4 ((w4.alloc o).setRow w4.heap.size (markC pl num last)) := fun o => below_setRow ((Below.refl _ _).alloc (Nat.le_refl _) _) (Nat.le_refl _) _
      refine gen_world (fun wx => Hid (MtX w db bb nb mb size nn wx)) (Lib.hid (H4.out.below (hbx _))) ?_
      clear hbx H4
      intro w5 H5
      obtain ⟨z0, z1, z2, z3, z4, f1⟩ := blk8c H5.out.1
      go_wp2_with fail
      exact ⟨⟨i + 1, by go_num, by omega, H5⟩, by simp [intOf]; omega⟩
    · obtain rfl : i = 2 := by omega
      obtain ⟨m0, m1⟩ := mark_cells H.out.2.2.1
      have HML : Hid ((Value.int .i64 ((0 : Nat) : Int) :: .int .u64 0 :: v8 (zer 32)).length = 34) := Lib.hid (by simp [v8, zer])
      have HOP := open_zero db 2 size 0 0 (zer 32) N d wr (by simp [zer]) ⟨hs1, hs2⟩ (by omega) (by omega) (HD.out.below H.out.2.2.2.1) (HZ.out _ (by rw [Nat.zero_mod]; omega))
      go_wp2_with (refine wpList_load_mid rfl 148 (.tmp 7) rfl mb 0 rfl (.int .i64 ((0 : Nat) : Int) :: .int .u64 0 :: v8 (zer 32)) _ (mark_range H.out.2.2.1) Tryz.underlying148 rfl ?s1 ?_)
      case s1 => rw [HML.out]; exact info_mks
      refine HOP.mono ?_
      clear HOP
      rintro e w6 ⟨⟨rb, rfl, hrb, hring⟩, hb6⟩
      have H6 := Lib.hid (H.out.below hb6)
      have HR := Lib.hid hring
      have hsz := H.out.2.2.2.1.size
      have hrb' : w.heap.size ≤ rb := by omega
      clear hb6 hring H m0 m1 HML
      obtain ⟨z0, z1, z2, z3, z4, f1⟩ := blk8c H6.out.1
      try dsimp only
      go_wp2_with fail
      refine wp_loop_once ?_
      go_wp2_with fail
      have hbr : bb ≠ rb := blk_ne H6.out.1 HR.out (by decide)
      have hbw : Below w.heap.size w (w6.setCell ⟨bb, 1, none⟩ (.pointer (some ⟨rb, 0, none⟩))) := H6.out.2.2.2.1.setCell H6.out.2.2.2.2.1 _
      have hNl := HD.out.N_lt
      have hlb := lt_of_blk H6.out.1
      have hlr := lt_of_blk HR.out
      have hln := H6.out.2.1.lt
      have hX : BookX (w6.setCell ⟨bb, 1, none⟩ (.pointer (some ⟨rb, 0, none⟩))) bb N (newB size (min 2048 (d.firm.length - 2 - size)) d) db rb nb (.map none) := by
        refine ⟨?_, heap_set_ne hbr HR.out, HD.out.keep hbw (fun k hk => ?_), ?_, rfl, by simp [ovB], ⟨fun h => ?_, fun h => ?_, fun h => ?_, fun k hk => by simp [ovB] at hk⟩, ?_, fun k hk => (by cases hk)⟩
        · rw [set_blk H6.out.1, ← hnn]; rfl
        · have e : (w6.setCell ⟨bb, 1, none⟩ (.pointer (some ⟨rb, 0, none⟩))).heap.size = w6.heap.size := by simp [World.setCell]
          have hs6 := H6.out.2.2.2.1.size
          rw [e]
          rcases hk with hk | hk | hk | hk | hk
          · have := hNl k hk; exact ⟨by omega, .inl hk⟩
          · subst hk; exact ⟨hlb, .inr H6.out.2.2.2.2.1⟩
          · subst hk; exact ⟨hlr, .inr hrb'⟩
          · subst hk; exact ⟨hln, .inr H6.out.2.2.2.2.2.1⟩
          · simp [ovB] at hk
        · show MapIs Tryz.prog 3 _ nb (keysF (fun _ => none) _).length (pgL fun _ => none)
          rw [keysF_none, pgL_none]
          exact H6.out.2.1.setCell (blk_map_ne H6.out.1 H6.out.2.1) _
        · have := hNl _ h; have := H6.out.2.2.2.2.1; omega
        · have := hNl _ h; omega
        · have := hNl _ h; have := H6.out.2.2.2.2.2.1; omega
        · have hm1 : 1 ≤ min 2048 (d.firm.length - 2 - size) ∧ min 2048 (d.firm.length - 2 - size) ≤ 2048 := by omega
          have hm2 : 2 + size + min 2048 (d.firm.length - 2 - size) ≤ d.firm.length := by omega
          have h0 : (0 : Int) ≤ 0 ∧ (0 : Int) < 4611686018427387904 := by decide
          have hpl : 0 < size := by omega
          exact ⟨⟨hs1, hs2⟩, hm1, hm2, h0, PgMap.none _, (fun f hf => by cases hf), hpl, h0, ⟨rfl, zer_u8 32⟩, Nat.zero_le _, HD.out.isOk⟩
      have hHM := home_any bb N _ (by show (0 : Int) < _; decide) _ ⟨db, rb, nb, .map none, hX⟩
      refine hHM.mono ?_
      clear hHM
      rintro e w8 ⟨rfl, hB8, hk8⟩
      try dsimp only
      go_wp2_with fail
      go_ret2
      exact ⟨⟨bb, rfl, H6.out.2.2.2.2.1, hB8⟩, (Keeps.of_below (hbw.mono (Nat.le_refl _))).trans hk8⟩
end Go.Proofs.YtajmcplanlibnaaGreatDoor
