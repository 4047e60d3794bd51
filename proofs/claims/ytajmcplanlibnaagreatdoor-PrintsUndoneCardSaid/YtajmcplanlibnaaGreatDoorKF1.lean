/- The statements of prints: an entry is found. -/
import Derived.Test.YtajmcplanlibnaaGreatDoorKE6
set_option linter.unusedSimpArgs false
set_option linter.unusedVariables false
set_option linter.unnecessarySimpa false
namespace Go.Proofs.YtajmcplanlibnaaGreatDoor
open Go.RowKit Go.Maps
def d7 : List Int := 7 :: zer 31
theorem d7_ok : d7.length = 32 ∧ U8s d7 := ⟨rfl, fun x hx => by
  rcases List.mem_cons.1 hx with rfl | hx
  · decide
  · exact zer_u8 31 x hx⟩
theorem dg_store {ops : Array Oper} {rest : List Oper} {o : Oper} {a : Act} {w : World} {Q : Exit → Act → World → Prop} (hgd : o.guard = none) (x y : Operand) (ho : o.op = .store 67 x y) (g : Nat) (p old : List Int) (hx : a.eval x = .pointer (some ⟨g, 0, none⟩)) (hy : a.eval y = .agg (v8a p))
    (hg : w.heap[g]? = some (.cells (v8a old) 67)) (hp : p.length = 32) (hq : old.length = 32) (h : wpList Tryz.prog ops Q rest (a.put o.dst undef) (w.setRow g (v8a p))) : wpList Tryz.prog ops Q (o :: rest) a w :=
  wpList_store_row hgd _ x y ho g (v8a p) hx hy _ (v8a old) hg (by rw [show (v8a p).size = 32 by simp [v8a, v8, hp]]; exact info_h32) (by simp [v8a, v8, hp, hq]) (v8a_one p) h
theorem ent_build {ops : Array Oper} {rest : List Oper} {o : Oper} {a : Act} {w : World} {Q : Exit → Act → World → Prop} (hg : o.guard = none) (p0 p1 p2 : Operand) (ho : o.op = .build 70 #[(0, p0), (1, p1), (2, p2)]) (dg : List Int) (sl rf : Int) (hl : dg.length = 32)
    (h0 : a.eval p0 = .agg (v8a dg)) (h1 : a.eval p1 = .int .i64 sl) (h2 : a.eval p2 = .int .i64 rf) (h : wpList Tryz.prog ops Q rest (a.put o.dst (.agg (entC dg sl rf))) w) : wpList Tryz.prog ops Q (o :: rest) a w := by
  refine wpList_build_to hg _ _ ho _ ?_ h
  simp only [List.map_toArray, List.map_cons, List.map_nil, h0, h1, h2]
  exact built_ent dg sl rf hl
theorem build_g {P : Program} {ops : Array Oper} {rest : List Oper} {o : Oper} {a : Act} {w : World} {Q : Exit → Act → World → Prop} (hw : Region.wanted o (yielded ops a.tmps) = true) (t : TypeId) (parts : Array (Nat × Operand)) (ho : o.op = .build t parts)
    (cs : Array Value) (hb : P.built t (parts.map fun (i, x) => (i, a.eval x)).toList = some cs) (h : wpList P ops Q rest (a.put o.dst (.agg cs)) w) : wpList P ops Q (o :: rest) a w := by
  refine wpList_step fun K hK => ?_
  rw [if_pos hw]
  unfold Oper.wp execOp
  simp only [ho, Sem.run_bind, run_build w t _ cs hb, Result.andThen_ok]
  exact hK _ _ h
theorem ent_build_g {ops : Array Oper} {rest : List Oper} {o : Oper} {a : Act} {w : World} {Q : Exit → Act → World → Prop} (hw : Region.wanted o (yielded ops a.tmps) = true) (p0 p1 p2 : Operand) (ho : o.op = .build 70 #[(0, p0), (1, p1), (2, p2)]) (dg : List Int) (sl rf : Int) (hl : dg.length = 32)
    (h0 : a.eval p0 = .agg (v8a dg)) (h1 : a.eval p1 = .int .i64 sl) (h2 : a.eval p2 = .int .i64 rf) (h : wpList Tryz.prog ops Q rest (a.put o.dst (.agg (entC dg sl rf))) w) : wpList Tryz.prog ops Q (o :: rest) a w := by
  refine build_g hw _ _ ho _ ?_ h
  simp only [List.map_toArray, List.map_cons, List.map_nil, h0, h1, h2]
  exact built_ent dg sl rf hl
theorem dg_load_g {ops : Array Oper} {rest : List Oper} {o : Oper} {a : Act} {w : World} {Q : Exit → Act → World → Prop} (hw : Region.wanted o (yielded ops a.tmps) = true) (x : Operand) (ho : o.op = .load 67 x) (g off : Nat) (p : List Int) (hx : a.eval x = .pointer (some ⟨g, off, none⟩)) (hg : w.rangeAt g off (v8 p)) (hp : p.length = 32)
    (h : wpList Tryz.prog ops Q rest (a.put o.dst (.agg (v8a p))) w) : wpList Tryz.prog ops Q (o :: rest) a w := by
  refine wpList_step fun K hK => ?_
  rw [if_pos hw]
  exact wp_load_mid _ x ho g off hx (v8 p) _ hg Tryz.underlying67 rfl (by rw [v8_length, hp]; exact info_h32) (hK _ _ h)
theorem ent7_eq (w : World) : (binOp .eql 70 (.agg (entC d7 3 1)) (.agg (entC d7 3 1))).run Tryz.prog w = .ok (.bool true) w := by kernel_rfl
def St8 (tb bb b3 : Nat) (N : Nat → Prop) (w0 : World) (n : Nat) (B : BookS) (d : List Int) (wx : World) : Prop := TabI wx tb (fun k => N k ∨ k = b3) bb 3 n B ∧ wx.heap[b3]? = some (.cells (v8a d) 67) ∧ Keeps N w0 wx
theorem St8.below {tb bb b3 : Nat} {N : Nat → Prop} {w0 wx wy : World} {n : Nat} {B : BookS} {d : List Int} (h : St8 tb bb b3 N w0 n B d wx) (hb : Below wx.heap.size wx wy) : St8 tb bb b3 N w0 n B d wy :=
  ⟨h.1.below hb, (hb.block _ (lt_of_blk h.2.1)).trans h.2.1, h.2.2.trans (Keeps.of_below hb)⟩
/-- A digest is laid in a block of its own. -/
theorem St8.make {tb bb : Nat} {N : Nat → Prop} {w0 w1 : World} {n : Nat} {B : BookS} (hT : TabI w1 tb N bb 3 n B) (hk : Keeps N w0 w1) (cs0 : Array Value) (d : List Int) : St8 tb bb w1.heap.size N w0 n B d ((w1.alloc (.cells cs0 67)).setRow w1.heap.size (v8a d)) := by
  have hb : Below w1.heap.size w1 ((w1.alloc (.cells cs0 67)).setRow w1.heap.size (v8a d)) := below_setRow ((Below.refl _ _).alloc (Nat.le_refl _) _) (Nat.le_refl _) _
  refine ⟨hT.keep hb (fun k hk => ?_), setRow_heap _ _ _ _ _ (0, 0) (heap_alloc_new w1 _), hk.trans (Keeps.of_below hb)⟩
  rcases hk with hk | hk
  · exact ⟨Nat.lt_of_lt_of_le (hT.N_lt k hk) hb.size, .inl hk⟩
  · subst hk; exact ⟨by simp [World.setRow], .inr (Nat.le_refl _)⟩
noncomputable def B7 : BookS := freshB.wrote (3 + 3) (setP d7 3 1)
theorem B7_view : B7.view (3 + 3) = setP d7 3 1 := by unfold B7; rw [BookS.wrote_view, if_pos rfl]
theorem s7_free : seekO (dgN d7) 4 (freeQ freshB 3) = some 3 := by
  have e : dgN d7 = 7 := by decide +kernel
  rw [e]
  exact seekO_found (k := 0) (by decide) (fun j hj => by omega) (by unfold freeQ; rw [freshB_view _ (by decide)]; rfl)
theorem s7_find : seekO (dgN d7) 4 (findQ B7 3 d7) = some 3 := by
  have e : dgN d7 = 7 := by decide +kernel
  rw [e]
  refine seekO_found (k := 0) (by decide) (fun j hj => by omega) ?_
  show findQ B7 3 d7 3 = true
  unfold findQ
  rw [B7_view, setP_is d7 3 1 d7_ok.1, setP_dg d7 3 1 d7_ok.1 (by decide), setP_refs d7 3 1 d7_ok.1 (by decide) (by decide)]
  decide
theorem s7_get {e : Ending} {w : World} (h : GetP (B7.view (3 + 3)) e w) : e = .returned (.tuple #[.agg (entC d7 3 1), .nilIface]) := by
  rw [B7_view] at h
  unfold GetP at h
  rw [setP_is d7 3 1 d7_ok.1] at h
  rw [setP_dg d7 3 1 d7_ok.1 (by decide), setP_slot d7 3 1 d7_ok.1 (by decide) (by decide), setP_refs d7 3 1 d7_ok.1 (by decide) (by decide)] at h
  exact h
set_option maxRecDepth 100000 in
set_option maxHeartbeats 4000000 in
theorem stands08_any (N : Nat → Prop) (w : World) (hN : ∀ i, N i → i < w.heap.size) :
    Calls Tryz.prog 30 #[] w fun e w' => e = .returned (.bool true) ∧ Keeps N w w' := by
  have hFR := fresh08_any 4 (by decide) N w hN
  clear hN
  go_enter Tryz.func30, Tryz.ntmps30
  go_wp2_with fail
  refine hFR.mono ?_
  clear hFR
  rintro e w1 ⟨⟨bb, tb, rfl, hT⟩, hk1⟩
  have HT := Lib.hid hT
  have HK := Lib.hid hk1
  clear hT hk1
  try dsimp only
  repeat ((fail_if_success (with_reducible refine stop_at 18 rfl ?_)); (first | (first | (refine wpList_build_to rfl 67 _ rfl (v8a d7) (by kernel_rfl) ?_) | (refine dg_store rfl (.tmp 3) (.tmp 16) rfl w1.heap.size d7 (zer 32) rfl rfl (heap_alloc_new w1 _) d7_ok.1 rfl ?_)) | go_values | go_skip | go_guarded | go_step | go_upon))
  refine gen_world (fun wx => Hid (St8 tb bb w1.heap.size N w 4 freshB d7 wx)) (Lib.hid (St8.make HT.out HK.out _ _)) ?_
  clear HT HK
  generalize w1.heap.size = b3
  intro w2 H2
  have hFE := free_any tb _ bb 3 4 freshB d7 d7_ok w2 H2.out.1
  rw [s7_free] at hFE
  go_wp2_with (refine dg_load rfl (.tmp 3) rfl b3 0 d7 rfl (row_range H2.out.2.1) d7_ok.1 ?_)
  refine hFE.mono ?_
  clear hFE
  rintro e w3 ⟨he, hb3⟩
  have H3 := Lib.hid (H2.out.below hb3)
  clear hb3 H2
  obtain rfl : e = .returned (.tuple #[.int .i64 3, .nilIface]) := he
  have hST := set_any tb _ bb 3 4 freshB 3 (by decide) d7 3 1 d7_ok (by decide) (by decide) (.inr (.inr (by show freshB.cnt ≠ 60; rw [freshB_cnt]; decide))) w3 H3.out.1
  try dsimp only
  go_wp2_with (first | (refine dg_load rfl (.tmp 3) rfl b3 0 d7 rfl (row_range H3.out.2.1) d7_ok.1 ?_) | (refine ent_build rfl (.tmp 25) _ _ rfl d7 3 1 d7_ok.1 rfl rfl rfl ?_))
  refine hST.mono ?_
  clear hST
  rintro e w4 ⟨rfl, hT4, hk4⟩
  have H4 : Hid (St8 tb bb b3 N w 4 B7 d7 w4) := Lib.hid ⟨hT4, hk4.blk (.inr rfl) H3.out.2.1, H3.out.2.2.trans (hk4.mono (fun k _ hk => .inl hk))⟩
  clear hT4 hk4 H3
  have hFI := find_any tb _ bb 3 4 B7 d7 d7_ok w4 H4.out.1
  rw [s7_find] at hFI
  try dsimp only
  go_wp2_with (refine dg_load rfl (.tmp 3) rfl b3 0 d7 rfl (row_range H4.out.2.1) d7_ok.1 ?_)
  refine hFI.mono ?_
  clear hFI
  rintro e w5 ⟨rfl, hb5⟩
  have H5 := Lib.hid (H4.out.below hb5)
  clear hb5 H4
  have hGT := get_any tb _ bb 3 4 B7 3 (by decide) w5 H5.out.1
  try dsimp only
  go_wp2_with fail
  refine hGT.mono ?_
  clear hGT
  rintro e w6 ⟨he, hb6⟩
  have H6 := Lib.hid (H5.out.below hb6)
  clear hb6 H5
  obtain rfl := s7_get he
  clear he
  try dsimp only
  repeat ((fail_if_success (with_reducible refine stop_at 41 rfl ?_)); (first | (refine ent_store rfl (.tmp 10) (.tmp 39) rfl w6.heap.size d7 (zer 32) 3 1 0 0 rfl rfl (heap_alloc_new w6 _) d7_ok.1 rfl ?_) | go_values | go_skip | go_guarded | go_step | go_upon))
  have hbx : ∀ o : Obj, Below w6.heap.size w6 ((w6.alloc o).setRow w6.heap.size (entC d7 3 1)) := fun o => below_setRow ((Below.refl _ _).alloc (Nat.le_refl _) _) (Nat.le_refl _) _
  refine gen_world (fun wx => Hid (St8 tb bb b3 N w 4 B7 d7 wx ∧ wx.heap[w6.heap.size]? = some (.cells (entC d7 3 1) 70))) (Lib.hid ⟨H6.out.below (hbx _), setRow_heap _ _ _ _ _ (0, 0) (heap_alloc_new w6 _)⟩) ?_
  clear hbx H6
  generalize w6.heap.size = b10
  intro w7 H7
  have hNM := Lib.hid num08_nil
  go_wp2_with fail
  refine (hNM.out w7).mono ?_
  rintro e w8 ⟨rfl, rfl⟩
  try dsimp only
  go_wp2_with fail
  refine (hNM.out w7).mono ?_
  rintro e w8 ⟨rfl, rfl⟩
  try dsimp only
  go_wp2_with fail
  refine (hNM.out w7).mono ?_
  rintro e w8 ⟨rfl, rfl⟩
  try dsimp only
  go_wp2_with fail
  refine (hNM.out w7).mono ?_
  rintro e w8 ⟨rfl, rfl⟩
  try dsimp only
  have heq := ent7_eq
  go_wp2_with (first | (refine ent_load_g rfl (.tmp 10) rfl b10 d7 3 1 rfl H7.out.2 d7_ok.1 ?_) | (refine dg_load_g rfl (.tmp 3) rfl b3 0 d7 rfl (row_range H7.out.1.2.1) d7_ok.1 ?_) | (refine ent_build_g rfl (.tmp 63) _ _ rfl d7 3 1 d7_ok.1 rfl rfl rfl ?_))
  go_ret
  exact ⟨rfl, H7.out.1.2.2⟩
end Go.Proofs.YtajmcplanlibnaaGreatDoor
