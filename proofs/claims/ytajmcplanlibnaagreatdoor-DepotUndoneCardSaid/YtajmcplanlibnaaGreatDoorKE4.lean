/- Prints: New, Find, Slot, Free, Get. -/
import Derived.Test.YtajmcplanlibnaaGreatDoorKE3
set_option linter.unusedSimpArgs false
set_option linter.unusedVariables false
set_option linter.unnecessarySimpa false
namespace Go.Proofs.YtajmcplanlibnaaGreatDoor
open Go.RowKit Go.Maps
def findQ (B : BookS) (first : Nat) (d : List Int) (i : Nat) : Bool := isEnt (B.view (first + i)) && (decide (pDg (B.view (first + i)) = d) && decide (pRefs (B.view (first + i)) < 15))
def slotQ (B : BookS) (first : Nat) (s : Int) (i : Nat) : Bool := isEnt (B.view (first + i)) && decide (pSlot (B.view (first + i)) = s)
def freeQ (B : BookS) (first : Nat) (i : Nat) : Bool := !isEnt (B.view (first + i))
set_option maxRecDepth 100000 in
set_option maxHeartbeats 1000000 in
theorem find_any (tb : Nat) (N : Nat → Prop) (bb first n : Nat) (B : BookS) (d : List Int) (hd : d.length = 32 ∧ U8s d) (w : World) (h : TabI w tb N bb first n B) :
    Calls Tryz.prog 85 #[.pointer (some ⟨tb, 0, none⟩), .agg (v8a d)] w fun e w' => e = .returned (.tuple #[.int .i64 (((seekO (dgN d) n (findQ B first d)).getD 0 : Nat) : Int), .bool (seekO (dgN d) n (findQ B first d)).isSome, .nilIface]) ∧ Below w.heap.size w w' := by
  have HT := Lib.hid h
  have hb0 : ∀ o : Obj, Below w.heap.size w (w.alloc o) := fun o => (Below.refl _ _).alloc (Nat.le_refl _) _
  have hmf : ∀ (fn : Fn) (first cap : Array Value) (w : World), (Instr.makeFunc fn first cap).run Tryz.prog w = .ok (.func fn first cap) w := fun _ _ _ _ => rfl
  clear h
  go_enter Tryz.func85, Tryz.ntmps85
  repeat ((fail_if_success (with_reducible refine stop_pos "prints.go:72" rfl ?_)); (first | go_values | go_skip | go_guarded | go_step | go_upon))
  refine gen_world (fun wx => Hid (wx.heap[w.heap.size]? = some (.cells (v8a d) 67) ∧ Below w.heap.size w wx)) (Lib.hid ⟨heap_alloc_new w (.cells (v8a d) 67), hb0 _⟩) ?_
  clear hb0
  intro w1 H1
  have hSK := seekFind_any tb N bb first n B d hd w.heap.size w1 (HT.out.below H1.out.2) H1.out.1
  go_wp2_with (refine dg_load rfl (.tmp 3) rfl w.heap.size 0 d rfl (row_range H1.out.1) hd.1 ?_)
  refine hSK.mono ?_
  clear hSK
  rintro e w2 ⟨rfl, hb2⟩
  try dsimp only
  go_wp2_with fail
  go_ret3
  exact ⟨rfl, H1.out.2.trans (hb2.mono H1.out.2.size)⟩
theorem built_h32 : Tryz.prog.built 67 [] = some (v8a (zer 32)) := by kernel_rfl
set_option maxRecDepth 100000 in
set_option maxHeartbeats 1000000 in
theorem slot_any (tb : Nat) (N : Nat → Prop) (bb first n : Nat) (B : BookS) (s : Int) (w : World) (h : TabI w tb N bb first n B) :
    Calls Tryz.prog 90 #[.pointer (some ⟨tb, 0, none⟩), .int .i64 s] w fun e w' => e = .returned (.tuple #[.int .i64 (((seekO (dgN (zer 32)) n (slotQ B first s)).getD 0 : Nat) : Int), .bool (seekO (dgN (zer 32)) n (slotQ B first s)).isSome, .nilIface]) ∧ Below w.heap.size w w' := by
  have HT := Lib.hid h
  have hb0 : ∀ o : Obj, Below w.heap.size w (w.alloc o) := fun o => (Below.refl _ _).alloc (Nat.le_refl _) _
  have hmf : ∀ (fn : Fn) (first cap : Array Value) (w : World), (Instr.makeFunc fn first cap).run Tryz.prog w = .ok (.func fn first cap) w := fun _ _ _ _ => rfl
  clear h
  go_enter Tryz.func90, Tryz.ntmps90
  repeat ((fail_if_success (with_reducible refine stop_pos "prints.go:104" rfl ?_)); (first | go_values | go_skip | go_guarded | go_step | go_upon))
  refine gen_world (fun wx => Hid (wx.heap[w.heap.size]? = some (.cells #[.int .i64 s] 3) ∧ Below w.heap.size w wx)) (Lib.hid ⟨heap_alloc_new w (.cells #[.int .i64 s] 3), hb0 _⟩) ?_
  clear hb0
  intro w1 H1
  have hSK := seekSlot_any tb N bb first n B (zer 32) ⟨rfl, zer_u8 32⟩ w.heap.size s w1 (HT.out.below H1.out.2) H1.out.1
  go_wp2_with (refine wpList_build_to rfl 67 _ rfl (v8a (zer 32)) built_h32 ?_)
  refine hSK.mono ?_
  clear hSK
  rintro e w2 ⟨rfl, hb2⟩
  try dsimp only
  go_wp2_with fail
  go_ret3
  exact ⟨rfl, H1.out.2.trans (hb2.mono H1.out.2.size)⟩
def ErrV (w : World) (v : Value) (n : Int) : Prop := ∃ k, ErrAt w k v n
theorem ErrV.below {w w' : World} {v : Value} {n : Int} (h : ErrV w v n) (hb : Below w.heap.size w w') : ErrV w' v n := by obtain ⟨k, h⟩ := h; exact ⟨k, h.below hb⟩
theorem ErrAt.setRow {w : World} {g T : Nat} {cs0 : Array Value} (hg : w.heap[g]? = some (.cells cs0 T)) (hT : T ≠ 249) (cs : Array Value) : ∀ {k : Nat} {v : Value} {n : Int}, ErrAt w k v n → ErrAt (w.setRow g cs) k v n
  | 0, _, _, h => h
  | k + 1, _, _, ⟨b, s, e, h1, h2, h3⟩ => ⟨b, s, e, h1, by rw [setRow_other _ _ _ _ (fun e' => by subst e'; rw [hg] at h2; simp only [Option.some.injEq, Obj.cells.injEq] at h2; exact hT h2.2.1)]; exact h2, ErrAt.setRow hg hT cs h3⟩
theorem ErrV.setRow {w : World} {g T : Nat} {cs0 : Array Value} (hg : w.heap[g]? = some (.cells cs0 T)) (hT : T ≠ 249) (cs : Array Value) {v : Value} {n : Int} (h : ErrV w v n) : ErrV (w.setRow g cs) v n := by obtain ⟨k, h⟩ := h; exact ⟨k, h.setRow hg hT cs⟩
theorem ErrV.iface {w : World} {v : Value} {n : Int} (h : ErrV w v n) : ∃ t x, v = .iface t x := by
  obtain ⟨k, h⟩ := h
  cases k with
  | zero => exact ⟨_, _, h⟩
  | succ k => obtain ⟨b, s, e, h1, _⟩ := h; exact ⟨_, _, h1⟩
/-- woe.In of a number. -/
theorem woe_num (s : ByteArray) (n : Int) (w : World) : Calls Tryz.prog 63 #[.string s, .iface 137 (.int .i64 n)] w fun e w' => (∃ t x, e = .returned (.iface t x) ∧ ErrV w' (.iface t x) n) ∧ Below w.heap.size w w' :=
  (woe_err s 0 _ n w rfl).mono fun e w' ⟨⟨v', h1, h2⟩, h3⟩ => by
    obtain ⟨t, x, rfl⟩ := ErrV.iface ⟨_, h2⟩
    exact ⟨⟨t, x, h1, ⟨_, h2⟩⟩, h3⟩
def FreeP (o : Option Nat) (e : Ending) (w' : World) : Prop := match o with
  | some i => e = .returned (.tuple #[.int .i64 (i : Int), .nilIface])
  | none => ∃ t x, e = .returned (.tuple #[.int .i64 0, .iface t x]) ∧ ErrV w' (.iface t x) 21
set_option maxRecDepth 100000 in
set_option maxHeartbeats 1000000 in
theorem free_any (tb : Nat) (N : Nat → Prop) (bb first n : Nat) (B : BookS) (d : List Int) (hd : d.length = 32 ∧ U8s d) (w : World) (h : TabI w tb N bb first n B) :
    Calls Tryz.prog 84 #[.pointer (some ⟨tb, 0, none⟩), .agg (v8a d)] w fun e w' => FreeP (seekO (dgN d) n (freeQ B first)) e w' ∧ Below w.heap.size w w' := by
  have HT := Lib.hid h
  have hb0 : ∀ o : Obj, Below w.heap.size w (w.alloc o) := fun o => (Below.refl _ _).alloc (Nat.le_refl _) _
  clear h
  obtain ⟨o, ho⟩ : ∃ o, seekO (dgN d) n (freeQ B first) = o := ⟨_, rfl⟩
  rw [ho]
  go_enter Tryz.func84, Tryz.ntmps84
  repeat ((fail_if_success (with_reducible refine stop_pos "prints.go:77" rfl ?_)); (first | go_values | go_skip | go_guarded | go_step | go_upon))
  refine gen_world (fun wx => Hid (wx.heap[w.heap.size]? = some (.cells (v8a d) 67) ∧ Below w.heap.size w wx)) (Lib.hid ⟨heap_alloc_new w (.cells (v8a d) 67), hb0 _⟩) ?_
  clear hb0
  intro w1 H1
  have hSK := seekFree_any tb N bb first n B d hd w1 (HT.out.below H1.out.2)
  have ho' : seekO (dgN d) n (fun i => !isEnt (B.view (first + i))) = o := ho
  rw [ho'] at hSK
  clear ho ho'
  go_wp2_with (refine dg_load rfl (.tmp 3) rfl w.heap.size 0 d rfl (row_range H1.out.1) hd.1 ?_)
  refine hSK.mono ?_
  clear hSK
  rintro e w2 ⟨rfl, hb2⟩
  have H2 : Hid (Below w.heap.size w w2) := Lib.hid (H1.out.2.trans (hb2.mono H1.out.2.size))
  clear hb2
  try dsimp only
  cases o with
  | some i =>
    simp only [Option.getD_some, Option.isSome_some]
    go_wp2_with fail
    go_ret2
    exact ⟨rfl, H2.out⟩
  | none =>
    simp only [Option.getD_none, Option.isSome_none]
    go_wp2_with fail
    refine (woe_num _ 21 w2).mono ?_
    rintro e w3 ⟨⟨t, x, rfl, he⟩, hb3⟩
    have HE := Lib.hid he
    clear he
    try dsimp only
    go_wp2_with fail
    go_ret2
    exact ⟨⟨t, x, rfl, HE.out⟩, H2.out.trans (hb3.mono H2.out.size)⟩
def GetP (p : List Int) (e : Ending) (w' : World) : Prop := match isEnt p with
  | true => e = .returned (.tuple #[.agg (entC (pDg p) (pSlot p) (pRefs p)), .nilIface])
  | false => ∃ t x, e = .returned (.tuple #[.agg (entC (zer 32) 0 0), .iface t x]) ∧ ErrV w' (.iface t x) 23
set_option maxRecDepth 100000 in
set_option maxHeartbeats 2000000 in
theorem get_any (tb : Nat) (N : Nat → Prop) (bb first n : Nat) (B : BookS) (i : Nat) (hi : i < n) (w : World) (h : TabI w tb N bb first n B) :
    Calls Tryz.prog 86 #[.pointer (some ⟨tb, 0, none⟩), .int .i64 (i : Int)] w fun e w' => GetP (B.view (first + i)) e w' ∧ Below w.heap.size w w' := by
  have HT := Lib.hid h
  have hn1 := h.2.2.2.1
  have hn2 := h.2.1.isOk.n.2
  have HPK : Hid (PgOk (B.view (first + i))) := Lib.hid (BookS.view_ok h.2.1.isOk _ (by omega))
  have hb0 : ∀ o : Obj, Below w.heap.size w (w.alloc o) := fun o => (Below.refl _ _).alloc (Nat.le_refl _) _
  clear h
  have hi0 : (0 : Int) ≤ i := by omega
  have hi1 : (i : Int) < n := by omega
  obtain ⟨pg, hpg⟩ : ∃ pg, B.view (first + i) = pg := ⟨_, rfl⟩
  rw [hpg]
  go_enter Tryz.func86, Tryz.ntmps86
  repeat ((fail_if_success (with_reducible refine stop_pos "prints.go:44" rfl ?_)); (first | go_values | go_skip | go_guarded | go_step | go_upon))
  refine gen_world (fun wx => Hid (wx.heap[w.heap.size]? = some (.cells (entC (zer 32) 0 0) 70) ∧ Below w.heap.size w wx)) (Lib.hid ⟨heap_alloc_new w (.cells (entC (zer 32) 0 0) 70), hb0 _⟩) ?_
  clear hb0
  intro w1 H1
  obtain ⟨z0, z1, z2⟩ := blk3 ((HT.out.below H1.out.2).1)
  have hLK := look_any tb N bb first n B i hi w1 (HT.out.below H1.out.2)
  rw [hpg] at hLK HPK
  clear hpg
  go_wp2_with fail
  refine hLK.mono ?_
  clear hLK
  rintro e w3 ⟨rfl, hb3⟩
  have H3 : Hid (w3.heap[w.heap.size]? = some (.cells (entC (zer 32) 0 0) 70) ∧ Below w.heap.size w w3) := Lib.hid ⟨(hb3.block _ (lt_of_blk H1.out.1)).trans H1.out.1, H1.out.2.trans (hb3.mono H1.out.2.size)⟩
  clear hb3 H1 z0 z1 z2
  obtain ⟨dg, sl, rf, hlk, hdg, hdgp⟩ : ∃ dg sl rf, lookC pg = entC dg sl rf ∧ dg.length = 32 ∧ (if isEnt pg then dg = pDg pg ∧ sl = pSlot pg ∧ rf = pRefs pg else dg = zer 32 ∧ sl = 0 ∧ rf = 0) := by
    cases he : isEnt pg with
    | true => exact ⟨_, _, _, by unfold lookC; rw [he]; rfl, pDg_length HPK.out.1, ⟨rfl, rfl, rfl⟩⟩
    | false => exact ⟨zer 32, 0, 0, by unfold lookC; rw [he]; rfl, rfl, ⟨rfl, rfl, rfl⟩⟩
  rw [hlk]
  have HDP := Lib.hid hdgp
  clear hlk hdgp
  try dsimp only
  repeat ((fail_if_success (with_reducible refine stop_at 33 rfl ?_)); (first | (refine ent_store rfl (.tmp 6) (.tmp 30) rfl w3.heap.size dg (zer 32) sl rf 0 0 rfl rfl (heap_alloc_new w3 _) hdg rfl ?_) | go_values | go_skip | go_guarded | go_step | go_upon))
  have hbx : ∀ o : Obj, Below w3.heap.size w3 ((w3.alloc o).setRow w3.heap.size (entC dg sl rf)) := fun o => below_setRow ((Below.refl _ _).alloc (Nat.le_refl _) _) (Nat.le_refl _) _
  have hlt3 := lt_of_blk H3.out.1
  refine gen_world (fun wx => Hid (wx.heap[w.heap.size]? = some (.cells (entC (zer 32) 0 0) 70) ∧ wx.heap[w3.heap.size]? = some (.cells (entC dg sl rf) 70) ∧ Below w.heap.size w wx)) (Lib.hid ⟨((hbx _).block _ hlt3).trans H3.out.1, setRow_heap _ _ _ _ _ (0, 0) (heap_alloc_new w3 _), H3.out.2.trans ((hbx _).mono H3.out.2.size)⟩) ?_
  clear hbx H3
  generalize w3.heap.size = b6 at hlt3 ⊢
  intro w4 H4
  have hes := entC_size hdg sl rf
  cases he : isEnt pg with
  | true =>
    go_wp2_with (first | (refine ent_load rfl (.tmp 6) rfl b6 dg sl rf rfl H4.out.2.1 hdg ?_) | (refine ent_store rfl (.tmp 4) (.tmp 41) rfl w.heap.size dg (zer 32) sl rf 0 0 rfl rfl H4.out.1 hdg rfl ?_))
    obtain ⟨e1, e2, e3⟩ := (by have := HDP.out; rw [he] at this; exact this : dg = pDg pg ∧ sl = pSlot pg ∧ rf = pRefs pg)
    refine bodyPost_ret (results_cell_slot Tryz.results86 _ _ w.heap.size 70 (entC dg sl rf) (0, 0) _ rfl .nilIface rfl (setRow_heap _ _ _ _ _ (0, 0) H4.out.1) Tryz.underlying70 rfl (by rw [hes]; exact info_ents)) rfl ⟨?_, below_setRow H4.out.2.2 (Nat.le_refl _) _⟩
    unfold GetP
    rw [he, e1, e2, e3]
  | false =>
    go_wp2_with fail
    refine (woe_num _ 23 w4).mono ?_
    rintro e w5 ⟨⟨t, x, rfl, hev⟩, hb5⟩
    have HE := Lib.hid hev
    have H5 : Hid (w5.heap[w.heap.size]? = some (.cells (entC (zer 32) 0 0) 70) ∧ w5.heap[b6]? = some (.cells (entC dg sl rf) 70) ∧ Below w.heap.size w w5) := Lib.hid ⟨(hb5.block _ (lt_of_blk H4.out.1)).trans H4.out.1, (hb5.block _ (lt_of_blk H4.out.2.1)).trans H4.out.2.1, H4.out.2.2.trans (hb5.mono H4.out.2.2.size)⟩
    clear hev hb5 H4
    try dsimp only
    go_wp2_with (first | (refine ent_load rfl (.tmp 6) rfl b6 dg sl rf rfl H5.out.2.1 hdg ?_) | (refine ent_store rfl (.tmp 4) (.tmp 41) rfl w.heap.size dg (zer 32) sl rf 0 0 rfl rfl H5.out.1 hdg rfl ?_))
    obtain ⟨e1, e2, e3⟩ := (by have := HDP.out; rw [he] at this; exact this : dg = zer 32 ∧ sl = 0 ∧ rf = 0)
    refine bodyPost_ret (results_cell_slot Tryz.results86 _ _ w.heap.size 70 (entC dg sl rf) (0, 0) _ rfl (.iface t x) rfl (setRow_heap _ _ _ _ _ (0, 0) H5.out.1) Tryz.underlying70 rfl (by rw [hes]; exact info_ents)) rfl ⟨?_, below_setRow H5.out.2.2 (Nat.le_refl _) _⟩
    unfold GetP
    rw [he, e1, e2, e3]
    exact ⟨t, x, rfl, HE.out.setRow H5.out.1 (by decide) _⟩
end Go.Proofs.YtajmcplanlibnaaGreatDoor
