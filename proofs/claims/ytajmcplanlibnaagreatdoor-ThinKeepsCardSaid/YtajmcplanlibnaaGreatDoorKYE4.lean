/- Prints: New, Find, Slot, Free, Get. -/
import Derived.Test.YtajmcplanlibnaaGreatDoorKYE1
set_option linter.unusedSimpArgs false
set_option linter.unusedVariables false
set_option linter.unnecessarySimpa false
namespace Go.Proofs.YtajmcplanlibnaaGreatDoor
open Go.RowKit Go.Maps
def findQ (B : BookS) (first : Nat) (d : List Int) (i : Nat) : Bool := isEnt (B.view (first + i)) && (decide (pDg (B.view (first + i)) = d) && decide (pRefs (B.view (first + i)) < 15))
def freeQ (B : BookS) (first : Nat) (i : Nat) : Bool := !isEnt (B.view (first + i))
set_option maxRecDepth 100000 in
set_option maxHeartbeats 1000000 in
theorem find_any (tb : Nat) (N : Nat → Prop) (bb first n : Nat) (B : BookS) (d : List Int) (hd : d.length = 32 ∧ U8s d) (w : World) (h : TabI w tb N bb first n B) :
    Calls Tryz.prog 85 #[.pointer (some ⟨tb, 0, none⟩), .agg (v8a d)] w fun e w' => e = .returned (.tuple #[.int .i64 (((seekO (dgN d) n (findQ B first d)).getD 0 : Nat) : Int), .bool (seekO (dgN d) n (findQ B first d)).isSome, .nilIface]) ∧ Below w.heap.size w w' := by
  have HT := hZ h
  have hb0 : ∀ o : Obj, Below w.heap.size w (w.alloc o) := fun o => bZ
  have hmf : ∀ (fn : Fn) (first cap : Array Value) (w : World), (Instr.makeFunc fn first cap).run Tryz.prog w = .ok (.func fn first cap) w := fun _ _ _ _ => rfl
  clear h
  go_enter Tryz.func85, Tryz.ntmps85
  repeat ((fail_if_success (with_reducible refine Vz1 "prints.go:72" rfl ?_)); (first | go_values | go_skip | go_guarded | go_step | go_upon))
  refine Xz0 (fun wx => Hid (wx.heap[w.heap.size]? = some (.cells (v8a d) 67) ∧ Below w.heap.size w wx)) (hZ ⟨heap_alloc_new w (.cells (v8a d) 67), hb0 _⟩) ?_
  clear hb0
  intro w1 H1
  have hSK := seekFind_any tb N bb first n B d hd w.heap.size w1 (HT.out.below H1.out.2) H1.out.1
  go_wp2_with (refine dg_load rfl (.tmp 3) rfl w.heap.size 0 d rfl (Vz6 H1.out.1) hd.1 ?_)
  refine hSK.mono ?_
  clear hSK
  rintro e w2 ⟨rfl, hb2⟩
  try dsimp only
  go_wp2_with fail
  go_ret3
  exact ⟨rfl, H1.out.2.trans (hb2.mono H1.out.2.size)⟩
def ErrV (w : World) (v : Value) (n : Int) : Prop := ∃ k, ErrAt w k v n
theorem ErrV.below {w w' : World} {v : Value} {n : Int} (h : ErrV w v n) (hb : Below w.heap.size w w') : ErrV w' v n := by obtain ⟨k, h⟩ := h; exact ⟨k, h.below hb⟩
theorem ErrAt.setRow {w : World} {g T : Nat} {cs0 : Array Value} (hg : w.heap[g]? = some (.cells cs0 T)) (hT : T ≠ 249) (cs : Array Value) : ∀ {k : Nat} {v : Value} {n : Int}, ErrAt w k v n → ErrAt (w.setRow g cs) k v n
  | 0, _, _, h => h
  | k + 1, _, _, ⟨b, s, e, h1, h2, h3⟩ => ⟨b, s, e, h1, by rw [setRow_other _ _ _ _ (fun e' => by subst e'; rw [hg] at h2; simp only [Option.some.injEq, Obj.cells.injEq] at h2; exact hT h2.2.1)]; exact h2, ErrAt.setRow hg hT cs h3⟩
theorem ErrV.setRow {w : World} {g T : Nat} {cs0 : Array Value} (hg : w.heap[g]? = some (.cells cs0 T)) (hT : T ≠ 249) (cs : Array Value) {v : Value} {n : Int} (h : ErrV w v n) : ErrV (w.setRow g cs) v n := by obtain ⟨k, h⟩ := h; exact ⟨k, h.setRow hg hT cs⟩
theorem ErrV.iface {w : World} {v : Value} {n : Int} (h : ErrV w v n) : ∃ t x, v = .iface t x := by
  obtain ⟨k, h⟩ := h
  cases k with
  | zero => exact ⟨_, _, h⟩
  | succ k => obtain ⟨b, s, e, h1, _⟩ := h; exact ⟨_, _, h1⟩
theorem woe_num (s : ByteArray) (n : Int) (w : World) : Calls Tryz.prog 63 #[.string s, .iface 137 (.int .i64 n)] w fun e w' => (∃ t x, e = .returned (.iface t x) ∧ ErrV w' (.iface t x) n) ∧ Below w.heap.size w w' :=
  (woe_err s 0 _ n w rfl).mono fun e w' ⟨⟨v', h1, h2⟩, h3⟩ => by
    obtain ⟨t, x, rfl⟩ := ErrV.iface ⟨_, h2⟩
    exact ⟨⟨t, x, h1, ⟨_, h2⟩⟩, h3⟩
def FreeP (o : Option Nat) (e : Ending) (w' : World) : Prop := match o with
  | some i => e = .returned (.tuple #[.int .i64 (i : Int), .nilIface])
  | none => ∃ t x, e = .returned (.tuple #[.int .i64 0, .iface t x]) ∧ ErrV w' (.iface t x) 21
set_option maxRecDepth 100000 in
set_option maxHeartbeats 1000000 in
theorem free_any (tb : Nat) (N : Nat → Prop) (bb first n : Nat) (B : BookS) (d : List Int) (hd : d.length = 32 ∧ U8s d) (w : World) (h : TabI w tb N bb first n B) :
    Calls Tryz.prog 84 #[.pointer (some ⟨tb, 0, none⟩), .agg (v8a d)] w fun e w' => FreeP (seekO (dgN d) n (freeQ B first)) e w' ∧ Below w.heap.size w w' := by
  have HT := hZ h
  have hb0 : ∀ o : Obj, Below w.heap.size w (w.alloc o) := fun o => bZ
  clear h
  obtain ⟨o, ho⟩ : ∃ o, seekO (dgN d) n (freeQ B first) = o := ⟨_, rfl⟩
  rw [ho]
  go_enter Tryz.func84, Tryz.ntmps84
  repeat ((fail_if_success (with_reducible refine Vz1 "prints.go:77" rfl ?_)); (first | go_values | go_skip | go_guarded | go_step | go_upon))
  refine Xz0 (fun wx => Hid (wx.heap[w.heap.size]? = some (.cells (v8a d) 67) ∧ Below w.heap.size w wx)) (hZ ⟨heap_alloc_new w (.cells (v8a d) 67), hb0 _⟩) ?_
  clear hb0
  intro w1 H1
  have hSK := seekFree_any tb N bb first n B d hd w1 (HT.out.below H1.out.2)
  have ho' : seekO (dgN d) n (fun i => !isEnt (B.view (first + i))) = o := ho
  rw [ho'] at hSK
  clear ho ho'
  go_wp2_with (refine dg_load rfl (.tmp 3) rfl w.heap.size 0 d rfl (Vz6 H1.out.1) hd.1 ?_)
  refine hSK.mono ?_
  clear hSK
  rintro e w2 ⟨rfl, hb2⟩
  have H2 : Hid (Below w.heap.size w w2) := hZ (H1.out.2.trans (hb2.mono H1.out.2.size))
  clear hb2
  try dsimp only
  cases o with
  | some i =>
    simp only [Option.getD_some, Option.isSome_some]
    go_wp2_with fail
    go_ret2
    exact ⟨rfl, H2.out⟩
  | none =>
    simp only [Option.getD_none, Option.isSome_none]
    go_wp2_with fail
    refine (woe_num _ 21 w2).mono ?_
    rintro e w3 ⟨⟨t, x, rfl, he⟩, hb3⟩
    have HE := hZ he
    clear he
    try dsimp only
    go_wp2_with fail
    go_ret2
    exact ⟨⟨t, x, rfl, HE.out⟩, H2.out.trans (hb3.mono H2.out.size)⟩
def GetP (p : List Int) (e : Ending) (w' : World) : Prop := match isEnt p with
  | true => e = .returned (.tuple #[.agg (entC (pDg p) (pSlot p) (pRefs p)), .nilIface])
  | false => ∃ t x, e = .returned (.tuple #[.agg (entC (zer 32) 0 0), .iface t x]) ∧ ErrV w' (.iface t x) 23
set_option maxRecDepth 100000 in
set_option maxHeartbeats 2000000 in
theorem get_any (tb : Nat) (N : Nat → Prop) (bb first n : Nat) (B : BookS) (i : Nat) (hi : i < n) (w : World) (h : TabI w tb N bb first n B) :
    Calls Tryz.prog 86 #[.pointer (some ⟨tb, 0, none⟩), .int .i64 (i : Int)] w fun e w' => GetP (B.view (first + i)) e w' ∧ Below w.heap.size w w' := by
  have HT := hZ h
  have hn1 := h.2.2.2.1
  have hn2 := h.2.1.isOk.n.2
  have HPK : Hid (PgOk (B.view (first + i))) := hZ (BookS.view_ok h.2.1.isOk _ (by omega))
  have hb0 : ∀ o : Obj, Below w.heap.size w (w.alloc o) := fun o => bZ
  clear h
  have hi0 : (0 : Int) ≤ i := by omega
  have hi1 : (i : Int) < n := by omega
  obtain ⟨pg, hpg⟩ : ∃ pg, B.view (first + i) = pg := ⟨_, rfl⟩
  rw [hpg]
  go_enter Tryz.func86, Tryz.ntmps86
  repeat ((fail_if_success (with_reducible refine Vz1 "prints.go:44" rfl ?_)); (first | go_values | go_skip | go_guarded | go_step | go_upon))
  refine Xz0 (fun wx => Hid (wx.heap[w.heap.size]? = some (.cells (entC (zer 32) 0 0) 70) ∧ Below w.heap.size w wx)) (hZ ⟨heap_alloc_new w (.cells (entC (zer 32) 0 0) 70), hb0 _⟩) ?_
  clear hb0
  intro w1 H1
  obtain ⟨z0, z1, z2⟩ := blk3 ((HT.out.below H1.out.2).1)
  have hLK := look_any tb N bb first n B i hi w1 (HT.out.below H1.out.2)
  rw [hpg] at hLK HPK
  clear hpg
  go_wp2_with fail
  refine hLK.mono ?_
  clear hLK
  rintro e w3 ⟨rfl, hb3⟩
  have H3 : Hid (w3.heap[w.heap.size]? = some (.cells (entC (zer 32) 0 0) 70) ∧ Below w.heap.size w w3) := hZ ⟨(hb3.block _ (Zz0 H1.out.1)).trans H1.out.1, H1.out.2.trans (hb3.mono H1.out.2.size)⟩
  clear hb3 H1 z0 z1 z2
  obtain ⟨dg, sl, rf, hlk, hdg, hdgp⟩ : ∃ dg sl rf, lookC pg = entC dg sl rf ∧ dg.length = 32 ∧ (if isEnt pg then dg = pDg pg ∧ sl = pSlot pg ∧ rf = pRefs pg else dg = zer 32 ∧ sl = 0 ∧ rf = 0) := by
    cases he : isEnt pg with
    | true => exact ⟨_, _, _, by unfold lookC; rw [he]; rfl, Wzi HPK.out.1, ⟨rfl, rfl, rfl⟩⟩
    | false => exact ⟨zer 32, 0, 0, by unfold lookC; rw [he]; rfl, rfl, ⟨rfl, rfl, rfl⟩⟩
  rw [hlk]
  have HDP := hZ hdgp
  clear hlk hdgp
  try dsimp only
  repeat ((fail_if_success (with_reducible refine Kz1 33 rfl ?_)); (first | (refine Zza rfl (.tmp 6) (.tmp 30) rfl w3.heap.size dg (zer 32) sl rf 0 0 rfl rfl (heap_alloc_new w3 _) hdg rfl ?_) | go_values | go_skip | go_guarded | go_step | go_upon))
  have hbx : ∀ o : Obj, Below w3.heap.size w3 ((w3.alloc o).setRow w3.heap.size (entC dg sl rf)) := fun o => below_setRow (bZ) (Nat.le_refl _) _
  have hlt3 := Zz0 H3.out.1
  refine Xz0 (fun wx => Hid (wx.heap[w.heap.size]? = some (.cells (entC (zer 32) 0 0) 70) ∧ wx.heap[w3.heap.size]? = some (.cells (entC dg sl rf) 70) ∧ Below w.heap.size w wx)) (hZ ⟨((hbx _).block _ hlt3).trans H3.out.1, setRow_heap _ _ _ _ _ (0, 0) (heap_alloc_new w3 _), H3.out.2.trans ((hbx _).mono H3.out.2.size)⟩) ?_
  clear hbx H3
  generalize w3.heap.size = b6 at hlt3 ⊢
  intro w4 H4
  have hes := Wzg hdg sl rf
  cases he : isEnt pg with
  | true =>
    go_wp2_with (first | (refine ent_load rfl (.tmp 6) rfl b6 dg sl rf rfl H4.out.2.1 hdg ?_) | (refine Zza rfl (.tmp 4) (.tmp 41) rfl w.heap.size dg (zer 32) sl rf 0 0 rfl rfl H4.out.1 hdg rfl ?_))
    obtain ⟨e1, e2, e3⟩ := (by have := HDP.out; rw [he] at this; exact this : dg = pDg pg ∧ sl = pSlot pg ∧ rf = pRefs pg)
    refine bodyPost_ret (Vz3 Tryz.results86 _ _ w.heap.size 70 (entC dg sl rf) (0, 0) _ rfl .nilIface rfl (setRow_heap _ _ _ _ _ (0, 0) H4.out.1) Tryz.underlying70 rfl (by rw [hes]; exact Vza)) rfl ⟨?_, below_setRow H4.out.2.2 (Nat.le_refl _) _⟩
    unfold GetP
    rw [he, e1, e2, e3]
  | false =>
    go_wp2_with fail
    refine (woe_num _ 23 w4).mono ?_
    rintro e w5 ⟨⟨t, x, rfl, hev⟩, hb5⟩
    have HE := hZ hev
    have H5 : Hid (w5.heap[w.heap.size]? = some (.cells (entC (zer 32) 0 0) 70) ∧ w5.heap[b6]? = some (.cells (entC dg sl rf) 70) ∧ Below w.heap.size w w5) := hZ ⟨(hb5.block _ (Zz0 H4.out.1)).trans H4.out.1, (hb5.block _ (Zz0 H4.out.2.1)).trans H4.out.2.1, H4.out.2.2.trans (hb5.mono H4.out.2.2.size)⟩
    clear hev hb5 H4
    try dsimp only
    go_wp2_with (first | (refine ent_load rfl (.tmp 6) rfl b6 dg sl rf rfl H5.out.2.1 hdg ?_) | (refine Zza rfl (.tmp 4) (.tmp 41) rfl w.heap.size dg (zer 32) sl rf 0 0 rfl rfl H5.out.1 hdg rfl ?_))
    obtain ⟨e1, e2, e3⟩ := (by have := HDP.out; rw [he] at this; exact this : dg = zer 32 ∧ sl = 0 ∧ rf = 0)
    refine bodyPost_ret (Vz3 Tryz.results86 _ _ w.heap.size 70 (entC dg sl rf) (0, 0) _ rfl (.iface t x) rfl (setRow_heap _ _ _ _ _ (0, 0) H5.out.1) Tryz.underlying70 rfl (by rw [hes]; exact Vza)) rfl ⟨?_, below_setRow H5.out.2.2 (Nat.le_refl _) _⟩
    unfold GetP
    rw [he, e1, e2, e3]
    exact ⟨t, x, rfl, HE.out.setRow H5.out.1 (by decide) _⟩
open Go.RowKit Go.Maps
def setQ (sl rf : Int) : List Int := ((((zer 64).set 0 1).set 1 (sl % 256)).set 2 (sl / 256 % 256)).set 3 (rf % 256)
def setP (dg : List Int) (sl rf : Int) : List Int := if 0 < rf then (setQ sl rf).take 8 ++ (dg ++ (setQ sl rf).drop (8 + dg.length)) else zer 64
theorem setQ_eq (sl rf : Int) : setQ sl rf = [1, sl % 256, sl / 256 % 256, rf % 256] ++ zer 60 := rfl
theorem setP_pos (dg : List Int) (sl rf : Int) (hl : dg.length = 32) (hr : 0 < rf) : setP dg sl rf = [1, sl % 256, sl / 256 % 256, rf % 256, 0, 0, 0, 0] ++ (dg ++ zer 24) := by
  unfold setP
  rw [if_pos hr, hl, setQ_eq]
  rfl
theorem setP_ok (dg : List Int) (sl rf : Int) (hd : dg.length = 32 ∧ U8s dg) : PgOk (setP dg sl rf) := by
  by_cases hr : 0 < rf
  · rw [setP_pos dg sl rf hd.1 hr]
    refine ⟨by simp [hd.1, zer], fun x hx => ?_⟩
    rcases List.mem_append.1 hx with hx | hx
    · simp only [List.mem_cons, List.not_mem_nil, or_false] at hx
      rcases hx with rfl | rfl | rfl | rfl | rfl | rfl | rfl | rfl <;> omega
    · rcases List.mem_append.1 hx with hx | hx
      · exact hd.2 x hx
      · exact zer_u8 24 x hx
  · unfold setP; rw [if_neg hr]; exact zer_pg
theorem setP_is (dg : List Int) (sl rf : Int) (hl : dg.length = 32) : isEnt (setP dg sl rf) = decide (0 < rf) := by
  by_cases hr : 0 < rf
  · rw [setP_pos dg sl rf hl hr, decide_eq_true hr]; rfl
  · unfold setP; rw [if_neg hr, decide_eq_false hr]; rfl
theorem setP_dg (dg : List Int) (sl rf : Int) (hl : dg.length = 32) (hr : 0 < rf) : pDg (setP dg sl rf) = dg := by
  rw [setP_pos dg sl rf hl hr]
  unfold pDg
  rw [List.drop_append_of_le_length (by simp)]
  simp [hl]
theorem or_zero (x : Int) (hx : 0 ≤ x ∧ x < 256) : bits BinOp.or IntKind.i64 x (0 * 256) = x := by
  have key : ∀ n : Nat, n < 256 → bits BinOp.or IntKind.i64 (n : Int) (0 * 256) = (n : Int) := by decide +kernel
  have := key x.toNat (by omega)
  rw [Int.toNat_of_nonneg hx.1] at this
  exact this
theorem setP_slot (dg : List Int) (sl rf : Int) (hl : dg.length = 32) (hr : 0 < rf) (hs : 0 ≤ sl ∧ sl < 256) : pSlot (setP dg sl rf) = sl := by
  rw [setP_pos dg sl rf hl hr]
  show bits BinOp.or IntKind.i64 (sl % 256) (sl / 256 % 256 * 256) = sl
  rw [show sl / 256 % 256 = 0 by omega, show sl % 256 = sl by omega]
  exact or_zero sl hs
theorem setP_refs (dg : List Int) (sl rf : Int) (hl : dg.length = 32) (hr : 0 < rf) (hs : rf ≤ 15) : pRefs (setP dg sl rf) = rf := by
  rw [setP_pos dg sl rf hl hr]
  show rf % 256 = rf
  omega
theorem TabI.drop {w : World} {tb : Nat} {N N' : Nat → Prop} {bb first n : Nat} {B : BookS} (h : TabI w tb N bb first n B) (hn : ∀ k, N' k → N k) : TabI w tb N' bb first n B :=
  h.keep (Below.refl _ _) (fun k hk => ⟨h.N_lt k (hn k hk), .inl (hn k hk)⟩)
theorem BookS.wrote_n (B : BookS) (i : Nat) (p : List Int) : (B.wrote i p).n = B.n := by
  unfold BookS.wrote; split <;> rfl
def StF (tb b7 : Nat) (cs : Array Value) (p : List Int) (wx : World) : Prop := wx.heap[tb]? = some (.cells cs 190) ∧ wx.heap[b7]? = some (.cells (v8a p) 37)
set_option maxRecDepth 100000 in
set_option maxHeartbeats 4000000 in
theorem set_any (tb : Nat) (N : Nat → Prop) (bb first n : Nat) (B : BookS) (i : Nat) (hi : i < n) (dg : List Int) (sl rf : Int) (hd : dg.length = 32 ∧ U8s dg) (hs : 0 ≤ sl ∧ sl < 256) (hr : 0 ≤ rf ∧ rf ≤ 15)
    (hc : (B.f (first + i)).isSome = true ∨ B.view (first + i) = setP dg sl rf ∨ (keysF B.f B.n).length ≠ 60) (w : World) (h : TabI w tb N bb first n B) :
    Calls Tryz.prog 34 #[.pointer (some ⟨tb, 0, none⟩), .int .i64 (i : Int), .agg (entC dg sl rf)] w fun e w' => e = .returned .nilIface ∧ TabI w' tb N bb first n (B.wrote (first + i) (setP dg sl rf)) ∧ Keeps N w w' := by
  have HT := hZ h
  have hn1 := h.2.2.2.1
  have hn2 := h.2.1.isOk.n.2
  have HC := hZ hc
  have hb0 : ∀ o : Obj, Below w.heap.size w (w.alloc o) := fun o => bZ
  clear h hc
  have hi0 : (0 : Int) ≤ i := by omega
  have hi1 : (i : Int) < n := by omega
  have hf0 : (0 : Int) ≤ first := by omega
  have hf1 : (first : Int) + n ≤ 2048 := by omega
  obtain ⟨hs0, hs1⟩ := hs
  obtain ⟨hr0, hr1⟩ := hr
  go_enter Tryz.func34, Tryz.ntmps34
  repeat ((fail_if_success (with_reducible refine Vz1 "prints.go:56" rfl ?_)); (first | go_values | go_skip | go_guarded | go_step | go_upon))
  refine Xz0 (fun wx => Hid (wx.heap[w.heap.size]? = some (.cells (entC dg sl rf) 70) ∧ Below w.heap.size w wx)) (hZ ⟨heap_alloc_new w (.cells (entC dg sl rf) 70), hb0 _⟩) ?_
  clear hb0
  intro w1 H1
  have HT1 := hZ (HT.out.below H1.out.2)
  obtain ⟨z0, z1, z2⟩ := blk3 HT1.out.1
  obtain ⟨c1, c2⟩ := Kzg hd.1 H1.out.1
  have hlt := Zz0 H1.out.1
  obtain ⟨pg, hpg⟩ : ∃ pg, setP dg sl rf = pg := ⟨_, rfl⟩
  have HPG := hZ hpg
  have HPK : Hid (PgOk pg) := hZ (by rw [← hpg]; exact setP_ok dg sl rf hd)
  by_cases hrf : 0 < rf
  · have HP1 : Hid ((setQ sl rf).take 8 ++ (dg ++ (setQ sl rf).drop (8 + dg.length)) = pg) := hZ (by rw [← hpg]; unfold setP; rw [if_pos hrf])
    clear hpg
    repeat ((fail_if_success (with_reducible refine Vz1 "prints.go:57" rfl ?_)); (first | go_values | go_skip | go_guarded | go_step | go_upon))
    repeat ((fail_if_success (with_reducible refine Vz1 "prints.go:59" rfl ?_)); (first | go_values | go_skip | go_guarded | go_step | go_upon))
    repeat ((fail_if_success (with_reducible refine Vz1 "prints.go:60" rfl ?_)); (first | go_values | go_skip | go_guarded | go_step | go_upon))
    repeat ((fail_if_success (with_reducible refine Vz1 "prints.go:61" rfl ?_)); (first | go_values | go_skip | go_guarded | go_step | go_upon))
    repeat ((fail_if_success (with_reducible refine Vz1 "prints.go:62" rfl ?_)); (first | go_values | go_skip | go_guarded | go_step | go_upon))
    have h65 : sl % 256 = sl := by omega
    have hbx : ∀ o : Obj, Below w1.heap.size w1 (w1.alloc o) := fun o => bZ
    refine Kz0 (fun wx => Hid (wx.heap[w1.heap.size]? = some (.cells (v8a (setQ sl rf)) 37) ∧ wx.heap[w.heap.size]? = some (.cells (entC dg sl rf) 70) ∧ Below w1.heap.size w1 wx)) (hZ ⟨?_, ((hbx _).block _ hlt).trans H1.out.1, hbx _⟩) ?_
    · rw [heap_alloc_new, setQ_eq, show rf % 256 = rf by omega, show sl / 256 % 256 = sl / 256 by omega, h65]
      rfl
    clear hbx h65
    have hb7 : w1.heap.size ≤ w1.heap.size := Nat.le_refl _
    generalize hgb : w1.heap.size = b7 at hb7 ⊢
    have HGB := hZ hgb
    clear hgb z0 z1 z2 c1 c2
    intro w2 H2
    have hq64 : (setQ sl rf).length = 64 := by simp [setQ, zer]
    refine Zz3 3 (fun w' => ∃ p : Regrown, w' = Go.Sort.grow (redrawn w2 p.d) p.os) (by kernel_rfl) (by kernel_rfl) (fun _ _ d _ _ h => by cases d <;> exact h) (Vz2 _) ?_
    simp only [List.take_succ_cons, List.take_zero]
    repeat (go_big_quiet_step (fail))
    with_reducible refine wpQuiet_nil ?_
    with_reducible refine mix_a ?_; simp only [qd1, qd0, qt1, qt0]
    have hdg8 : (v8 dg).length = 32 := by rw [Wz0, hd.1]
    refine wpList_copy_own rfl (.tmp 61) (.tmp 63) 118 118 rfl 5 Tryz.underlying118 (by kernel_rfl) b7 8 56 56 ⟨w.heap.size, 0, none⟩ 32 32 rfl rfl (v8a (setQ sl rf)) 37 (show w2.drew.heap[b7]? = _ from H2.out.1) (v8 dg) hdg8 ?hsrc ?k2 (Kz7 _) ?_
    case hsrc =>
      intro j v hj
      have h1 := ent_rdg (w := w2.drew) H2.out.2.1 j v hj
      have ea : (⟨w.heap.size, 0, none⟩ : Addr).add j = ⟨w.heap.size, 0 + j, none⟩ := by unfold Addr.add; split <;> simp_all
      rw [ea]; exact h1
    case k2 => rw [pgsz hq64, hdg8]; decide
    rw [set_row_v8, HP1.out]
    have hl7 := Zz0 H2.out.1
    refine Xz0 (fun wx => Hid (TabI wx tb (fun k => N k ∨ k = b7) bb first n B ∧ wx.heap[b7]? = some (.cells (v8a pg) 37) ∧ Keeps N w wx)) (hZ ⟨?_, setRow_heap _ _ _ _ _ (0, 0) (show w2.drew.heap[b7]? = _ from H2.out.1), ?_⟩) ?_
    · have hbb : Below w1.heap.size w1 (w2.drew.setRow b7 (v8a pg)) := below_setRow (by rw [HGB.out]; exact H2.out.2.2.drew) (by rw [HGB.out]; exact Nat.le_refl _) _
      refine HT1.out.keep hbb (fun k hk => ?_)
      rcases hk with hk | hk
      · exact ⟨Nat.lt_of_lt_of_le (HT1.out.N_lt k hk) hbb.size, .inl hk⟩
      · subst hk; exact ⟨by simp [World.setRow]; exact hl7, .inr (by rw [HGB.out]; exact Nat.le_refl _)⟩
    · have hbb : Below w1.heap.size w1 (w2.drew.setRow b7 (v8a pg)) := below_setRow (by rw [HGB.out]; exact H2.out.2.2.drew) (by rw [HGB.out]; exact Nat.le_refl _) _
      exact Keeps.of_below (H1.out.2.trans (hbb.mono H1.out.2.size))
    clear H2
    intro w3 H3
    simp only [Act.put, qs0, qs1, qs2]
    with_reducible refine wpList_nil ?_
    refine Qz0 ⟨fun h => absurd h (by simp), Wz1 ?_⟩
    go_wp2_with fail
    obtain ⟨z0, z1, z2⟩ := blk3 H3.out.1.1
    have HWB := hZ (fun wy (hy : BookI wy bb (fun k => (N k ∨ k = b7) ∨ k = tb) B) => Qz8 bb _ B (first + i) pg (by omega) HPK.out (by rw [← HPG.out]; exact HC.out) wy hy)
    have r0 : ∀ q : SatW (StF tb b7 (tabC bb first n) pg), q.w.cell? ⟨tb, 0, none⟩ = some (.pointer (some ⟨bb, 0, none⟩)) := fun q => (blk3 q.h.1).1
    have r1 : ∀ q : SatW (StF tb b7 (tabC bb first n) pg), q.w.cell? ⟨tb, 1, none⟩ = some (.int .i64 (first : Int)) := fun q => (blk3 q.h.1).2.1
    have hne : Nonempty (SatW (StF tb b7 (tabC bb first n) pg)) := ⟨⟨_, (show StF tb b7 (tabC bb first n) pg w3.drew from ⟨H3.out.1.1, H3.out.2.1⟩)⟩⟩
    refine Vz0 [(0, true), (1, true), (2, true), (3, true), (4, true), (5, true), (6, true), (7, true), (8, true), (9, true), (10, true), (11, false), (12, false), (13, true)] 13 (fun w' => ∃ p : SatW (StF tb b7 (tabC bb first n) pg), w' = p.w) (by kernel_rfl) (by kernel_rfl) (fun _ _ d _ _ h => by cases d <;> exact h) (Jz3 (show StF tb b7 (tabC bb first n) pg w3.drew from ⟨H3.out.1.1, H3.out.2.1⟩)) ?_
    (repeat (with_reducible refine mix_q ?_; simp only [qd1, qd0, qt1, qt0]; go_big_quiet_step (fail); with_reducible refine wpQuiet_nil ?_))
    with_reducible refine mix_q ?_
    simp only [qd1, qd0, qt1, qt0]
    go_big_quiet_want
    refine Zz6 (.tmp 7) rfl b7 pg rfl (fun w' hw' => by obtain ⟨q, rfl⟩ := hw'; exact q.h.2) HPK.out.1 ?_
    simp only [Act.put, qs0, qs1, qs2]
    go_big_quiet_on
    with_reducible refine wpQuiet_nil ?_
    with_reducible refine mix_a ?_; simp only [qd1, qd0, qt1, qt0]
    have hWB := HWB.out w3.drew (H3.out.1.2.1.below (Below.refl _ _).drew)
    rw [show ((first + i : Nat) : Int) = (first : Int) + (i : Int) by omega] at hWB
    go_wp2_with fail
    refine hWB.mono ?_
    clear hWB HWB
    rintro e wy ⟨rfl, hby, hky⟩
    have hky' := (Keeps.drew _ w3).trans hky
    have HY : Hid (TabI wy tb (fun k => N k ∨ k = b7) bb first n (B.wrote (first + i) pg) ∧ wy.heap[b7]? = some (.cells (v8a pg) 37) ∧ Keeps N w wy) := hZ ⟨⟨hky'.blk (.inr rfl) H3.out.1.1, hby, H3.out.1.2.2.1, by rw [BookS.wrote_n]; exact H3.out.1.2.2.2.1, H3.out.1.2.2.2.2⟩, hky'.blk (.inl (.inr rfl)) H3.out.2.1, H3.out.2.2.trans (hky'.mono (fun k _ hk => .inl (.inl hk)))⟩
    clear hby hky hky' H3
    try dsimp only
    go_wp2_with fail
    try with_reducible refine wpList_nil ?_
    with_reducible refine Qz0 ?_
    refine ⟨fun _ => Jz3 (F := StF tb b7 (tabC bb first n) pg) ⟨HY.out.1.1, HY.out.2.1⟩, ?_⟩
    with_reducible refine mix_a ?_; simp only [qd1, qd0, qt1, qt0]
    go_wp2_with fail
    refine (Qzc _ wy).mono ?_
    rintro e wz ⟨rfl, rfl⟩
    try dsimp only
    go_wp2_with fail
    try with_reducible refine wpList_nil ?_
    with_reducible refine Qz0 ?_
    refine ⟨fun _ => Jz3 (F := StF tb b7 (tabC bb first n) pg) ⟨HY.out.1.1, HY.out.2.1⟩, ?_⟩
    (repeat (with_reducible refine mix_q ?_; simp only [qd1, qd0, qt1, qt0]; go_big_quiet_step (fail); with_reducible refine wpQuiet_nil ?_))
    with_reducible refine Wz1 ?_
    go_wp2_with fail
    go_ret
    exact ⟨rfl, by rw [HPG.out]; exact HY.out.1.drop (fun k hk => .inl hk), HY.out.2.2⟩
  · have HP1 : Hid (zer 64 = pg) := hZ (by rw [← hpg]; unfold setP; rw [if_neg hrf])
    clear hpg
    repeat ((fail_if_success (with_reducible refine Vz1 "prints.go:57" rfl ?_)); (first | go_values | go_skip | go_guarded | go_step | go_upon))
    repeat ((fail_if_success (with_reducible refine Vz1 "prints.go:59" rfl ?_)); (first | go_values | go_skip | go_guarded | go_step | go_upon))
    repeat ((fail_if_success (with_reducible refine Vz1 "prints.go:60" rfl ?_)); (first | go_values | go_skip | go_guarded | go_step | go_upon))
    repeat ((fail_if_success (with_reducible refine Vz1 "prints.go:64" rfl ?_)); (first | go_values | go_skip | go_guarded | go_step | go_upon))
    have hbx : ∀ o : Obj, Below w1.heap.size w1 (w1.alloc o) := fun o => bZ
    refine Kz0 (fun wx => Hid (TabI wx tb (fun k => N k ∨ k = w1.heap.size) bb first n B ∧ wx.heap[w1.heap.size]? = some (.cells (v8a pg) 37) ∧ Keeps N w wx)) (hZ ⟨HT1.out.keep (hbx _) (fun k hk => ?_), by rw [← HP1.out]; exact heap_alloc_new w1 _, Keeps.of_below (H1.out.2.trans ((hbx _).mono H1.out.2.size))⟩) ?_
    · rcases hk with hk | hk
      · exact ⟨Nat.lt_of_lt_of_le (HT1.out.N_lt k hk) (hbx _).size, .inl hk⟩
      · subst hk; exact ⟨by simp, .inr (Nat.le_refl _)⟩
    clear hbx z0 z1 z2 c1 c2
    generalize w1.heap.size = b7
    intro w3 H3
    obtain ⟨z0, z1, z2⟩ := blk3 H3.out.1.1
    have HWB := hZ (fun wy (hy : BookI wy bb (fun k => (N k ∨ k = b7) ∨ k = tb) B) => Qz8 bb _ B (first + i) pg (by omega) HPK.out (by rw [← HPG.out]; exact HC.out) wy hy)
    have r0 : ∀ q : SatW (StF tb b7 (tabC bb first n) pg), q.w.cell? ⟨tb, 0, none⟩ = some (.pointer (some ⟨bb, 0, none⟩)) := fun q => (blk3 q.h.1).1
    have r1 : ∀ q : SatW (StF tb b7 (tabC bb first n) pg), q.w.cell? ⟨tb, 1, none⟩ = some (.int .i64 (first : Int)) := fun q => (blk3 q.h.1).2.1
    have hne : Nonempty (SatW (StF tb b7 (tabC bb first n) pg)) := ⟨⟨_, (show StF tb b7 (tabC bb first n) pg w3.drew from ⟨H3.out.1.1, H3.out.2.1⟩)⟩⟩
    refine Vz0 [(0, true), (1, true), (2, true), (3, true), (4, true), (5, true), (6, true), (7, true), (8, true), (9, true), (10, true), (11, false), (12, false), (13, true)] 13 (fun w' => ∃ p : SatW (StF tb b7 (tabC bb first n) pg), w' = p.w) (by kernel_rfl) (by kernel_rfl) (fun _ _ d _ _ h => by cases d <;> exact h) (Jz3 (show StF tb b7 (tabC bb first n) pg w3.drew from ⟨H3.out.1.1, H3.out.2.1⟩)) ?_
    (repeat (with_reducible refine mix_q ?_; simp only [qd1, qd0, qt1, qt0]; go_big_quiet_step (fail); with_reducible refine wpQuiet_nil ?_))
    with_reducible refine mix_q ?_
    simp only [qd1, qd0, qt1, qt0]
    go_big_quiet_want
    refine Zz6 (.tmp 7) rfl b7 pg rfl (fun w' hw' => by obtain ⟨q, rfl⟩ := hw'; exact q.h.2) HPK.out.1 ?_
    simp only [Act.put, qs0, qs1, qs2]
    go_big_quiet_on
    with_reducible refine wpQuiet_nil ?_
    with_reducible refine mix_a ?_; simp only [qd1, qd0, qt1, qt0]
    have hWB := HWB.out w3.drew (H3.out.1.2.1.below (Below.refl _ _).drew)
    rw [show ((first + i : Nat) : Int) = (first : Int) + (i : Int) by omega] at hWB
    go_wp2_with fail
    refine hWB.mono ?_
    clear hWB HWB
    rintro e wy ⟨rfl, hby, hky⟩
    have hky' := (Keeps.drew _ w3).trans hky
    have HY : Hid (TabI wy tb (fun k => N k ∨ k = b7) bb first n (B.wrote (first + i) pg) ∧ wy.heap[b7]? = some (.cells (v8a pg) 37) ∧ Keeps N w wy) := hZ ⟨⟨hky'.blk (.inr rfl) H3.out.1.1, hby, H3.out.1.2.2.1, by rw [BookS.wrote_n]; exact H3.out.1.2.2.2.1, H3.out.1.2.2.2.2⟩, hky'.blk (.inl (.inr rfl)) H3.out.2.1, H3.out.2.2.trans (hky'.mono (fun k _ hk => .inl (.inl hk)))⟩
    clear hby hky hky' H3
    try dsimp only
    go_wp2_with fail
    try with_reducible refine wpList_nil ?_
    with_reducible refine Qz0 ?_
    refine ⟨fun _ => Jz3 (F := StF tb b7 (tabC bb first n) pg) ⟨HY.out.1.1, HY.out.2.1⟩, ?_⟩
    with_reducible refine mix_a ?_; simp only [qd1, qd0, qt1, qt0]
    go_wp2_with fail
    refine (Qzc _ wy).mono ?_
    rintro e wz ⟨rfl, rfl⟩
    try dsimp only
    go_wp2_with fail
    try with_reducible refine wpList_nil ?_
    with_reducible refine Qz0 ?_
    refine ⟨fun _ => Jz3 (F := StF tb b7 (tabC bb first n) pg) ⟨HY.out.1.1, HY.out.2.1⟩, ?_⟩
    (repeat (with_reducible refine mix_q ?_; simp only [qd1, qd0, qt1, qt0]; go_big_quiet_step (fail); with_reducible refine wpQuiet_nil ?_))
    with_reducible refine Wz1 ?_
    go_wp2_with fail
    go_ret
    exact ⟨rfl, by rw [HPG.out]; exact HY.out.1.drop (fun k hk => .inl hk), HY.out.2.2⟩
open Go.RowKit Go.Maps
set_option maxRecDepth 100000 in
theorem bookPages_any (bb : Nat) (N : Nat → Prop) (B : BookS) (w : World) (h : BookI w bb N B) : Calls Tryz.prog 18 #[.pointer (some ⟨bb, 0, none⟩)] w fun e w' => e = .returned (.int .i64 (B.n : Int)) ∧ w = w' := by
  obtain ⟨db, rb, nb, ov, hX⟩ := h
  obtain ⟨z0, z1, z2, z3, z4, z5, z6, z7, _⟩ := Xz1 hX.cells
  clear hX
  go_enter Tryz.func18, Tryz.ntmps18
  go_wp2_with fail
  go_ret
  exact ⟨rfl, rfl⟩
set_option maxRecDepth 100000 in
set_option maxHeartbeats 1000000 in
theorem printsNew_any (bb first n : Nat) (N : Nat → Prop) (B : BookS) (hn : 1 ≤ n ∧ first + n ≤ B.n) (w : World) (h : BookI w bb N B) :
    Calls Tryz.prog 31 #[.pointer (some ⟨bb, 0, none⟩), .int .i64 (first : Int), .int .i64 (n : Int)] w fun e w' => (∃ tb, e = .returned (.tuple #[.pointer (some ⟨tb, 0, none⟩), .nilIface]) ∧ w.heap.size ≤ tb ∧ TabI w' tb N bb first n B) ∧ Below w.heap.size w w' := by
  have HB := hZ h
  have hbn := h.isOk.n.2
  obtain ⟨hn1, hn2⟩ := hn
  have hP := bookPages_any bb N B w h
  clear h
  have g1 : (1 : Int) ≤ n := by omega
  have g2 : (0 : Int) ≤ first := by omega
  have g3 : (first : Int) + n ≤ B.n := by omega
  have g4 : (B.n : Int) ≤ 2048 := by omega
  go_enter Tryz.func31, Tryz.ntmps31
  go_wp2_with fail
  refine hP.mono ?_
  rintro e w1 ⟨rfl, rfl⟩
  try dsimp only
  go_wp2_with fail
  go_ret2
  have hb : ∀ o : Obj, Below w.heap.size w (w.alloc o) := fun o => bZ
  refine ⟨⟨_, rfl, Nat.le_refl _, heap_alloc_new w _, HB.out.keep (hb _) (fun k hk => ?_), fun hN => ?_, hn2, hn1⟩, hb _⟩
  · rcases hk with hk | hk
    · have := HB.out.N_lt k hk; exact ⟨by simp; omega, .inl hk⟩
    · subst hk; exact ⟨by simp, .inr (Nat.le_refl _)⟩
  · have := HB.out.N_lt _ hN; omega
theorem BookS.wrote_view (B : BookS) (i : Nat) (p : List Int) (j : Nat) : (B.wrote i p).view j = if j = i then p else B.view j := by
  have hb : ∀ k, B.begun.view k = B.view k := fun k => by
    unfold BookS.view
    rw [BookS.bind_f, BookS.bind_f]
    rfl
  unfold BookS.wrote
  split
  · rename_i h
    by_cases e : j = i
    · subst e
      rw [if_pos rfl]
      unfold BookS.view
      simp [putF]
    · rw [if_neg e, ← hb j]
      unfold BookS.view
      simp [putF, e, BookS.begun]
  · rename_i h
    by_cases e : j = i
    · subst e
      rw [if_pos rfl, hb]
      simp only [not_or, ne_eq, Decidable.not_not] at h
      exact h.2
    · rw [if_neg e, hb]
def BookS.cnt (B : BookS) : Nat := (keysF B.f B.n).length
theorem BookS.wrote_f (B : BookS) (i : Nat) (p : List Int) (j : Nat) : (B.wrote i p).f j = B.f j ∨ (j = i ∧ (B.wrote i p).f j = some p) := by
  unfold BookS.wrote
  split
  · by_cases e : j = i
    · right; subst e; exact ⟨rfl, by simp [BookS.f, putF]⟩
    · left; simp [BookS.f, putF, e]
  · left; rfl
theorem BookS.wrote_cnt (B : BookS) (i : Nat) (p : List Int) (hi : i < B.n) : (B.wrote i p).cnt ≤ B.cnt + 1 := by
  unfold BookS.wrote
  split
  · show (keysF (putF B.f i p) B.n).length ≤ _
    rw [Vzd _ _ _ _ hi]
    unfold BookS.cnt
    split <;> omega
  · show (keysF B.f B.n).length ≤ _
    unfold BookS.cnt; omega
theorem zero_view (s i : Nat) (hi : i < s) : (⟨List.replicate s (zer 64), []⟩ : DiskS).view i = zer 64 := by
  unfold DiskS.view
  rw [lastOf_nil]
  show (List.replicate s (zer 64)).getD i [] = _
  rw [List.getD_eq_getElem?_getD, List.getElem?_replicate, if_pos hi]; rfl
open Go.RowKit Go.Maps
def entN (B : BookS) (first n : Nat) : List Nat := (List.range n).filter fun p => isEnt (B.view (first + p))
theorem entN_succ (B : BookS) (first n : Nat) : entN B first (n + 1) = if isEnt (B.view (first + n)) = true then entN B first n ++ [n] else entN B first n := by
  unfold entN
  rw [List.range_succ, List.filter_append]
  by_cases h : isEnt (B.view (first + n)) = true
  · rw [if_pos h]; simp [h]
  · rw [if_neg h]; simp [h]
theorem entN_le (B : BookS) (first n : Nat) : (entN B first n).length ≤ n := by
  have := List.length_filter_le (fun p => isEnt (B.view (first + p))) (List.range n)
  rwa [List.length_range] at this
def natsI (l : List Nat) : List Value := l.map fun i : Nat => .int .i64 (i : Int)
theorem lookC_cells (p : List Int) (hp : p.length = 64) : ∃ dg sl rf, lookC p = entC dg sl rf ∧ dg.length = 32 := by
  unfold lookC
  split
  · exact ⟨_, _, _, rfl, Wzi hp⟩
  · exact ⟨_, _, _, rfl, rfl⟩
set_option maxRecDepth 100000 in
set_option maxHeartbeats 4000000 in
theorem all_any (tb : Nat) (N : Nat → Prop) (bb first n : Nat) (B : BookS) (w : World) (h : TabI w tb N bb first n B) :
    Calls Tryz.prog 89 #[.pointer (some ⟨tb, 0, none⟩)] w fun e w' => (∃ a c, e = .returned (.tuple #[.slice a (entN B first n).length c, .nilIface]) ∧ w'.ownsRow w.heap.size 3 1 (.slice a (entN B first n).length c) (entN B first n).length (natsI (entN B first n))) ∧ Below w.heap.size w w' := by
  have HT := hZ h
  have hok := h.2.1.isOk
  have hn1 := h.2.2.2.1
  have hn2 := hok.n.2
  have HV : Hid (∀ i, i < n → PgOk (B.view (first + i))) := hZ (fun i hi => BookS.view_ok hok _ (by omega))
  have hLK := hZ (fun wx (hb : Below w.heap.size w wx) (i : Nat) (hi : i < n) => look_any tb N bb first n B i hi wx (HT.out.below hb))
  obtain ⟨z0, z1, z2⟩ := blk3 h.1
  obtain ⟨i0, hi0', hz0, hz1, hz2⟩ := info_parts info_int
  have HI := hZ (And.intro hi0' (And.intro hz0 (And.intro hz1 hz2)))
  clear h hok hi0' hz0 hz1 hz2
  go_enter Tryz.func89, Tryz.ntmps89
  go_wp2_with fail
  clear z0 z1 z2
  go_loopw [4, 17] (fun lv iv wr => ∃ (i : Nat) (a : Option Addr) (c : Nat) (l : List Nat), iv = .int .i64 (i : Int) ∧ i ≤ n ∧ lv = .slice a l.length c ∧ Hid (l = entN B first i) ∧ Hid (wr.ownsRow w.heap.size 3 1 (.slice a l.length c) l.length (natsI l) ∧ Below w.heap.size w wr)) (fun _ iv _ => n + 1 - (intOf iv).toNat)
  case atStart => exact ⟨0, none, 0, [], rfl, by omega, rfl, hZ rfl, hZ ⟨World.ownsRow_nil _ _ _ _, Below.refl _ _⟩⟩
  case round =>
    obtain ⟨i, a, c, l, rfl, hi, rfl, HL, HO⟩ := hrel
    have hll : l.length ≤ 2048 := by have := entN_le B first i; rw [HL.out]; omega
    by_cases hlt : i < n
    · have hi1 : (i : Int) < n := by omega
      have hi2 : (n : Int) ≤ 2048 := by omega
      have hLi := hLK.out wr HO.out.2 i hlt
      have HNX := hZ (entN_succ B first i)
      rw [← HL.out] at HNX
      have HPK := hZ (HV.out i hlt)
      generalize B.view (first + i) = pg at hLi HNX HPK
      obtain ⟨dg, sl, rf, hlk, hdl⟩ := lookC_cells pg HPK.out.1
      rw [hlk] at hLi
      clear hlk
      go_wp2_with fail
      refine hLi.mono ?_
      clear hLi
      rintro e w2 ⟨rfl, hb2⟩
      have H2 : Hid (w2.ownsRow w.heap.size 3 1 (.slice a l.length c) l.length (natsI l) ∧ Below w.heap.size w w2) := hZ ⟨Xz5 HO.out.1 (fun k hk => hb2.block k (HO.out.1.lt k hk).2), HO.out.2.trans (hb2.mono HO.out.2.size)⟩
      clear hb2 HO
      try dsimp only
      repeat ((fail_if_success (with_reducible refine Kz1 27 rfl ?_)); (first | (refine Zza rfl (.tmp 6) (.tmp 24) rfl w2.heap.size dg (zer 32) sl rf 0 0 rfl rfl (heap_alloc_new w2 _) hdl rfl ?_) | go_values | go_skip | go_guarded | go_step | go_upon))
      have hbx : ∀ o : Obj, Below w2.heap.size w2 ((w2.alloc o).setRow w2.heap.size (entC dg sl rf)) := fun o => below_setRow (bZ) (Nat.le_refl _) _
      refine Xz0 (fun wx => Hid (wx.ownsRow w.heap.size 3 1 (.slice a l.length c) l.length (natsI l) ∧ Below w.heap.size w wx)) (hZ ⟨Xz5 H2.out.1 (fun k hk => (hbx _).block k (H2.out.1.lt k hk).2), H2.out.2.trans ((hbx _).mono H2.out.2.size)⟩) ?_
      clear hbx H2
      generalize w2.heap.size = b6
      intro w3 H3
      obtain ⟨t, ht⟩ : ∃ t, isEnt pg = t := ⟨_, rfl⟩
      rw [ht] at HNX ⊢
      clear ht
      cases t with
      | true =>
        rw [if_pos rfl] at HNX
        repeat ((fail_if_success (with_reducible refine Kz1 34 rfl ?_)); (first | go_values | go_skip | go_guarded | go_step | go_upon))
        refine Jz2 rfl (.tmp 31) (.tmp 33) 33 rfl w.heap.size 3 i0 (.int .i64 0) 1 8 Tryz.underlying33 HI.out.1 HI.out.2.1 HI.out.2.2.1 HI.out.2.2.2 rfl (by decide) (.slice a l.length c) l.length (natsI l) rfl ?c0 (.slice (some ⟨w3.heap.size, 0, none⟩) 1 1) 1 [.int .i64 (i : Int)] rfl (Xz9 w3 [.int .i64 (i : Int)] 3 1 rfl (by intro u hu; rw [List.mem_singleton] at hu; subst hu; rfl)) ?c1 ?c2 ?c3 ?_
        case c0 => exact Vz4 H3.out.1 (bZ)
        case c1 => unfold maxLen; omega
        case c2 => omega
        case c3 => have := H3.out.2.size; simp; omega
        intro v4 w4 ho4 hg4
        obtain ⟨a4, c4, rfl⟩ := Kz3 ho4
        have hlen : (l ++ [i]).length = l.length + 1 := by simp
        have H4 : Hid (w4.ownsRow w.heap.size 3 1 (.slice a4 (l ++ [i]).length c4) (l ++ [i]).length (natsI (l ++ [i])) ∧ Below w.heap.size w w4) := hZ ⟨by rw [hlen]; simpa [natsI] using ho4, (H3.out.2.trans ((bZ).mono H3.out.2.size)).grown hg4 (by have := H3.out.2.size; simp; omega) (fun q hq => (H3.out.1.lt q hq).1)⟩
        clear ho4 hg4 H3
        simp only [Act.put, qs0, qs1, qs2]
        go_wp2_with fail
        exact ⟨⟨i + 1, a4, c4, l ++ [i], by push_cast; rfl, by omega, by rw [hlen], hZ HNX.out.symm, H4⟩, by simp [intOf]; omega⟩
      | false =>
        rw [if_neg (by decide)] at HNX
        go_wp2_with fail
        exact ⟨⟨i + 1, a, c, l, by push_cast; rfl, by omega, rfl, hZ HNX.out.symm, H3⟩, by simp [intOf]; omega⟩
    · have hi1 : ¬ ((i : Int) < n) := by omega
      have hin : i = n := by omega
      have HIN := hZ hin
      clear hin hi
      go_wp2_with fail
      go_ret2
      have hl := HL.out
      rw [HIN.out] at hl
      rw [← hl]
      exact ⟨⟨a, c, rfl, HO.out.1⟩, HO.out.2⟩
open Go.RowKit Go.Maps
def d7 : List Int := 7 :: zer 31
theorem dg_store {ops : Array Oper} {rest : List Oper} {o : Oper} {a : Act} {w : World} {Q : Exit → Act → World → Prop} (hgd : o.guard = none) (x y : Operand) (ho : o.op = .store 67 x y) (g : Nat) (p old : List Int) (hx : a.eval x = .pointer (some ⟨g, 0, none⟩)) (hy : a.eval y = .agg (v8a p))
    (hg : w.heap[g]? = some (.cells (v8a old) 67)) (hp : p.length = 32) (hq : old.length = 32) (h : wpList Tryz.prog ops Q rest (a.put o.dst undef) (w.setRow g (v8a p))) : wpList Tryz.prog ops Q (o :: rest) a w :=
  wpList_store_row hgd _ x y ho g (v8a p) hx hy _ (v8a old) hg (by rw [show (v8a p).size = 32 by simp [v8a, v8, hp]]; exact Vz9) (by simp [v8a, v8, hp, hq]) (Zzg p) h
end Go.Proofs.YtajmcplanlibnaaGreatDoor
