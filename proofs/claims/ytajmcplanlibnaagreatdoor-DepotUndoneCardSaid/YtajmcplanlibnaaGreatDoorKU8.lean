/- The law's call of both depots: unlike answers there are none. -/
import Derived.Test.YtajmcplanlibnaaGreatDoorKU7
import Derived.Test.YtajmcplanlibnaaGreatDoorKU7w
set_option linter.unusedSimpArgs false
set_option linter.unusedVariables false
set_option linter.unnecessarySimpa false
namespace Go.Proofs.YtajmcplanlibnaaGreatDoor
open Go.RowKit Go.Maps
def pg5 (x : Int) : List Int := x :: 5 :: zer 62
theorem pg5_ok (x : Int) (h : 0 ≤ x ∧ x < 256) : PgOk (pg5 x) := by
  refine ⟨by simp [pg5, zer], fun y hy => ?_⟩
  rcases List.mem_cons.1 hy with rfl | hy
  · exact h
  · rcases List.mem_cons.1 hy with rfl | hy
    · decide
    · exact zer_u8 62 y hy
theorem built_pg5 (x : Int) : Tryz.prog.built 37 [(0, .int .u8 x), (1, .int .u8 5)] = some (v8a (x :: 5 :: zer 62)) := by kernel_rfl
def callC (kind slot what : Int) : Array Value := #[.int .i64 kind, .int .i64 slot, .int .u8 what]
def NB (N : Nat → Prop) (cb : Nat) : Nat → Prop := fun q => N q ∨ q = cb
/-- What a run of both keeps: the caller's, but for the document's states and pages. -/
def NKp (N : Nat → Prop) (sb qb : Nat) : Nat → Prop := fun q => N q ∧ q ≠ sb ∧ q ≠ qb
/-- The law's state between two calls. -/
def BoS (g : Geo) (N : Nat → Prop) (tb bb mb sb qb n k c : Nat) (st : Nat → Int) (blk : Nat → List Int) (w : World) : Prop :=
  BoI g N tb bb mb sb qb n k c st blk w ∧ N 0 ∧ 0 ≠ sb ∧ 0 ≠ qb ∧ EtAt w
theorem BoS.below {g : Geo} {N : Nat → Prop} {tb bb mb sb qb n k c : Nat} {st : Nat → Int} {blk : Nat → List Int} {w w' : World} (h : BoS g N tb bb mb sb qb n k c st blk w) (hb : Below w.heap.size w w') : BoS g N tb bb mb sb qb n k c st blk w' :=
  ⟨h.1.below hb, h.2.1, h.2.2.1, h.2.2.2.1, h.2.2.2.2.below hb h.2.2.2.2.pos⟩
/-- The law's state within a call: block cb is the call. -/
structure BbI (g : Geo) (w : World) (N : Nat → Prop) (cb tb bb mb sb qb n k c : Nat) (kind slot what : Int) (st : Nat → Int) (blk : Nat → List Int) (st' : Nat → Int) (blk' : Nat → List Int) (wx : World) : Prop where
  call : wx.heap[cb]? = some (.cells (callC kind slot what) 91)
  dep : DepS g (NB N cb) tb bb n k c st blk wx
  ref : RefI mb sb qb n st' blk' wx
  nots : N mb ∧ N sb ∧ N qb ∧ N 0 ∧ 0 ≠ sb ∧ 0 ≠ qb
  et : EtAt wx
  kept : Keeps (NKp N sb qb) w wx
section
variable {g : Geo} {w wx wy : World} {N : Nat → Prop} {cb tb bb mb sb qb n k c : Nat} {kind slot what : Int} {st st' : Nat → Int} {blk blk' : Nat → List Int}
theorem BbI.start {o : Obj} (h : BoS g N tb bb mb sb qb n k c st blk w) (hb : Below w.heap.size w (w.alloc o)) (hc : (w.alloc o).heap[w.heap.size]? = some (.cells (callC kind slot what) 91)) : BbI g w N w.heap.size tb bb mb sb qb n k c kind slot what st blk st blk (w.alloc o) :=
  ⟨hc, h.1.1.keep hb (fun i hi => by
    rcases hi with hi | rfl
    · exact ⟨Nat.lt_of_lt_of_le (h.1.1.N_lt i hi) hb.size, .inl hi⟩
    · exact ⟨lt_of_blk hc, .inr (Nat.le_refl _)⟩), h.1.2.1.below hb, ⟨h.1.2.2.1, h.1.2.2.2.1, h.1.2.2.2.2, h.2.1, h.2.2.1, h.2.2.2.1⟩, h.2.2.2.2.below hb h.2.2.2.2.pos, Keeps.of_below hb⟩
theorem BbI.below (h : BbI g w N cb tb bb mb sb qb n k c kind slot what st blk st' blk' wx) (hb : Below wx.heap.size wx wy) : BbI g w N cb tb bb mb sb qb n k c kind slot what st blk st' blk' wy :=
  ⟨(hb.block _ (lt_of_blk h.call)).trans h.call, h.dep.below hb, h.ref.below hb, h.nots, h.et.below hb h.et.pos, h.kept.trans (Keeps.of_below hb)⟩
theorem BbI.deps {k1 c1 : Nat} {st1 : Nat → Int} {blk1 : Nat → List Int} (h : BbI g w N cb tb bb mb sb qb n k c kind slot what st blk st' blk' wx) (hk : Keeps (NB N cb) wx wy) (hd : DepS g (NB N cb) tb bb n k1 c1 st1 blk1 wy) : BbI g w N cb tb bb mb sb qb n k1 c1 kind slot what st1 blk1 st' blk' wy :=
  ⟨hk.blk (.inr rfl) h.call, hd, h.ref.keeps hk (.inl h.nots.1) (.inl h.nots.2.1) (.inl h.nots.2.2.1), h.nots, h.et.keeps hk (.inl h.nots.2.2.2.1), h.kept.trans (hk.mono (fun i _ hi => .inl hi.1))⟩
theorem BbI.refs {st1 : Nat → Int} {blk1 : Nat → List Int} (h : BbI g w N cb tb bb mb sb qb n k c kind slot what st blk st' blk' wx) (hk : Keeps (NRf sb qb) wx wy) (hr : RefI mb sb qb n st1 blk1 wy) : BbI g w N cb tb bb mb sb qb n k c kind slot what st blk st1 blk1 wy :=
  ⟨hk.blk ⟨blk_ne_of h.call h.ref.st (by decide), blk_ne_of h.call h.ref.pg (by decide)⟩ h.call, h.dep.ref hk (.inl h.nots.2.1) (.inl h.nots.2.2.1), hr, h.nots, h.et.keeps hk ⟨h.nots.2.2.2.2.1, h.nots.2.2.2.2.2⟩, h.kept.trans (hk.mono (fun i _ hi => hi.2))⟩
theorem BbI.fin (h : BbI g w N cb tb bb mb sb qb n k c kind slot what st blk st blk wx) : BoS g N tb bb mb sb qb n k c st blk wx ∧ Keeps (NKp N sb qb) w wx :=
  ⟨⟨⟨h.dep.keep (Below.refl _ _) (fun i hi => ⟨h.dep.N_lt i (.inl hi), .inl (.inl hi)⟩), h.ref, h.nots.1, h.nots.2.1, h.nots.2.2.1⟩, h.nots.2.2.2.1, h.nots.2.2.2.2.1, h.nots.2.2.2.2.2, h.et⟩, h.kept⟩
theorem call_at (h : BbI g w N cb tb bb mb sb qb n k c kind slot what st blk st' blk' wx) : wx.cell? ⟨cb, 0, none⟩ = some (.int .i64 kind) ∧ wx.cell? ⟨cb, 1, none⟩ = some (.int .i64 slot) ∧ wx.cell? ⟨cb, 2, none⟩ = some (.int .u8 what) := blk3 h.call
end
/-- The call's block, whatever the world. -/
def CbS (cb : Nat) (kind slot what : Int) (wx : World) : Prop := wx.heap[cb]? = some (.cells (callC kind slot what) 91)
/-- What a call of both comes to. -/
def BoP (g : Geo) (N : Nat → Prop) (tb bb mb sb qb n k : Nat) (w : World) (e : Ending) (w' : World) : Prop :=
  e = .returned (.bool true) ∧ ∃ k' c' st' blk', k' ≤ k + 1 ∧ c' ≤ 3 ∧ BoS g N tb bb mb sb qb n k' c' st' blk' w' ∧ Keeps (NKp N sb qb) w w'
section
variable {g : Geo} {N : Nat → Prop} {tb bb mb sb qb n k : Nat} {what : Int} {st : Nat → Int} {blk : Nat → List Int} {w : World}
set_option maxRecDepth 100000 in
set_option maxHeartbeats 4000000 in
theorem both0_room (hkb : k ≤ 9000) (hw : 0 ≤ what ∧ what < 256) (kind slot : Int) (hkd : kind = 0) (hroom : roomR st (-1) (n * 4) = true) (h : BoS g N tb bb mb sb qb n k 0 st blk w) :
    Calls Tryz.prog 45 #[.pointer (some ⟨bb, 0, none⟩), .pointer (some ⟨tb, 0, none⟩), .pointer (some ⟨mb, 0, none⟩), .agg (callC kind slot what)] w (BoP g N tb bb mb sb qb n k w) := by
  have HFR : Hid (∃ s, s < n * 4 ∧ st s = 0) := Lib.hid (by obtain ⟨s, h1, h2, _⟩ := (roomR_iff _ _ _).1 hroom; exact ⟨s, h1, h2⟩)
  have HRO := Lib.hid hroom
  have HPK := Lib.hid (pg5_ok what hw)
  have HB5 : Hid (Tryz.prog.built 37 [(0, .int .u8 what), (1, .int .u8 5)] = some (v8a (pg5 what))) := Lib.hid (built_pg5 what)
  have HTM : Hid (Tame (pg5 what)) := Lib.hid (.inr rfl)
  generalize pg5 what = pg at HPK HB5 HTM
  obtain ⟨hw0, hw1⟩ := hw
  clear hroom
  subst hkd
  have H := Lib.hid h
  have hn64 := h.1.2.1.lt
  have hb0 : ∀ o : Obj, Below w.heap.size w (w.alloc o) := fun o => (Below.refl _ _).alloc (Nat.le_refl _) _
  unfold callC
  clear h
  go_enter Tryz.func45, Tryz.ntmps45
  repeat ((fail_if_success (with_reducible refine stop_at 21 rfl ?_)); (first | go_values | go_skip | go_guarded | go_step | go_upon))
  refine gen_world (fun wx => Hid (BbI g w N w.heap.size tb bb mb sb qb n k 0 0 slot what st blk st blk wx)) (Lib.hid (BbI.start H.out (hb0 _) (heap_alloc_new w _))) ?_
  clear hb0 H
  generalize w.heap.size = cb
  intro w1 H1
  obtain ⟨z0, z1, z2⟩ := call_at H1.out
  have hR := refRoom_any (-1) w1 H1.out.ref
  rw [HRO.out] at hR
  have hP := dep_put (by decide) pg HPK.out HTM.out HFR.out H1.out.dep
  clear HRO HFR
  go_wp2_with fail
  refine hR.mono ?_
  clear hR
  rintro e w2 ⟨rfl, rfl⟩
  try dsimp only
  go_wp2_with (refine wpList_build_to rfl 37 _ rfl (v8a pg) (by simp only [List.map_toArray, List.map_cons, List.map_nil]; exact HB5.out) ?_)
  refine hP.mono ?_
  clear hP
  rintro e w2 ⟨⟨s, rfl, hm, hd⟩, hk2⟩
  have H2 := Lib.hid (H1.out.deps hk2 hd)
  have HM := Lib.hid hm
  clear hd hk2 hm H1 z0 z1 z2
  obtain ⟨z0, z1, z2⟩ := call_at H2.out
  have hMay := refMay_any s (-1) HM.out w2 H2.out.ref
  have hPut := refPut_any s HM.out.1 pg HPK.out w2 H2.out.ref
  try dsimp only
  go_wp2_with fail
  refine hMay.mono ?_
  clear hMay
  rintro e w3 ⟨rfl, rfl⟩
  try dsimp only
  go_wp2_with (refine wpList_build_to rfl 37 _ rfl (v8a pg) (by simp only [List.map_toArray, List.map_cons, List.map_nil]; exact HB5.out) ?_)
  refine hPut.mono ?_
  clear hPut
  rintro e w3 ⟨rfl, hr, hk3⟩
  have H3 : Hid (BbI g w N cb tb bb mb sb qb n k 2 0 slot what (stSet st s 1) (pgSet blk s pg) (stSet st s 1) (pgSet blk s pg) w3) := Lib.hid (H2.out.refs hk3 hr)
  clear hr hk3 H2 HM z0 z1 z2 HPK HB5
  try dsimp only
  go_wp2_with fail
  go_ret
  obtain ⟨hb, hk⟩ := H3.out.fin
  exact ⟨rfl, _, 2, _, _, by omega, by omega, hb, hk⟩
set_option maxRecDepth 100000 in
set_option maxHeartbeats 4000000 in
theorem both0_full (hkb : k ≤ 9000) (hw : 0 ≤ what ∧ what < 256) (kind slot : Int) (hkd : kind = 0) (hroom : roomR st (-1) (n * 4) = false) (h : BoS g N tb bb mb sb qb n k 0 st blk w) :
    Calls Tryz.prog 45 #[.pointer (some ⟨bb, 0, none⟩), .pointer (some ⟨tb, 0, none⟩), .pointer (some ⟨mb, 0, none⟩), .agg (callC kind slot what)] w (BoP g N tb bb mb sb qb n k w) := by
  have HFR : Hid (∀ s, s < n * 4 → st s ≠ 0) := Lib.hid (fun s hs h0 => by have := roomR_none _ _ _ hroom s hs h0; omega)
  have HRO := Lib.hid hroom
  have HPK := Lib.hid (pg5_ok what hw)
  have HB5 : Hid (Tryz.prog.built 37 [(0, .int .u8 what), (1, .int .u8 5)] = some (v8a (pg5 what))) := Lib.hid (built_pg5 what)
  generalize pg5 what = pg at HPK HB5
  obtain ⟨hw0, hw1⟩ := hw
  clear hroom
  subst hkd
  have H := Lib.hid h
  have hn64 := h.1.2.1.lt
  have hb0 : ∀ o : Obj, Below w.heap.size w (w.alloc o) := fun o => (Below.refl _ _).alloc (Nat.le_refl _) _
  unfold callC
  clear h
  go_enter Tryz.func45, Tryz.ntmps45
  repeat ((fail_if_success (with_reducible refine stop_at 21 rfl ?_)); (first | go_values | go_skip | go_guarded | go_step | go_upon))
  refine gen_world (fun wx => Hid (BbI g w N w.heap.size tb bb mb sb qb n k 0 0 slot what st blk st blk wx)) (Lib.hid (BbI.start H.out (hb0 _) (heap_alloc_new w _))) ?_
  clear hb0 H
  generalize w.heap.size = cb
  intro w1 H1
  obtain ⟨z0, z1, z2⟩ := call_at H1.out
  have hR := refRoom_any (-1) w1 H1.out.ref
  rw [HRO.out] at hR
  have hP := dep_full pg HPK.out HFR.out H1.out.dep
  clear HRO HFR
  go_wp2_with fail
  refine hR.mono ?_
  clear hR
  rintro e w2 ⟨rfl, rfl⟩
  try dsimp only
  go_wp2_with (refine wpList_build_to rfl 37 _ rfl (v8a pg) (by simp only [List.map_toArray, List.map_cons, List.map_nil]; exact HB5.out) ?_)
  refine hP.mono ?_
  clear hP
  rintro e w2 ⟨⟨t, x, rfl, hev⟩, hb2⟩
  have H2 := Lib.hid (H1.out.below hb2)
  have HE := Lib.hid hev
  clear hev hb2 H1 z0 z1 z2 HPK HB5
  have hU := dep_undo H2.out.dep.wide
  try dsimp only
  go_wp2_with fail
  refine hU.mono ?_
  clear hU
  rintro e w3 ⟨rfl, hd, hk3⟩
  have H3 := Lib.hid (H2.out.deps (hk3.mono (fun i _ hi => .inl hi)) hd.thin)
  have HE3 := Lib.hid (HE.out.stays (hk3.mono (fun i _ hi => .inr hi)))
  clear hd hk3 H2 HE
  have hNU := num07_err (.iface t x) 20 w3 HE3.out H3.out.et
  try dsimp only
  go_wp2_with fail
  refine hNU.mono ?_
  clear hNU
  rintro e w4 ⟨rfl, hb4⟩
  have H4 := Lib.hid (H3.out.below hb4)
  clear hb4 H3 HE3
  try dsimp only
  go_wp2_with fail
  go_ret
  obtain ⟨hb, hk⟩ := H4.out.fin
  exact ⟨rfl, _, 0, _, _, by omega, by omega, hb, hk⟩
set_option maxRecDepth 100000 in
set_option maxHeartbeats 4000000 in
theorem both1_ok (hkb : k ≤ 9000) (kind slot what : Int) (hkd : kind = 1) (hok : hasR st n slot = 0) (h : BoS g N tb bb mb sb qb n k 0 st blk w) :
    Calls Tryz.prog 45 #[.pointer (some ⟨bb, 0, none⟩), .pointer (some ⟨tb, 0, none⟩), .pointer (some ⟨mb, 0, none⟩), .agg (callC kind slot what)] w (BoP g N tb bb mb sb qb n k w) := by
  obtain ⟨s, rfl, hs, hl⟩ := hasR_zero hok
  have HS := Lib.hid (And.intro hs hl)
  clear hs hl hok
  subst hkd
  have H := Lib.hid h
  have hn64 := h.1.2.1.lt
  have hb0 : ∀ o : Obj, Below w.heap.size w (w.alloc o) := fun o => (Below.refl _ _).alloc (Nat.le_refl _) _
  unfold callC
  clear h
  go_enter Tryz.func45, Tryz.ntmps45
  repeat ((fail_if_success (with_reducible refine stop_at 21 rfl ?_)); (first | go_values | go_skip | go_guarded | go_step | go_upon))
  refine gen_world (fun wx => Hid (BbI g w N w.heap.size tb bb mb sb qb n k 0 1 (s : Int) what st blk st blk wx)) (Lib.hid (BbI.start H.out (hb0 _) (heap_alloc_new w _))) ?_
  clear hb0 H
  generalize w.heap.size = cb
  intro w1 H1
  obtain ⟨z0, z1, z2⟩ := call_at H1.out
  have hD := dep_drop (by decide) HS.out.1 HS.out.2 (H1.out.below (Below.refl _ _).drew).dep
  have H1d := Lib.hid (H1.out.below (Below.refl _ _).drew)
  have r1 : ∀ q : SatW (CbS cb 1 (s : Int) what), q.w.cell? ⟨cb, 1, none⟩ = some (.int .i64 (s : Int)) := fun q => (blk3 q.h).2.1
  go_wp2_with fail
  clear z0 z1 z2
  have hne : Nonempty (SatW (CbS cb 1 (s : Int) what)) := ⟨⟨_, (show CbS cb 1 (s : Int) what w1.drew from H1.out.call)⟩⟩
  refine wp_region_mix [(0, true), (1, true), (2, true), (5, true), (6, true), (7, true), (3, false), (4, false), (8, false), (9, true), (10, true)] 10 (fun w' => ∃ p : SatW (CbS cb 1 (s : Int) what), w' = p.w) (by kernel_rfl) (by kernel_rfl) (fun _ _ d _ _ h => by cases d <;> exact h) (sat_of (show CbS cb 1 (s : Int) what w1.drew from H1.out.call)) ?_
  (repeat (with_reducible refine mix_q ?_; simp only [List.drop_succ_cons, List.drop_zero, List.take_succ_cons, List.take_zero]; go_big_quiet_step (fail); with_reducible refine wpQuiet_nil ?_))
  with_reducible refine mix_a ?_; simp only [List.drop_succ_cons, List.drop_zero, List.take_succ_cons, List.take_zero]
  go_wp2_with fail
  refine hD.mono ?_
  clear hD
  rintro e w2 ⟨rfl, hd, hk2⟩
  have H2 := Lib.hid (H1d.out.deps hk2 hd)
  clear hd hk2 H1 H1d
  try dsimp only
  go_wp2_with fail
  try with_reducible refine wpList_nil ?_
  with_reducible refine mixQ_normal ?_
  refine ⟨fun _ => sat_of (F := CbS cb 1 (s : Int) what) H2.out.call, ?_⟩
  with_reducible refine mix_a ?_; simp only [List.drop_succ_cons, List.drop_zero, List.take_succ_cons, List.take_zero]
  go_wp2_with fail
  refine (num07_nil w2).mono ?_
  rintro e w3 ⟨rfl, rfl⟩
  try dsimp only
  go_wp2_with fail
  try with_reducible refine wpList_nil ?_
  with_reducible refine mixQ_normal ?_
  refine ⟨fun _ => sat_of (F := CbS cb 1 (s : Int) what) H2.out.call, ?_⟩
  with_reducible refine mix_a ?_; simp only [List.drop_succ_cons, List.drop_zero, List.take_succ_cons, List.take_zero]
  have hM := refDrop_any s HS.out.1 HS.out.2 w2 H2.out.ref
  go_wp2_with fail
  refine hM.mono ?_
  clear hM
  rintro e w3 ⟨rfl, hr, hk3⟩
  have H3 := Lib.hid (H2.out.refs hk3 hr)
  clear hr hk3 H2 HS
  try dsimp only
  go_wp2_with fail
  try with_reducible refine wpList_nil ?_
  with_reducible refine mixQ_normal ?_
  refine ⟨fun _ => sat_of (F := CbS cb 1 (s : Int) what) H3.out.call, ?_⟩
  (repeat (with_reducible refine mix_q ?_; simp only [List.drop_succ_cons, List.drop_zero, List.take_succ_cons, List.take_zero]; go_big_quiet_step (fail); with_reducible refine wpQuiet_nil ?_))
  with_reducible refine mix_nil ?_
  go_wp2_with fail
  go_ret
  obtain ⟨hb, hk⟩ := H3.out.fin
  exact ⟨rfl, _, 1, _, _, by omega, by omega, hb, hk⟩
set_option maxRecDepth 100000 in
set_option maxHeartbeats 4000000 in
theorem both1_err (hkb : k ≤ 9000) (kind slot what r : Int) (hkd : kind = 1) (hr : hasR st n slot = r) (h0 : r ≠ 0) (h : BoS g N tb bb mb sb qb n k 0 st blk w) :
    Calls Tryz.prog 45 #[.pointer (some ⟨bb, 0, none⟩), .pointer (some ⟨tb, 0, none⟩), .pointer (some ⟨mb, 0, none⟩), .agg (callC kind slot what)] w (BoP g N tb bb mb sb qb n k w) := by
  have HR := Lib.hid (And.intro hr h0)
  clear hr h0
  subst hkd
  have H := Lib.hid h
  have hn64 := h.1.2.1.lt
  have hb0 : ∀ o : Obj, Below w.heap.size w (w.alloc o) := fun o => (Below.refl _ _).alloc (Nat.le_refl _) _
  unfold callC
  clear h
  go_enter Tryz.func45, Tryz.ntmps45
  repeat ((fail_if_success (with_reducible refine stop_at 21 rfl ?_)); (first | go_values | go_skip | go_guarded | go_step | go_upon))
  refine gen_world (fun wx => Hid (BbI g w N w.heap.size tb bb mb sb qb n k 0 1 slot what st blk st blk wx)) (Lib.hid (BbI.start H.out (hb0 _) (heap_alloc_new w _))) ?_
  clear hb0 H
  generalize w.heap.size = cb
  intro w1 H1
  obtain ⟨z0, z1, z2⟩ := call_at H1.out
  have H1d := Lib.hid (H1.out.below (Below.refl _ _).drew)
  have hD := dep_drop_err HR.out.1 HR.out.2 H1d.out.dep
  have r1 : ∀ q : SatW (CbS cb 1 slot what), q.w.cell? ⟨cb, 1, none⟩ = some (.int .i64 slot) := fun q => (blk3 q.h).2.1
  go_wp2_with fail
  clear z0 z1 z2
  have hne : Nonempty (SatW (CbS cb 1 slot what)) := ⟨⟨_, (show CbS cb 1 slot what w1.drew from H1.out.call)⟩⟩
  refine wp_region_mix [(0, true), (1, true), (2, true), (5, true), (6, true), (7, true), (3, false), (4, false), (8, false), (9, true), (10, true)] 10 (fun w' => ∃ p : SatW (CbS cb 1 slot what), w' = p.w) (by kernel_rfl) (by kernel_rfl) (fun _ _ d _ _ h => by cases d <;> exact h) (sat_of (show CbS cb 1 slot what w1.drew from H1.out.call)) ?_
  (repeat (with_reducible refine mix_q ?_; simp only [List.drop_succ_cons, List.drop_zero, List.take_succ_cons, List.take_zero]; go_big_quiet_step (fail); with_reducible refine wpQuiet_nil ?_))
  with_reducible refine mix_a ?_; simp only [List.drop_succ_cons, List.drop_zero, List.take_succ_cons, List.take_zero]
  go_wp2_with fail
  refine hD.mono ?_
  clear hD
  rintro e w2 ⟨⟨t, x, rfl, he⟩, hb2⟩
  have H2 := Lib.hid (H1d.out.below hb2)
  have HE := Lib.hid he
  clear he hb2 H1 H1d
  try dsimp only
  go_wp2_with fail
  try with_reducible refine wpList_nil ?_
  with_reducible refine mixQ_normal ?_
  refine ⟨fun _ => sat_of (F := CbS cb 1 slot what) H2.out.call, ?_⟩
  with_reducible refine mix_a ?_; simp only [List.drop_succ_cons, List.drop_zero, List.take_succ_cons, List.take_zero]
  go_wp2_with fail
  refine (num07_err (.iface t x) r w2 HE.out H2.out.et).mono ?_
  rintro e w3 ⟨rfl, hb3⟩
  have H3 := Lib.hid (H2.out.below hb3)
  clear hb3 H2 HE
  try dsimp only
  go_wp2_with fail
  try with_reducible refine wpList_nil ?_
  with_reducible refine mixQ_normal ?_
  refine ⟨fun _ => sat_of (F := CbS cb 1 slot what) H3.out.call, ?_⟩
  with_reducible refine mix_a ?_; simp only [List.drop_succ_cons, List.drop_zero, List.take_succ_cons, List.take_zero]
  have hM := refDrop_err slot r HR.out.1 HR.out.2 w3 H3.out.ref
  go_wp2_with fail
  refine hM.mono ?_
  clear hM HR
  rintro e w4 ⟨rfl, rfl⟩
  try dsimp only
  go_wp2_with fail
  try with_reducible refine wpList_nil ?_
  with_reducible refine mixQ_normal ?_
  refine ⟨fun _ => sat_of (F := CbS cb 1 slot what) H3.out.call, ?_⟩
  have hrr : (r == r) = true := by simp
  (repeat (with_reducible refine mix_q ?_; simp only [List.drop_succ_cons, List.drop_zero, List.take_succ_cons, List.take_zero]; go_big_quiet_step (fail); with_reducible refine wpQuiet_nil ?_))
  with_reducible refine mix_nil ?_
  go_wp2_with fail
  go_ret
  obtain ⟨hb, hk⟩ := H3.out.fin
  exact ⟨rfl, _, 0, _, _, by omega, by omega, hb, hk⟩
set_option maxRecDepth 100000 in
set_option maxHeartbeats 4000000 in
theorem both2_err (hkb : k ≤ 9000) (kind slot what r : Int) (hkd : kind = 2) (hr : hasR st n slot = r) (h0 : r ≠ 0) (h : BoS g N tb bb mb sb qb n k 0 st blk w) :
    Calls Tryz.prog 45 #[.pointer (some ⟨bb, 0, none⟩), .pointer (some ⟨tb, 0, none⟩), .pointer (some ⟨mb, 0, none⟩), .agg (callC kind slot what)] w (BoP g N tb bb mb sb qb n k w) := by
  have HR := Lib.hid (And.intro hr h0)
  have hr0 : (r != 0) = true := by simp [h0]
  clear hr h0
  subst hkd
  have H := Lib.hid h
  have hn64 := h.1.2.1.lt
  have hb0 : ∀ o : Obj, Below w.heap.size w (w.alloc o) := fun o => (Below.refl _ _).alloc (Nat.le_refl _) _
  unfold callC
  clear h
  go_enter Tryz.func45, Tryz.ntmps45
  repeat ((fail_if_success (with_reducible refine stop_at 21 rfl ?_)); (first | go_values | go_skip | go_guarded | go_step | go_upon))
  refine gen_world (fun wx => Hid (BbI g w N w.heap.size tb bb mb sb qb n k 0 2 slot what st blk st blk wx)) (Lib.hid (BbI.start H.out (hb0 _) (heap_alloc_new w _))) ?_
  clear hb0 H
  generalize w.heap.size = cb
  intro w1 H1
  obtain ⟨z0, z1, z2⟩ := call_at H1.out
  have hM := dep_move_err HR.out.1 HR.out.2 H1.out.dep
  have hH := refHas_any slot w1 H1.out.ref
  rw [HR.out.1] at hH
  go_wp2_with fail
  refine hH.mono ?_
  clear hH HR
  rintro e w2 ⟨rfl, rfl⟩
  try dsimp only
  go_wp2_with fail
  refine hM.mono ?_
  clear hM
  rintro e w2 ⟨⟨t, x, rfl, he⟩, hb2⟩
  have H2 := Lib.hid (H1.out.below hb2)
  have HE := Lib.hid he
  clear he hb2 H1 z0 z1 z2
  have hNU := num07_err (.iface t x) r w2 HE.out H2.out.et
  try dsimp only
  go_wp2_with fail
  refine hNU.mono ?_
  clear hNU
  rintro e w3 ⟨rfl, hb3⟩
  have H3 := Lib.hid (H2.out.below hb3)
  clear hb3 H2 HE hr0
  try dsimp only
  have hrr : (r == r) = true := by simp
  go_wp2_with fail
  go_ret
  obtain ⟨hb, hk⟩ := H3.out.fin
  exact ⟨rfl, _, 0, _, _, by omega, by omega, hb, hk⟩
set_option maxRecDepth 100000 in
set_option maxHeartbeats 4000000 in
theorem both2_room (hkb : k ≤ 9000) (kind slot what : Int) (hkd : kind = 2) (hok : hasR st n slot = 0) (hroom : roomR st (slot.tdiv 4) (n * 4) = true) (h : BoS g N tb bb mb sb qb n k 0 st blk w) :
    Calls Tryz.prog 45 #[.pointer (some ⟨bb, 0, none⟩), .pointer (some ⟨tb, 0, none⟩), .pointer (some ⟨mb, 0, none⟩), .agg (callC kind slot what)] w (BoP g N tb bb mb sb qb n k w) := by
  have HOK := Lib.hid hok
  obtain ⟨s, rfl, hs, hl⟩ := hasR_zero hok
  have e4 : (s : Int).tdiv 4 = (s : Int) / 4 := Int.tdiv_eq_ediv_of_nonneg (by omega)
  rw [e4] at hroom
  have HRO := Lib.hid hroom
  have HS := Lib.hid (And.intro hs hl)
  have hs0 : (0 : Int) ≤ s := by omega
  have hs1 : (s : Int) < n * 4 := by omega
  clear hs hl hok hroom e4
  subst hkd
  have H := Lib.hid h
  have hn64 := h.1.2.1.lt
  have hb0 : ∀ o : Obj, Below w.heap.size w (w.alloc o) := fun o => (Below.refl _ _).alloc (Nat.le_refl _) _
  unfold callC
  clear h
  go_enter Tryz.func45, Tryz.ntmps45
  repeat ((fail_if_success (with_reducible refine stop_at 21 rfl ?_)); (first | go_values | go_skip | go_guarded | go_step | go_upon))
  refine gen_world (fun wx => Hid (BbI g w N w.heap.size tb bb mb sb qb n k 0 2 (s : Int) what st blk st blk wx)) (Lib.hid (BbI.start H.out (hb0 _) (heap_alloc_new w _))) ?_
  clear hb0 H
  generalize w.heap.size = cb
  intro w1 H1
  obtain ⟨z0, z1, z2⟩ := call_at H1.out
  have hH := refHas_any (s : Int) w1 H1.out.ref
  rw [HOK.out] at hH
  have hR := refRoom_any ((s : Int) / 4) w1 H1.out.ref
  rw [HRO.out] at hR
  have hM := dep_move (by decide) HS.out.1 HS.out.2 HRO.out H1.out.dep
  clear HRO HOK
  go_wp2_with fail
  refine hH.mono ?_
  clear hH
  rintro e w2 ⟨rfl, rfl⟩
  try dsimp only
  go_wp2_with fail
  refine hR.mono ?_
  clear hR
  rintro e w2 ⟨rfl, rfl⟩
  try dsimp only
  go_wp2_with fail
  refine hM.mono ?_
  clear hM
  rintro e w2 ⟨⟨t, rfl, hm, hd⟩, hk2⟩
  have H2 := Lib.hid (H1.out.deps hk2 hd)
  have HM := Lib.hid hm
  clear hd hk2 hm H1 z0 z1 z2
  obtain ⟨z0, z1, z2⟩ := call_at H2.out
  have hMay := refMay_any t ((s : Int) / 4) HM.out w2 H2.out.ref
  try dsimp only
  go_wp2_with fail
  refine hMay.mono ?_
  clear hMay
  rintro e w3 ⟨rfl, rfl⟩
  have HPB := Lib.hid (H2.out.ref.ok s HS.out.1)
  have hp64 := HPB.out.1
  have hPut := refPut_any t HM.out.1 (blk s) HPB.out w2.drew (H2.out.ref.below (Below.refl _ _).drew)
  have HDR := Lib.hid (fun wx hr => refDrop_any (mb := mb) (sb := sb) (qb := qb) (n := n) (st := stSet st t 1) (blk := pgSet blk t (blk s)) s HS.out.1 (by
    unfold stSet
    rw [if_neg (fun e => HM.out.2.2.1 (by rw [e]; omega))]
    exact HS.out.2) wx hr)
  obtain ⟨y0, y1⟩ := ref_cells H2.out.ref.cells
  have r1 := cell_regrown z1
  have ry := cell_regrown y1
  have HRB := Lib.hid (H2.out.ref.page s HS.out.1)
  have HRP : Hid (∀ w', (∃ p : Regrown, w' = Go.Sort.grow (redrawn w2 p.d) p.os) → w'.rangeAt qb (s * 64) (v8 (blk s))) := Lib.hid (fun w' hw' => (H2.out.ref.below (below_of_regrown hw')).page s HS.out.1)
  generalize blk s = pg at hPut HDR HRP hp64 HPB H2 HRB
  clear y0 y1 z0 z1 z2
  try dsimp only
  go_wp2_with fail
  refine wp_region_qlast 10 (fun w' => ∃ p : Regrown, w' = Go.Sort.grow (redrawn w2 p.d) p.os) (by kernel_rfl) (by kernel_rfl) (fun _ _ d _ _ h => by cases d <;> exact h) (grows_drew _) ?_
  simp only [List.take_succ_cons, List.take_zero]
  repeat (first | go_big_quiet_step (fail) | (go_big_quiet_want; refine quiet_load_mid 37 (.tmp 128) rfl qb (s * 64) rfl (v8 pg) _ HRP.out Tryz.underlying37 rfl (info_at' hp64) ?_; simp only [Act.put, List.setIfInBounds_toArray, List.set_cons_zero, List.set_cons_succ]; go_big_quiet_on))
  with_reducible refine wpQuiet_nil ?_
  with_reducible refine mix_a ?_
  simp only [List.drop_succ_cons, List.drop_zero, List.take_succ_cons, List.take_zero]
  go_wp2_with fail
  refine hPut.mono ?_
  clear hPut
  rintro e w3 ⟨rfl, hr, hk3⟩
  have H3 := Lib.hid ((H2.out.below (Below.refl _ _).drew).refs hk3 hr)
  clear hr hk3 H2 HRP HRB
  try dsimp only
  go_wp2_with fail
  try with_reducible refine wpList_nil ?_
  refine mixQ_normal ⟨fun h => absurd h (by simp), mix_nil ?_⟩
  have hDr := HDR.out w3 H3.out.ref
  obtain ⟨z0, z1, z2⟩ := call_at H3.out
  clear HDR
  go_wp2_with fail
  refine hDr.mono ?_
  clear hDr
  rintro e w4 ⟨rfl, hr, hk4⟩
  have H4 := Lib.hid (H3.out.refs hk4 hr)
  clear hr hk4 H3 z0 z1 z2
  try dsimp only
  go_wp2_with fail
  go_ret
  obtain ⟨hb, hk⟩ := H4.out.fin
  exact ⟨rfl, _, 3, _, _, by omega, by omega, hb, hk⟩
set_option maxRecDepth 100000 in
set_option maxHeartbeats 4000000 in
theorem both2_full (hkb : k ≤ 9000) (kind slot what : Int) (hkd : kind = 2) (hok : hasR st n slot = 0) (hroom : roomR st (slot.tdiv 4) (n * 4) = false) (h : BoS g N tb bb mb sb qb n k 0 st blk w) :
    Calls Tryz.prog 45 #[.pointer (some ⟨bb, 0, none⟩), .pointer (some ⟨tb, 0, none⟩), .pointer (some ⟨mb, 0, none⟩), .agg (callC kind slot what)] w (BoP g N tb bb mb sb qb n k w) := by
  have HOK := Lib.hid hok
  obtain ⟨s, rfl, hs, hl⟩ := hasR_zero hok
  have e4 : (s : Int).tdiv 4 = (s : Int) / 4 := Int.tdiv_eq_ediv_of_nonneg (by omega)
  rw [e4] at hroom
  have HRO := Lib.hid hroom
  have HS := Lib.hid (And.intro hs hl)
  have hs0 : (0 : Int) ≤ s := by omega
  have hs1 : (s : Int) < n * 4 := by omega
  clear hs hl hok hroom e4
  subst hkd
  have H := Lib.hid h
  have hn64 := h.1.2.1.lt
  have hb0 : ∀ o : Obj, Below w.heap.size w (w.alloc o) := fun o => (Below.refl _ _).alloc (Nat.le_refl _) _
  unfold callC
  clear h
  go_enter Tryz.func45, Tryz.ntmps45
  repeat ((fail_if_success (with_reducible refine stop_at 21 rfl ?_)); (first | go_values | go_skip | go_guarded | go_step | go_upon))
  refine gen_world (fun wx => Hid (BbI g w N w.heap.size tb bb mb sb qb n k 0 2 (s : Int) what st blk st blk wx)) (Lib.hid (BbI.start H.out (hb0 _) (heap_alloc_new w _))) ?_
  clear hb0 H
  generalize w.heap.size = cb
  intro w1 H1
  obtain ⟨z0, z1, z2⟩ := call_at H1.out
  have hH := refHas_any (s : Int) w1 H1.out.ref
  rw [HOK.out] at hH
  have hR := refRoom_any ((s : Int) / 4) w1 H1.out.ref
  rw [HRO.out] at hR
  have hM := dep_move_full HS.out.1 HS.out.2 HRO.out H1.out.dep
  clear HRO HOK HS
  go_wp2_with fail
  refine hH.mono ?_
  clear hH
  rintro e w2 ⟨rfl, rfl⟩
  try dsimp only
  go_wp2_with fail
  refine hR.mono ?_
  clear hR
  rintro e w2 ⟨rfl, rfl⟩
  try dsimp only
  go_wp2_with fail
  refine hM.mono ?_
  clear hM
  rintro e w2 ⟨⟨t, x, rfl, hev⟩, hb2⟩
  have H2 := Lib.hid (H1.out.below hb2)
  have HE := Lib.hid hev
  clear hev hb2 H1 z0 z1 z2
  have hU := dep_undo H2.out.dep.wide
  try dsimp only
  go_wp2_with fail
  refine hU.mono ?_
  clear hU
  rintro e w3 ⟨rfl, hd, hk3⟩
  have H3 := Lib.hid (H2.out.deps (hk3.mono (fun i _ hi => .inl hi)) hd.thin)
  have HE3 := Lib.hid (HE.out.stays (hk3.mono (fun i _ hi => .inr hi)))
  clear hd hk3 H2 HE
  have hNU := num07_err (.iface t x) 20 w3 HE3.out H3.out.et
  try dsimp only
  go_wp2_with fail
  refine hNU.mono ?_
  clear hNU
  rintro e w4 ⟨rfl, hb4⟩
  have H4 := Lib.hid (H3.out.below hb4)
  clear hb4 H3 HE3
  try dsimp only
  go_wp2_with fail
  go_ret
  obtain ⟨hb, hk⟩ := H4.out.fin
  exact ⟨rfl, _, 0, _, _, by omega, by omega, hb, hk⟩
/-- What a Get of both comes to. -/
def BoG (g : Geo) (N : Nat → Prop) (tb bb mb sb qb n k : Nat) (st : Nat → Int) (blk : Nat → List Int) (w : World) (e : Ending) (w' : World) : Prop :=
  e = .returned (.bool true) ∧ BoS g N tb bb mb sb qb n k 0 st blk w' ∧ Keeps (NKp N sb qb) w w'
set_option maxRecDepth 100000 in
set_option maxHeartbeats 4000000 in
theorem both3_ok (hkb : k ≤ 9000) (kind slot what : Int) (hkd : kind = 3) (hok : hasR st n slot = 0) (h : BoS g N tb bb mb sb qb n k 0 st blk w) :
    Calls Tryz.prog 45 #[.pointer (some ⟨bb, 0, none⟩), .pointer (some ⟨tb, 0, none⟩), .pointer (some ⟨mb, 0, none⟩), .agg (callC kind slot what)] w (BoG g N tb bb mb sb qb n k st blk w) := by
  have HOK := Lib.hid hok
  obtain ⟨s, rfl, hs, hl⟩ := hasR_zero hok
  have HS := Lib.hid (And.intro hs hl)
  have hs0 : (0 : Int) ≤ s := by omega
  have hs1 : (s : Int) < n * 4 := by omega
  clear hs hl hok
  subst hkd
  have H := Lib.hid h
  have hn64 := h.1.2.1.lt
  have hb0 : ∀ o : Obj, Below w.heap.size w (w.alloc o) := fun o => (Below.refl _ _).alloc (Nat.le_refl _) _
  unfold callC
  clear h
  go_enter Tryz.func45, Tryz.ntmps45
  repeat ((fail_if_success (with_reducible refine stop_at 21 rfl ?_)); (first | go_values | go_skip | go_guarded | go_step | go_upon))
  refine gen_world (fun wx => Hid (BbI g w N w.heap.size tb bb mb sb qb n k 0 3 (s : Int) what st blk st blk wx)) (Lib.hid (BbI.start H.out (hb0 _) (heap_alloc_new w _))) ?_
  clear hb0 H
  generalize w.heap.size = cb
  intro w1 H1
  obtain ⟨z0, z1, z2⟩ := call_at H1.out
  have hG := dep_get HS.out.1 HS.out.2 H1.out.dep
  have HPB := Lib.hid (H1.out.ref.ok s HS.out.1)
  have hp64 := HPB.out.1
  have HBS : Hid (∃ pg, pg = blk s) := Lib.hid ⟨_, rfl⟩
  obtain ⟨pg, hpg⟩ := HBS.out
  rw [← hpg] at hG hp64
  have HPG := Lib.hid hpg
  clear hpg HPB HBS
  go_wp2_with fail
  refine hG.mono ?_
  clear hG
  rintro e w2 ⟨rfl, hb2⟩
  have H2 := Lib.hid (H1.out.below hb2)
  clear hb2 H1 z0 z1 z2
  try dsimp only
  repeat ((fail_if_success (with_reducible refine stop_at 145 rfl ?_)); (first | (refine page_store rfl (.tmp 18) (.tmp 143) rfl w2.heap.size pg (zer 64) rfl rfl (heap_alloc_new w2 _) hp64 rfl ?_) | go_values | go_skip | go_guarded | go_step | go_upon))
  have hbx : ∀ o : Obj, Below w2.heap.size w2 ((w2.alloc o).setRow w2.heap.size (v8a pg)) := fun o => below_setRow ((Below.refl _ _).alloc (Nat.le_refl _) _) (Nat.le_refl _) _
  refine gen_world (fun wx => Hid (wx.heap[w2.heap.size]? = some (.cells (v8a pg) 37) ∧ BbI g w N cb tb bb mb sb qb n k 0 3 (s : Int) what st blk st blk wx)) (Lib.hid ⟨setRow_heap _ _ _ _ _ (0, 0) (heap_alloc_new w2 _), H2.out.below (hbx _)⟩) ?_
  clear hbx H2
  generalize w2.heap.size = b18
  intro w3 H3
  obtain ⟨z0, z1, z2⟩ := call_at H3.out.2
  have hH := refHas_any (s : Int) w3 H3.out.2.ref
  rw [HOK.out] at hH
  clear HOK
  go_wp2_with fail
  refine hH.mono ?_
  clear hH
  rintro e w4 ⟨rfl, rfl⟩
  try dsimp only
  obtain ⟨y0, y1⟩ := ref_cells H3.out.2.ref.cells
  have r1 := cell_regrown z1
  have ry := cell_regrown y1
  have HB := Lib.hid (blk_regrown H3.out.1)
  have HRP : Hid (∀ w', (∃ p : Regrown, w' = Go.Sort.grow (redrawn w3 p.d) p.os) → w'.rangeAt qb (s * 64) (v8 pg)) := Lib.hid (fun w' hw' => by rw [HPG.out]; exact (H3.out.2.ref.below (below_of_regrown hw')).page s HS.out.1)
  clear y0 y1 z0 z1 z2
  go_wp2_with fail
  refine wp_region_mix [(0, true), (2, true), (1, false), (3, true), (4, true), (5, true), (6, true), (7, true), (8, true), (9, true), (10, true), (11, true), (12, true), (13, true), (14, true), (15, true), (16, true), (17, true), (18, true), (19, true), (20, true)] 20 (fun w' => ∃ p : Regrown, w' = Go.Sort.grow (redrawn w3 p.d) p.os) (by kernel_rfl) (by kernel_rfl) (fun _ _ d _ _ h => by cases d <;> exact h) (grows_drew _) ?_
  (repeat (with_reducible refine mix_q ?_; simp only [List.drop_succ_cons, List.drop_zero, List.take_succ_cons, List.take_zero]; go_big_quiet_step (fail); with_reducible refine wpQuiet_nil ?_))
  with_reducible refine mix_a ?_; simp only [List.drop_succ_cons, List.drop_zero, List.take_succ_cons, List.take_zero]
  go_wp2_with fail
  refine (num07_nil w3.drew).mono ?_
  rintro e w4 ⟨rfl, rfl⟩
  try dsimp only
  go_wp2_with fail
  try with_reducible refine wpList_nil ?_
  with_reducible refine mixQ_normal ?_
  refine ⟨fun _ => grows_of_below (Below.refl _ _).drew, ?_⟩
  have hdd : decide (pg = pg) = true := by simp
  repeat (with_reducible refine mix_q ?_; simp only [List.drop_succ_cons, List.drop_zero, List.take_succ_cons, List.take_zero]; first | (go_big_quiet_step (fail); with_reducible refine wpQuiet_nil ?_) | (go_big_quiet_want; refine quiet_page (.tmp 18) rfl b18 pg rfl HB.out hp64 ?_; simp only [Act.put, List.setIfInBounds_toArray, List.set_cons_zero, List.set_cons_succ]; go_big_quiet_on; with_reducible refine wpQuiet_nil ?_) | (go_big_quiet_want; refine quiet_load_mid 37 (.tmp 164) rfl qb (s * 64) rfl (v8 pg) _ HRP.out Tryz.underlying37 rfl (info_at' hp64) ?_; simp only [Act.put, List.setIfInBounds_toArray, List.set_cons_zero, List.set_cons_succ]; go_big_quiet_on; with_reducible refine wpQuiet_nil ?_) | (go_big_quiet_want; refine quiet_eql_to 37 _ (.tmp 157) (.tmp 165) rfl (v8a pg) (v8a pg) true rfl rfl guard_pg (fun w => by rw [pg_eql w pg pg hp64 hp64]; simp) ?_; simp only [Act.put, List.setIfInBounds_toArray, List.set_cons_zero, List.set_cons_succ]; go_big_quiet_on; with_reducible refine wpQuiet_nil ?_))
  with_reducible refine mix_nil ?_
  have H4 := Lib.hid (H3.out.2.below (Below.refl _ _).drew)
  clear H3 HB HRP HPG HS r1 ry
  go_wp2_with fail
  go_ret
  obtain ⟨hb, hk⟩ := H4.out.fin
  exact ⟨rfl, hb, hk⟩
set_option maxRecDepth 100000 in
set_option maxHeartbeats 4000000 in
theorem both3_err (hkb : k ≤ 9000) (kind slot what r : Int) (hkd : kind = 3) (hr : hasR st n slot = r) (h0 : r ≠ 0) (h : BoS g N tb bb mb sb qb n k 0 st blk w) :
    Calls Tryz.prog 45 #[.pointer (some ⟨bb, 0, none⟩), .pointer (some ⟨tb, 0, none⟩), .pointer (some ⟨mb, 0, none⟩), .agg (callC kind slot what)] w (BoG g N tb bb mb sb qb n k st blk w) := by
  have HR := Lib.hid (And.intro hr h0)
  have hr0 : (r != 0) = true := by simp [h0]
  clear hr h0
  subst hkd
  have H := Lib.hid h
  have hn64 := h.1.2.1.lt
  have hb0 : ∀ o : Obj, Below w.heap.size w (w.alloc o) := fun o => (Below.refl _ _).alloc (Nat.le_refl _) _
  unfold callC
  clear h
  go_enter Tryz.func45, Tryz.ntmps45
  repeat ((fail_if_success (with_reducible refine stop_at 21 rfl ?_)); (first | go_values | go_skip | go_guarded | go_step | go_upon))
  refine gen_world (fun wx => Hid (BbI g w N w.heap.size tb bb mb sb qb n k 0 3 slot what st blk st blk wx)) (Lib.hid (BbI.start H.out (hb0 _) (heap_alloc_new w _))) ?_
  clear hb0 H
  generalize w.heap.size = cb
  intro w1 H1
  obtain ⟨z0, z1, z2⟩ := call_at H1.out
  have hG := dep_get_err HR.out.1 HR.out.2 H1.out.dep
  go_wp2_with fail
  refine hG.mono ?_
  clear hG
  rintro e w2 ⟨⟨t, x, rfl, he⟩, hb2⟩
  have H2 := Lib.hid (H1.out.below hb2)
  have HE := Lib.hid he
  clear he hb2 H1 z0 z1 z2
  try dsimp only
  repeat ((fail_if_success (with_reducible refine stop_at 145 rfl ?_)); (first | (refine page_store rfl (.tmp 18) (.tmp 143) rfl w2.heap.size (zer 64) (zer 64) rfl rfl (heap_alloc_new w2 _) rfl rfl ?_) | go_values | go_skip | go_guarded | go_step | go_upon))
  have hbx : ∀ o : Obj, Below w2.heap.size w2 ((w2.alloc o).setRow w2.heap.size (v8a (zer 64))) := fun o => below_setRow ((Below.refl _ _).alloc (Nat.le_refl _) _) (Nat.le_refl _) _
  refine gen_world (fun wx => Hid (ErrV wx (.iface t x) r ∧ BbI g w N cb tb bb mb sb qb n k 0 3 slot what st blk st blk wx)) (Lib.hid ⟨HE.out.below (hbx _), H2.out.below (hbx _)⟩) ?_
  clear hbx H2 HE
  generalize w2.heap.size = b18
  intro w3 H3
  obtain ⟨z0, z1, z2⟩ := call_at H3.out.2
  have hH := refHas_any slot w3 H3.out.2.ref
  rw [HR.out.1] at hH
  clear HR
  go_wp2_with fail
  refine hH.mono ?_
  clear hH
  rintro e w4 ⟨rfl, rfl⟩
  try dsimp only
  clear z0 z1 z2
  have hrr : (r == r) = true := by simp
  have H3d := Lib.hid (H3.out.2.below (Below.refl _ _).drew)
  have hNU := num07_err (.iface t x) r w3.drew (H3.out.1.below (Below.refl _ _).drew) H3d.out.et
  go_wp2_with fail
  refine wp_region_mix [(0, true), (2, true), (1, false), (3, true), (4, true), (5, true), (6, true), (7, true), (8, true), (9, true), (10, true), (11, true), (12, true), (13, true), (14, true), (15, true), (16, true), (17, true), (18, true), (19, true), (20, true)] 20 (fun w' => ∃ p : Regrown, w' = Go.Sort.grow (redrawn w3 p.d) p.os) (by kernel_rfl) (by kernel_rfl) (fun _ _ d _ _ h => by cases d <;> exact h) (grows_drew _) ?_
  (repeat (with_reducible refine mix_q ?_; simp only [List.drop_succ_cons, List.drop_zero, List.take_succ_cons, List.take_zero]; go_big_quiet_step (fail); with_reducible refine wpQuiet_nil ?_))
  with_reducible refine mix_a ?_; simp only [List.drop_succ_cons, List.drop_zero, List.take_succ_cons, List.take_zero]
  go_wp2_with fail
  refine hNU.mono ?_
  clear hNU
  rintro e w4 ⟨rfl, hb4⟩
  have H4 := Lib.hid (H3d.out.below hb4)
  have HX4 := Lib.hid ((Below.refl _ _).drew.trans hb4)
  clear hb4 H3 H3d
  try dsimp only
  go_wp2_with fail
  try with_reducible refine wpList_nil ?_
  with_reducible refine mixQ_normal ?_
  refine ⟨fun _ => grows_of_below HX4.out, ?_⟩
  (repeat (with_reducible refine mix_q ?_; simp only [List.drop_succ_cons, List.drop_zero, List.take_succ_cons, List.take_zero]; go_big_quiet_step (fail); with_reducible refine wpQuiet_nil ?_))
  with_reducible refine mix_nil ?_
  clear HX4
  go_wp2_with fail
  go_ret
  obtain ⟨hb, hk⟩ := H4.out.fin
  exact ⟨rfl, hb, hk⟩
theorem both3_any (hkb : k ≤ 9000) (slot what : Int) (h : BoS g N tb bb mb sb qb n k 0 st blk w) :
    Calls Tryz.prog 45 #[.pointer (some ⟨bb, 0, none⟩), .pointer (some ⟨tb, 0, none⟩), .pointer (some ⟨mb, 0, none⟩), .agg (callC 3 slot what)] w (BoG g N tb bb mb sb qb n k st blk w) := by
  by_cases h0 : hasR st n slot = 0
  · exact both3_ok hkb 3 slot what rfl h0 h
  · exact both3_err hkb 3 slot what _ rfl rfl h0 h
set_option maxRecDepth 100000 in
set_option maxHeartbeats 4000000 in
theorem both4 (hkb : k ≤ 9000) (kind slot what : Int) (hk0 : ¬ kind = 0) (hk1 : ¬ kind = 1) (hk2 : ¬ kind = 2) (hk3 : ¬ kind = 3) (h : BoS g N tb bb mb sb qb n k 0 st blk w) :
    Calls Tryz.prog 45 #[.pointer (some ⟨bb, 0, none⟩), .pointer (some ⟨tb, 0, none⟩), .pointer (some ⟨mb, 0, none⟩), .agg (callC kind slot what)] w (BoP g N tb bb mb sb qb n k w) := by
  have H := Lib.hid h
  have hn64 := h.1.2.1.lt
  have hb0 : ∀ o : Obj, Below w.heap.size w (w.alloc o) := fun o => (Below.refl _ _).alloc (Nat.le_refl _) _
  unfold callC
  clear h
  go_enter Tryz.func45, Tryz.ntmps45
  repeat ((fail_if_success (with_reducible refine stop_at 21 rfl ?_)); (first | go_values | go_skip | go_guarded | go_step | go_upon))
  refine gen_world (fun wx => Hid (BbI g w N w.heap.size tb bb mb sb qb n k 0 kind slot what st blk st blk wx)) (Lib.hid (BbI.start H.out (hb0 _) (heap_alloc_new w _))) ?_
  clear hb0 H
  generalize w.heap.size = cb
  intro w1 H1
  obtain ⟨z0, z1, z2⟩ := call_at H1.out
  have hC := dep_commit hkb (by decide) H1.out.dep
  go_wp2_with fail
  refine hC.mono ?_
  clear hC
  rintro e w2 ⟨rfl, hd, hkp⟩
  have H2 := Lib.hid (H1.out.deps hkp hd)
  clear hd hkp H1 z0 z1 z2
  try dsimp only
  go_wp2_with fail
  go_ret
  obtain ⟨hb, hk⟩ := H2.out.fin
  exact ⟨rfl, _, 0, _, _, by omega, by omega, hb, hk⟩
theorem both_any (hkb : k ≤ 9000) (hw : 0 ≤ what ∧ what < 256) (kind slot : Int) (h : BoS g N tb bb mb sb qb n k 0 st blk w) :
    Calls Tryz.prog 45 #[.pointer (some ⟨bb, 0, none⟩), .pointer (some ⟨tb, 0, none⟩), .pointer (some ⟨mb, 0, none⟩), .agg (callC kind slot what)] w (BoP g N tb bb mb sb qb n k w) := by
  by_cases k0 : kind = 0
  · cases hr : roomR st (-1) (n * 4) with
    | true => exact both0_room hkb hw kind slot k0 hr h
    | false => exact both0_full hkb hw kind slot k0 hr h
  by_cases k1 : kind = 1
  · by_cases h0 : hasR st n slot = 0
    · exact both1_ok hkb kind slot what k1 h0 h
    · exact both1_err hkb kind slot what _ k1 rfl h0 h
  by_cases k2 : kind = 2
  · by_cases h0 : hasR st n slot = 0
    · cases hr : roomR st (slot.tdiv 4) (n * 4) with
      | true => exact both2_room hkb kind slot what k2 h0 hr h
      | false => exact both2_full hkb kind slot what k2 h0 hr h
    · exact both2_err hkb kind slot what _ k2 rfl h0 h
  by_cases k3 : kind = 3
  · subst k3
    refine (both3_any hkb slot what h).mono ?_
    rintro e w' ⟨rfl, hS, hk⟩
    exact ⟨rfl, k, 0, st, blk, by omega, by omega, hS, hk⟩
  exact both4 hkb kind slot what k0 k1 k2 k3 h
end
end Go.Proofs.YtajmcplanlibnaaGreatDoor
