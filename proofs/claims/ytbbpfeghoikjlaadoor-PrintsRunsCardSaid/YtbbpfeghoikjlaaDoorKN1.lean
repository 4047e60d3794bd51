/- A table that is none: each method answers that its argument is bad. Numbers of errors. prints.New of places that are none. -/
import Derived.Test.YtbbpfeghoikjlaaDoorKA0
import Derived.Test.YtbbpfeghoikjlaaDoorE6
set_option linter.unusedSimpArgs false
set_option linter.unusedVariables false
set_option linter.unnecessarySimpa false
namespace Go.Proofs.YtbbpfeghoikjlaaDoor
open Go.RowKit Go.Maps
/-- The laid variable of errors. -/
def EtAt (w : World) : Prop := w.cell? ⟨0, 0, none⟩ = some (.iface 131 (.agg #[.pointer (some ⟨1, 36, none⟩)]))
theorem EtAt.pos {w : World} (h : EtAt w) : 0 < w.heap.size := by
  rcases Nat.eq_zero_or_pos w.heap.size with h0 | h1
  · simp [EtAt, World.cell?, h0] at h
  · exact h1
theorem EtAt.below {w w' : World} {B : Nat} (h : EtAt w) (hb : Below B w w') (hB : 0 < B) : EtAt w' := by
  unfold EtAt at *
  rw [hb.cell (p := ⟨0, 0, none⟩) hB]; exact h
theorem EtAt.keeps {w w' : World} {N : Nat → Prop} (h : EtAt w) (hk : Keeps N w w') (h0 : N 0) : EtAt w' := by
  have hp := h.pos
  unfold EtAt at *
  rw [World.cell?_of_block (w := w) (hk.block 0 hp h0)]; exact h
set_option maxRecDepth 100000 in
theorem num08_err (v : Value) (n : Int) (w : World) (hv : ErrV w v n) (hg : EtAt w) : Calls Tryd.prog 12 #[v] w fun e w' => e = .returned (.int .i64 n) ∧ Below w.heap.size w w' := by
  obtain ⟨te, xe, rfl⟩ := hv.iface
  obtain ⟨k, hk⟩ := hv
  have hb0 : Below w.heap.size w (w.alloc (.cells #[.int .i64 0] 62)) := (Below.refl _ _).alloc (Nat.le_refl _) _
  have hA := as_any k (.iface te xe) n w.heap.size (.int .i64 0) (w.alloc (.cells #[.int .i64 0] 62)) (hk.below hb0) (hg.below hb0 hg.pos) (heap_alloc_new _ _)
  clear hk
  go_enter Tryd.func12, Tryd.ntmps12
  go_wp2_with fail
  refine hA.mono ?_
  rintro e w2 ⟨rfl, hx, hb⟩
  have z0 : w2.cell? ⟨w.heap.size, 0, none⟩ = some (.int .i64 n) := by simp [World.cell?, hx]
  try dsimp only
  go_wp2_with fail
  go_ret
  exact ⟨rfl, hb0.trans hb⟩
set_option maxRecDepth 100000 in
theorem seek_nil (f1 f2 : Value) (d : List Int) (hd : d.length = 32) (w : World) : Calls Tryd.prog 19 #[.pointer none, f1, f2, .agg (v8a d)] w fun e w' => (∃ t x, e = .returned (.tuple #[.int .i64 0, .bool false, .iface t x]) ∧ ErrV w' (.iface t x) 1) ∧ Below w.heap.size w w' := by
  have hb0 : ∀ o : Obj, Below w.heap.size w (w.alloc o) := fun o => (Below.refl _ _).alloc (Nat.le_refl _) _
  go_enter Tryd.func19, Tryd.ntmps19
  go_wp2_with fail
  refine (woe_num _ 1 _).mono ?_
  rintro e w3 ⟨⟨t, x, rfl, he⟩, hb3⟩
  have HE := Lib.hid he
  have HB3 := Lib.hid ((hb0 _).trans (hb3.mono (hb0 _).size))
  clear he hb3 hb0
  try dsimp only
  go_wp2_with fail
  go_ret3
  exact ⟨⟨t, x, rfl, HE.out⟩, HB3.out⟩
theorem built_ent0 : Tryd.prog.built 41 [] = some (entC (zer 32) 0 0) := by kernel_rfl
set_option maxRecDepth 100000 in
set_option maxHeartbeats 1000000 in
theorem get_nil (i : Int) (w : World) : Calls Tryd.prog 11 #[.pointer none, .int .i64 i] w fun e w' => (∃ t x, e = .returned (.tuple #[.agg (entC (zer 32) 0 0), .iface t x]) ∧ ErrV w' (.iface t x) 1) ∧ Below w.heap.size w w' := by
  have hb0 : ∀ o : Obj, Below w.heap.size w (w.alloc o) := fun o => (Below.refl _ _).alloc (Nat.le_refl _) _
  go_enter Tryd.func11, Tryd.ntmps11
  repeat ((fail_if_success (with_reducible refine stop_pos "prints.go:44" rfl ?_)); (first | go_values | go_skip | go_guarded | go_step | go_upon))
  refine gen_world (fun wx => Hid (wx.heap[w.heap.size]? = some (.cells (entC (zer 32) 0 0) 41) ∧ Below w.heap.size w wx)) (Lib.hid ⟨heap_alloc_new w (.cells (entC (zer 32) 0 0) 41), hb0 _⟩) ?_
  clear hb0
  intro w1 H1
  go_wp2_with (refine wpList_build_to rfl 41 _ rfl (entC (zer 32) 0 0) built_ent0 ?_)
  refine (woe_num _ 1 _).mono ?_
  rintro e w3 ⟨⟨t, x, rfl, he⟩, hb3⟩
  have HE := Lib.hid he
  have H3 : Hid (w3.heap[w.heap.size]? = some (.cells (entC (zer 32) 0 0) 41) ∧ Below w.heap.size w w3) := Lib.hid ⟨(hb3.block _ (lt_of_blk H1.out.1)).trans H1.out.1, H1.out.2.trans (hb3.mono H1.out.2.size)⟩
  clear he hb3 H1
  try dsimp only
  go_wp2_with (refine ent_store rfl (.tmp 4) (.tmp 23) rfl w.heap.size (zer 32) (zer 32) 0 0 0 0 rfl rfl H3.out.1 rfl rfl ?_)
  refine bodyPost_ret (results_cell_slot Tryd.results11 _ _ w.heap.size 41 (entC (zer 32) 0 0) (0, 0) _ rfl (.iface t x) rfl (setRow_heap _ _ _ _ _ (0, 0) H3.out.1) Tryd.underlying41 rfl (by rw [entC_size rfl]; exact info_ents)) rfl ⟨⟨t, x, rfl, ?_⟩, below_setRow H3.out.2 (Nat.le_refl _) _⟩
  exact HE.out.setRow H3.out.1 (by decide) _
set_option maxRecDepth 100000 in
set_option maxHeartbeats 1000000 in
theorem find_nil (d : List Int) (hd : d.length = 32 ∧ U8s d) (w : World) : Calls Tryd.prog 10 #[.pointer none, .agg (v8a d)] w fun e w' => (∃ t x, e = .returned (.tuple #[.int .i64 0, .bool false, .iface t x]) ∧ ErrV w' (.iface t x) 1) ∧ Below w.heap.size w w' := by
  have hb0 : ∀ o : Obj, Below w.heap.size w (w.alloc o) := fun o => (Below.refl _ _).alloc (Nat.le_refl _) _
  have hmf : ∀ (fn : Fn) (first cap : Array Value) (w : World), (Instr.makeFunc fn first cap).run Tryd.prog w = .ok (.func fn first cap) w := fun _ _ _ _ => rfl
  go_enter Tryd.func10, Tryd.ntmps10
  repeat ((fail_if_success (with_reducible refine stop_pos "prints.go:72" rfl ?_)); (first | go_values | go_skip | go_guarded | go_step | go_upon))
  refine gen_world (fun wx => Hid (wx.heap[w.heap.size]? = some (.cells (v8a d) 34) ∧ Below w.heap.size w wx)) (Lib.hid ⟨heap_alloc_new w (.cells (v8a d) 34), hb0 _⟩) ?_
  clear hb0
  intro w1 H1
  go_wp2_with (refine dg_load rfl (.tmp 3) rfl w.heap.size 0 d rfl (row_range H1.out.1) hd.1 ?_)
  refine (seek_nil _ _ d hd.1 w1).mono ?_
  rintro e w2 ⟨⟨t, x, rfl, he⟩, hb2⟩
  have HE := Lib.hid he
  clear he
  try dsimp only
  go_wp2_with fail
  go_ret3
  exact ⟨⟨t, x, rfl, HE.out⟩, H1.out.2.trans (hb2.mono H1.out.2.size)⟩
set_option maxRecDepth 100000 in
set_option maxHeartbeats 1000000 in
theorem free_nil (d : List Int) (hd : d.length = 32 ∧ U8s d) (w : World) : Calls Tryd.prog 8 #[.pointer none, .agg (v8a d)] w fun e w' => (∃ t x, e = .returned (.tuple #[.int .i64 0, .iface t x]) ∧ ErrV w' (.iface t x) 1) ∧ Below w.heap.size w w' := by
  have hb0 : ∀ o : Obj, Below w.heap.size w (w.alloc o) := fun o => (Below.refl _ _).alloc (Nat.le_refl _) _
  go_enter Tryd.func8, Tryd.ntmps8
  repeat ((fail_if_success (with_reducible refine stop_pos "prints.go:77" rfl ?_)); (first | go_values | go_skip | go_guarded | go_step | go_upon))
  refine gen_world (fun wx => Hid (wx.heap[w.heap.size]? = some (.cells (v8a d) 34) ∧ Below w.heap.size w wx)) (Lib.hid ⟨heap_alloc_new w (.cells (v8a d) 34), hb0 _⟩) ?_
  clear hb0
  intro w1 H1
  go_wp2_with (refine dg_load rfl (.tmp 3) rfl w.heap.size 0 d rfl (row_range H1.out.1) hd.1 ?_)
  refine (seek_nil _ _ d hd.1 w1).mono ?_
  rintro e w2 ⟨⟨t, x, rfl, he⟩, hb2⟩
  have HE := Lib.hid he
  clear he
  try dsimp only
  go_wp2_with fail
  go_ret2
  exact ⟨⟨t, x, rfl, HE.out⟩, H1.out.2.trans (hb2.mono H1.out.2.size)⟩
set_option maxRecDepth 100000 in
set_option maxHeartbeats 1000000 in
theorem slot_nil (s : Int) (w : World) : Calls Tryd.prog 18 #[.pointer none, .int .i64 s] w fun e w' => (∃ t x, e = .returned (.tuple #[.int .i64 0, .bool false, .iface t x]) ∧ ErrV w' (.iface t x) 1) ∧ Below w.heap.size w w' := by
  have hb0 : ∀ o : Obj, Below w.heap.size w (w.alloc o) := fun o => (Below.refl _ _).alloc (Nat.le_refl _) _
  have hmf : ∀ (fn : Fn) (first cap : Array Value) (w : World), (Instr.makeFunc fn first cap).run Tryd.prog w = .ok (.func fn first cap) w := fun _ _ _ _ => rfl
  go_enter Tryd.func18, Tryd.ntmps18
  repeat ((fail_if_success (with_reducible refine stop_pos "prints.go:104" rfl ?_)); (first | go_values | go_skip | go_guarded | go_step | go_upon))
  refine gen_world (fun wx => Hid (Below w.heap.size w wx)) (Lib.hid (hb0 _)) ?_
  clear hb0
  intro w1 H1
  go_wp2_with (refine wpList_build_to rfl 34 _ rfl (v8a (zer 32)) built_h32 ?_)
  refine (seek_nil _ _ (zer 32) rfl w1).mono ?_
  rintro e w2 ⟨⟨t, x, rfl, he⟩, hb2⟩
  have HE := Lib.hid he
  clear he
  try dsimp only
  go_wp2_with fail
  go_ret3
  exact ⟨⟨t, x, rfl, HE.out⟩, H1.out.trans (hb2.mono H1.out.size)⟩
set_option maxRecDepth 100000 in
set_option maxHeartbeats 1000000 in
theorem all_nil (w : World) : Calls Tryd.prog 17 #[.pointer none] w fun e w' => (∃ t x, e = .returned (.tuple #[.slice none 0 0, .iface t x]) ∧ ErrV w' (.iface t x) 1) ∧ Below w.heap.size w w' := by
  go_enter Tryd.func17, Tryd.ntmps17
  go_wp2_with fail
  refine (woe_num _ 1 _).mono ?_
  rintro e w2 ⟨⟨t, x, rfl, he⟩, hb2⟩
  have HE := Lib.hid he
  clear he
  try dsimp only
  go_wp2_with fail
  go_ret2
  exact ⟨⟨t, x, rfl, HE.out⟩, hb2⟩
set_option maxRecDepth 100000 in
set_option maxHeartbeats 1000000 in
theorem set_nil (i : Int) (w : World) : Calls Tryd.prog 9 #[.pointer none, .int .i64 i, .agg (entC (zer 32) 0 0)] w fun e w' => (∃ t x, e = .returned (.iface t x) ∧ ErrV w' (.iface t x) 1) ∧ Below w.heap.size w w' := by
  have hb0 : ∀ o : Obj, Below w.heap.size w (w.alloc o) := fun o => (Below.refl _ _).alloc (Nat.le_refl _) _
  go_enter Tryd.func9, Tryd.ntmps9
  repeat ((fail_if_success (with_reducible refine stop_pos "prints.go:56" rfl ?_)); (first | go_values | go_skip | go_guarded | go_step | go_upon))
  refine gen_world (fun wx => Hid (Below w.heap.size w wx)) (Lib.hid (hb0 _)) ?_
  clear hb0
  intro w1 H1
  go_wp2_with fail
  refine (woe_num _ 1 _).mono ?_
  rintro e w2 ⟨⟨t, x, rfl, he⟩, hb2⟩
  have HE := Lib.hid he
  clear he
  try dsimp only
  go_wp2_with fail
  go_ret
  exact ⟨⟨t, x, rfl, HE.out⟩, H1.out.trans (hb2.mono H1.out.size)⟩
set_option maxRecDepth 100000 in
set_option maxHeartbeats 1000000 in
/-- prints.New: refused. -/
theorem printsNew_bad (bb : Nat) (first n : Int) (N : Nat → Prop) (B : BookS) (hf : -9223372036854775808 ≤ first ∧ first < 9223372036854775808) (hn : -9223372036854775808 ≤ n ∧ n < 9223372036854775808) (hbad : ¬ (0 ≤ first ∧ 1 ≤ n ∧ first ≤ B.n - n)) (w : World) (h : BookI w bb N B) :
    Calls Tryd.prog 15 #[.pointer (some ⟨bb, 0, none⟩), .int .i64 first, .int .i64 n] w fun e w' => (∃ t x, e = .returned (.tuple #[.pointer none, .iface t x]) ∧ ErrV w' (.iface t x) 1) ∧ Below w.heap.size w w' := by
  have hbn := h.isOk.n.2
  have hP := bookPages_any bb N B w h
  have g4 : (B.n : Int) ≤ 2048 := by omega
  have g0 : (0 : Int) ≤ B.n := by omega
  clear h hbn
  by_cases q1 : first < 0
  · go_enter Tryd.func15, Tryd.ntmps15
    go_wp2_with fail
    refine (woe_num _ 1 _).mono ?_
    rintro e w2 ⟨⟨t, x, rfl, he⟩, hb2⟩
    have HE := Lib.hid he
    clear he
    try dsimp only
    go_wp2_with fail
    go_ret2
    exact ⟨⟨t, x, rfl, HE.out⟩, hb2⟩
  by_cases q2 : n < 1
  · go_enter Tryd.func15, Tryd.ntmps15
    go_wp2_with fail
    refine (woe_num _ 1 _).mono ?_
    rintro e w2 ⟨⟨t, x, rfl, he⟩, hb2⟩
    have HE := Lib.hid he
    clear he
    try dsimp only
    go_wp2_with fail
    go_ret2
    exact ⟨⟨t, x, rfl, HE.out⟩, hb2⟩
  have q3 : (B.n : Int) - n < first := by omega
  go_enter Tryd.func15, Tryd.ntmps15
  go_wp2_with fail
  refine hP.mono ?_
  rintro e w1 ⟨rfl, rfl⟩
  try dsimp only
  go_wp2_with fail
  refine (woe_num _ 1 _).mono ?_
  rintro e w2 ⟨⟨t, x, rfl, he⟩, hb2⟩
  have HE := Lib.hid he
  clear he
  try dsimp only
  go_wp2_with fail
  go_ret2
  exact ⟨⟨t, x, rfl, HE.out⟩, hb2⟩
/-- The laid variable stands, what was there is there, and these are errors of number 1. -/
def NW (w0 : World) (l : List Value) (wx : World) : Prop := EtAt wx ∧ Below w0.heap.size w0 wx ∧ ∀ v ∈ l, ErrV wx v 1
theorem NW.below {w0 wx wy : World} {l : List Value} (h : NW w0 l wx) (hb : Below wx.heap.size wx wy) : NW w0 l wy :=
  ⟨h.1.below hb h.1.pos, h.2.1.trans (hb.mono h.2.1.size), fun v hv => (h.2.2 v hv).below hb⟩
theorem NW.add {w0 wx : World} {l : List Value} {v : Value} (h : NW w0 l wx) (hv : ErrV wx v 1) : NW w0 (v :: l) wx :=
  ⟨h.1, h.2.1, fun x hx => by rcases List.mem_cons.1 hx with rfl | hx; exact hv; exact h.2.2 x hx⟩
def B140 : BookS := (newB 100 38 ⟨List.replicate 140 (zer 64), []⟩).homed
theorem B140_n : B140.n = 38 := rfl
end Go.Proofs.YtbbpfeghoikjlaaDoor
