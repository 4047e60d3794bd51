/- A forest that is none, a depot that is none: each method answers that its argument is bad. New of both, and refused. -/
import Derived.Test.YthaaoghbginmpaaDoorN1
set_option linter.unusedSimpArgs false
set_option linter.unusedVariables false
set_option linter.unnecessarySimpa false
namespace Go.Proofs.YthaaoghbginmpaaDoor
set_option linter.unusedSimpArgs false
set_option linter.unusedVariables false
open Go.RowKit Go.Maps
set_option maxRecDepth 100000 in
theorem num07_nil (w : World) : Calls Tryd.prog 28 #[.nilIface] w fun e w' => e = .returned (.int .i64 0) ∧ w = w' := by
  go_enter Tryd.func28, Tryd.ntmps28
  go_wp2_with fail
  go_ret
  exact ⟨rfl, rfl⟩
set_option maxRecDepth 100000 in
theorem num07_err (v : Value) (n : Int) (w : World) (hv : ErrV w v n) (hg : EtAt w) : Calls Tryd.prog 28 #[v] w fun e w' => e = .returned (.int .i64 n) ∧ Below w.heap.size w w' := by
  obtain ⟨te, xe, rfl⟩ := hv.iface
  obtain ⟨k, hk⟩ := hv
  have hb0 : Below w.heap.size w (w.alloc (.cells #[.int .i64 0] 92)) := (Below.refl _ _).alloc (Nat.le_refl _) _
  have hA := as_any k (.iface te xe) n w.heap.size (.int .i64 0) (w.alloc (.cells #[.int .i64 0] 92)) (hk.below hb0) (hg.below hb0 hg.pos) (heap_alloc_new _ _)
  clear hk
  go_enter Tryd.func28, Tryd.ntmps28
  go_wp2_with fail
  refine hA.mono ?_
  rintro e w2 ⟨rfl, hx, hb⟩
  have z0 : w2.cell? ⟨w.heap.size, 0, none⟩ = some (.int .i64 n) := by simp [World.cell?, hx]
  try dsimp only
  go_wp2_with fail
  go_ret
  exact ⟨rfl, hb0.trans hb⟩
set_option maxRecDepth 100000 in
theorem num09_nil (w : World) : Calls Tryd.prog 35 #[.nilIface] w fun e w' => e = .returned (.int .i64 0) ∧ w = w' := by
  go_enter Tryd.func35, Tryd.ntmps35
  go_wp2_with fail
  go_ret
  exact ⟨rfl, rfl⟩
set_option maxRecDepth 100000 in
theorem num09_err (v : Value) (n : Int) (w : World) (hv : ErrV w v n) (hg : EtAt w) : Calls Tryd.prog 35 #[v] w fun e w' => e = .returned (.int .i64 n) ∧ Below w.heap.size w w' := by
  obtain ⟨te, xe, rfl⟩ := hv.iface
  obtain ⟨k, hk⟩ := hv
  have hb0 : Below w.heap.size w (w.alloc (.cells #[.int .i64 0] 92)) := (Below.refl _ _).alloc (Nat.le_refl _) _
  have hA := as_any k (.iface te xe) n w.heap.size (.int .i64 0) (w.alloc (.cells #[.int .i64 0] 92)) (hk.below hb0) (hg.below hb0 hg.pos) (heap_alloc_new _ _)
  clear hk
  go_enter Tryd.func35, Tryd.ntmps35
  go_wp2_with fail
  refine hA.mono ?_
  rintro e w2 ⟨rfl, hx, hb⟩
  have z0 : w2.cell? ⟨w.heap.size, 0, none⟩ = some (.int .i64 n) := by simp [World.cell?, hx]
  try dsimp only
  go_wp2_with fail
  go_ret
  exact ⟨rfl, hb0.trans hb⟩
set_option maxRecDepth 100000 in
set_option maxHeartbeats 1000000 in
theorem sound_nil (lun block : Int) (w : World) : Calls Tryd.prog 62 #[.pointer none, .int .i64 lun, .int .i64 block] w fun e w' => (∃ t x, e = .returned (.iface t x) ∧ ErrV w' (.iface t x) 1) ∧ Below w.heap.size w w' := by
  have hb0 : ∀ o : Obj, Below w.heap.size w (w.alloc o) := fun o => (Below.refl _ _).alloc (Nat.le_refl _) _
  go_enter Tryd.func62, Tryd.ntmps62
  clear hb0
  go_wp2_with fail
  refine (woe_num _ 1 _).mono ?_
  rintro e w2 ⟨⟨t, x, rfl, he⟩, hb⟩
  have HE := Lib.hid he
  clear he
  try dsimp only
  go_wp2_with fail
  go_ret
  exact ⟨⟨t, x, rfl, HE.out⟩, hb⟩
set_option maxRecDepth 100000 in
set_option maxHeartbeats 1000000 in
theorem rget_nil (lun block : Int) (w : World) : Calls Tryd.prog 32 #[.pointer none, .int .i64 lun, .int .i64 block] w fun e w' => (∃ t x, e = .returned (.tuple #[.int .i64 0, .iface t x]) ∧ ErrV w' (.iface t x) 1) ∧ Below w.heap.size w w' := by
  have hb0 : ∀ o : Obj, Below w.heap.size w (w.alloc o) := fun o => (Below.refl _ _).alloc (Nat.le_refl _) _
  go_enter Tryd.func32, Tryd.ntmps32
  clear hb0
  go_wp2_with fail
  refine (sound_nil lun block _).mono ?_
  rintro e w2 ⟨⟨t, x, rfl, he⟩, hb⟩
  have HE := Lib.hid he
  clear he
  try dsimp only
  go_wp2_with fail
  go_ret2
  exact ⟨⟨t, x, rfl, HE.out⟩, hb⟩
set_option maxRecDepth 100000 in
set_option maxHeartbeats 1000000 in
theorem rset_nil (lun block y : Int) (w : World) : Calls Tryd.prog 36 #[.pointer none, .int .i64 lun, .int .i64 block, .int .i64 y] w fun e w' => (∃ t x, e = .returned (.iface t x) ∧ ErrV w' (.iface t x) 1) ∧ Below w.heap.size w w' := by
  have hb0 : ∀ o : Obj, Below w.heap.size w (w.alloc o) := fun o => (Below.refl _ _).alloc (Nat.le_refl _) _
  go_enter Tryd.func36, Tryd.ntmps36
  clear hb0
  go_wp2_with fail
  refine (sound_nil lun block _).mono ?_
  rintro e w2 ⟨⟨t, x, rfl, he⟩, hb⟩
  have HE := Lib.hid he
  clear he
  try dsimp only
  go_wp2_with fail
  go_ret
  exact ⟨⟨t, x, rfl, HE.out⟩, hb⟩
set_option maxRecDepth 100000 in
set_option maxHeartbeats 1000000 in
theorem rnodes_nil (w : World) : Calls Tryd.prog 33 #[.pointer none] w fun e w' => (∃ t x, e = .returned (.tuple #[.int .i64 0, .iface t x]) ∧ ErrV w' (.iface t x) 1) ∧ Below w.heap.size w w' := by
  have hb0 : ∀ o : Obj, Below w.heap.size w (w.alloc o) := fun o => (Below.refl _ _).alloc (Nat.le_refl _) _
  go_enter Tryd.func33, Tryd.ntmps33
  clear hb0
  go_wp2_with fail
  refine (woe_num _ 1 _).mono ?_
  rintro e w2 ⟨⟨t, x, rfl, he⟩, hb⟩
  have HE := Lib.hid he
  clear he
  try dsimp only
  go_wp2_with fail
  go_ret2
  exact ⟨⟨t, x, rfl, HE.out⟩, hb⟩
set_option maxRecDepth 100000 in
set_option maxHeartbeats 1000000 in
theorem dstate_nil (slot : Int) (w : World) : Calls Tryd.prog 58 #[.pointer none, .int .i64 slot] w fun e w' => (∃ t x, e = .returned (.tuple #[.int .u8 0, .iface t x]) ∧ ErrV w' (.iface t x) 1) ∧ Below w.heap.size w w' := by
  have hb0 : ∀ o : Obj, Below w.heap.size w (w.alloc o) := fun o => (Below.refl _ _).alloc (Nat.le_refl _) _
  go_enter Tryd.func58, Tryd.ntmps58
  clear hb0
  go_wp2_with fail
  refine (woe_num _ 1 _).mono ?_
  rintro e w2 ⟨⟨t, x, rfl, he⟩, hb⟩
  have HE := Lib.hid he
  clear he
  try dsimp only
  go_wp2_with fail
  go_ret2
  exact ⟨⟨t, x, rfl, HE.out⟩, hb⟩
set_option maxRecDepth 100000 in
set_option maxHeartbeats 1000000 in
theorem dslots_nil (box : Int) (w : World) : Calls Tryd.prog 37 #[.pointer none, .int .i64 box] w fun e w' => (∃ t x, e = .returned (.tuple #[.slice none 0 0, .iface t x]) ∧ ErrV w' (.iface t x) 1) ∧ Below w.heap.size w w' := by
  have hb0 : ∀ o : Obj, Below w.heap.size w (w.alloc o) := fun o => (Below.refl _ _).alloc (Nat.le_refl _) _
  go_enter Tryd.func37, Tryd.ntmps37
  clear hb0
  go_wp2_with fail
  refine (woe_num _ 1 _).mono ?_
  rintro e w2 ⟨⟨t, x, rfl, he⟩, hb⟩
  have HE := Lib.hid he
  clear he
  try dsimp only
  go_wp2_with fail
  go_ret2
  exact ⟨⟨t, x, rfl, HE.out⟩, hb⟩
set_option maxRecDepth 100000 in
set_option maxHeartbeats 1000000 in
theorem dworst_nil (w : World) : Calls Tryd.prog 38 #[.pointer none] w fun e w' => (∃ t x, e = .returned (.tuple #[.int .i64 0, .int .i64 0, .iface t x]) ∧ ErrV w' (.iface t x) 1) ∧ Below w.heap.size w w' := by
  have hb0 : ∀ o : Obj, Below w.heap.size w (w.alloc o) := fun o => (Below.refl _ _).alloc (Nat.le_refl _) _
  go_enter Tryd.func38, Tryd.ntmps38
  clear hb0
  go_wp2_with fail
  refine (woe_num _ 1 _).mono ?_
  rintro e w2 ⟨⟨t, x, rfl, he⟩, hb⟩
  have HE := Lib.hid he
  clear he
  try dsimp only
  go_wp2_with fail
  go_ret3
  exact ⟨⟨t, x, rfl, HE.out⟩, hb⟩
set_option maxRecDepth 100000 in
set_option maxHeartbeats 1000000 in
theorem ddrop_nil (slot : Int) (w : World) : Calls Tryd.prog 40 #[.pointer none, .int .i64 slot] w fun e w' => (∃ t x, e = .returned (.iface t x) ∧ ErrV w' (.iface t x) 1) ∧ Below w.heap.size w w' := by
  have hb0 : ∀ o : Obj, Below w.heap.size w (w.alloc o) := fun o => (Below.refl _ _).alloc (Nat.le_refl _) _
  go_enter Tryd.func40, Tryd.ntmps40
  clear hb0
  go_wp2_with fail
  refine (dstate_nil slot _).mono ?_
  rintro e w2 ⟨⟨t, x, rfl, he⟩, hb⟩
  have HE := Lib.hid he
  clear he
  try dsimp only
  go_wp2_with fail
  go_ret
  exact ⟨⟨t, x, rfl, HE.out⟩, hb⟩
set_option maxRecDepth 100000 in
set_option maxHeartbeats 1000000 in
theorem dput_nil (p : List Int) (but : Int) (w : World) : Calls Tryd.prog 57 #[.pointer none, .agg (v8a p), .int .i64 but] w fun e w' => (∃ t x, e = .returned (.tuple #[.int .i64 0, .iface t x]) ∧ ErrV w' (.iface t x) 1) ∧ Below w.heap.size w w' := by
  have hb0 : ∀ o : Obj, Below w.heap.size w (w.alloc o) := fun o => (Below.refl _ _).alloc (Nat.le_refl _) _
  go_enter Tryd.func57, Tryd.ntmps57
  repeat ((fail_if_success (with_reducible refine stop_pos "depot.go:73" rfl ?_)); (first | go_values | go_skip | go_guarded | go_step | go_upon))
  refine gen_world (fun wx => Hid (True ∧ Below w.heap.size w wx)) (Lib.hid ⟨trivial, hb0 _⟩) ?_
  intro w1 H1
  clear hb0
  go_wp2_with fail
  refine (woe_num _ 1 _).mono ?_
  rintro e w2 ⟨⟨t, x, rfl, he⟩, hb⟩
  have HE := Lib.hid he
  clear he
  try dsimp only
  go_wp2_with fail
  go_ret2
  exact ⟨⟨t, x, rfl, HE.out⟩, H1.out.2.trans (hb.mono H1.out.2.size)⟩
set_option maxRecDepth 100000 in
set_option maxHeartbeats 1000000 in
theorem dPut_nil (p : List Int) (hp : p.length = 64) (w : World) : Calls Tryd.prog 26 #[.pointer none, .agg (v8a p)] w fun e w' => (∃ t x, e = .returned (.tuple #[.int .i64 0, .iface t x]) ∧ ErrV w' (.iface t x) 1) ∧ Below w.heap.size w w' := by
  have hb0 : ∀ o : Obj, Below w.heap.size w (w.alloc o) := fun o => (Below.refl _ _).alloc (Nat.le_refl _) _
  go_enter Tryd.func26, Tryd.ntmps26
  repeat ((fail_if_success (with_reducible refine stop_at 6 rfl ?_)); (first | go_values | go_skip | go_guarded | go_step | go_upon))
  refine gen_world (fun wx => Hid (wx.heap[w.heap.size]? = some (.cells (v8a p) 68) ∧ Below w.heap.size w wx)) (Lib.hid ⟨heap_alloc_new w (.cells (v8a p) 68), hb0 _⟩) ?_
  intro w1 H1
  clear hb0
  go_wp2_with (refine wpList_load_mid rfl 68 (.tmp 3) rfl w.heap.size 0 rfl (v8 p) _ (row_range H1.out.1) Tryd.underlying68 rfl (by rw [v8_length, hp]; exact info_pgs) ?_)
  refine (dput_nil p (-1) _).mono ?_
  rintro e w2 ⟨⟨t, x, rfl, he⟩, hb⟩
  have HE := Lib.hid he
  clear he
  try dsimp only
  go_wp2_with fail
  go_ret2
  exact ⟨⟨t, x, rfl, HE.out⟩, H1.out.2.trans (hb.mono H1.out.2.size)⟩
end Go.Proofs.YthaaoghbginmpaaDoor
