/- A table that is none has nothing; places and numbers that are none are refused. -/
import Derived.Test.YthaaoghbginmpaaDoorN1
import Derived.Test.YthaaoghbginmpaaDoorF1
set_option linter.unusedSimpArgs false
set_option linter.unusedVariables false
set_option linter.unnecessarySimpa false
namespace Go.Proofs.YthaaoghbginmpaaDoor
set_option linter.unusedSimpArgs false
set_option linter.unusedVariables false
open Go.RowKit Go.Maps
/-- The laid variable stands, what was there is there, and these are errors of number 1. -/
def NW (w0 : World) (l : List Value) (wx : World) : Prop := EtAt wx ∧ Below w0.heap.size w0 wx ∧ ∀ v ∈ l, ErrV wx v 1
theorem NW.below {w0 wx wy : World} {l : List Value} (h : NW w0 l wx) (hb : Below wx.heap.size wx wy) : NW w0 l wy :=
  ⟨h.1.below hb h.1.pos, h.2.1.trans (hb.mono h.2.1.size), fun v hv => (h.2.2 v hv).below hb⟩
theorem NW.add {w0 wx : World} {l : List Value} {v : Value} (h : NW w0 l wx) (hv : ErrV wx v 1) : NW w0 (v :: l) wx :=
  ⟨h.1, h.2.1, fun x hx => by rcases List.mem_cons.1 hx with rfl | hx; exact hv; exact h.2.2 x hx⟩
theorem NW.num {w0 wx : World} {l : List Value} (h : NW w0 l wx) (v : Value) (hv : v ∈ l) : Calls Tryd.prog 23 #[v] wx fun e w' => e = .returned (.int .i64 1) ∧ Below wx.heap.size wx w' := num08_err v 1 wx (h.2.2 v hv) h.1
def B140 : BookS := (newB 100 38 ⟨List.replicate 140 (zer 64), []⟩).homed
theorem B140_n : B140.n = 38 := rfl
set_option maxRecDepth 100000 in
set_option maxHeartbeats 8000000 in
theorem none08_any (first n i : Int) (hf : -9223372036854775808 ≤ first ∧ first < 9223372036854775808) (hn : -9223372036854775808 ≤ n ∧ n < 9223372036854775808) (w : World) (hg : EtAt w) :
    Calls Tryd.prog 5 #[.int .i64 first, .int .i64 n, .int .i64 i] w fun e w' => e = .returned (.bool true) ∧ Below w.heap.size w w' := by
  have HG := Lib.hid hg
  clear hg
  go_enter Tryd.func5, Tryd.ntmps5
  go_wp2_with fail
  refine (stands08_any (fun k => k < w.heap.size) w (fun _ h => h)).mono ?_
  rintro e w1 ⟨rfl, hk⟩
  have H1 : Hid (NW w [] w1) := Lib.hid ⟨HG.out.keeps hk HG.out.pos, ⟨hk.os, hk.tape, hk.output, hk.size, fun k h => hk.block k h h⟩, fun v hv => by cases hv⟩
  clear hk HG
  try dsimp only
  go_wp2_with fail
  refine (get_nil i w1).mono ?_
  rintro e w2 ⟨⟨t1, x1, rfl, he⟩, hb⟩
  have H2 : Hid (NW w [.iface t1 x1] w2) := Lib.hid ((H1.out.below hb).add he)
  clear he hb H1
  try dsimp only
  repeat ((fail_if_success (with_reducible refine stop_at 37 rfl ?_)); (first | (refine ent_store rfl (.tmp 8) (.tmp 34) rfl w2.heap.size (zer 32) (zer 32) 0 0 0 0 rfl rfl (heap_alloc_new w2 _) rfl rfl ?_) | go_values | go_skip | go_guarded | go_step | go_upon))
  have hbx : ∀ o : Obj, Below w2.heap.size w2 ((w2.alloc o).setRow w2.heap.size (entC (zer 32) 0 0)) := fun o => below_setRow ((Below.refl _ _).alloc (Nat.le_refl _) _) (Nat.le_refl _) _
  refine gen_world (fun wx => Hid (NW w [.iface t1 x1] wx)) (Lib.hid (H2.out.below (hbx _))) ?_
  clear hbx H2
  generalize w2.heap.size = b2
  intro w3 H3
  go_wp2_with (refine wpList_build_to rfl 27 _ rfl (v8a (zer 32)) built_h32 ?_)
  refine (find_nil (zer 32) ⟨rfl, zer_u8 32⟩ w3).mono ?_
  rintro e w4 ⟨⟨t2, x2, rfl, he⟩, hb⟩
  have H4 : Hid (NW w [.iface t2 x2, .iface t1 x1] w4) := Lib.hid ((H3.out.below hb).add he)
  clear he hb H3
  try dsimp only
  go_wp2_with (refine wpList_build_to rfl 27 _ rfl (v8a (zer 32)) built_h32 ?_)
  refine (free_nil (zer 32) ⟨rfl, zer_u8 32⟩ w4).mono ?_
  rintro e w5 ⟨⟨t3, x3, rfl, he⟩, hb⟩
  have H5 : Hid (NW w [.iface t3 x3, .iface t2 x2, .iface t1 x1] w5) := Lib.hid ((H4.out.below hb).add he)
  clear he hb H4
  try dsimp only
  go_wp2_with fail
  refine (slot_nil i w5).mono ?_
  rintro e w6 ⟨⟨t4, x4, rfl, he⟩, hb⟩
  have H6 : Hid (NW w [.iface t4 x4, .iface t3 x3, .iface t2 x2, .iface t1 x1] w6) := Lib.hid ((H5.out.below hb).add he)
  clear he hb H5
  try dsimp only
  go_wp2_with fail
  refine (all_nil  w6).mono ?_
  rintro e w7 ⟨⟨t5, x5, rfl, he⟩, hb⟩
  have H7 : Hid (NW w [.iface t5 x5, .iface t4 x4, .iface t3 x3, .iface t2 x2, .iface t1 x1] w7) := Lib.hid ((H6.out.below hb).add he)
  clear he hb H6
  try dsimp only
  go_wp2_with fail
  have hN7 : ∀ k, (fun k => k < w7.heap.size) k → k < w7.heap.size := fun _ h => h
  refine (diskNew_any 140 (by decide) (fun k => k < w7.heap.size) w7 hN7).mono ?_
  rintro e w8 ⟨⟨db, rfl, hdb, hd⟩, hb1⟩
  have HD := Lib.hid hd
  have HB1 := Lib.hid hb1
  clear hd hb1
  have hMT := mount_zero db 100 (fun k => k < w7.heap.size) ⟨List.replicate 140 (zer 64), []⟩ w8 (by decide) (by simp) HD.out (fun h => by have : db < w7.heap.size := h; omega) (fun i hi => zero_view 140 i (by simpa using hi))
  try dsimp only
  go_wp2_with fail
  refine hMT.mono ?_
  clear hMT
  rintro e w9 ⟨⟨bb, rfl, hbb, hB⟩, hk2⟩
  have HB : Hid (BookI w9 bb (fun k => k < w7.heap.size) B140) := Lib.hid (by simpa [B140] using hB)
  have hk3 := (Keeps.of_below (N := fun k => k < w7.heap.size) HB1.out).trans hk2
  have H9 : Hid (NW w [.iface t5 x5, .iface t4 x4, .iface t3 x3, .iface t2 x2, .iface t1 x1] w9) := Lib.hid (H7.out.below ⟨hk3.os, hk3.tape, hk3.output, hk3.size, fun k h => hk3.block k h h⟩)
  clear hB hk2 hk3 HB1 HD H7 hdb hbb hN7
  try dsimp only
  go_wp2_with fail
  have arm := built_ent0
  by_cases hok : 0 ≤ first ∧ 1 ≤ n ∧ first ≤ 38 - n
  · obtain ⟨f1, f2, f3⟩ := hok
    obtain ⟨fn, hfn⟩ := Int.eq_ofNat_of_zero_le f1
    obtain ⟨nn, hnn⟩ := Int.eq_ofNat_of_zero_le (show 0 ≤ n by omega)
    have hPN := printsNew_any bb fn nn (fun k => k < w7.heap.size) B140 ⟨by omega, by rw [B140_n]; omega⟩ w9 HB.out
    rw [← hfn, ← hnn] at hPN
    refine hPN.mono ?_
    clear hPN hfn hnn
    rintro e w10 ⟨⟨tb, rfl, _, _⟩, hb⟩
    have H10 : Hid (NW w [.iface t5 x5, .iface t4 x4, .iface t3 x3, .iface t2 x2, .iface t1 x1] w10) := Lib.hid (H9.out.below hb)
    clear hb H9 HB
    try dsimp only
    go_wp2_with fail
    refine (H10.out.num (.iface t1 x1) (by simp)).mono ?_
    rintro e w11 ⟨rfl, hb⟩
    have H11 : Hid (NW w [.iface t5 x5, .iface t4 x4, .iface t3 x3, .iface t2 x2, .iface t1 x1] w11) := Lib.hid (H10.out.below hb)
    clear hb H10
    try dsimp only
    go_wp2_with (refine build_g rfl 34 #[] rfl (entC (zer 32) 0 0) arm ?_)
    refine (H11.out.num (.iface t2 x2) (by simp)).mono ?_
    rintro e w12 ⟨rfl, hb⟩
    have H12 : Hid (NW w [.iface t5 x5, .iface t4 x4, .iface t3 x3, .iface t2 x2, .iface t1 x1] w12) := Lib.hid (H11.out.below hb)
    clear hb H11
    try dsimp only
    go_wp2_with (refine build_g rfl 34 #[] rfl (entC (zer 32) 0 0) arm ?_)
    refine (H12.out.num (.iface t3 x3) (by simp)).mono ?_
    rintro e w13 ⟨rfl, hb⟩
    have H13 : Hid (NW w [.iface t5 x5, .iface t4 x4, .iface t3 x3, .iface t2 x2, .iface t1 x1] w13) := Lib.hid (H12.out.below hb)
    clear hb H12
    try dsimp only
    go_wp2_with (refine build_g rfl 34 #[] rfl (entC (zer 32) 0 0) arm ?_)
    refine (H13.out.num (.iface t4 x4) (by simp)).mono ?_
    rintro e w14 ⟨rfl, hb⟩
    have H14 : Hid (NW w [.iface t5 x5, .iface t4 x4, .iface t3 x3, .iface t2 x2, .iface t1 x1] w14) := Lib.hid (H13.out.below hb)
    clear hb H13
    try dsimp only
    go_wp2_with (refine build_g rfl 34 #[] rfl (entC (zer 32) 0 0) arm ?_)
    refine (H14.out.num (.iface t5 x5) (by simp)).mono ?_
    rintro e w15 ⟨rfl, hb⟩
    have H15 : Hid (NW w [.iface t5 x5, .iface t4 x4, .iface t3 x3, .iface t2 x2, .iface t1 x1] w15) := Lib.hid (H14.out.below hb)
    clear hb H14
    try dsimp only
    go_wp2_with (refine build_g rfl 34 #[] rfl (entC (zer 32) 0 0) arm ?_)
    refine (set_nil i w15).mono ?_
    rintro e w16 ⟨⟨t7, x7, rfl, he⟩, hb⟩
    have H16 : Hid (NW w [.iface t7 x7, .iface t5 x5, .iface t4 x4, .iface t3 x3, .iface t2 x2, .iface t1 x1] w16) := Lib.hid ((H15.out.below hb).add he)
    clear he hb H15
    try dsimp only
    go_wp2_with fail
    refine (H16.out.num (.iface t7 x7) (by simp)).mono ?_
    rintro e w17 ⟨rfl, hb⟩
    have H17 : Hid (NW w [.iface t7 x7, .iface t5 x5, .iface t4 x4, .iface t3 x3, .iface t2 x2, .iface t1 x1] w17) := Lib.hid (H16.out.below hb)
    clear hb H16
    try dsimp only
    go_wp2_with fail
    refine (num08_nil w17).mono ?_
    rintro e wz ⟨rfl, rfl⟩
    try dsimp only
    go_wp2_with fail
    go_ret
    exact ⟨rfl, H17.out.2.1⟩
  · refine (printsNew_bad bb first n (fun k => k < w7.heap.size) B140 hf hn (by rw [B140_n]; exact hok) w9 HB.out).mono ?_
    rintro e w10 ⟨⟨t6, x6, rfl, he⟩, hb⟩
    have H10 : Hid (NW w [.iface t6 x6, .iface t5 x5, .iface t4 x4, .iface t3 x3, .iface t2 x2, .iface t1 x1] w10) := Lib.hid ((H9.out.below hb).add he)
    clear he hb H9 HB
    try dsimp only
    by_cases q1 : first < 0
    · clear hok
      go_wp2_with fail
      refine (H10.out.num (.iface t1 x1) (by simp)).mono ?_
      rintro e w11 ⟨rfl, hb⟩
      have H11 : Hid (NW w [.iface t6 x6, .iface t5 x5, .iface t4 x4, .iface t3 x3, .iface t2 x2, .iface t1 x1] w11) := Lib.hid (H10.out.below hb)
      clear hb H10
      try dsimp only
      go_wp2_with (refine build_g rfl 34 #[] rfl (entC (zer 32) 0 0) arm ?_)
      refine (H11.out.num (.iface t2 x2) (by simp)).mono ?_
      rintro e w12 ⟨rfl, hb⟩
      have H12 : Hid (NW w [.iface t6 x6, .iface t5 x5, .iface t4 x4, .iface t3 x3, .iface t2 x2, .iface t1 x1] w12) := Lib.hid (H11.out.below hb)
      clear hb H11
      try dsimp only
      go_wp2_with (refine build_g rfl 34 #[] rfl (entC (zer 32) 0 0) arm ?_)
      refine (H12.out.num (.iface t3 x3) (by simp)).mono ?_
      rintro e w13 ⟨rfl, hb⟩
      have H13 : Hid (NW w [.iface t6 x6, .iface t5 x5, .iface t4 x4, .iface t3 x3, .iface t2 x2, .iface t1 x1] w13) := Lib.hid (H12.out.below hb)
      clear hb H12
      try dsimp only
      go_wp2_with (refine build_g rfl 34 #[] rfl (entC (zer 32) 0 0) arm ?_)
      refine (H13.out.num (.iface t4 x4) (by simp)).mono ?_
      rintro e w14 ⟨rfl, hb⟩
      have H14 : Hid (NW w [.iface t6 x6, .iface t5 x5, .iface t4 x4, .iface t3 x3, .iface t2 x2, .iface t1 x1] w14) := Lib.hid (H13.out.below hb)
      clear hb H13
      try dsimp only
      go_wp2_with (refine build_g rfl 34 #[] rfl (entC (zer 32) 0 0) arm ?_)
      refine (H14.out.num (.iface t5 x5) (by simp)).mono ?_
      rintro e w15 ⟨rfl, hb⟩
      have H15 : Hid (NW w [.iface t6 x6, .iface t5 x5, .iface t4 x4, .iface t3 x3, .iface t2 x2, .iface t1 x1] w15) := Lib.hid (H14.out.below hb)
      clear hb H14
      try dsimp only
      go_wp2_with (refine build_g rfl 34 #[] rfl (entC (zer 32) 0 0) arm ?_)
      refine (set_nil i w15).mono ?_
      rintro e w16 ⟨⟨t7, x7, rfl, he⟩, hb⟩
      have H16 : Hid (NW w [.iface t7 x7, .iface t6 x6, .iface t5 x5, .iface t4 x4, .iface t3 x3, .iface t2 x2, .iface t1 x1] w16) := Lib.hid ((H15.out.below hb).add he)
      clear he hb H15
      try dsimp only
      go_wp2_with fail
      refine (H16.out.num (.iface t7 x7) (by simp)).mono ?_
      rintro e w17 ⟨rfl, hb⟩
      have H17 : Hid (NW w [.iface t7 x7, .iface t6 x6, .iface t5 x5, .iface t4 x4, .iface t3 x3, .iface t2 x2, .iface t1 x1] w17) := Lib.hid (H16.out.below hb)
      clear hb H16
      try dsimp only
      go_wp2_with fail
      refine (H17.out.num (.iface t6 x6) (by simp)).mono ?_
      rintro e w18 ⟨rfl, hb⟩
      have H18 : Hid (NW w [.iface t7 x7, .iface t6 x6, .iface t5 x5, .iface t4 x4, .iface t3 x3, .iface t2 x2, .iface t1 x1] w18) := Lib.hid (H17.out.below hb)
      clear hb H17
      try dsimp only
      go_wp2_with fail
      refine (H18.out.num (.iface t6 x6) (by simp)).mono ?_
      rintro e w19 ⟨rfl, hb⟩
      have H19 : Hid (NW w [.iface t7 x7, .iface t6 x6, .iface t5 x5, .iface t4 x4, .iface t3 x3, .iface t2 x2, .iface t1 x1] w19) := Lib.hid (H18.out.below hb)
      clear hb H18
      try dsimp only
      go_wp2_with fail
      go_ret
      exact ⟨rfl, H19.out.2.1⟩
    by_cases q2 : n < 1
    · clear hok
      go_wp2_with fail
      refine (H10.out.num (.iface t1 x1) (by simp)).mono ?_
      rintro e w11 ⟨rfl, hb⟩
      have H11 : Hid (NW w [.iface t6 x6, .iface t5 x5, .iface t4 x4, .iface t3 x3, .iface t2 x2, .iface t1 x1] w11) := Lib.hid (H10.out.below hb)
      clear hb H10
      try dsimp only
      go_wp2_with (refine build_g rfl 34 #[] rfl (entC (zer 32) 0 0) arm ?_)
      refine (H11.out.num (.iface t2 x2) (by simp)).mono ?_
      rintro e w12 ⟨rfl, hb⟩
      have H12 : Hid (NW w [.iface t6 x6, .iface t5 x5, .iface t4 x4, .iface t3 x3, .iface t2 x2, .iface t1 x1] w12) := Lib.hid (H11.out.below hb)
      clear hb H11
      try dsimp only
      go_wp2_with (refine build_g rfl 34 #[] rfl (entC (zer 32) 0 0) arm ?_)
      refine (H12.out.num (.iface t3 x3) (by simp)).mono ?_
      rintro e w13 ⟨rfl, hb⟩
      have H13 : Hid (NW w [.iface t6 x6, .iface t5 x5, .iface t4 x4, .iface t3 x3, .iface t2 x2, .iface t1 x1] w13) := Lib.hid (H12.out.below hb)
      clear hb H12
      try dsimp only
      go_wp2_with (refine build_g rfl 34 #[] rfl (entC (zer 32) 0 0) arm ?_)
      refine (H13.out.num (.iface t4 x4) (by simp)).mono ?_
      rintro e w14 ⟨rfl, hb⟩
      have H14 : Hid (NW w [.iface t6 x6, .iface t5 x5, .iface t4 x4, .iface t3 x3, .iface t2 x2, .iface t1 x1] w14) := Lib.hid (H13.out.below hb)
      clear hb H13
      try dsimp only
      go_wp2_with (refine build_g rfl 34 #[] rfl (entC (zer 32) 0 0) arm ?_)
      refine (H14.out.num (.iface t5 x5) (by simp)).mono ?_
      rintro e w15 ⟨rfl, hb⟩
      have H15 : Hid (NW w [.iface t6 x6, .iface t5 x5, .iface t4 x4, .iface t3 x3, .iface t2 x2, .iface t1 x1] w15) := Lib.hid (H14.out.below hb)
      clear hb H14
      try dsimp only
      go_wp2_with (refine build_g rfl 34 #[] rfl (entC (zer 32) 0 0) arm ?_)
      refine (set_nil i w15).mono ?_
      rintro e w16 ⟨⟨t7, x7, rfl, he⟩, hb⟩
      have H16 : Hid (NW w [.iface t7 x7, .iface t6 x6, .iface t5 x5, .iface t4 x4, .iface t3 x3, .iface t2 x2, .iface t1 x1] w16) := Lib.hid ((H15.out.below hb).add he)
      clear he hb H15
      try dsimp only
      go_wp2_with fail
      refine (H16.out.num (.iface t7 x7) (by simp)).mono ?_
      rintro e w17 ⟨rfl, hb⟩
      have H17 : Hid (NW w [.iface t7 x7, .iface t6 x6, .iface t5 x5, .iface t4 x4, .iface t3 x3, .iface t2 x2, .iface t1 x1] w17) := Lib.hid (H16.out.below hb)
      clear hb H16
      try dsimp only
      go_wp2_with fail
      refine (H17.out.num (.iface t6 x6) (by simp)).mono ?_
      rintro e w18 ⟨rfl, hb⟩
      have H18 : Hid (NW w [.iface t7 x7, .iface t6 x6, .iface t5 x5, .iface t4 x4, .iface t3 x3, .iface t2 x2, .iface t1 x1] w18) := Lib.hid (H17.out.below hb)
      clear hb H17
      try dsimp only
      go_wp2_with fail
      refine (H18.out.num (.iface t6 x6) (by simp)).mono ?_
      rintro e w19 ⟨rfl, hb⟩
      have H19 : Hid (NW w [.iface t7 x7, .iface t6 x6, .iface t5 x5, .iface t4 x4, .iface t3 x3, .iface t2 x2, .iface t1 x1] w19) := Lib.hid (H18.out.below hb)
      clear hb H18
      try dsimp only
      go_wp2_with fail
      go_ret
      exact ⟨rfl, H19.out.2.1⟩
    have q3 : decide (first ≤ 38 - n) = false := decide_eq_false (by omega)
    clear hok
    go_wp2_with fail
    refine (H10.out.num (.iface t1 x1) (by simp)).mono ?_
    rintro e w11 ⟨rfl, hb⟩
    have H11 : Hid (NW w [.iface t6 x6, .iface t5 x5, .iface t4 x4, .iface t3 x3, .iface t2 x2, .iface t1 x1] w11) := Lib.hid (H10.out.below hb)
    clear hb H10
    try dsimp only
    go_wp2_with (refine build_g rfl 34 #[] rfl (entC (zer 32) 0 0) arm ?_)
    refine (H11.out.num (.iface t2 x2) (by simp)).mono ?_
    rintro e w12 ⟨rfl, hb⟩
    have H12 : Hid (NW w [.iface t6 x6, .iface t5 x5, .iface t4 x4, .iface t3 x3, .iface t2 x2, .iface t1 x1] w12) := Lib.hid (H11.out.below hb)
    clear hb H11
    try dsimp only
    go_wp2_with (refine build_g rfl 34 #[] rfl (entC (zer 32) 0 0) arm ?_)
    refine (H12.out.num (.iface t3 x3) (by simp)).mono ?_
    rintro e w13 ⟨rfl, hb⟩
    have H13 : Hid (NW w [.iface t6 x6, .iface t5 x5, .iface t4 x4, .iface t3 x3, .iface t2 x2, .iface t1 x1] w13) := Lib.hid (H12.out.below hb)
    clear hb H12
    try dsimp only
    go_wp2_with (refine build_g rfl 34 #[] rfl (entC (zer 32) 0 0) arm ?_)
    refine (H13.out.num (.iface t4 x4) (by simp)).mono ?_
    rintro e w14 ⟨rfl, hb⟩
    have H14 : Hid (NW w [.iface t6 x6, .iface t5 x5, .iface t4 x4, .iface t3 x3, .iface t2 x2, .iface t1 x1] w14) := Lib.hid (H13.out.below hb)
    clear hb H13
    try dsimp only
    go_wp2_with (refine build_g rfl 34 #[] rfl (entC (zer 32) 0 0) arm ?_)
    refine (H14.out.num (.iface t5 x5) (by simp)).mono ?_
    rintro e w15 ⟨rfl, hb⟩
    have H15 : Hid (NW w [.iface t6 x6, .iface t5 x5, .iface t4 x4, .iface t3 x3, .iface t2 x2, .iface t1 x1] w15) := Lib.hid (H14.out.below hb)
    clear hb H14
    try dsimp only
    go_wp2_with (refine build_g rfl 34 #[] rfl (entC (zer 32) 0 0) arm ?_)
    refine (set_nil i w15).mono ?_
    rintro e w16 ⟨⟨t7, x7, rfl, he⟩, hb⟩
    have H16 : Hid (NW w [.iface t7 x7, .iface t6 x6, .iface t5 x5, .iface t4 x4, .iface t3 x3, .iface t2 x2, .iface t1 x1] w16) := Lib.hid ((H15.out.below hb).add he)
    clear he hb H15
    try dsimp only
    go_wp2_with fail
    refine (H16.out.num (.iface t7 x7) (by simp)).mono ?_
    rintro e w17 ⟨rfl, hb⟩
    have H17 : Hid (NW w [.iface t7 x7, .iface t6 x6, .iface t5 x5, .iface t4 x4, .iface t3 x3, .iface t2 x2, .iface t1 x1] w17) := Lib.hid (H16.out.below hb)
    clear hb H16
    try dsimp only
    go_wp2_with fail
    refine (H17.out.num (.iface t6 x6) (by simp)).mono ?_
    rintro e w18 ⟨rfl, hb⟩
    have H18 : Hid (NW w [.iface t7 x7, .iface t6 x6, .iface t5 x5, .iface t4 x4, .iface t3 x3, .iface t2 x2, .iface t1 x1] w18) := Lib.hid (H17.out.below hb)
    clear hb H17
    try dsimp only
    go_wp2_with fail
    refine (H18.out.num (.iface t6 x6) (by simp)).mono ?_
    rintro e w19 ⟨rfl, hb⟩
    have H19 : Hid (NW w [.iface t7 x7, .iface t6 x6, .iface t5 x5, .iface t4 x4, .iface t3 x3, .iface t2 x2, .iface t1 x1] w19) := Lib.hid (H18.out.below hb)
    clear hb H18
    try dsimp only
    go_wp2_with fail
    go_ret
    exact ⟨rfl, H19.out.2.1⟩
end Go.Proofs.YthaaoghbginmpaaDoor
