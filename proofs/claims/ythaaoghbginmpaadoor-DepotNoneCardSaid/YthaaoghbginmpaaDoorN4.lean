/- A depot that is none has nothing; places and numbers that are none are refused. -/
import Derived.Test.YthaaoghbginmpaaDoorM1
import Derived.Test.YthaaoghbginmpaaDoorM11
import Derived.Test.YthaaoghbginmpaaDoorF4
set_option linter.unusedSimpArgs false
set_option linter.unusedVariables false
set_option linter.unnecessarySimpa false
namespace Go.Proofs.YthaaoghbginmpaaDoor
set_option linter.unusedSimpArgs false
set_option linter.unusedVariables false
open Go.RowKit Go.Maps
theorem NW.num07 {w0 wx : World} {l : List Value} (h : NW w0 l wx) (v : Value) (hv : v ∈ l) : Calls Tryd.prog 28 #[v] wx fun e w' => e = .returned (.int .i64 1) ∧ Below wx.heap.size wx w' := num07_err v 1 wx (h.2.2 v hv) h.1
set_option maxRecDepth 100000 in
set_option maxHeartbeats 16000000 in
theorem none07_any (first n slot : Int) (hf : -9223372036854775808 ≤ first ∧ first < 9223372036854775808) (hn : -9223372036854775808 ≤ n ∧ n < 9223372036854775808) (w : World) (hg : EtAt w) :
    Calls Tryd.prog 9 #[.int .i64 first, .int .i64 n, .int .i64 slot] w fun e w' => e = .returned (.bool true) ∧ Below w.heap.size w w' := by
  have hb0 : ∀ o : Obj, Below w.heap.size w (w.alloc o) := fun o => (Below.refl _ _).alloc (Nat.le_refl _) _
  have HG := Lib.hid hg
  clear hg
  go_enter Tryd.func9, Tryd.ntmps9
  repeat ((fail_if_success (with_reducible refine stop_pos "law.go:255" rfl ?_)); (first | go_values | go_skip | go_guarded | go_step | go_upon))
  refine gen_world (fun wx => Hid (EtAt wx ∧ True ∧ Below w.heap.size w wx)) (Lib.hid ⟨HG.out, trivial, Below.refl _ _⟩) ?_
  clear hb0
  intro wb HB0
  go_wp2_with fail
  refine (stands07_any (fun k => k < wb.heap.size) wb (fun _ h => h)).mono ?_
  rintro e w1 ⟨rfl, hk⟩
  have H1 : Hid (NW wb [] w1) := Lib.hid ⟨HB0.out.1.keeps hk HB0.out.1.pos, ⟨hk.os, hk.tape, hk.output, hk.size, fun k h => hk.block k h h⟩, fun v hv => by cases hv⟩
  clear hk HG
  try dsimp only
  go_wp2_with (refine wpList_build_to rfl 68 _ rfl (v8a (zer 64)) built_pg0 ?_)
  refine (dPut_nil (zer 64) rfl w1).mono ?_
  rintro e w2 ⟨⟨t1, x1, rfl, he⟩, hb⟩
  have H2 : Hid (NW wb [.iface t1 x1] w2) := Lib.hid ((H1.out.below hb).add he)
  clear he hb H1
  try dsimp only
  go_wp2_with fail
  refine (dget_nil slot w2).mono ?_
  rintro e w3 ⟨⟨t2, x2, rfl, he⟩, hb⟩
  have H3 : Hid (NW wb [.iface t2 x2, .iface t1 x1] w3) := Lib.hid ((H2.out.below hb).add he)
  clear he hb H2
  try dsimp only
  repeat ((fail_if_success (with_reducible refine stop_at 46 rfl ?_)); (first | (refine page_store rfl (.tmp 10) (.tmp 43) rfl w3.heap.size (zer 64) (zer 64) rfl rfl (heap_alloc_new w3 _) rfl rfl ?_) | go_values | go_skip | go_guarded | go_step | go_upon))
  have hbx : ∀ o : Obj, Below w3.heap.size w3 ((w3.alloc o).setRow w3.heap.size (v8a (zer 64))) := fun o => below_setRow ((Below.refl _ _).alloc (Nat.le_refl _) _) (Nat.le_refl _) _
  refine gen_world (fun wx => Hid (NW wb [.iface t2 x2, .iface t1 x1] wx)) (Lib.hid (H3.out.below (hbx _))) ?_
  clear hbx H3
  generalize w3.heap.size = b10
  clear w3
  intro w3 H3
  go_wp2_with fail
  refine (dmove_nil slot w3).mono ?_
  rintro e w4 ⟨⟨t3, x3, rfl, he⟩, hb⟩
  have H4 : Hid (NW wb [.iface t3 x3, .iface t2 x2, .iface t1 x1] w4) := Lib.hid ((H3.out.below hb).add he)
  clear he hb H3
  try dsimp only
  go_wp2_with fail
  refine (dslots_nil slot w4).mono ?_
  rintro e w5 ⟨⟨t4, x4, rfl, he⟩, hb⟩
  have H5 : Hid (NW wb [.iface t4 x4, .iface t3 x3, .iface t2 x2, .iface t1 x1] w5) := Lib.hid ((H4.out.below hb).add he)
  clear he hb H4
  try dsimp only
  go_wp2_with fail
  refine (dworst_nil w5).mono ?_
  rintro e w6 ⟨⟨t5, x5, rfl, he⟩, hb⟩
  have H6 : Hid (NW wb [.iface t5 x5, .iface t4 x4, .iface t3 x3, .iface t2 x2, .iface t1 x1] w6) := Lib.hid ((H5.out.below hb).add he)
  clear he hb H5
  try dsimp only
  go_wp2_with fail
  refine (dcount_nil w6).mono ?_
  rintro e w7 ⟨⟨t6, x6, rfl, he⟩, hb⟩
  have H7 : Hid (NW wb [.iface t6 x6, .iface t5 x5, .iface t4 x4, .iface t3 x3, .iface t2 x2, .iface t1 x1] w7) := Lib.hid ((H6.out.below hb).add he)
  clear he hb H6
  try dsimp only
  go_wp2_with fail
  have hN7 : ∀ k, (fun k => k < w7.heap.size) k → k < w7.heap.size := fun _ h => h
  refine (diskNew_any 140 (by decide) (fun k => k < w7.heap.size) w7 hN7).mono ?_
  rintro e v8 ⟨⟨db, rfl, hdb, hd⟩, hb1⟩
  have HD := Lib.hid hd
  have HB1 := Lib.hid hb1
  clear hd hb1
  have hMT := mount_zero db 100 (fun k => k < w7.heap.size) ⟨List.replicate 140 (zer 64), []⟩ v8 (by decide) (by simp) HD.out (fun h => by have : db < w7.heap.size := h; omega) (fun i hi => zero_view 140 i (by simpa using hi))
  try dsimp only
  go_wp2_with fail
  refine hMT.mono ?_
  clear hMT
  rintro e v9 ⟨⟨bb, rfl, hbb, hB⟩, hk2⟩
  have HB : Hid (BookI v9 bb (fun k => k < w7.heap.size) B140) := Lib.hid (by simpa [B140] using hB)
  have hk3 := (Keeps.of_below (N := fun k => k < w7.heap.size) HB1.out).trans hk2
  have H19 : Hid (NW wb [.iface t6 x6, .iface t5 x5, .iface t4 x4, .iface t3 x3, .iface t2 x2, .iface t1 x1] v9) := Lib.hid (H7.out.below ⟨hk3.os, hk3.tape, hk3.output, hk3.size, fun k h => hk3.block k h h⟩)
  clear hB hk2 hk3 HB1 HD H7 hdb hbb hN7
  try dsimp only
  go_wp2_with fail
  by_cases hok : 0 ≤ first ∧ 1 ≤ n ∧ n ≤ 64 ∧ first ≤ 38 - 5 * n
  · obtain ⟨f1, f2, f3, f4⟩ := hok
    obtain ⟨fn, hfn⟩ := Int.eq_ofNat_of_zero_le f1
    obtain ⟨nn, hnn⟩ := Int.eq_ofNat_of_zero_le (show 0 ≤ n by omega)
    have hPN := depotNew_any bb fn nn (fun k => k < w7.heap.size) B140 ⟨by omega, by omega, by rw [B140_n]; omega⟩ v9 HB.out
    rw [← hfn, ← hnn] at hPN
    refine hPN.mono ?_
    clear hPN hfn hnn
    rintro e w20 ⟨⟨tb, rfl, _, _⟩, hb⟩
    have H20 : Hid (NW wb [.iface t6 x6, .iface t5 x5, .iface t4 x4, .iface t3 x3, .iface t2 x2, .iface t1 x1] w20) := Lib.hid (H19.out.below hb)
    clear hb H19 HB
    try dsimp only
    go_wp2_with fail
    refine (H20.out.num07 (.iface t1 x1) (by simp)).mono ?_
    rintro e w21 ⟨rfl, hb⟩
    have H21 : Hid (NW wb [.iface t6 x6, .iface t5 x5, .iface t4 x4, .iface t3 x3, .iface t2 x2, .iface t1 x1] w21) := Lib.hid (H20.out.below hb)
    clear hb H20
    try dsimp only
    go_wp2_with fail
    refine (H21.out.num07 (.iface t2 x2) (by simp)).mono ?_
    rintro e w22 ⟨rfl, hb⟩
    have H22 : Hid (NW wb [.iface t6 x6, .iface t5 x5, .iface t4 x4, .iface t3 x3, .iface t2 x2, .iface t1 x1] w22) := Lib.hid (H21.out.below hb)
    clear hb H21
    try dsimp only
    go_wp2_with fail
    refine (H22.out.num07 (.iface t3 x3) (by simp)).mono ?_
    rintro e w23 ⟨rfl, hb⟩
    have H23 : Hid (NW wb [.iface t6 x6, .iface t5 x5, .iface t4 x4, .iface t3 x3, .iface t2 x2, .iface t1 x1] w23) := Lib.hid (H22.out.below hb)
    clear hb H22
    try dsimp only
    go_wp2_with fail
    refine (H23.out.num07 (.iface t4 x4) (by simp)).mono ?_
    rintro e w24 ⟨rfl, hb⟩
    have H24 : Hid (NW wb [.iface t6 x6, .iface t5 x5, .iface t4 x4, .iface t3 x3, .iface t2 x2, .iface t1 x1] w24) := Lib.hid (H23.out.below hb)
    clear hb H23
    try dsimp only
    go_wp2_with fail
    refine (H24.out.num07 (.iface t5 x5) (by simp)).mono ?_
    rintro e w25 ⟨rfl, hb⟩
    have H25 : Hid (NW wb [.iface t6 x6, .iface t5 x5, .iface t4 x4, .iface t3 x3, .iface t2 x2, .iface t1 x1] w25) := Lib.hid (H24.out.below hb)
    clear hb H24
    try dsimp only
    go_wp2_with fail
    refine (H25.out.num07 (.iface t6 x6) (by simp)).mono ?_
    rintro e w26 ⟨rfl, hb⟩
    have H26 : Hid (NW wb [.iface t6 x6, .iface t5 x5, .iface t4 x4, .iface t3 x3, .iface t2 x2, .iface t1 x1] w26) := Lib.hid (H25.out.below hb)
    clear hb H25
    try dsimp only
    go_wp2_with fail
    refine (ddrop_nil slot w26).mono ?_
    rintro e w27 ⟨⟨t17, x17, rfl, he⟩, hb⟩
    have H27 : Hid (NW wb [.iface t17 x17, .iface t6 x6, .iface t5 x5, .iface t4 x4, .iface t3 x3, .iface t2 x2, .iface t1 x1] w27) := Lib.hid ((H26.out.below hb).add he)
    clear he hb H26
    try dsimp only
    go_wp2_with fail
    refine (H27.out.num07 (.iface t17 x17) (by simp)).mono ?_
    rintro e w28 ⟨rfl, hb⟩
    have H28 : Hid (NW wb [.iface t17 x17, .iface t6 x6, .iface t5 x5, .iface t4 x4, .iface t3 x3, .iface t2 x2, .iface t1 x1] w28) := Lib.hid (H27.out.below hb)
    clear hb H27
    try dsimp only
    go_wp2_with fail
    refine (num07_nil w28).mono ?_
    rintro e wz ⟨rfl, rfl⟩
    try dsimp only
    go_wp2_with fail
    go_ret
    exact ⟨rfl, HB0.out.2.2.trans (H28.out.2.1.mono HB0.out.2.2.size)⟩
  · refine (depotNew_bad bb first n (fun k => k < w7.heap.size) B140 hf hn (by rw [B140_n]; intro h; exact hok ⟨h.1, h.2.1, h.2.2.1, by have := h.2.2.2; omega⟩) v9 HB.out).mono ?_
    rintro e w20 ⟨⟨t16, x16, rfl, he⟩, hb⟩
    have H20 : Hid (NW wb [.iface t16 x16, .iface t6 x6, .iface t5 x5, .iface t4 x4, .iface t3 x3, .iface t2 x2, .iface t1 x1] w20) := Lib.hid ((H19.out.below hb).add he)
    clear he hb H19 HB
    try dsimp only
    by_cases q1 : first < 0
    · clear hok
      go_wp2_with fail
      refine (H20.out.num07 (.iface t1 x1) (by simp)).mono ?_
      rintro e w21 ⟨rfl, hb⟩
      have H21 : Hid (NW wb [.iface t16 x16, .iface t6 x6, .iface t5 x5, .iface t4 x4, .iface t3 x3, .iface t2 x2, .iface t1 x1] w21) := Lib.hid (H20.out.below hb)
      clear hb H20
      try dsimp only
      go_wp2_with fail
      refine (H21.out.num07 (.iface t2 x2) (by simp)).mono ?_
      rintro e w22 ⟨rfl, hb⟩
      have H22 : Hid (NW wb [.iface t16 x16, .iface t6 x6, .iface t5 x5, .iface t4 x4, .iface t3 x3, .iface t2 x2, .iface t1 x1] w22) := Lib.hid (H21.out.below hb)
      clear hb H21
      try dsimp only
      go_wp2_with fail
      refine (H22.out.num07 (.iface t3 x3) (by simp)).mono ?_
      rintro e w23 ⟨rfl, hb⟩
      have H23 : Hid (NW wb [.iface t16 x16, .iface t6 x6, .iface t5 x5, .iface t4 x4, .iface t3 x3, .iface t2 x2, .iface t1 x1] w23) := Lib.hid (H22.out.below hb)
      clear hb H22
      try dsimp only
      go_wp2_with fail
      refine (H23.out.num07 (.iface t4 x4) (by simp)).mono ?_
      rintro e w24 ⟨rfl, hb⟩
      have H24 : Hid (NW wb [.iface t16 x16, .iface t6 x6, .iface t5 x5, .iface t4 x4, .iface t3 x3, .iface t2 x2, .iface t1 x1] w24) := Lib.hid (H23.out.below hb)
      clear hb H23
      try dsimp only
      go_wp2_with fail
      refine (H24.out.num07 (.iface t5 x5) (by simp)).mono ?_
      rintro e w25 ⟨rfl, hb⟩
      have H25 : Hid (NW wb [.iface t16 x16, .iface t6 x6, .iface t5 x5, .iface t4 x4, .iface t3 x3, .iface t2 x2, .iface t1 x1] w25) := Lib.hid (H24.out.below hb)
      clear hb H24
      try dsimp only
      go_wp2_with fail
      refine (H25.out.num07 (.iface t6 x6) (by simp)).mono ?_
      rintro e w26 ⟨rfl, hb⟩
      have H26 : Hid (NW wb [.iface t16 x16, .iface t6 x6, .iface t5 x5, .iface t4 x4, .iface t3 x3, .iface t2 x2, .iface t1 x1] w26) := Lib.hid (H25.out.below hb)
      clear hb H25
      try dsimp only
      go_wp2_with fail
      refine (ddrop_nil slot w26).mono ?_
      rintro e w27 ⟨⟨t17, x17, rfl, he⟩, hb⟩
      have H27 : Hid (NW wb [.iface t17 x17, .iface t16 x16, .iface t6 x6, .iface t5 x5, .iface t4 x4, .iface t3 x3, .iface t2 x2, .iface t1 x1] w27) := Lib.hid ((H26.out.below hb).add he)
      clear he hb H26
      try dsimp only
      go_wp2_with fail
      refine (H27.out.num07 (.iface t17 x17) (by simp)).mono ?_
      rintro e w28 ⟨rfl, hb⟩
      have H28 : Hid (NW wb [.iface t17 x17, .iface t16 x16, .iface t6 x6, .iface t5 x5, .iface t4 x4, .iface t3 x3, .iface t2 x2, .iface t1 x1] w28) := Lib.hid (H27.out.below hb)
      clear hb H27
      try dsimp only
      go_wp2_with fail
      refine (H28.out.num07 (.iface t16 x16) (by simp)).mono ?_
      rintro e w29 ⟨rfl, hb⟩
      have H29 : Hid (NW wb [.iface t17 x17, .iface t16 x16, .iface t6 x6, .iface t5 x5, .iface t4 x4, .iface t3 x3, .iface t2 x2, .iface t1 x1] w29) := Lib.hid (H28.out.below hb)
      clear hb H28
      try dsimp only
      go_wp2_with fail
      refine (H29.out.num07 (.iface t16 x16) (by simp)).mono ?_
      rintro e w30 ⟨rfl, hb⟩
      have H30 : Hid (NW wb [.iface t17 x17, .iface t16 x16, .iface t6 x6, .iface t5 x5, .iface t4 x4, .iface t3 x3, .iface t2 x2, .iface t1 x1] w30) := Lib.hid (H29.out.below hb)
      clear hb H29
      try dsimp only
      go_wp2_with fail
      go_ret
      exact ⟨rfl, HB0.out.2.2.trans (H30.out.2.1.mono HB0.out.2.2.size)⟩
    by_cases q2 : n < 1
    · clear hok
      go_wp2_with fail
      refine (H20.out.num07 (.iface t1 x1) (by simp)).mono ?_
      rintro e w21 ⟨rfl, hb⟩
      have H21 : Hid (NW wb [.iface t16 x16, .iface t6 x6, .iface t5 x5, .iface t4 x4, .iface t3 x3, .iface t2 x2, .iface t1 x1] w21) := Lib.hid (H20.out.below hb)
      clear hb H20
      try dsimp only
      go_wp2_with fail
      refine (H21.out.num07 (.iface t2 x2) (by simp)).mono ?_
      rintro e w22 ⟨rfl, hb⟩
      have H22 : Hid (NW wb [.iface t16 x16, .iface t6 x6, .iface t5 x5, .iface t4 x4, .iface t3 x3, .iface t2 x2, .iface t1 x1] w22) := Lib.hid (H21.out.below hb)
      clear hb H21
      try dsimp only
      go_wp2_with fail
      refine (H22.out.num07 (.iface t3 x3) (by simp)).mono ?_
      rintro e w23 ⟨rfl, hb⟩
      have H23 : Hid (NW wb [.iface t16 x16, .iface t6 x6, .iface t5 x5, .iface t4 x4, .iface t3 x3, .iface t2 x2, .iface t1 x1] w23) := Lib.hid (H22.out.below hb)
      clear hb H22
      try dsimp only
      go_wp2_with fail
      refine (H23.out.num07 (.iface t4 x4) (by simp)).mono ?_
      rintro e w24 ⟨rfl, hb⟩
      have H24 : Hid (NW wb [.iface t16 x16, .iface t6 x6, .iface t5 x5, .iface t4 x4, .iface t3 x3, .iface t2 x2, .iface t1 x1] w24) := Lib.hid (H23.out.below hb)
      clear hb H23
      try dsimp only
      go_wp2_with fail
      refine (H24.out.num07 (.iface t5 x5) (by simp)).mono ?_
      rintro e w25 ⟨rfl, hb⟩
      have H25 : Hid (NW wb [.iface t16 x16, .iface t6 x6, .iface t5 x5, .iface t4 x4, .iface t3 x3, .iface t2 x2, .iface t1 x1] w25) := Lib.hid (H24.out.below hb)
      clear hb H24
      try dsimp only
      go_wp2_with fail
      refine (H25.out.num07 (.iface t6 x6) (by simp)).mono ?_
      rintro e w26 ⟨rfl, hb⟩
      have H26 : Hid (NW wb [.iface t16 x16, .iface t6 x6, .iface t5 x5, .iface t4 x4, .iface t3 x3, .iface t2 x2, .iface t1 x1] w26) := Lib.hid (H25.out.below hb)
      clear hb H25
      try dsimp only
      go_wp2_with fail
      refine (ddrop_nil slot w26).mono ?_
      rintro e w27 ⟨⟨t17, x17, rfl, he⟩, hb⟩
      have H27 : Hid (NW wb [.iface t17 x17, .iface t16 x16, .iface t6 x6, .iface t5 x5, .iface t4 x4, .iface t3 x3, .iface t2 x2, .iface t1 x1] w27) := Lib.hid ((H26.out.below hb).add he)
      clear he hb H26
      try dsimp only
      go_wp2_with fail
      refine (H27.out.num07 (.iface t17 x17) (by simp)).mono ?_
      rintro e w28 ⟨rfl, hb⟩
      have H28 : Hid (NW wb [.iface t17 x17, .iface t16 x16, .iface t6 x6, .iface t5 x5, .iface t4 x4, .iface t3 x3, .iface t2 x2, .iface t1 x1] w28) := Lib.hid (H27.out.below hb)
      clear hb H27
      try dsimp only
      go_wp2_with fail
      refine (H28.out.num07 (.iface t16 x16) (by simp)).mono ?_
      rintro e w29 ⟨rfl, hb⟩
      have H29 : Hid (NW wb [.iface t17 x17, .iface t16 x16, .iface t6 x6, .iface t5 x5, .iface t4 x4, .iface t3 x3, .iface t2 x2, .iface t1 x1] w29) := Lib.hid (H28.out.below hb)
      clear hb H28
      try dsimp only
      go_wp2_with fail
      refine (H29.out.num07 (.iface t16 x16) (by simp)).mono ?_
      rintro e w30 ⟨rfl, hb⟩
      have H30 : Hid (NW wb [.iface t17 x17, .iface t16 x16, .iface t6 x6, .iface t5 x5, .iface t4 x4, .iface t3 x3, .iface t2 x2, .iface t1 x1] w30) := Lib.hid (H29.out.below hb)
      clear hb H29
      try dsimp only
      go_wp2_with fail
      go_ret
      exact ⟨rfl, HB0.out.2.2.trans (H30.out.2.1.mono HB0.out.2.2.size)⟩
    by_cases q3 : 64 < n
    · clear hok
      go_wp2_with fail
      refine (H20.out.num07 (.iface t1 x1) (by simp)).mono ?_
      rintro e w21 ⟨rfl, hb⟩
      have H21 : Hid (NW wb [.iface t16 x16, .iface t6 x6, .iface t5 x5, .iface t4 x4, .iface t3 x3, .iface t2 x2, .iface t1 x1] w21) := Lib.hid (H20.out.below hb)
      clear hb H20
      try dsimp only
      go_wp2_with fail
      refine (H21.out.num07 (.iface t2 x2) (by simp)).mono ?_
      rintro e w22 ⟨rfl, hb⟩
      have H22 : Hid (NW wb [.iface t16 x16, .iface t6 x6, .iface t5 x5, .iface t4 x4, .iface t3 x3, .iface t2 x2, .iface t1 x1] w22) := Lib.hid (H21.out.below hb)
      clear hb H21
      try dsimp only
      go_wp2_with fail
      refine (H22.out.num07 (.iface t3 x3) (by simp)).mono ?_
      rintro e w23 ⟨rfl, hb⟩
      have H23 : Hid (NW wb [.iface t16 x16, .iface t6 x6, .iface t5 x5, .iface t4 x4, .iface t3 x3, .iface t2 x2, .iface t1 x1] w23) := Lib.hid (H22.out.below hb)
      clear hb H22
      try dsimp only
      go_wp2_with fail
      refine (H23.out.num07 (.iface t4 x4) (by simp)).mono ?_
      rintro e w24 ⟨rfl, hb⟩
      have H24 : Hid (NW wb [.iface t16 x16, .iface t6 x6, .iface t5 x5, .iface t4 x4, .iface t3 x3, .iface t2 x2, .iface t1 x1] w24) := Lib.hid (H23.out.below hb)
      clear hb H23
      try dsimp only
      go_wp2_with fail
      refine (H24.out.num07 (.iface t5 x5) (by simp)).mono ?_
      rintro e w25 ⟨rfl, hb⟩
      have H25 : Hid (NW wb [.iface t16 x16, .iface t6 x6, .iface t5 x5, .iface t4 x4, .iface t3 x3, .iface t2 x2, .iface t1 x1] w25) := Lib.hid (H24.out.below hb)
      clear hb H24
      try dsimp only
      go_wp2_with fail
      refine (H25.out.num07 (.iface t6 x6) (by simp)).mono ?_
      rintro e w26 ⟨rfl, hb⟩
      have H26 : Hid (NW wb [.iface t16 x16, .iface t6 x6, .iface t5 x5, .iface t4 x4, .iface t3 x3, .iface t2 x2, .iface t1 x1] w26) := Lib.hid (H25.out.below hb)
      clear hb H25
      try dsimp only
      go_wp2_with fail
      refine (ddrop_nil slot w26).mono ?_
      rintro e w27 ⟨⟨t17, x17, rfl, he⟩, hb⟩
      have H27 : Hid (NW wb [.iface t17 x17, .iface t16 x16, .iface t6 x6, .iface t5 x5, .iface t4 x4, .iface t3 x3, .iface t2 x2, .iface t1 x1] w27) := Lib.hid ((H26.out.below hb).add he)
      clear he hb H26
      try dsimp only
      go_wp2_with fail
      refine (H27.out.num07 (.iface t17 x17) (by simp)).mono ?_
      rintro e w28 ⟨rfl, hb⟩
      have H28 : Hid (NW wb [.iface t17 x17, .iface t16 x16, .iface t6 x6, .iface t5 x5, .iface t4 x4, .iface t3 x3, .iface t2 x2, .iface t1 x1] w28) := Lib.hid (H27.out.below hb)
      clear hb H27
      try dsimp only
      go_wp2_with fail
      refine (H28.out.num07 (.iface t16 x16) (by simp)).mono ?_
      rintro e w29 ⟨rfl, hb⟩
      have H29 : Hid (NW wb [.iface t17 x17, .iface t16 x16, .iface t6 x6, .iface t5 x5, .iface t4 x4, .iface t3 x3, .iface t2 x2, .iface t1 x1] w29) := Lib.hid (H28.out.below hb)
      clear hb H28
      try dsimp only
      go_wp2_with fail
      refine (H29.out.num07 (.iface t16 x16) (by simp)).mono ?_
      rintro e w30 ⟨rfl, hb⟩
      have H30 : Hid (NW wb [.iface t17 x17, .iface t16 x16, .iface t6 x6, .iface t5 x5, .iface t4 x4, .iface t3 x3, .iface t2 x2, .iface t1 x1] w30) := Lib.hid (H29.out.below hb)
      clear hb H29
      try dsimp only
      go_wp2_with fail
      go_ret
      exact ⟨rfl, HB0.out.2.2.trans (H30.out.2.1.mono HB0.out.2.2.size)⟩
    have q4 : decide (first ≤ 38 - 5 * n) = false := decide_eq_false (by omega)
    clear hok
    go_wp2_with fail
    refine (H20.out.num07 (.iface t1 x1) (by simp)).mono ?_
    rintro e w21 ⟨rfl, hb⟩
    have H21 : Hid (NW wb [.iface t16 x16, .iface t6 x6, .iface t5 x5, .iface t4 x4, .iface t3 x3, .iface t2 x2, .iface t1 x1] w21) := Lib.hid (H20.out.below hb)
    clear hb H20
    try dsimp only
    go_wp2_with fail
    refine (H21.out.num07 (.iface t2 x2) (by simp)).mono ?_
    rintro e w22 ⟨rfl, hb⟩
    have H22 : Hid (NW wb [.iface t16 x16, .iface t6 x6, .iface t5 x5, .iface t4 x4, .iface t3 x3, .iface t2 x2, .iface t1 x1] w22) := Lib.hid (H21.out.below hb)
    clear hb H21
    try dsimp only
    go_wp2_with fail
    refine (H22.out.num07 (.iface t3 x3) (by simp)).mono ?_
    rintro e w23 ⟨rfl, hb⟩
    have H23 : Hid (NW wb [.iface t16 x16, .iface t6 x6, .iface t5 x5, .iface t4 x4, .iface t3 x3, .iface t2 x2, .iface t1 x1] w23) := Lib.hid (H22.out.below hb)
    clear hb H22
    try dsimp only
    go_wp2_with fail
    refine (H23.out.num07 (.iface t4 x4) (by simp)).mono ?_
    rintro e w24 ⟨rfl, hb⟩
    have H24 : Hid (NW wb [.iface t16 x16, .iface t6 x6, .iface t5 x5, .iface t4 x4, .iface t3 x3, .iface t2 x2, .iface t1 x1] w24) := Lib.hid (H23.out.below hb)
    clear hb H23
    try dsimp only
    go_wp2_with fail
    refine (H24.out.num07 (.iface t5 x5) (by simp)).mono ?_
    rintro e w25 ⟨rfl, hb⟩
    have H25 : Hid (NW wb [.iface t16 x16, .iface t6 x6, .iface t5 x5, .iface t4 x4, .iface t3 x3, .iface t2 x2, .iface t1 x1] w25) := Lib.hid (H24.out.below hb)
    clear hb H24
    try dsimp only
    go_wp2_with fail
    refine (H25.out.num07 (.iface t6 x6) (by simp)).mono ?_
    rintro e w26 ⟨rfl, hb⟩
    have H26 : Hid (NW wb [.iface t16 x16, .iface t6 x6, .iface t5 x5, .iface t4 x4, .iface t3 x3, .iface t2 x2, .iface t1 x1] w26) := Lib.hid (H25.out.below hb)
    clear hb H25
    try dsimp only
    go_wp2_with fail
    refine (ddrop_nil slot w26).mono ?_
    rintro e w27 ⟨⟨t17, x17, rfl, he⟩, hb⟩
    have H27 : Hid (NW wb [.iface t17 x17, .iface t16 x16, .iface t6 x6, .iface t5 x5, .iface t4 x4, .iface t3 x3, .iface t2 x2, .iface t1 x1] w27) := Lib.hid ((H26.out.below hb).add he)
    clear he hb H26
    try dsimp only
    go_wp2_with fail
    refine (H27.out.num07 (.iface t17 x17) (by simp)).mono ?_
    rintro e w28 ⟨rfl, hb⟩
    have H28 : Hid (NW wb [.iface t17 x17, .iface t16 x16, .iface t6 x6, .iface t5 x5, .iface t4 x4, .iface t3 x3, .iface t2 x2, .iface t1 x1] w28) := Lib.hid (H27.out.below hb)
    clear hb H27
    try dsimp only
    go_wp2_with fail
    refine (H28.out.num07 (.iface t16 x16) (by simp)).mono ?_
    rintro e w29 ⟨rfl, hb⟩
    have H29 : Hid (NW wb [.iface t17 x17, .iface t16 x16, .iface t6 x6, .iface t5 x5, .iface t4 x4, .iface t3 x3, .iface t2 x2, .iface t1 x1] w29) := Lib.hid (H28.out.below hb)
    clear hb H28
    try dsimp only
    go_wp2_with fail
    refine (H29.out.num07 (.iface t16 x16) (by simp)).mono ?_
    rintro e w30 ⟨rfl, hb⟩
    have H30 : Hid (NW wb [.iface t17 x17, .iface t16 x16, .iface t6 x6, .iface t5 x5, .iface t4 x4, .iface t3 x3, .iface t2 x2, .iface t1 x1] w30) := Lib.hid (H29.out.below hb)
    clear hb H29
    try dsimp only
    go_wp2_with fail
    go_ret
    exact ⟨rfl, HB0.out.2.2.trans (H30.out.2.1.mono HB0.out.2.2.size)⟩
end Go.Proofs.YthaaoghbginmpaaDoor
