/- A forest that is none has nothing; places that are none are refused. -/
import Derived.Test.YthaaoghbginmpaaDoorM1
import Derived.Test.YthaaoghbginmpaaDoorM11
import Derived.Test.YthaaoghbginmpaaDoorF3
set_option linter.unusedSimpArgs false
set_option linter.unusedVariables false
set_option linter.unnecessarySimpa false
namespace Go.Proofs.YthaaoghbginmpaaDoor
set_option linter.unusedSimpArgs false
set_option linter.unusedVariables false
open Go.RowKit Go.Maps
theorem NW.num09 {w0 wx : World} {l : List Value} (h : NW w0 l wx) (v : Value) (hv : v ∈ l) : Calls Tryd.prog 35 #[v] wx fun e w' => e = .returned (.int .i64 1) ∧ Below wx.heap.size wx w' := num09_err v 1 wx (h.2.2 v hv) h.1
set_option maxRecDepth 100000 in
set_option maxHeartbeats 16000000 in
theorem none09_any (first n lun blk y : Int) (hf : -9223372036854775808 ≤ first ∧ first < 9223372036854775808) (hn : -9223372036854775808 ≤ n ∧ n < 9223372036854775808) (w : World) (hg : EtAt w) :
    Calls Tryd.prog 8 #[.int .i64 first, .int .i64 n, .agg #[.int .i64 lun, .int .i64 blk, .int .i64 y]] w fun e w' => e = .returned (.bool true) ∧ Below w.heap.size w w' := by
  have hb0 : ∀ o : Obj, Below w.heap.size w (w.alloc o) := fun o => (Below.refl _ _).alloc (Nat.le_refl _) _
  have HG := Lib.hid hg
  clear hg
  go_enter Tryd.func8, Tryd.ntmps8
  repeat ((fail_if_success (with_reducible refine stop_pos "law.go:202" rfl ?_)); (first | go_values | go_skip | go_guarded | go_step | go_upon))
  refine gen_world (fun wx => Hid (EtAt wx ∧ wx.heap[w.heap.size]? = some (.cells #[.int .i64 lun, .int .i64 blk, .int .i64 y] 76) ∧ Below w.heap.size w wx)) (Lib.hid ⟨HG.out.below (hb0 _) HG.out.pos, heap_alloc_new w _, hb0 _⟩) ?_
  clear hb0
  intro wb HB0
  go_wp2_with fail
  refine (stands09_any (fun k => k < wb.heap.size) wb (fun _ h => h)).mono ?_
  rintro e w1 ⟨rfl, hk⟩
  have H1 : Hid (NW wb [] w1) := Lib.hid ⟨HB0.out.1.keeps hk HB0.out.1.pos, ⟨hk.os, hk.tape, hk.output, hk.size, fun k h => hk.block k h h⟩, fun v hv => by cases hv⟩
  clear hk HG
  try dsimp only
  obtain ⟨z0, z1, z2⟩ := blk3 ((H1.out.2.1.block _ (lt_of_blk HB0.out.2.1)).trans HB0.out.2.1)
  go_wp2_with fail
  refine (rget_nil lun blk w1).mono ?_
  rintro e w2 ⟨⟨t1, x1, rfl, he⟩, hb⟩
  have H2 : Hid (NW wb [.iface t1 x1] w2) := Lib.hid ((H1.out.below hb).add he)
  clear he hb H1
  try dsimp only
  clear z0 z1 z2
  go_wp2_with fail
  refine (rnodes_nil w2).mono ?_
  rintro e w3 ⟨⟨t2, x2, rfl, he⟩, hb⟩
  have H3 : Hid (NW wb [.iface t2 x2, .iface t1 x1] w3) := Lib.hid ((H2.out.below hb).add he)
  clear he hb H2
  try dsimp only
  go_wp2_with fail
  have hN7 : ∀ k, (fun k => k < w3.heap.size) k → k < w3.heap.size := fun _ h => h
  refine (diskNew_any 140 (by decide) (fun k => k < w3.heap.size) w3 hN7).mono ?_
  rintro e v8 ⟨⟨db, rfl, hdb, hd⟩, hb1⟩
  have HD := Lib.hid hd
  have HB1 := Lib.hid hb1
  clear hd hb1
  have hMT := mount_zero db 100 (fun k => k < w3.heap.size) ⟨List.replicate 140 (zer 64), []⟩ v8 (by decide) (by simp) HD.out (fun h => by have : db < w3.heap.size := h; omega) (fun i hi => zero_view 140 i (by simpa using hi))
  try dsimp only
  go_wp2_with fail
  refine hMT.mono ?_
  clear hMT
  rintro e v9 ⟨⟨bb, rfl, hbb, hB⟩, hk2⟩
  have HB : Hid (BookI v9 bb (fun k => k < w3.heap.size) B140) := Lib.hid (by simpa [B140] using hB)
  have hk3 := (Keeps.of_below (N := fun k => k < w3.heap.size) HB1.out).trans hk2
  have H19 : Hid (NW wb [.iface t2 x2, .iface t1 x1] v9) := Lib.hid (H3.out.below ⟨hk3.os, hk3.tape, hk3.output, hk3.size, fun k h => hk3.block k h h⟩)
  clear hB hk2 hk3 HB1 HD H3 hdb hbb hN7
  try dsimp only
  go_wp2_with fail
  by_cases hok : 0 ≤ first ∧ 1 ≤ n ∧ n ≤ 4095 ∧ first ≤ 37 - n
  · obtain ⟨f1, f2, f3, f4⟩ := hok
    obtain ⟨fn, hfn⟩ := Int.eq_ofNat_of_zero_le f1
    obtain ⟨nn, hnn⟩ := Int.eq_ofNat_of_zero_le (show 0 ≤ n by omega)
    have hPN := radixNew_any bb fn nn (fun k => k < w3.heap.size) B140 ⟨by omega, by omega, by rw [B140_n]; omega⟩ v9 HB.out
    rw [← hfn, ← hnn] at hPN
    refine hPN.mono ?_
    clear hPN hfn hnn
    rintro e w20 ⟨⟨tb, rfl, _, _⟩, hb⟩
    have H20 : Hid (NW wb [.iface t2 x2, .iface t1 x1] w20) := Lib.hid (H19.out.below hb)
    clear hb H19 HB
    try dsimp only
    go_wp2_with fail
    refine (H20.out.num09 (.iface t1 x1) (by simp)).mono ?_
    rintro e w21 ⟨rfl, hb⟩
    have H21 : Hid (NW wb [.iface t2 x2, .iface t1 x1] w21) := Lib.hid (H20.out.below hb)
    clear hb H20
    try dsimp only
    go_wp2_with fail
    refine (H21.out.num09 (.iface t2 x2) (by simp)).mono ?_
    rintro e w22 ⟨rfl, hb⟩
    have H22 : Hid (NW wb [.iface t2 x2, .iface t1 x1] w22) := Lib.hid (H21.out.below hb)
    clear hb H21
    try dsimp only
    obtain ⟨z0, z1, z2⟩ := blk3 ((H22.out.2.1.block _ (lt_of_blk HB0.out.2.1)).trans HB0.out.2.1)
    go_wp2_with fail
    refine (rset_nil lun blk y w22).mono ?_
    rintro e w23 ⟨⟨t17, x17, rfl, he⟩, hb⟩
    have H23 : Hid (NW wb [.iface t17 x17, .iface t2 x2, .iface t1 x1] w23) := Lib.hid ((H22.out.below hb).add he)
    clear he hb H22 z0 z1 z2
    try dsimp only
    go_wp2_with fail
    refine (H23.out.num09 (.iface t17 x17) (by simp)).mono ?_
    rintro e w24 ⟨rfl, hb⟩
    have H24 : Hid (NW wb [.iface t17 x17, .iface t2 x2, .iface t1 x1] w24) := Lib.hid (H23.out.below hb)
    clear hb H23
    try dsimp only
    go_wp2_with fail
    refine (num09_nil w24).mono ?_
    rintro e wz ⟨rfl, rfl⟩
    try dsimp only
    go_wp2_with fail
    go_ret
    exact ⟨rfl, HB0.out.2.2.trans (H24.out.2.1.mono HB0.out.2.2.size)⟩
  · refine (radixNew_bad bb first n (fun k => k < w3.heap.size) B140 hf hn (by rw [B140_n]; intro h; exact hok ⟨h.1, h.2.1, h.2.2.1, by have := h.2.2.2; omega⟩) v9 HB.out).mono ?_
    rintro e w20 ⟨⟨t16, x16, rfl, he⟩, hb⟩
    have H20 : Hid (NW wb [.iface t16 x16, .iface t2 x2, .iface t1 x1] w20) := Lib.hid ((H19.out.below hb).add he)
    clear he hb H19 HB
    try dsimp only
    by_cases q1 : first < 0
    · clear hok
      go_wp2_with fail
      refine (H20.out.num09 (.iface t1 x1) (by simp)).mono ?_
      rintro e w21 ⟨rfl, hb⟩
      have H21 : Hid (NW wb [.iface t16 x16, .iface t2 x2, .iface t1 x1] w21) := Lib.hid (H20.out.below hb)
      clear hb H20
      try dsimp only
      go_wp2_with fail
      refine (H21.out.num09 (.iface t2 x2) (by simp)).mono ?_
      rintro e w22 ⟨rfl, hb⟩
      have H22 : Hid (NW wb [.iface t16 x16, .iface t2 x2, .iface t1 x1] w22) := Lib.hid (H21.out.below hb)
      clear hb H21
      try dsimp only
      obtain ⟨z0, z1, z2⟩ := blk3 ((H22.out.2.1.block _ (lt_of_blk HB0.out.2.1)).trans HB0.out.2.1)
      go_wp2_with fail
      refine (rset_nil lun blk y w22).mono ?_
      rintro e w23 ⟨⟨t17, x17, rfl, he⟩, hb⟩
      have H23 : Hid (NW wb [.iface t17 x17, .iface t16 x16, .iface t2 x2, .iface t1 x1] w23) := Lib.hid ((H22.out.below hb).add he)
      clear he hb H22 z0 z1 z2
      try dsimp only
      go_wp2_with fail
      refine (H23.out.num09 (.iface t17 x17) (by simp)).mono ?_
      rintro e w24 ⟨rfl, hb⟩
      have H24 : Hid (NW wb [.iface t17 x17, .iface t16 x16, .iface t2 x2, .iface t1 x1] w24) := Lib.hid (H23.out.below hb)
      clear hb H23
      try dsimp only
      go_wp2_with fail
      refine (H24.out.num09 (.iface t16 x16) (by simp)).mono ?_
      rintro e w25 ⟨rfl, hb⟩
      have H25 : Hid (NW wb [.iface t17 x17, .iface t16 x16, .iface t2 x2, .iface t1 x1] w25) := Lib.hid (H24.out.below hb)
      clear hb H24
      try dsimp only
      go_wp2_with fail
      refine (H25.out.num09 (.iface t16 x16) (by simp)).mono ?_
      rintro e w26 ⟨rfl, hb⟩
      have H26 : Hid (NW wb [.iface t17 x17, .iface t16 x16, .iface t2 x2, .iface t1 x1] w26) := Lib.hid (H25.out.below hb)
      clear hb H25
      try dsimp only
      go_wp2_with fail
      go_ret
      exact ⟨rfl, HB0.out.2.2.trans (H26.out.2.1.mono HB0.out.2.2.size)⟩
    by_cases q2 : n < 1
    · clear hok
      go_wp2_with fail
      refine (H20.out.num09 (.iface t1 x1) (by simp)).mono ?_
      rintro e w21 ⟨rfl, hb⟩
      have H21 : Hid (NW wb [.iface t16 x16, .iface t2 x2, .iface t1 x1] w21) := Lib.hid (H20.out.below hb)
      clear hb H20
      try dsimp only
      go_wp2_with fail
      refine (H21.out.num09 (.iface t2 x2) (by simp)).mono ?_
      rintro e w22 ⟨rfl, hb⟩
      have H22 : Hid (NW wb [.iface t16 x16, .iface t2 x2, .iface t1 x1] w22) := Lib.hid (H21.out.below hb)
      clear hb H21
      try dsimp only
      obtain ⟨z0, z1, z2⟩ := blk3 ((H22.out.2.1.block _ (lt_of_blk HB0.out.2.1)).trans HB0.out.2.1)
      go_wp2_with fail
      refine (rset_nil lun blk y w22).mono ?_
      rintro e w23 ⟨⟨t17, x17, rfl, he⟩, hb⟩
      have H23 : Hid (NW wb [.iface t17 x17, .iface t16 x16, .iface t2 x2, .iface t1 x1] w23) := Lib.hid ((H22.out.below hb).add he)
      clear he hb H22 z0 z1 z2
      try dsimp only
      go_wp2_with fail
      refine (H23.out.num09 (.iface t17 x17) (by simp)).mono ?_
      rintro e w24 ⟨rfl, hb⟩
      have H24 : Hid (NW wb [.iface t17 x17, .iface t16 x16, .iface t2 x2, .iface t1 x1] w24) := Lib.hid (H23.out.below hb)
      clear hb H23
      try dsimp only
      go_wp2_with fail
      refine (H24.out.num09 (.iface t16 x16) (by simp)).mono ?_
      rintro e w25 ⟨rfl, hb⟩
      have H25 : Hid (NW wb [.iface t17 x17, .iface t16 x16, .iface t2 x2, .iface t1 x1] w25) := Lib.hid (H24.out.below hb)
      clear hb H24
      try dsimp only
      go_wp2_with fail
      refine (H25.out.num09 (.iface t16 x16) (by simp)).mono ?_
      rintro e w26 ⟨rfl, hb⟩
      have H26 : Hid (NW wb [.iface t17 x17, .iface t16 x16, .iface t2 x2, .iface t1 x1] w26) := Lib.hid (H25.out.below hb)
      clear hb H25
      try dsimp only
      go_wp2_with fail
      go_ret
      exact ⟨rfl, HB0.out.2.2.trans (H26.out.2.1.mono HB0.out.2.2.size)⟩
    by_cases q3 : 4095 < n
    · clear hok
      go_wp2_with fail
      refine (H20.out.num09 (.iface t1 x1) (by simp)).mono ?_
      rintro e w21 ⟨rfl, hb⟩
      have H21 : Hid (NW wb [.iface t16 x16, .iface t2 x2, .iface t1 x1] w21) := Lib.hid (H20.out.below hb)
      clear hb H20
      try dsimp only
      go_wp2_with fail
      refine (H21.out.num09 (.iface t2 x2) (by simp)).mono ?_
      rintro e w22 ⟨rfl, hb⟩
      have H22 : Hid (NW wb [.iface t16 x16, .iface t2 x2, .iface t1 x1] w22) := Lib.hid (H21.out.below hb)
      clear hb H21
      try dsimp only
      obtain ⟨z0, z1, z2⟩ := blk3 ((H22.out.2.1.block _ (lt_of_blk HB0.out.2.1)).trans HB0.out.2.1)
      go_wp2_with fail
      refine (rset_nil lun blk y w22).mono ?_
      rintro e w23 ⟨⟨t17, x17, rfl, he⟩, hb⟩
      have H23 : Hid (NW wb [.iface t17 x17, .iface t16 x16, .iface t2 x2, .iface t1 x1] w23) := Lib.hid ((H22.out.below hb).add he)
      clear he hb H22 z0 z1 z2
      try dsimp only
      go_wp2_with fail
      refine (H23.out.num09 (.iface t17 x17) (by simp)).mono ?_
      rintro e w24 ⟨rfl, hb⟩
      have H24 : Hid (NW wb [.iface t17 x17, .iface t16 x16, .iface t2 x2, .iface t1 x1] w24) := Lib.hid (H23.out.below hb)
      clear hb H23
      try dsimp only
      go_wp2_with fail
      refine (H24.out.num09 (.iface t16 x16) (by simp)).mono ?_
      rintro e w25 ⟨rfl, hb⟩
      have H25 : Hid (NW wb [.iface t17 x17, .iface t16 x16, .iface t2 x2, .iface t1 x1] w25) := Lib.hid (H24.out.below hb)
      clear hb H24
      try dsimp only
      go_wp2_with fail
      refine (H25.out.num09 (.iface t16 x16) (by simp)).mono ?_
      rintro e w26 ⟨rfl, hb⟩
      have H26 : Hid (NW wb [.iface t17 x17, .iface t16 x16, .iface t2 x2, .iface t1 x1] w26) := Lib.hid (H25.out.below hb)
      clear hb H25
      try dsimp only
      go_wp2_with fail
      go_ret
      exact ⟨rfl, HB0.out.2.2.trans (H26.out.2.1.mono HB0.out.2.2.size)⟩
    have q4 : decide (first ≤ 37 - n) = false := decide_eq_false (by omega)
    clear hok
    go_wp2_with fail
    refine (H20.out.num09 (.iface t1 x1) (by simp)).mono ?_
    rintro e w21 ⟨rfl, hb⟩
    have H21 : Hid (NW wb [.iface t16 x16, .iface t2 x2, .iface t1 x1] w21) := Lib.hid (H20.out.below hb)
    clear hb H20
    try dsimp only
    go_wp2_with fail
    refine (H21.out.num09 (.iface t2 x2) (by simp)).mono ?_
    rintro e w22 ⟨rfl, hb⟩
    have H22 : Hid (NW wb [.iface t16 x16, .iface t2 x2, .iface t1 x1] w22) := Lib.hid (H21.out.below hb)
    clear hb H21
    try dsimp only
    obtain ⟨z0, z1, z2⟩ := blk3 ((H22.out.2.1.block _ (lt_of_blk HB0.out.2.1)).trans HB0.out.2.1)
    go_wp2_with fail
    refine (rset_nil lun blk y w22).mono ?_
    rintro e w23 ⟨⟨t17, x17, rfl, he⟩, hb⟩
    have H23 : Hid (NW wb [.iface t17 x17, .iface t16 x16, .iface t2 x2, .iface t1 x1] w23) := Lib.hid ((H22.out.below hb).add he)
    clear he hb H22 z0 z1 z2
    try dsimp only
    go_wp2_with fail
    refine (H23.out.num09 (.iface t17 x17) (by simp)).mono ?_
    rintro e w24 ⟨rfl, hb⟩
    have H24 : Hid (NW wb [.iface t17 x17, .iface t16 x16, .iface t2 x2, .iface t1 x1] w24) := Lib.hid (H23.out.below hb)
    clear hb H23
    try dsimp only
    go_wp2_with fail
    refine (H24.out.num09 (.iface t16 x16) (by simp)).mono ?_
    rintro e w25 ⟨rfl, hb⟩
    have H25 : Hid (NW wb [.iface t17 x17, .iface t16 x16, .iface t2 x2, .iface t1 x1] w25) := Lib.hid (H24.out.below hb)
    clear hb H24
    try dsimp only
    go_wp2_with fail
    refine (H25.out.num09 (.iface t16 x16) (by simp)).mono ?_
    rintro e w26 ⟨rfl, hb⟩
    have H26 : Hid (NW wb [.iface t17 x17, .iface t16 x16, .iface t2 x2, .iface t1 x1] w26) := Lib.hid (H25.out.below hb)
    clear hb H25
    try dsimp only
    go_wp2_with fail
    go_ret
    exact ⟨rfl, HB0.out.2.2.trans (H26.out.2.1.mono HB0.out.2.2.size)⟩
end Go.Proofs.YthaaoghbginmpaaDoor
