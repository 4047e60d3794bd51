/- A book that is none; sizes that are none; numbers of errors. -/
import Derived.Test.YtajmcplanlibnaaGreatDoorKV9
import Derived.Test.YtajmcplanlibnaaGreatDoorKA0
import Derived.Test.YtajmcplanlibnaaGreatDoorKVC
set_option linter.unusedSimpArgs false
set_option linter.unusedVariables false
set_option linter.unnecessarySimpa false
namespace Go.Proofs.YtajmcplanlibnaaGreatDoor
open Go.RowKit Go.Maps
set_option maxRecDepth 100000 in
theorem num06_err (v : Value) (n : Int) (w : World) (hv : ErrV w v n) (hg : EtAt w) : Calls Tryz.prog 22 #[v] w fun e w' => e = .returned (.int .i64 n) ∧ Below w.heap.size w w' := by
  obtain ⟨te, xe, rfl⟩ := hv.iface
  obtain ⟨k, hk⟩ := hv
  have hb0 : Below w.heap.size w (w.alloc (.cells #[.int .i64 0] 137)) := (Below.refl _ _).alloc (Nat.le_refl _) _
  have hA := as_any k (.iface te xe) n w.heap.size (.int .i64 0) (w.alloc (.cells #[.int .i64 0] 137)) (hk.below hb0) (hg.below hb0 hg.pos) (heap_alloc_new _ _)
  clear hk
  go_enter Tryz.func22, Tryz.ntmps22
  go_wp2_with fail
  refine hA.mono ?_
  rintro e w2 ⟨rfl, hx, hb⟩
  have z0 : w2.cell? ⟨w.heap.size, 0, none⟩ = some (.int .i64 n) := by simp [World.cell?, hx]
  try dsimp only
  go_wp2_with fail
  go_ret
  exact ⟨rfl, hb0.trans hb⟩
set_option maxRecDepth 100000 in
theorem undo_nil (w : World) : Calls Tryz.prog 15 #[.pointer none] w fun e w' => e = .returned (.tuple #[]) ∧ w = w' := by
  go_enter Tryz.func15, Tryz.ntmps15
  go_wp2_with fail
  go_end0
  exact ⟨rfl, rfl⟩
set_option maxRecDepth 100000 in
theorem pages_nil (w : World) : Calls Tryz.prog 18 #[.pointer none] w fun e w' => e = .returned (.int .i64 0) ∧ w = w' := by
  go_enter Tryz.func18, Tryz.ntmps18
  go_wp2_with fail
  go_ret
  exact ⟨rfl, rfl⟩
set_option maxRecDepth 100000 in
theorem commit_nil (w : World) : Calls Tryz.prog 17 #[.pointer none] w fun e w' => (∃ t x, e = .returned (.iface t x) ∧ ErrV w' (.iface t x) 10) ∧ Below w.heap.size w w' := by
  go_enter Tryz.func17, Tryz.ntmps17
  go_wp2_with fail
  refine (woe_num _ 10 _).mono ?_
  rintro e w3 ⟨⟨t, x, rfl, he⟩, hb3⟩
  have HE := Lib.hid he
  try dsimp only
  go_wp2_with fail
  go_ret
  exact ⟨⟨t, x, rfl, HE.out⟩, hb3⟩
set_option maxRecDepth 100000 in
theorem sync_nil (w : World) : Calls Tryz.prog 33 #[.pointer none] w fun e w' => (∃ t x, e = .returned (.iface t x) ∧ ErrV w' (.iface t x) 10) ∧ Below w.heap.size w w' := by
  go_enter Tryz.func33, Tryz.ntmps33
  go_wp2_with fail
  refine (woe_num _ 10 _).mono ?_
  rintro e w3 ⟨⟨t, x, rfl, he⟩, hb3⟩
  have HE := Lib.hid he
  try dsimp only
  go_wp2_with fail
  go_ret
  exact ⟨⟨t, x, rfl, HE.out⟩, hb3⟩
theorem built_pg0 : Tryz.prog.built 37 [] = some (v8a (zer 64)) := by kernel_rfl
set_option maxRecDepth 100000 in
set_option maxHeartbeats 1000000 in
theorem read_nil (i : Int) (w : World) : Calls Tryz.prog 19 #[.pointer none, .int .i64 i] w fun e w' => (∃ t x, e = .returned (.tuple #[.agg (v8a (zer 64)), .iface t x]) ∧ ErrV w' (.iface t x) 10) ∧ Below w.heap.size w w' := by
  go_enter Tryz.func19, Tryz.ntmps19
  go_upto_region 1 with fail
  refine gen_code (fun wx => Hid (wx.heap[w.heap.size]? = some (.cells (v8a (zer 64)) 37) ∧ Below w.heap.size w wx)) (Lib.hid ⟨heap_alloc_new w (.cells (v8a (zer 64)) 37), (Below.refl _ _).alloc (Nat.le_refl _) _⟩) ?_
  intro w1 H1
  go_wp2_with (refine wpList_build_to rfl 37 _ rfl (v8a (zer 64)) built_pg0 ?_)
  refine (woe_num _ 10 _).mono ?_
  rintro e w3 ⟨⟨t, x, rfl, he⟩, hb3⟩
  have HE := Lib.hid he
  have H3 : Hid (w3.heap[w.heap.size]? = some (.cells (v8a (zer 64)) 37) ∧ Below w.heap.size w w3) := Lib.hid ⟨(hb3.block _ (lt_of_blk H1.out.1)).trans H1.out.1, H1.out.2.trans (hb3.mono H1.out.2.size)⟩
  clear he hb3 H1
  try dsimp only
  go_wp2_with (refine page_store rfl (.tmp 4) (.tmp 21) rfl w.heap.size (zer 64) (zer 64) rfl rfl H3.out.1 rfl rfl ?_)
  refine bodyPost_ret (results_cell_slot Tryz.results19 _ _ w.heap.size 37 (v8a (zer 64)) (0, 0) _ rfl (.iface t x) rfl (setRow_heap _ _ _ _ _ (0, 0) H3.out.1) Tryz.underlying37 rfl info_pgs) rfl ⟨⟨t, x, rfl, ?_⟩, below_setRow H3.out.2 (Nat.le_refl _) _⟩
  exact HE.out.setRow H3.out.1 (by decide) _
set_option maxRecDepth 100000 in
set_option maxHeartbeats 1000000 in
theorem write_nil (i : Int) (p : List Int) (hp : p.length = 64) (w : World) : Calls Tryz.prog 14 #[.pointer none, .int .i64 i, .agg (v8a p)] w fun e w' => (∃ t x, e = .returned (.iface t x) ∧ ErrV w' (.iface t x) 10) ∧ Below w.heap.size w w' := by
  go_enter Tryz.func14, Tryz.ntmps14
  go_upto_region 1 with fail
  refine gen_code (fun wx => Hid (Below w.heap.size w wx)) (Lib.hid ((Below.refl _ _).alloc (Nat.le_refl _) _)) ?_
  intro w1 H1
  go_wp2_with fail
  refine (read_nil i w1).mono ?_
  rintro e w2 ⟨⟨t, x, rfl, he⟩, hb2⟩
  have HE := Lib.hid he
  have HB := Lib.hid hb2
  clear he hb2
  try dsimp only
  go_upto_region 2 with (refine page_store rfl (.tmp 7) (.tmp 15) rfl w2.heap.size (zer 64) (zer 64) rfl rfl (heap_alloc_new w2 _) rfl rfl ?_)
  have hbx : ∀ o : Obj, Below w2.heap.size w2 ((w2.alloc o).setRow w2.heap.size (v8a (zer 64))) := fun o => below_setRow ((Below.refl _ _).alloc (Nat.le_refl _) _) (Nat.le_refl _) _
  refine gen_code (fun wx => Hid (ErrV wx (.iface t x) 10 ∧ Below w.heap.size w wx)) (Lib.hid ⟨HE.out.below (hbx _), H1.out.trans ((HB.out.trans ((hbx _).mono HB.out.size)).mono H1.out.size)⟩) ?_
  clear hbx HE HB
  intro w3 H3
  try simp only [Act.put]
  go_wp2_with fail
  go_ret
  exact ⟨⟨t, x, rfl, H3.out.1⟩, H3.out.2⟩
set_option maxRecDepth 100000 in
theorem new_bad (n : Int) (hn : n < 1 ∨ 4096 < n) (w : World) : Calls Tryz.prog 12 #[.int .i64 n] w fun e w' => (∃ t x, e = .returned (.tuple #[.pointer none, .iface t x]) ∧ ErrV w' (.iface t x) 1) ∧ Below w.heap.size w w' := by
  go_enter Tryz.func12, Tryz.ntmps12
  by_cases h1 : n < 1
  · go_wp2_with fail
    refine (woe_num _ 1 _).mono ?_
    rintro e w3 ⟨⟨t, x, rfl, he⟩, hb3⟩
    have HE := Lib.hid he
    try dsimp only
    go_wp2_with fail
    go_ret2
    exact ⟨⟨t, x, rfl, HE.out⟩, hb3⟩
  · have h2 : 4096 < n := by omega
    have h3 : decide (n < 1) = false := decide_eq_false h1
    go_wp2_with fail
    refine (woe_num _ 1 _).mono ?_
    rintro e w3 ⟨⟨t, x, rfl, he⟩, hb3⟩
    have HE := Lib.hid he
    try dsimp only
    go_wp2_with fail
    go_ret2
    exact ⟨⟨t, x, rfl, HE.out⟩, hb3⟩
set_option maxRecDepth 100000 in
theorem mount_nil (size : Int) (w : World) : Calls Tryz.prog 13 #[.pointer none, .int .i64 size] w fun e w' => (∃ t x, e = .returned (.tuple #[.pointer none, .iface t x]) ∧ ErrV w' (.iface t x) 1) ∧ Below w.heap.size w w' := by
  go_enter Tryz.func13, Tryz.ntmps13
  go_wp2_with fail
  refine (woe_num _ 1 _).mono ?_
  rintro e w3 ⟨⟨t, x, rfl, he⟩, hb3⟩
  have HE := Lib.hid he
  try dsimp only
  go_wp2_with fail
  go_ret2
  exact ⟨⟨t, x, rfl, HE.out⟩, hb3⟩
set_option maxRecDepth 100000 in
set_option maxHeartbeats 1000000 in
theorem mount_bad (db : Nat) (N : Nat → Prop) (d : DiskS) (size : Int) (w : World) (h : DiskI w db N d) (hs : size < 96 ∨ 4096 < size ∨ (d.firm.length : Int) < size + 3) : Calls Tryz.prog 13 #[.pointer (some ⟨db, 0, none⟩), .int .i64 size] w fun e w' => (∃ t x, e = .returned (.tuple #[.pointer none, .iface t x]) ∧ ErrV w' (.iface t x) 1) ∧ Below w.heap.size w w' := by
  have hSZ := diskSize_any db N d w h
  have hfl := h.isOk.1
  clear h
  have g4 : (d.firm.length : Int) ≤ 4096 := by omega
  go_enter Tryz.func13, Tryz.ntmps13
  by_cases h1 : size < 96
  · go_wp2_with fail
    refine (woe_num _ 1 _).mono ?_
    rintro e w3 ⟨⟨t, x, rfl, he⟩, hb3⟩
    have HE := Lib.hid he
    try dsimp only
    go_wp2_with fail
    go_ret2
    exact ⟨⟨t, x, rfl, HE.out⟩, hb3⟩
  · have d1 : decide (size < 96) = false := decide_eq_false h1
    by_cases h2 : 4096 < size
    · have d2 : size > 4096 := h2
      go_wp2_with fail
      refine (woe_num _ 1 _).mono ?_
      rintro e w3 ⟨⟨t, x, rfl, he⟩, hb3⟩
      have HE := Lib.hid he
      try dsimp only
      go_wp2_with fail
      go_ret2
      exact ⟨⟨t, x, rfl, HE.out⟩, hb3⟩
    · have d2 : decide (size > 4096) = false := decide_eq_false h2
      have d3 : decide (4096 < size) = false := decide_eq_false h2
      have h3 : (d.firm.length : Int) < 2 + size + 1 := by omega
      have h4 : (96 : Int) ≤ size := by omega
      have h5 : size ≤ 4096 := by omega
      go_wp2_with fail
      refine hSZ.mono ?_
      rintro e w1 ⟨rfl, rfl⟩
      try dsimp only
      go_wp2_with fail
      refine (woe_num _ 1 _).mono ?_
      rintro e w3 ⟨⟨t, x, rfl, he⟩, hb3⟩
      have HE := Lib.hid he
      try dsimp only
      go_wp2_with fail
      go_ret2
      exact ⟨⟨t, x, rfl, HE.out⟩, hb3⟩
end Go.Proofs.YtajmcplanlibnaaGreatDoor
set_option linter.unnecessarySimpa false
namespace Go.Proofs.YtajmcplanlibnaaGreatDoor
open Go.RowKit Go.Maps
set_option maxRecDepth 100000 in
set_option maxHeartbeats 2000000 in
theorem bookRead_bad (bb : Nat) (N : Nat → Prop) (B : BookS) (i : Int) (hi : i < 0 ∨ (B.n : Int) ≤ i) (w : World) (h : BookI w bb N B) : Calls Tryz.prog 19 #[.pointer (some ⟨bb, 0, none⟩), .int .i64 i] w fun e w' => (∃ t x, e = .returned (.tuple #[.agg (v8a (zer 64)), .iface t x]) ∧ ErrV w' (.iface t x) 1) ∧ Below w.heap.size w w' := by
  obtain ⟨db, rb, nb, ov, hX⟩ := h
  have HX := Lib.hid hX
  clear hX
  go_enter Tryz.func19, Tryz.ntmps19
  go_upto_region 1 with fail
  refine gen_code (fun wx => Hid (wx.heap[w.heap.size]? = some (.cells (v8a (zer 64)) 37) ∧ Below w.heap.size w wx)) (Lib.hid ⟨heap_alloc_new w (.cells (v8a (zer 64)) 37), (Below.refl _ _).alloc (Nat.le_refl _) _⟩) ?_
  intro w1 H1
  have hbk := (H1.out.2.block _ (lt_of_blk HX.out.cells)).trans HX.out.cells
  obtain ⟨z0, z1, z2, z3, z4, z5, z6, z7, _⟩ := book_cells hbk
  clear HX hbk
  by_cases hneg : i < 0
  · go_wp2_with (refine wpList_build_to rfl 37 _ rfl (v8a (zer 64)) built_pg0 ?_)
    refine (woe_num _ 1 _).mono ?_
    rintro e w3 ⟨⟨t, x, rfl, he⟩, hb3⟩
    have HE := Lib.hid he
    have H3 : Hid (w3.heap[w.heap.size]? = some (.cells (v8a (zer 64)) 37) ∧ Below w.heap.size w w3) := Lib.hid ⟨(hb3.block _ (lt_of_blk H1.out.1)).trans H1.out.1, H1.out.2.trans (hb3.mono H1.out.2.size)⟩
    clear he hb3 H1 z0 z1 z2 z3 z4 z5 z6 z7
    try dsimp only
    go_wp2_with (refine page_store rfl (.tmp 4) (.tmp 35) rfl w.heap.size (zer 64) (zer 64) rfl rfl H3.out.1 rfl rfl ?_)
    refine bodyPost_ret (results_cell_slot Tryz.results19 _ _ w.heap.size 37 (v8a (zer 64)) (0, 0) _ rfl (.iface t x) rfl (setRow_heap _ _ _ _ _ (0, 0) H3.out.1) Tryz.underlying37 rfl info_pgs) rfl ⟨⟨t, x, rfl, ?_⟩, below_setRow H3.out.2 (Nat.le_refl _) _⟩
    exact HE.out.setRow H3.out.1 (by decide) _
  · have hge : (B.n : Int) ≤ i := by omega
    have hge2 : i ≥ (B.n : Int) := hge
    have dneg : decide (i < 0) = false := decide_eq_false hneg
    go_wp2_with (refine wpList_build_to rfl 37 _ rfl (v8a (zer 64)) built_pg0 ?_)
    refine (woe_num _ 1 _).mono ?_
    rintro e w3 ⟨⟨t, x, rfl, he⟩, hb3⟩
    have HE := Lib.hid he
    have H3 : Hid (w3.heap[w.heap.size]? = some (.cells (v8a (zer 64)) 37) ∧ Below w.heap.size w w3) := Lib.hid ⟨(hb3.block _ (lt_of_blk H1.out.1)).trans H1.out.1, H1.out.2.trans (hb3.mono H1.out.2.size)⟩
    clear he hb3 H1 z0 z1 z2 z3 z4 z5 z6 z7
    try dsimp only
    go_wp2_with (refine page_store rfl (.tmp 4) (.tmp 35) rfl w.heap.size (zer 64) (zer 64) rfl rfl H3.out.1 rfl rfl ?_)
    refine bodyPost_ret (results_cell_slot Tryz.results19 _ _ w.heap.size 37 (v8a (zer 64)) (0, 0) _ rfl (.iface t x) rfl (setRow_heap _ _ _ _ _ (0, 0) H3.out.1) Tryz.underlying37 rfl info_pgs) rfl ⟨⟨t, x, rfl, ?_⟩, below_setRow H3.out.2 (Nat.le_refl _) _⟩
    exact HE.out.setRow H3.out.1 (by decide) _
set_option maxRecDepth 100000 in
set_option maxHeartbeats 1000000 in
theorem bookWrite_bad (bb : Nat) (N : Nat → Prop) (B : BookS) (i : Int) (hi : i < 0 ∨ (B.n : Int) ≤ i) (p : List Int) (hp : p.length = 64) (w : World) (h : BookI w bb N B) : Calls Tryz.prog 14 #[.pointer (some ⟨bb, 0, none⟩), .int .i64 i, .agg (v8a p)] w fun e w' => (∃ t x, e = .returned (.iface t x) ∧ ErrV w' (.iface t x) 1) ∧ Below w.heap.size w w' := by
  have HB0 := Lib.hid h
  clear h
  go_enter Tryz.func14, Tryz.ntmps14
  go_upto_region 1 with fail
  refine gen_code (fun wx => Hid (Below w.heap.size w wx)) (Lib.hid ((Below.refl _ _).alloc (Nat.le_refl _) _)) ?_
  intro w1 H1
  have hRD := bookRead_bad bb N B i hi w1 (HB0.out.below H1.out)
  clear HB0
  go_wp2_with fail
  refine hRD.mono ?_
  clear hRD
  rintro e w2 ⟨⟨t, x, rfl, he⟩, hb2⟩
  have HE := Lib.hid he
  have HB := Lib.hid hb2
  clear he hb2
  try dsimp only
  go_upto_region 2 with (refine page_store rfl (.tmp 7) (.tmp 15) rfl w2.heap.size (zer 64) (zer 64) rfl rfl (heap_alloc_new w2 _) rfl rfl ?_)
  have hbx : ∀ o : Obj, Below w2.heap.size w2 ((w2.alloc o).setRow w2.heap.size (v8a (zer 64))) := fun o => below_setRow ((Below.refl _ _).alloc (Nat.le_refl _) _) (Nat.le_refl _) _
  refine gen_code (fun wx => Hid (ErrV wx (.iface t x) 1 ∧ Below w.heap.size w wx)) (Lib.hid ⟨HE.out.below (hbx _), H1.out.trans ((HB.out.trans ((hbx _).mono HB.out.size)).mono H1.out.size)⟩) ?_
  clear hbx HE HB
  intro w3 H3
  try simp only [Act.put]
  go_wp2_with fail
  go_ret
  exact ⟨⟨t, x, rfl, H3.out.1⟩, H3.out.2⟩
/-- A call's cells. -/
def call6V (k i x : Int) (a : Option Addr) (l c : Nat) : List Value := [.int .i64 k, .int .i64 i, .int .u8 x, .slice a l c]
def Calls6At (w : World) (a : Option Addr) (len : Nat) (K I X : Nat → Int) (A : Nat → Option Addr) (L C : Nat → Nat) : Prop := ∀ i, i < len → ∃ b off, a = some ⟨b, off, none⟩ ∧ b < w.heap.size ∧ w.rangeAt b (off + i * 4) (call6V (K i) (I i) (X i) (A i) (L i) (C i))
theorem Calls6At.keeps {w w' : World} {a : Option Addr} {len : Nat} {K I X : Nat → Int} {A : Nat → Option Addr} {L C : Nat → Nat} (h : Calls6At w a len K I X A L C) (hk : Keeps (fun k => k < w.heap.size) w w') : Calls6At w' a len K I X A L C := fun i hi => by
  obtain ⟨b, off, ha, hb, hc⟩ := h i hi
  refine ⟨b, off, ha, Nat.lt_of_lt_of_le hb hk.size, fun j v hv => ?_⟩
  have := hc j v hv
  unfold World.cell? at this ⊢
  rw [hk.block b hb hb]
  exact this
theorem info_call6 : (Tryz.prog.info? 35).map (·.size) = some 4 := by kernel_rfl
theorem call6_cells {w : World} {b : Nat} {k i x : Int} {a : Option Addr} {l c T : Nat} (h : w.heap[b]? = some (.cells (call6V k i x a l c).toArray T)) :
    w.cell? ⟨b, 0, none⟩ = some (.int .i64 k) ∧ w.cell? ⟨b, 1, none⟩ = some (.int .i64 i) ∧ w.cell? ⟨b, 2, none⟩ = some (.int .u8 x) ∧ w.cell? ⟨b, 3, none⟩ = some (.slice a l c) := by
  refine ⟨?_, ?_, ?_, ?_⟩ <;> (rw [cell_of_row w b _ _ _ (0, 0) h]; rfl)
set_option maxRecDepth 100000 in
set_option maxHeartbeats 2000000 in
theorem light_any (a : Option Addr) (len cap : Nat) (K I X : Nat → Int) (A : Nat → Option Addr) (L C : Nat → Nat) (hlen : len ≤ maxLen) (hL : ∀ i, i < len → L i ≤ maxLen) (w : World) (h : Calls6At w a len K I X A L C) :
    Calls Tryz.prog 11 #[.slice a len cap] w fun e w' => (∃ b, e = .returned (.bool b)) ∧ Below w.heap.size w w' := by
  have HC := Lib.hid h
  have HL := Lib.hid hL
  have hml : len ≤ 9223372036854775807 := by unfold maxLen at hlen; omega
  clear h hL hlen
  go_enter Tryz.func11, Tryz.ntmps11
  go_wp2_with fail
  go_loopw [3, 10] (fun nv iv wr => ∃ (x : Int) (i : Nat), nv = .int .i64 x ∧ iv = .int .i64 (i : Int) ∧ i ≤ len ∧ Hid (Below w.heap.size w wr)) (fun _ iv _ => 9223372036854775808 - (intOf iv).toNat)
  case atStart => exact ⟨_, 0, rfl, rfl, by omega, Lib.hid (Below.refl _ _)⟩
  case round =>
    obtain ⟨x, i, rfl, rfl, hi, HB⟩ := hrel
    have hi0 : (0 : Int) ≤ i := by omega
    by_cases hil : i < len
    · have hi1 : (i : Int) < len := by omega
      obtain ⟨pb, off, hpa, hpb, hrg⟩ := (HC.out.keeps (Keeps.of_below HB.out)) i hil
      subst hpa
      have HRG := Lib.hid hrg
      have hll := HL.out i hil
      have hl9 : L i ≤ 9223372036854775807 := by unfold maxLen at hll; omega
      generalize K i = ck at HRG
      generalize I i = ci at HRG
      generalize X i = cx at HRG
      generalize A i = ca at HRG
      generalize L i = cl at HRG hl9
      generalize C i = cc at HRG
      clear hrg hll
      go_upto_region 5 with (first | (refine wpList_load_mid rfl 35 (.tmp 12) rfl pb (off + i * 4) rfl (call6V ck ci cx ca cl cc) _ HRG.out Tryz.underlying35 rfl info_call6 ?_) | (refine wpList_store_row rfl 35 (.tmp 5) (.tmp 13) rfl wr.heap.size (call6V ck ci cx ca cl cc).toArray rfl rfl 35 #[.int .i64 0, .int .i64 0, .int .u8 0, .slice none 0 0] (heap_alloc_new wr _) info_call6 rfl (by simp [Value.oneCell', call6V]) ?_))
      have hbx : ∀ o : Obj, Below wr.heap.size wr ((wr.alloc o).setRow wr.heap.size (call6V ck ci cx ca cl cc).toArray) := fun o => below_setRow ((Below.refl _ _).alloc (Nat.le_refl _) _) (Nat.le_refl _) _
      refine gen_code (fun wx => Hid (wx.heap[wr.heap.size]? = some (.cells (call6V ck ci cx ca cl cc).toArray 35)) ∧ Hid (Below w.heap.size w wx)) ⟨Lib.hid (setRow_heap _ _ _ _ _ (0, 0) (heap_alloc_new wr _)), Lib.hid (HB.out.trans ((hbx _).mono HB.out.size))⟩ ?_
      clear hbx HB HRG
      generalize wr.heap.size = cb
      rintro w2 ⟨HP, HB⟩
      try simp only [Act.put]
      obtain ⟨y0, y1, y2, y3⟩ := call6_cells HP.out
      go_wp2_with fail
      exact ⟨⟨_, i + 1, rfl, by push_cast; rfl, by omega, HB⟩, by simp [intOf]; omega⟩
    · obtain rfl : i = len := by omega
      go_wp2_with fail
      go_ret
      exact ⟨⟨_, rfl⟩, HB.out⟩
end Go.Proofs.YtajmcplanlibnaaGreatDoor
