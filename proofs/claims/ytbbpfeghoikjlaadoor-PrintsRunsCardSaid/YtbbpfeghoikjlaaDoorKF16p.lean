/- A slice of calls of a table: each is four whole numbers and a byte. -/
import Derived.Test.YtbbpfeghoikjlaaDoorKF14
import Derived.Test.YtbbpfeghoikjlaaDoorKF15
set_option linter.unusedSimpArgs false
set_option linter.unusedVariables false
set_option linter.unnecessarySimpa false
namespace Go.Proofs.YtbbpfeghoikjlaaDoor
open Go.RowKit Go.Maps
theorem info_call8 : (Tryd.prog.info? 30).map (·.size) = some 5 := by kernel_rfl
def callV (k i d s r : Int) : List Value := [.int .i64 k, .int .i64 i, .int .u8 d, .int .i64 s, .int .i64 r]
/-- Calls in memory: K i, I i, D i, S i, R i. -/
def Calls8At (w : World) (a : Option Addr) (len : Nat) (K I D S R : Nat → Int) : Prop := ∀ i, i < len → ∃ b off, a = some ⟨b, off, none⟩ ∧ b < w.heap.size ∧ w.rangeAt b (off + i * 5) (callV (K i) (I i) (D i) (S i) (R i))
theorem Calls8At.keeps {w w' : World} {a : Option Addr} {len : Nat} {K I D S R : Nat → Int} (h : Calls8At w a len K I D S R) (hk : Keeps (fun k => k < w.heap.size) w w') : Calls8At w' a len K I D S R := fun i hi => by
  obtain ⟨b, off, ha, hb, hc⟩ := h i hi
  refine ⟨b, off, ha, Nat.lt_of_lt_of_le hb hk.size, fun j v hv => ?_⟩
  have := hc j v hv
  unfold World.cell? at this ⊢
  rw [hk.block b hb hb]
  exact this
theorem call8_load {ops : Array Oper} {rest : List Oper} {o : Oper} {a : Act} {w : World} {Q : Exit → Act → World → Prop} (hgd : o.guard = none) (y : Operand) (ho : o.op = .load 30 y) (g off : Nat) (k i d s r : Int) (hx : a.eval y = .pointer (some ⟨g, off, none⟩)) (hg : w.rangeAt g off (callV k i d s r))
    (h : wpList Tryd.prog ops Q rest (a.put o.dst (.agg #[.int .i64 k, .int .i64 i, .int .u8 d, .int .i64 s, .int .i64 r])) w) : wpList Tryd.prog ops Q (o :: rest) a w :=
  wpList_load_mid hgd 30 y ho g off hx (callV k i d s r) _ hg Tryd.underlying30 rfl info_call8 h
theorem call8_store {ops : Array Oper} {rest : List Oper} {o : Oper} {a : Act} {w : World} {Q : Exit → Act → World → Prop} (hgd : o.guard = none) (y z : Operand) (ho : o.op = .store 30 y z) (g : Nat) (k i d s r c0 c1 c2 c3 c4 : Int) (hx : a.eval y = .pointer (some ⟨g, 0, none⟩)) (hy : a.eval z = .agg #[.int .i64 k, .int .i64 i, .int .u8 d, .int .i64 s, .int .i64 r])
    (hg : w.heap[g]? = some (.cells #[.int .i64 c0, .int .i64 c1, .int .u8 c2, .int .i64 c3, .int .i64 c4] 30)) (h : wpList Tryd.prog ops Q rest (a.put o.dst undef) (w.setRow g #[.int .i64 k, .int .i64 i, .int .u8 d, .int .i64 s, .int .i64 r])) : wpList Tryd.prog ops Q (o :: rest) a w :=
  wpList_store_row hgd _ y z ho g #[.int .i64 k, .int .i64 i, .int .u8 d, .int .i64 s, .int .i64 r] hx hy _ #[.int .i64 c0, .int .i64 c1, .int .u8 c2, .int .i64 c3, .int .i64 c4] hg info_call8 rfl (by simp [Value.oneCell']) h
theorem call8_range {w : World} {b T : Nat} {k i d s r : Int} (h : w.heap[b]? = some (.cells #[.int .i64 k, .int .i64 i, .int .u8 d, .int .i64 s, .int .i64 r] T)) : w.rangeAt b 0 (callV k i d s r) := fun j v hv => by
  rw [cell_of_row w b (0 + j) _ T (0, 0) h]
  unfold callV at hv
  simpa using hv
end Go.Proofs.YtbbpfeghoikjlaaDoor
set_option linter.unnecessarySimpa false
namespace Go.Proofs.YtbbpfeghoikjlaaDoor
open Go.RowKit Go.Maps
/-- The blocks that a run keeps: the caller's, and the map's. -/
def NPr (w : World) (mb : Nat) : Nat → Prop := fun i => i < w.heap.size ∨ i = mb
def PrI (w : World) (tb bb n mb : Nat) (wx : World) : Prop := (∃ M, EnS (NPr w mb) tb bb n mb M wx) ∧ Keeps (fun i => i < w.heap.size) w wx ∧ w.heap.size ≤ mb
theorem cntM_none (n : Nat) : cntM (fun _ => none) n = 0 := by
  unfold cntM
  rw [List.length_eq_zero_iff, List.filter_eq_nil_iff]
  intro p _
  simp
set_option maxRecDepth 100000 in
set_option maxHeartbeats 4000000 in
theorem pruns_any (n : Int) (a : Option Addr) (len cap : Nat) (K I D S R : Nat → Int) (hlen : len ≤ maxLen) (hD : ∀ i, i < len → 0 ≤ D i ∧ D i < 256) (w : World) (hks : Calls8At w a len K I D S R) (hg : EtAt w) :
    Calls Tryd.prog 3 #[.int .i64 n, .slice a len cap] w fun e w' => e = .returned (.bool true) ∧ Below w.heap.size w w' := by
  have hST := stands08_any (fun k => k < w.heap.size) w (fun i h => h)
  have HKS := Lib.hid hks
  have HET := Lib.hid hg
  have HW := Lib.hid hD
  have hlen2 : (len : Int) ≤ 9223372036854775807 := by unfold maxLen at hlen; omega
  have hlen0 : (0 : Int) ≤ len := by omega
  have hmm : ∀ wx : World, (Instr.makeMap 28 none).run Tryd.prog wx = .ok (.map (some wx.heap.size)) (wx.alloc (.map #[] 0)) := fun _ => by kernel_rfl
  clear hlen hks hg hD
  go_enter Tryd.func3, Tryd.ntmps3
  go_wp2_with fail
  refine hST.mono ?_
  clear hST
  rintro e w1 ⟨rfl, hk1⟩
  try dsimp only
  by_cases hout : n < 1 ∨ (1 ≤ n ∧ 60 < n) ∨ (1 ≤ n ∧ n ≤ 60 ∧ 150 < len)
  · have HK := Lib.hid hk1
    clear hk1
    rcases hout with q1 | ⟨q1, q2⟩ | ⟨q1, q2, q3⟩
    all_goals
      try have e1 : ¬ (n < 1) := by omega
      try have e2 : ¬ (60 < n) := by omega
      try have e3 : (150 : Int) < len := by omega
      go_wp2_with fail
      go_ret
      exact ⟨rfl, HK.out.below (Nat.le_refl _) (fun i hi => hi)⟩
  · have n1 : 1 ≤ n := by omega
    have n2 : n ≤ 60 := by omega
    have n3 : (len : Int) ≤ 150 := by omega
    clear hout
    obtain ⟨n', rfl⟩ := Int.eq_ofNat_of_zero_le (show 0 ≤ n by omega)
    have hFR := fresh08_any n' ⟨by omega, by omega⟩ (fun k => k < w.heap.size) w1 (fun i h => Nat.lt_of_lt_of_le h hk1.size)
    go_wp2_with fail
    refine hFR.mono ?_
    clear hFR
    rintro e w2 ⟨⟨bb, tb, rfl, hT⟩, hk2⟩
    have hob : w.heap.size ≤ w2.heap.size := (hk1.trans hk2).size
    have ha2 : ∀ o : Obj, Below w2.heap.size w2 (w2.alloc o) := fun o => (Below.refl _ _).alloc (Nat.le_refl _) _
    have hT2 : TbS (fun k => k < w.heap.size) tb bb n' (fun _ => none) w2 := ⟨freshB, hT, EnX.start n' (by omega)⟩
    have H2 : Hid (PrI w tb bb n' w2.heap.size (w2.alloc (.map #[] 0))) := Lib.hid ⟨⟨fun _ => none, hT2.keep (ha2 _) (fun k hk => by
      rcases hk with hk | rfl
      · exact ⟨by simp; omega, .inl hk⟩
      · exact ⟨by simp, .inr (Nat.le_refl _)⟩), by rw [cntM_none, enL_none]; exact mapIs_made _ _ _, .inr rfl, .inl HET.out.pos, HET.out.keeps ((hk1.trans hk2).trans (Keeps.of_below (ha2 _))) HET.out.pos⟩, (hk1.trans hk2).trans (Keeps.of_below (ha2 _)), hob⟩
    clear hT hT2 hk1 hk2 ha2 hob
    try dsimp only
    go_wp2_with fail
    refine gen_code (fun wx => Hid (PrI w tb bb n' w2.heap.size wx)) H2 ?_
    clear H2
    generalize w2.heap.size = mb
    intro w3 H3
    try simp only [Act.put]
    go_loopw [31] (fun iv wr => ∃ i : Nat, iv = .int .i64 (i : Int) ∧ i ≤ len ∧ Hid (PrI w tb bb n' mb wr)) (fun iv _ => 151 - (intOf iv).toNat)
    case atStart => exact ⟨0, rfl, by omega, H3⟩
    case round =>
      clear H3
      obtain ⟨i, rfl, hi, H⟩ := hrel
      have hi0 : (0 : Int) ≤ i := by omega
      by_cases hit : i < len
      case neg =>
        have hi1 : ¬ ((i : Int) < len) := by omega
        have HF := Lib.hid H.out.2.1
        clear hi hit H
        go_wp2_with fail
        go_ret
        exact ⟨rfl, HF.out.below (Nat.le_refl _) (fun i hi => hi)⟩
      case pos =>
        have hi1 : (i : Int) < len := by omega
        obtain ⟨b, off, rfl, hbs, hc⟩ := (HKS.out.keeps H.out.2.1) i hit
        have hWi := HW.out i hit
        have HC := Lib.hid hc
        clear hc
        generalize K i = xk at HC
        generalize I i = xi at HC
        generalize D i = xd at HC hWi
        generalize S i = xs at HC
        generalize R i = xr at HC
        repeat ((fail_if_success (with_reducible refine stop_at 35 rfl ?_)); (first | (first | (refine call8_load rfl (.tmp 33) rfl b (off + i * 5) xk xi xd xs xr (by simp [Act.eval]) HC.out ?_) | (refine call8_store rfl (.tmp 9) (.tmp 34) rfl wr.heap.size xk xi xd xs xr 0 0 0 0 0 rfl rfl (heap_alloc_new wr _) ?_)) | go_values | go_skip | go_guarded | go_step | go_upon))
        have hbx : ∀ o : Obj, Below wr.heap.size wr ((wr.alloc o).setRow wr.heap.size #[.int .i64 xk, .int .i64 xi, .int .u8 xd, .int .i64 xs, .int .i64 xr]) := fun o => below_setRow ((Below.refl _ _).alloc (Nat.le_refl _) _) (Nat.le_refl _) _
        obtain ⟨⟨M, hS⟩, hrest⟩ := H.out
        refine gen_world (fun wx => Hid (wx.heap[wr.heap.size]? = some (.cells #[.int .i64 xk, .int .i64 xi, .int .u8 xd, .int .i64 xs, .int .i64 xr] 30) ∧ EnS (NPr w mb) tb bb n' mb M wx ∧ Keeps (fun i => i < w.heap.size) w wx)) (Lib.hid ⟨setRow_heap _ _ _ _ _ (0, 0) (heap_alloc_new wr _), hS.below (hbx _), hrest.1.trans (Keeps.of_below (hbx _))⟩) ?_
        have HMB := Lib.hid hrest.2
        clear hbx hS hrest H HC
        generalize wr.heap.size = cb
        intro w4 H4
        try simp only [Act.put]
        have hRun := run_any (by omega) xk xi xd xs xr hWi w4 H4.out.2.1
        go_wp2_with (refine call8_load rfl (.tmp 9) rfl cb 0 xk xi xd xs xr rfl (call8_range H4.out.1) ?_)
        refine hRun.mono ?_
        clear hRun
        rintro e w5 ⟨rfl, M', hS5, hk5⟩
        have H5 : Hid (EnS (NPr w mb) tb bb n' mb M' w5 ∧ Keeps (fun i => i < w.heap.size) w w5) := Lib.hid ⟨hS5, H4.out.2.2.trans (hk5.mono (fun i _ hi => ⟨.inl hi, by have := HMB.out; omega⟩))⟩
        clear hS5 hk5 H4
        have hRi := right_any (by omega) (by omega) w5 H5.out.1
        try dsimp only
        go_wp2_with fail
        refine hRi.mono ?_
        clear hRi
        rintro e w6 ⟨rfl, hb6⟩
        have H6 : Hid (PrI w tb bb n' mb w6) := Lib.hid ⟨⟨M', H5.out.1.below hb6⟩, H5.out.2.trans (Keeps.of_below hb6), HMB.out⟩
        clear hb6 H5
        try dsimp only
        go_wp2_with fail
        go_roundw
        · exact ⟨i + 1, by push_cast; rfl, by omega, H6⟩
        · simp only [intOf]; omega
end Go.Proofs.YtbbpfeghoikjlaaDoor
