/- DepotRuns: call by call a depot answers what the document says; each live slot has the block that was put there. -/
import Derived.Test.YtjikpodghmfjcaaGreatDoorKT0
import Derived.Test.YtjikpodghmfjcaaGreatDoorR0
import Derived.Deep.Grids
set_option linter.unusedSimpArgs false
set_option linter.unusedVariables false
set_option linter.unnecessarySimpa false
namespace Go.Proofs.YtjikpodghmfjcaaGreatDoor
open Go.RowKit Go.Maps
/-- The blocks that a run keeps: the caller's, and the document's. -/
def NDr (w : World) (mb sb qb : Nat) : Nat → Prop := fun i => i < w.heap.size ∨ i = mb ∨ i = sb ∨ i = qb
def DrI (w : World) (tb bb mb sb qb n k : Nat) (wx : World) : Prop := (∃ st blk, BoS (NDr w mb sb qb) tb bb mb sb qb n k 0 st blk wx) ∧ Keeps (fun i => i < w.heap.size) w wx ∧ w.heap.size ≤ mb ∧ w.heap.size ≤ sb ∧ w.heap.size ≤ qb
theorem BoS.turn {N : Nat → Prop} {tb bb mb sb qb n k c k' c' : Nat} {st : Nat → Int} {blk : Nat → List Int} {w w' : World} (h : BoS N tb bb mb sb qb n k c st blk w) (hd : DepS N tb bb n k' c' st blk w') (hk : Keeps N w w') : BoS N tb bb mb sb qb n k' c' st blk w' :=
  ⟨h.1.turn hd hk, h.2.1, h.2.2.1, h.2.2.2.1, h.2.2.2.2.keeps hk h.2.1⟩
set_option maxRecDepth 100000 in
set_option maxHeartbeats 4000000 in
theorem druns_any (n : Int) (a : Option Addr) (len cap : Nat) (K S W : Nat → Int) (hlen : len ≤ maxLen) (hW : ∀ i, i < len → 0 ≤ W i ∧ W i < 256) (w : World) (hks : Calls7At w a len K S W) (hg : EtAt w) :
    Calls Tryz.prog 8 #[.int .i64 n, .slice a len cap] w fun e w' => e = .returned (.bool true) ∧ Below w.heap.size w w' := by
  have hST := stands07_any (fun k => k < w.heap.size) w (fun i h => h)
  have HKS := Lib.hid hks
  have HET := Lib.hid hg
  have HW := Lib.hid hW
  have hlen2 : (len : Int) ≤ 9223372036854775807 := by unfold maxLen at hlen; omega
  have hlen0 : (0 : Int) ≤ len := by omega
  clear hlen hks hg hW
  go_enter Tryz.func8, Tryz.ntmps8
  go_wp2_with fail
  refine hST.mono ?_
  clear hST
  rintro e w1 ⟨rfl, hk1⟩
  try dsimp only
  by_cases hout : n < 1 ∨ (1 ≤ n ∧ 64 < n) ∨ (1 ≤ n ∧ n ≤ 64 ∧ 300 < len)
  · have HK := Lib.hid hk1
    clear hk1
    rcases hout with q1 | ⟨q1, q2⟩ | ⟨q1, q2, q3⟩
    all_goals
      try have e1 : ¬ (n < 1) := by omega
      try have e2 : ¬ (64 < n) := by omega
      try have e3 : (300 : Int) < len := by omega
      go_wp2_with fail
      go_ret
      exact ⟨rfl, HK.out.below (Nat.le_refl _) (fun i hi => hi)⟩
  · have n1 : 1 ≤ n := by omega
    have n2 : n ≤ 64 := by omega
    have n3 : (len : Int) ≤ 300 := by omega
    clear hout
    obtain ⟨n', rfl⟩ := Int.eq_ofNat_of_zero_le (show 0 ≤ n by omega)
    have hFR := dep_fresh n' ⟨by omega, by omega⟩ (fun k => k < w.heap.size) w1 (fun i h => Nat.lt_of_lt_of_le h hk1.size) (fun _ => zer 64)
    go_wp2_with fail
    refine hFR.mono ?_
    clear hFR
    rintro e w2 ⟨⟨bb, tb, rfl, hT⟩, hk2⟩
    have H2 : Hid (DepS (fun k => k < w.heap.size) tb bb n' 0 0 (fun _ => 0) (fun _ => zer 64) w2 ∧ Keeps (fun k => k < w.heap.size) w w2) := Lib.hid ⟨hT, hk1.trans hk2⟩
    clear hT hk1 hk2
    have hNW := refNew_any n' ⟨by omega, by omega⟩ w2
    try dsimp only
    go_wp2_with fail
    refine hNW.mono ?_
    clear hNW
    rintro e w3 ⟨⟨mb, sb, qb, rfl, hm1, hm2, hm3, hR⟩, hb3⟩
    have hsz := H2.out.2.size
    have H3 : Hid (DrI w tb bb mb sb qb n' 0 w3) := Lib.hid ⟨⟨fun _ => 0, fun _ => zer 64, ⟨H2.out.1.keep hb3 (fun i hi => by
      rcases hi with hi | rfl | rfl | rfl
      · exact ⟨Nat.lt_of_lt_of_le (H2.out.1.N_lt i hi) hb3.size, .inl hi⟩
      · exact ⟨lt_of_blk hR.cells, .inr hm1⟩
      · exact ⟨lt_of_blk hR.st, .inr hm2⟩
      · exact ⟨lt_of_blk hR.pg, .inr hm3⟩), hR, .inr (.inl rfl), .inr (.inr (.inl rfl)), .inr (.inr (.inr rfl))⟩, .inl HET.out.pos, by have := HET.out.pos; omega, by have := HET.out.pos; omega, HET.out.keeps (H2.out.2.trans (Keeps.of_below hb3)) HET.out.pos⟩, H2.out.2.trans (Keeps.of_below hb3), by omega, by omega, by omega⟩
    clear hR hm1 hm2 hm3 hb3 hsz H2
    try dsimp only
    go_wp2_with fail
    go_loopw [33] (fun iv wr => ∃ i k : Nat, iv = .int .i64 (i : Int) ∧ i ≤ len ∧ k ≤ 2 * i ∧ Hid (DrI w tb bb mb sb qb n' k wr)) (fun iv _ => 301 - (intOf iv).toNat)
    case atStart => exact ⟨0, 0, rfl, by omega, by omega, H3⟩
    case round =>
      clear H3
      obtain ⟨i, k, rfl, hi, hki, H⟩ := hrel
      have hi0 : (0 : Int) ≤ i := by omega
      by_cases hit : i < len
      case neg =>
        have hi1 : ¬ ((i : Int) < len) := by omega
        have hk6 : k ≤ 600 := by omega
        obtain ⟨⟨st, blk, hS⟩, hrest⟩ := H.out
        obtain ⟨y0, y1⟩ := ref_cells hS.1.2.1.cells
        clear hi hki hit hS hrest
        go_wp2_with fail
        clear y0 y1
        go_loopw [60] (fun jv wr => ∃ j k : Nat, jv = .int .i64 (j : Int) ∧ j ≤ n' * 4 ∧ k ≤ 600 ∧ Hid (DrI w tb bb mb sb qb n' k wr)) (fun jv _ => n' * 4 + 1 - (intOf jv).toNat)
        case atStart => exact ⟨0, k, rfl, by omega, by omega, H⟩
        case round =>
          clear H hk6
          obtain ⟨j, k, rfl, hj, hkj, H⟩ := hrel
          have hj0 : (0 : Int) ≤ j := by omega
          by_cases hjt : j < n' * 4
          · have hj1 : (j : Int) < n' * 4 := by omega
            obtain ⟨⟨st, blk, hS⟩, hrest⟩ := H.out
            have hG : Calls Tryz.prog 29 #[.pointer (some ⟨bb, 0, none⟩), .pointer (some ⟨tb, 0, none⟩), .pointer (some ⟨mb, 0, none⟩), .agg #[.int .i64 3, .int .i64 (j : Int), .int .u8 0]] wr fun e wx => e = .returned (.bool true) ∧ DrI w tb bb mb sb qb n' k wx := by
              have h3 := both3_any (k := k) (by omega) (j : Int) 0 hS
              refine h3.mono ?_
              rintro e wx ⟨rfl, hS', hkp⟩
              obtain ⟨hk1, m1, m2, m3⟩ := hrest
              exact ⟨rfl, ⟨st, blk, hS'⟩, hk1.trans (hkp.mono (fun q _ hq => ⟨.inl hq, by omega, by omega⟩)), m1, m2, m3⟩
            have hbc := built_call7 (j : Int)
            clear hS hrest H
            go_wp2_with (refine wpList_build_to rfl 63 _ rfl #[.int .i64 3, .int .i64 (j : Int), .int .u8 0] (by simp only [List.map_toArray, List.map_cons, List.map_nil]; exact hbc) ?_)
            refine hG.mono ?_
            clear hG hbc
            rintro e w5 ⟨rfl, hD⟩
            have H5 := Lib.hid hD
            clear hD
            try dsimp only
            go_wp2_with fail
            exact ⟨⟨j + 1, k, by push_cast; rfl, by omega, by omega, H5⟩, by simp [intOf]; omega⟩
          · have hj1 : ¬ ((j : Int) < n' * 4) := by omega
            have HF := Lib.hid (H.out.2.1)
            clear hjt hj hkj H
            go_wp2_with fail
            go_ret
            exact ⟨rfl, HF.out.below (Nat.le_refl _) (fun i hi => hi)⟩
      case pos =>
        have hi1 : (i : Int) < len := by omega
        obtain ⟨b, off, rfl, hbs, hc⟩ := (HKS.out.keeps H.out.2.1) i hit
        have hWi := HW.out i hit
        have HC := Lib.hid hc
        clear hc
        generalize K i = xk at HC
        generalize S i = xs at HC
        generalize W i = xw at HC hWi
        obtain ⟨w0, w1'⟩ := hWi
        repeat ((fail_if_success (with_reducible refine stop_at 37 rfl ?_)); (first | (first | (refine call7_load rfl (.tmp 35) rfl b (off + i * 3) xk xs xw (by simp [Act.eval]) HC.out ?_) | (refine call7_store rfl (.tmp 9) (.tmp 36) rfl wr.heap.size xk xs xw 0 0 0 rfl rfl (heap_alloc_new wr _) ?_)) | go_values | go_skip | go_guarded | go_step | go_upon))
        have hbx : ∀ o : Obj, Below wr.heap.size wr ((wr.alloc o).setRow wr.heap.size #[.int .i64 xk, .int .i64 xs, .int .u8 xw]) := fun o => below_setRow ((Below.refl _ _).alloc (Nat.le_refl _) _) (Nat.le_refl _) _
        obtain ⟨⟨st, blk, hS⟩, hrest⟩ := H.out
        refine gen_world (fun wx => Hid (wx.heap[wr.heap.size]? = some (.cells #[.int .i64 xk, .int .i64 xs, .int .u8 xw] 63) ∧ BoS (NDr w mb sb qb) tb bb mb sb qb n' k 0 st blk wx ∧ Keeps (fun i => i < w.heap.size) w wx)) (Lib.hid ⟨setRow_heap _ _ _ _ _ (0, 0) (heap_alloc_new wr _), hS.below (hbx _), hrest.1.trans (Keeps.of_below (hbx _))⟩) ?_
        have HMB := Lib.hid hrest.2
        clear hbx hS hrest H HC
        generalize wr.heap.size = cb
        intro w4 H4
        try simp only [Act.put]
        have hRun := both_any (by omega) ⟨w0, w1'⟩ xk xs H4.out.2.1
        unfold callC at hRun
        go_wp2_with (refine call7_load rfl (.tmp 9) rfl cb 0 xk xs xw rfl (call7_range H4.out.1) ?_)
        refine hRun.mono ?_
        clear hRun
        rintro e w5 ⟨rfl, k', c', st', blk', hk', hc', hS5, hk5⟩
        have H5 : Hid (BoS (NDr w mb sb qb) tb bb mb sb qb n' k' c' st' blk' w5 ∧ Keeps (fun i => i < w.heap.size) w w5) := Lib.hid ⟨hS5, H4.out.2.2.trans (hk5.mono (fun i _ hi => ⟨.inl hi, by have := HMB.out.2.1; omega, by have := HMB.out.2.2; omega⟩))⟩
        clear hS5 hk5 H4
        have hAl := alike_any _ tb bb mb sb qb n' k' c' st' blk' w5 H5.out.1.1
        try dsimp only
        go_wp2_with fail
        refine hAl.mono ?_
        clear hAl
        rintro e w6 ⟨rfl, hb6⟩
        have H6 : Hid (BoS (NDr w mb sb qb) tb bb mb sb qb n' k' c' st' blk' w6 ∧ Keeps (fun i => i < w.heap.size) w w6) := Lib.hid ⟨H5.out.1.below hb6, H5.out.2.trans (Keeps.of_below hb6)⟩
        clear hb6 H5
        have hC := dep_commit (by omega) (by omega) (by omega) H6.out.1.1.1
        try dsimp only
        go_wp2_with fail
        refine hC.mono ?_
        clear hC
        rintro e w7 ⟨rfl, hd7, hk7⟩
        have H7 : Hid (DrI w tb bb mb sb qb n' (k' + 1) w7) := Lib.hid ⟨⟨st', blk', H6.out.1.turn hd7 hk7⟩, H6.out.2.trans (hk7.mono (fun i _ hi => .inl hi)), HMB.out⟩
        clear hd7 hk7 H6
        try dsimp only
        go_wp2_with fail
        go_roundw
        · exact ⟨i + 1, k' + 1, by push_cast; rfl, by omega, by omega, H7⟩
        · simp only [intOf]; omega
end Go.Proofs.YtjikpodghmfjcaaGreatDoor
set_option linter.unnecessarySimpa false
namespace Go.Proofs.YtjikpodghmfjcaaGreatDoor
open Go.ChangeShapes Go.WideShapes Go.ChangeAt Go.RowKit Go.Lib
section
variable {H : Type} {enc : TypeId × Value → H} {W : World} {base : Nat} {held : Bool}
set_option maxRecDepth 100000 in
theorem open_calls7In {fuel : Nat} {v : Value} {x : DataW H × List MemPlace} (h : DataW.trod enc Tryz.prog W base (fun _ => true) held fuel 59 [v] = some x) :
    ∃ a len cap L B X, v = .slice a len cap ∧ Calls7At W a len L B X ∧ len ≤ maxLen ∧ ∀ i, i < len → 0 ≤ X i ∧ X i < 256 := by
  have ec : Tryz.prog.cellsOf 63 = 3 := by kernel_rfl
  have e3 : Tryz.prog.cellsOf 3 = 1 := by kernel_rfl
  have e8 : Tryz.prog.cellsOf 5 = 1 := by kernel_rfl
  rcases Go.Deep.open_slice Tryz.underlying59 h with ⟨hcs, _⟩ | ⟨a, len, cap, m, n, D, Pl, hcs, _, hl, hm, hmm, _, hi⟩
  · simp only [List.cons.injEq, and_true] at hcs
    exact ⟨none, 0, 0, fun _ => 0, fun _ => 0, fun _ => 0, hcs, fun i h => by omega, Nat.zero_le _, fun i h => by omega⟩
  · simp only [List.cons.injEq, and_true] at hcs
    simp only [if_true] at hmm
    subst hmm
    rw [ec] at hi
    obtain ⟨K, hK⟩ := Go.Deep.choose_lt (α := Int × Int × Int) (p := fun i k => W.cell? ((a.add (i * 3)).add 0) = some (.int .i64 k.1) ∧ W.cell? ((a.add (i * 3)).add 1) = some (.int .i64 k.2.1) ∧ W.cell? ((a.add (i * 3)).add 2) = some (.int .u8 k.2.2) ∧ (Lit.int .u8 k.2.2).wf = true) (fun i hil => by
      obtain ⟨cs', h1, hf⟩ := hi i hil
      obtain ⟨_, hlen, hc⟩ := World.cells?_some h1
      match cs', hlen with
      | [v0, v1, v2], _ =>
        obtain ⟨xs, n, _, hx, _, hxl, hat⟩ := DataW.trod_struct Tryz.underlying63 hf
        have h0 := hat 0 _ rfl
        have h1 := hat 1 _ rfl
        have h2 := hat 2 _ rfl
        try simp only [List.getElem_toArray, List.getElem_cons_zero, List.getElem_cons_succ] at h0 h1 h2
        simp only [e3, e8, List.drop_succ_cons, List.drop_zero, List.take_succ_cons, List.take_zero] at h0 h1 h2
        first | skip | skip
        have hl3 : xs.length = 3 := hxl
        match xs, hl3 with
        | [y0, y1, y2], _ =>
          simp only [List.getElem?_cons_zero, List.getElem?_cons_succ] at h0 h1 h2
          obtain ⟨p, ea, _, _⟩ := DataW.trod_int Tryz.underlying3 h0
          obtain ⟨q, eb, _, _⟩ := DataW.trod_int Tryz.underlying3 h1
          obtain ⟨r, ed, _, wr⟩ := DataW.trod_int Tryz.underlying5 h2
          simp only [List.cons.injEq, and_true] at ea eb ed
          subst ea eb ed
          exact ⟨(p, q, r), hc 0 (by omega), hc 1 (by omega), hc 2 (by omega), wr⟩)
    refine ⟨some a, len, m, fun i => (K i).1, fun i => (K i).2.1, fun i => (K i).2.2, hcs, fun i hil => ?_, Nat.le_trans hl hm, fun i hil => by
      have h := (hK i (by omega)).2.2.2
      have bmin : IntKind.u8.min = 0 := rfl
      have bmax : IntKind.u8.max = 255 := rfl
      simp [Lit.wf, bmin, bmax] at h
      show 0 ≤ (K i).2.2 ∧ (K i).2.2 < 256
      omega⟩
    obtain ⟨q0, q1, q2, _⟩ := hK i (by omega)
    have hs : a.spot = none := by simpa [Addr.add] using World.cell?_spot (hK 0 (by omega)).1
    obtain ⟨b, o, sp⟩ := a
    simp only at hs
    subst hs
    rw [Addr.add_mid, Addr.add_mid] at q0 q1 q2
    refine ⟨b, o, rfl, World.block_lt_of_cell? W _ q0, fun j v hv => ?_⟩
    match j, hv with
    | 0, hv => cases hv; exact q0
    | 1, hv => cases hv; exact q1
    | 2, hv => cases hv; exact q2
end
end Go.Proofs.YtjikpodghmfjcaaGreatDoor
set_option linter.unnecessarySimpa false
namespace Go.Proofs.YtjikpodghmfjcaaGreatDoor
open Go.ChangeShapes Go.WideShapes Go.ChangeAt Go.RowKit Go.Lib
set_option maxRecDepth 100000 in
theorem depotRuns_lifted (os : Os) (started : os.Started) (H : Type) (enc : TypeId × Value → H) :
    ReturnsInHanded {} Tryz.checked os 8 .any (fun w args => (Rows.depotRunsSpec.pre enc Tryz.prog Tryz.f8 [] false w args ∧ laidMetH Tryz.prog laidE w) ∧ sizedMet enc Tryz.prog Tryz.f8 (OpenSpec.ofChange Rows.depotRunsSpec) false w args)
      (Rows.depotRunsSpec.post enc Tryz.prog Tryz.f8 false true false false) := by
  refine returnsInHanded_of_change_and (C := Tryz.checked) (X := fun w _ => laidMetH Tryz.prog laidE w) (fun _ _ _ hh h => h.of_heap hh) Tryz.own started (by kernel_rfl) Tryz.func8
    (ChangeSpec.witness_at (enc := enc) (C := Tryz.checked) (os := os) (X := fun w _ => laidMetH Tryz.prog laidE w) false (laidWorld os) #[.int .i64 0, .slice none 0 0] 8 rfl (by kernel_rfl) (by kernel_rfl) (by kernel_rfl) (by kernel_rfl) (by kernel_rfl) (laidWorld_met os _)) ?_
  intro W base args ds gs before hval0 hW _ _ hL _
  have hval : ∀ (j : Nat) t v, Tryz.f8.params[j]? = some t → args[j]? = some v → Value.okWide Tryz.prog W .any base t v := hval0
  have hW' := hW
  obtain ⟨p, q, hA0, hV0, rfl, _, _⟩ := hW
  have hA : DataW.TrodAll enc Tryz.prog W 0 (fun _ => true) true Tryz.f8.params.toList args.toList ds p := hA0
  rw [Tryz.params8] at hA hval
  obtain ⟨v0, v1, d0, d1, p0, p1, rfl, rfl, rfl, h0, h1⟩ := trodAll_two hA
  obtain ⟨rfl, rfl⟩ := trodVars_none hV0
  clear hA0 hV0 hval0
  simp only [List.append_nil] at hW'
  have hW1 := hW'
  have hlt : ∀ x ∈ p0 ++ p1, x.block < W.heap.size := fun x hx => by simpa using hW'.lt x (by simpa using hx)
  have hargs : ∀ (W' : World), Below W.heap.size W W' → DataW.TrodAll enc Tryz.prog W' 0 (fun b => decide (b < W.heap.size)) true [3, 59] [v0, v1] [d0, d1] (p0 ++ p1) := fun W' hn =>
    trodAll_mk2 (Below.trod Tryz.laidOut (by kernel_rfl) (of_decide_eq_true (by kernel_rfl)) h0 hn (fun x hx => hlt x (by simp [hx]))) (Below.trod Tryz.laidOut (by kernel_rfl) (of_decide_eq_true (by kernel_rfl)) h1 hn (fun x hx => hlt x (by simp [hx])))
  have emin : IntKind.i64.min = -9223372036854775808 := rfl
  have emax : IntKind.i64.max = 9223372036854775807 := rfl
  have bmin : IntKind.u8.min = 0 := rfl
  have bmax : IntKind.u8.max = 255 := rfl
  obtain ⟨n0, rfl, rfl, rfl, w0⟩ := open_int Tryz.underlying3 (hval 0 3 v0 rfl rfl) h0
  obtain ⟨u1, l1, k1, hv1⟩ := okWide_slice Tryz.underlying59 (hval 1 59 v1 rfl rfl)
  obtain ⟨fuel1, hf1⟩ := h1
  subst hv1
  obtain ⟨a1, len1, c1, L1, B1, X1, hq1, hb1, hm1, hr1⟩ := open_calls7In (v := .slice u1 l1 k1) hf1
  rw [hq1] at hargs hW1 ⊢
  have et : EtAt W := by
    have h := handle_of_laid hL
    rw [show typeHandle Tryz.prog 29 = .pointer (some ⟨1, 29, none⟩) by kernel_rfl] at h
    exact h
  have hq : Calls Tryz.prog 8 #[.int .i64 n0, .slice a1 len1 c1] W fun e w' => e = .returned (.bool true) ∧ Below W.heap.size W w' :=
    druns_any n0 a1 len1 c1 L1 B1 X1 hm1 hr1 W hb1 et
  refine hq.mono fun e W' ⟨he, hb⟩ => ?_
  subst he
  exact ⟨_, rfl, ⟨_, _, _, [], _, [], hW1, trodAll_mk1 (shut_bool Tryz.underlying4 true), hargs _ hb, rfl, hb.frame _, fun h => by cases h⟩⟩
theorem depotRuns_holds : Rows.DepotRunsSaid :=
  OpenClaim.holds_of_wide 8 Tryz.f8 rfl rfl rfl rfl rfl rfl rfl ⟨rfl, rfl, rfl, rfl, rfl⟩ rfl rfl rfl rfl rfl (by kernel_rfl) Tryz.func8 (by kernel_rfl)
    (of_decide_eq_true (by kernel_rfl)) (by unfold Func.isWrapper; first | (rw [if_pos (by decide +kernel)]; kernel_rfl) | (rw [if_neg (by decide +kernel)]; exact ⟨rfl, rfl⟩))
    (fun os started H enc _ => depotRuns_lifted os started H enc)
end Go.Proofs.YtjikpodghmfjcaaGreatDoor
