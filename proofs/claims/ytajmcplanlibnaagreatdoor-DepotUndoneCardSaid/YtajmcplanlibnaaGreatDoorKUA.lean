/- What is undone was never there, what is committed is there behind a crash: the law of layer 7, at whatever calls. -/
import Derived.Test.YtajmcplanlibnaaGreatDoorKU9
import Derived.Test.YtajmcplanlibnaaGreatDoorKF4
set_option linter.unusedSimpArgs false
set_option linter.unusedVariables false
set_option linter.unnecessarySimpa false
namespace Go.Proofs.YtajmcplanlibnaaGreatDoor
open Go.RowKit Go.Maps
/-- The blocks that a run keeps: the caller's, and the document's. -/
def NDr (w : World) (mb sb qb : Nat) : Nat → Prop := fun i => i < w.heap.size ∨ i = mb ∨ i = sb ∨ i = qb
def DuA (w : World) (g : Geo) (tb bb mb sb qb k : Nat) (st : Nat → Int) (blk : Nat → List Int) (wx : World) : Prop := (DepO g (NDr w mb sb qb) tb bb 4 k st blk wx ∧ RefI mb sb qb 4 st blk wx) ∧ EtAt wx ∧ Keeps (fun i => i < w.heap.size) w wx
def DuM (w : World) (mb sb qb : Nat) : Prop := w.heap.size ≤ mb ∧ w.heap.size ≤ sb ∧ w.heap.size ≤ qb ∧ 0 < w.heap.size
def DuB (w : World) (g : Geo) (tb bb mb sb qb k : Nat) (S : BookS) (st : Nat → Int) (blk : Nat → List Int) (wx : World) : Prop := (DepU g (NDr w mb sb qb) tb bb 4 k S wx ∧ RefI mb sb qb 4 st blk wx) ∧ EtAt wx ∧ Keeps (fun i => i < w.heap.size) w wx
section
variable {w wx wy : World} {g : Geo} {tb bb mb sb qb k k' : Nat} {S : BookS} {st : Nat → Int} {blk : Nat → List Int}
theorem DuA.toS (h : DuA w g tb bb mb sb qb k st blk wx) (hM : DuM w mb sb qb) : BoS g (NDr w mb sb qb) tb bb mb sb qb 4 k 0 st blk wx :=
  ⟨⟨h.1.1.toS, h.1.2, .inr (.inl rfl), .inr (.inr (.inl rfl)), .inr (.inr (.inr rfl))⟩, .inl hM.2.2.2, by have := hM.2.1; have := hM.2.2.2; omega, by have := hM.2.2.1; have := hM.2.2.2; omega, h.2.1⟩
theorem DuA.below (h : DuA w g tb bb mb sb qb k st blk wx) (hb : Below wx.heap.size wx wy) : DuA w g tb bb mb sb qb k st blk wy :=
  ⟨⟨h.1.1.below hb, h.1.2.below hb⟩, h.2.1.below hb h.2.1.pos, h.2.2.trans (Keeps.of_below hb)⟩
theorem DuB.below (h : DuB w g tb bb mb sb qb k S st blk wx) (hb : Below wx.heap.size wx wy) : DuB w g tb bb mb sb qb k S st blk wy :=
  ⟨⟨h.1.1.below hb, h.1.2.below hb⟩, h.2.1.below hb h.2.1.pos, h.2.2.trans (Keeps.of_below hb)⟩
theorem DuB.turn (h : DuB w g tb bb mb sb qb k S st blk wx) (hM : DuM w mb sb qb) (hd : DepU g (NDr w mb sb qb) tb bb 4 k S wy) (hk : Keeps (NDr w mb sb qb) wx wy) : DuB w g tb bb mb sb qb k S st blk wy :=
  ⟨⟨hd, h.1.2.keeps hk (.inr (.inl rfl)) (.inr (.inr (.inl rfl))) (.inr (.inr (.inr rfl)))⟩, h.2.1.keeps hk (.inl hM.2.2.2), h.2.2.trans (hk.mono (fun i _ hi => .inl hi))⟩
end
theorem call7_cells {w : World} {b T : Nat} {k i x : Int} (h : w.heap[b]? = some (.cells #[.int .i64 k, .int .i64 i, .int .u8 x] T)) :
    w.cell? ⟨b, 0, none⟩ = some (.int .i64 k) ∧ w.cell? ⟨b, 1, none⟩ = some (.int .i64 i) ∧ w.cell? ⟨b, 2, none⟩ = some (.int .u8 x) := by
  refine ⟨?_, ?_, ?_⟩ <;> (rw [cell_of_row w b _ _ _ (0, 0) h]; rfl)
set_option maxRecDepth 100000 in
set_option maxHeartbeats 8000000 in
theorem dundone_any (a : Option Addr) (len cap : Nat) (K S W : Nat → Int) (a2 : Option Addr) (len2 cap2 : Nat) (K2 S2 W2 : Nat → Int) (hlen : len ≤ 140737488355328) (hlen2 : len2 ≤ 140737488355328) (hD : ∀ i, i < len → 0 ≤ W i ∧ W i < 256) (hD2 : ∀ i, i < len2 → 0 ≤ W2 i ∧ W2 i < 256) (w : World) (hks : Calls7At w a len K S W) (hks2 : Calls7At w a2 len2 K2 S2 W2) (hg : EtAt w) :
    Calls Tryz.prog 7 #[.slice a len cap, .slice a2 len2 cap2] w fun e w' => e = .returned (.bool true) ∧ Below w.heap.size w w' := by
  have hST := stands07_any (fun k => k < w.heap.size) w (fun i h => h)
  have HKS := Lib.hid hks
  have HKS2 := Lib.hid hks2
  have HET := Lib.hid hg
  have HW := Lib.hid hD
  have HW2 := Lib.hid hD2
  have hl1 : (len : Int) ≤ 140737488355328 := by omega
  have hl2 : (len2 : Int) ≤ 140737488355328 := by omega
  have hl0 : (0 : Int) ≤ len := by omega
  have hl02 : (0 : Int) ≤ len2 := by omega
  clear hlen hlen2 hks hks2 hg hD hD2
  go_enter Tryz.func7, Tryz.ntmps7
  go_wp2_with fail
  refine hST.mono ?_
  clear hST
  rintro e w1 ⟨rfl, hk1⟩
  try dsimp only
  by_cases hout : (len : Int) + len2 > 200
  · have HK := Lib.hid hk1
    clear hk1
    go_wp2_with fail
    go_ret
    exact ⟨rfl, HK.out.below (Nat.le_refl _) (fun i hi => hi)⟩
  have hsz1 := hk1.size
  have hND := diskNew_any 300 (by decide) (fun k => k < w.heap.size) w1 (fun i hi => by omega)
  have HK1 := Lib.hid hk1
  clear hk1
  go_wp2_with fail
  refine hND.mono ?_
  clear hND
  rintro e w2 ⟨⟨db, rfl, hdb, hD⟩, hb2⟩
  have hs2 := hb2.size
  have hMT := g_fresh 100 198 300 db (by decide) (by decide) (by decide) (by decide) (by decide) (fun k => k < w.heap.size) w2 (by omega) hD
  have HK2 : Hid (Keeps (fun k => k < w.heap.size) w w2) := Lib.hid (HK1.out.trans (Keeps.of_below hb2))
  clear hD hb2 HK1
  try dsimp only
  go_wp2_with fail
  refine hMT.mono ?_
  clear hMT
  rintro e w3 ⟨⟨bb, rfl, hbb, hB, hG⟩, hk3⟩
  have HK3 : Hid (Keeps (fun k => k < w.heap.size) w w3) := Lib.hid (HK2.out.trans hk3)
  have HG := Lib.hid hG
  have hPN := depotNew_any bb 0 4 (fun k => k < w.heap.size) (fr 100 198 300 db) ⟨by decide, by decide, by rw [fr_n]; decide⟩ w3 hB
  have hs3 := hk3.size
  clear hB hG hk3 HK2
  try dsimp only
  go_wp2_with fail
  refine hPN.mono ?_
  clear hPN
  rintro e w4 ⟨⟨tb, rfl, htb, hT⟩, hb4⟩
  have hs4 := hb4.size
  obtain ⟨g, hg⟩ : ∃ g : Geo, g = ⟨100, 198, 300, db, 0⟩ := ⟨_, rfl⟩
  have HGE : Hid (g.n = 198 ∧ g.size = 100 ∧ g.S = 300 ∧ g.fs = 0 ∧ g.db = db) := Lib.hid (by rw [hg]; exact ⟨rfl, rfl, rfl, rfl, rfl⟩)
  have H4 : Hid (DepO g (fun k => k < w.heap.size) tb bb 4 1 (fun _ => 0) (fun _ => zer 64) w4) := Lib.hid ⟨fr 100 198 300 db, fr_opn _ _ _ _, by rw [hg]; exact hT, by
      rw [hg]
      exact DpI.start _ _ (fun i _ hi => fr_view 100 198 300 db (by decide) (by decide) (by decide) (by decide) _ (by have : i < 0 + 4 * 5 := hi; omega)) _, GdT.of_opn (by rw [hg]; exact HG.out) (fr_opn _ _ _ _), by rw [hg]; exact ⟨by show 0 + 4 * 5 ≤ 198; decide, by show 0 + 4 * 5 ≤ 256; decide⟩, fun s _ h => by have h' : (0 : Int) = 1 := h; omega⟩
  have HK4 : Hid (Keeps (fun k => k < w.heap.size) w w4) := Lib.hid (HK3.out.trans (Keeps.of_below hb4))
  have hNW := refNew_any 4 ⟨by decide, by decide⟩ w4
  clear hT hb4 HK3 HG hg
  try dsimp only
  go_wp2_with fail
  refine hNW.mono ?_
  clear hNW
  rintro e w5 ⟨⟨mb, sb, qb, rfl, hm1, hm2, hm3, hR⟩, hb5⟩
  have hw0 := HET.out.pos
  have HM : Hid (DuM w mb sb qb) := Lib.hid ⟨by omega, by omega, by omega, hw0⟩
  have H5 : Hid (DuA w g tb bb mb sb qb 1 (fun _ => 0) (fun _ => zer 64) w5) := Lib.hid ⟨⟨by
    obtain ⟨B, h0, h1, h2⟩ := H4.out
    exact ⟨B, h0, h1.keep hb5 (fun i hi => by
      rcases hi with hi | rfl | rfl | rfl
      · exact ⟨Nat.lt_of_lt_of_le (h1.N_lt i hi) hb5.size, .inl hi⟩
      · exact ⟨lt_of_blk hR.cells, .inr hm1⟩
      · exact ⟨lt_of_blk hR.st, .inr hm2⟩
      · exact ⟨lt_of_blk hR.pg, .inr hm3⟩), h2⟩, hR⟩, HET.out.keeps (HK4.out.trans (Keeps.of_below hb5)) hw0, HK4.out.trans (Keeps.of_below hb5)⟩
  clear hR hm1 hm2 hm3 hb5 H4 HK4
  try dsimp only
  go_wp2_with fail
  go_loopw [46] (fun iv wr => ∃ i k : Nat, iv = .int .i64 (i : Int) ∧ i ≤ len ∧ k ≤ 1 + 2 * i ∧ Hid (∃ st blk, DuA w g tb bb mb sb qb k st blk wr)) (fun iv _ => 201 - (intOf iv).toNat)
  case atStart => exact ⟨0, 1, rfl, by omega, by omega, Lib.hid ⟨_, _, H5.out⟩⟩
  case round => as_aux_lemma =>
    clear H5
    obtain ⟨i, k, rfl, hi, hki, H⟩ := hrel
    have hi0 : (0 : Int) ≤ i := by omega
    by_cases hit : i < len
    · have hi1 : (i : Int) < len := by omega
      obtain ⟨st, blk, hA⟩ := H.out
      obtain ⟨b, off, rfl, hbs, hc⟩ := (HKS.out.keeps hA.2.2) i hit
      have hWi := HW.out i hit
      have HC := Lib.hid hc
      have HA := Lib.hid hA
      clear hc hA H
      generalize K i = xk at HC
      generalize S i = xs at HC
      generalize W i = xw at HC hWi
      go_upto_region 12 with (first | (refine call7_load rfl (.tmp 48) rfl b (off + i * 3) xk xs xw (by simp [Act.eval]) HC.out ?_) | (refine call7_store rfl (.tmp 13) (.tmp 49) rfl wr.heap.size xk xs xw 0 0 0 rfl rfl (heap_alloc_new wr _) ?_))
      have hbx : ∀ o : Obj, Below wr.heap.size wr ((wr.alloc o).setRow wr.heap.size #[.int .i64 xk, .int .i64 xs, .int .u8 xw]) := fun o => below_setRow ((Below.refl _ _).alloc (Nat.le_refl _) _) (Nat.le_refl _) _
      refine gen_code (fun wx => Hid (wx.heap[wr.heap.size]? = some (.cells #[.int .i64 xk, .int .i64 xs, .int .u8 xw] 91) ∧ DuA w g tb bb mb sb qb k st blk wx)) (Lib.hid ⟨setRow_heap _ _ _ _ _ (0, 0) (heap_alloc_new wr _), HA.out.below (hbx _)⟩) ?_
      clear hbx HA HC
      generalize wr.heap.size = cb
      intro w4 H4
      try simp only [Act.put]
      have hRun := both_any (by omega) hWi xk xs (H4.out.2.toS HM.out)
      unfold callC at hRun
      go_wp2_with (refine call7_load rfl (.tmp 13) rfl cb 0 xk xs xw rfl (call7_range H4.out.1) ?_)
      refine hRun.mono ?_
      clear hRun
      rintro e w5 ⟨rfl, k', c', st', blk', hk', hc', hS5, hk5⟩
      have HK5 : Hid (Keeps (fun i => i < w.heap.size) w w5) := Lib.hid (H4.out.2.2.2.trans (hk5.mono (fun i _ hi => ⟨.inl hi, by have := HM.out.2.1; omega, by have := HM.out.2.2.1; omega⟩)))
      have HR5 := Lib.hid (And.intro hS5.1.2.1 hS5.2.2.2.2)
      have hCM := dep_commitO (by omega) (by omega) hS5.1.1
      clear hS5 hk5 H4
      try dsimp only
      go_wp2_with fail
      refine hCM.mono ?_
      clear hCM
      rintro e w6 ⟨rfl, hS6, hk6⟩
      have H6 : Hid (DuA w g tb bb mb sb qb (k' + 1) st' blk' w6) := Lib.hid ⟨⟨hS6, HR5.out.1.keeps hk6 (.inr (.inl rfl)) (.inr (.inr (.inl rfl))) (.inr (.inr (.inr rfl)))⟩, HR5.out.2.keeps hk6 (.inl HM.out.2.2.2), HK5.out.trans (hk6.mono (fun q _ hq => .inl hq))⟩
      clear hS6 hk6 HK5 HR5
      try dsimp only
      go_wp2_with fail
      exact ⟨⟨i + 1, k' + 1, by push_cast; rfl, by omega, by omega, Lib.hid ⟨_, _, H6.out⟩⟩, by simp [intOf]; omega⟩
    · obtain rfl : i = len := by omega
      obtain ⟨st, blk, hA⟩ := H.out
      have hSY := dep_sync hA.1.1
      have H1 := Lib.hid (And.intro hA.1.2 hA.2)
      have hk401 : k ≤ 401 := by omega
      clear H hA HKS HW hki
      go_wp2_with fail
      refine hSY.mono ?_
      clear hSY
      rintro e w2 ⟨rfl, ⟨T, hFS, hT⟩, hk2⟩
      have HFS := Lib.hid hFS
      have H2 : Hid (DuB w g tb bb mb sb qb k T st blk w2) := Lib.hid ⟨⟨DepU.start hFS hT, H1.out.1.keeps hk2 (.inr (.inl rfl)) (.inr (.inr (.inl rfl))) (.inr (.inr (.inr rfl)))⟩, H1.out.2.1.keeps hk2 (.inl HM.out.2.2.2), H1.out.2.2.trans (hk2.mono (fun q _ hq => .inl hq))⟩
      clear hFS hT hk2 H1
      try dsimp only
      go_wp2_with fail
      go_loopw [65] (fun jv wr => ∃ j : Nat, jv = .int .i64 (j : Int) ∧ j ≤ len2 ∧ Hid (DuB w g tb bb mb sb qb k T st blk wr)) (fun jv _ => 201 - (intOf jv).toNat)
      case atStart => exact ⟨0, rfl, by omega, H2⟩
      case round => as_aux_lemma =>
        clear H2
        obtain ⟨j, rfl, hj, H⟩ := hrel
        have hj0 : (0 : Int) ≤ j := by omega
        by_cases hjt : j < len2
        · have hj1 : (j : Int) < len2 := by omega
          obtain ⟨b, off, rfl, hbs, hc⟩ := (HKS2.out.keeps H.out.2.2) j hjt
          have hWi := HW2.out j hjt
          have HC := Lib.hid hc
          clear hc
          generalize K2 j = xk at HC
          generalize S2 j = xs at HC
          generalize W2 j = xw at HC hWi
          go_upto_region 22 with (first | (refine call7_load rfl (.tmp 67) rfl b (off + j * 3) xk xs xw (by simp [Act.eval]) HC.out ?_) | (refine call7_store rfl (.tmp 15) (.tmp 68) rfl wr.heap.size xk xs xw 0 0 0 rfl rfl (heap_alloc_new wr _) ?_))
          have hbx : ∀ o : Obj, Below wr.heap.size wr ((wr.alloc o).setRow wr.heap.size #[.int .i64 xk, .int .i64 xs, .int .u8 xw]) := fun o => below_setRow ((Below.refl _ _).alloc (Nat.le_refl _) _) (Nat.le_refl _) _
          refine gen_code (fun wx => Hid (wx.heap[wr.heap.size]? = some (.cells #[.int .i64 xk, .int .i64 xs, .int .u8 xw] 91) ∧ DuB w g tb bb mb sb qb k T st blk wx)) (Lib.hid ⟨setRow_heap _ _ _ _ _ (0, 0) (heap_alloc_new wr _), H.out.below (hbx _)⟩) ?_
          clear hbx H HC
          generalize wr.heap.size = cb
          intro w4 H4
          try simp only [Act.put]
          obtain ⟨z0, z1, z2⟩ := call7_cells H4.out.1
          by_cases k0 : xk = 0
          · subst k0
            obtain ⟨pg, hpg⟩ : ∃ pg, pgU xw = pg := ⟨_, rfl⟩
            have HPO : Hid (PgOk pg ∧ Tame pg) := Lib.hid (by rw [← hpg]; exact ⟨pgU_ok xw hWi, pgU_tame xw⟩)
            have HBP : Hid (Tryz.prog.built 37 [(0, .int .u8 xw)] = some (v8a pg)) := Lib.hid (by rw [← hpg]; exact built_pgU _)
            clear hpg
            have hPU := depu_put (by decide) (by have := HFS.out.room.1; omega) (by have := HFS.out.room.2; omega) pg HPO.out.1 HPO.out.2 H4.out.2.1.1
            repeat ((fail_if_success (with_reducible refine stop_at 76 rfl ?_)); (first | go_values | go_skip | go_guarded | go_step | go_upon))
            refine wpList_build_to rfl 37 _ rfl (v8a pg) (by simp only [List.map_toArray, List.map_cons, List.map_nil]; exact HBP.out) ?_
            go_wp2_with fail
            refine hPU.mono ?_
            clear hPU z0 z1 z2
            rintro e w6 ⟨⟨v, rfl⟩, hU6, hk6⟩
            have H6 := Lib.hid (H4.out.2.turn HM.out hU6 hk6)
            clear hU6 hk6 H4
            try dsimp only
            go_wp2_with fail
            exact ⟨⟨j + 1, by push_cast; rfl, by omega, H6⟩, by simp [intOf]; omega⟩
          · by_cases k1 : xk = 1
            · subst k1
              have hPU := depu_drop (by decide) (by have := HFS.out.room.1; omega) (by have := HFS.out.room.2; omega) xs H4.out.2.1.1
              go_wp2_with fail
              refine hPU.mono ?_
              clear hPU z0 z1 z2
              rintro e w6 ⟨⟨v, rfl⟩, hU6, hk6⟩
              have H6 := Lib.hid (H4.out.2.turn HM.out hU6 hk6)
              clear hU6 hk6 H4
              try dsimp only
              go_wp2_with fail
              exact ⟨⟨j + 1, by push_cast; rfl, by omega, H6⟩, by simp [intOf]; omega⟩
            · have H6 := Lib.hid H4.out.2
              go_wp2_with fail
              exact ⟨⟨j + 1, by push_cast; rfl, by omega, H6⟩, by simp [intOf]; omega⟩
        · obtain rfl : j = len2 := by omega
          have hUN := depu_undo H.out.1.1
          have H1 := Lib.hid (And.intro H.out.1.2 H.out.2)
          clear H HKS2 HW2
          go_wp2_with fail
          refine hUN.mono ?_
          clear hUN
          rintro e w2 ⟨rfl, hT, hk2⟩
          have H2 : Hid (DuA w g tb bb mb sb qb k st blk w2) := Lib.hid ⟨⟨HFS.out.toO hT, H1.out.1.keeps hk2 (.inr (.inl rfl)) (.inr (.inr (.inl rfl))) (.inr (.inr (.inr rfl)))⟩, H1.out.2.1.keeps hk2 (.inl HM.out.2.2.2), H1.out.2.2.trans (hk2.mono (fun q _ hq => .inl hq))⟩
          have HT := Lib.hid hT.2.1
          have hAl := alike_any g (NDr w mb sb qb) tb bb mb sb qb 4 k 0 st blk w2 (H2.out.toS HM.out).1
          clear hT hk2 H1
          try dsimp only
          go_wp2_with fail
          refine hAl.mono ?_
          clear hAl
          rintro e w3 ⟨rfl, hb3⟩
          have H3 : Hid (DuA w g tb bb mb sb qb k st blk w3) := Lib.hid (H2.out.below hb3)
          have hCR := g_crash w3 (HT.out.below hb3) HFS.out.good.1 HFS.out.cache
          rw [HGE.out.2.2.2.2] at hCR
          clear hb3 H2 HT
          try dsimp only
          go_wp2_with fail
          refine hCR.mono ?_
          clear hCR
          rintro e w4 ⟨⟨eb, rfl, heb, hD⟩, hb4⟩
          have H4 : Hid (DuA w g tb bb mb sb qb k st blk w4) := Lib.hid (H3.out.below hb4)
          have hNl : ∀ q, NDr w mb sb qb q → q < w3.heap.size := fun q hq => by
            rcases hq with hq | rfl | rfl | rfl
            · exact Nat.lt_of_lt_of_le hq H3.out.2.2.size
            · exact lt_of_blk H3.out.1.2.cells
            · exact lt_of_blk H3.out.1.2.st
            · exact lt_of_blk H3.out.1.2.pg
          have hs4 := hb4.size
          have hMT : Calls Tryz.prog 13 #[.pointer (some ⟨eb, 0, none⟩), .int .i64 100] w4 _ := g_mount (N := NDr w mb sb qb) (n := 198) (S := 300) (size := 100) (k := k) (db := g.db) (by omega) (by decide) w4 (fun hq => by have := hNl eb hq; omega) (hD.keep (Below.refl _ _) (fun q hq => ⟨by have := hNl q hq; omega, .inl (by have := hNl q hq; omega)⟩)) (by rw [← HGE.out.1, ← HGE.out.2.1, ← HGE.out.2.2.1]; exact HFS.out.good.1) HFS.out.opn
          clear hNl hD hb4 H3 hs4
          try dsimp only
          go_wp2_with fail
          refine hMT.mono ?_
          clear hMT
          rintro e w5 ⟨⟨bb2, rfl, _, hB, hG⟩, hk5⟩
          obtain ⟨U, hU⟩ : ∃ U, (BookS.moved T eb).homed = U := ⟨_, rfl⟩
          have hUb : ∀ i, i < 198 → U.view i = T.view i := fun i hi => by
            rw [← hU, BookS.base_view (B := (BookS.moved T eb).homed) (by rw [BookS.homed_opn]; exact HFS.out.opn), BookS.base_view HFS.out.opn]
            exact g_mount_base HFS.out.good.1 eb i (by rw [HGE.out.1]; exact hi)
          have hUo : U.opn = none := by rw [← hU, BookS.homed_opn]; exact HFS.out.opn
          rw [hU] at hB hG
          have HU := Lib.hid (And.intro hUb (And.intro hUo hG))
          have hPN := depotNew_any bb2 0 4 (NDr w mb sb qb) U ⟨by decide, by decide, by rw [hG.n]; decide⟩ w5 hB
          have H5 : Hid (RefI mb sb qb 4 st blk w5 ∧ EtAt w5 ∧ Keeps (fun i => i < w.heap.size) w w5) := Lib.hid ⟨H4.out.1.2.keeps hk5 (.inr (.inl rfl)) (.inr (.inr (.inl rfl))) (.inr (.inr (.inr rfl))), H4.out.2.1.keeps hk5 (.inl HM.out.2.2.2), H4.out.2.2.trans (hk5.mono (fun q _ hq => .inl hq))⟩
          clear hU hUb hUo hB hG hk5 H4
          try dsimp only
          go_wp2_with fail
          refine hPN.mono ?_
          clear hPN
          rintro e w6 ⟨⟨tb2, rfl, _, hT2⟩, hb6⟩
          have H6 : Hid (DuA w ⟨100, 198, 300, eb, 0⟩ tb2 bb2 mb sb qb (k + 1) st blk w6) := Lib.hid ⟨⟨⟨U, HU.out.2.1, hT2, by
            have h := HFS.out.dep
            rw [HGE.out.2.2.2.1] at h
            exact h.congr (fun i _ hi => HU.out.1 i (by have : i < 0 + 4 * 5 := hi; omega)), GdT.of_opn HU.out.2.2 HU.out.2.1, ⟨by show 0 + 4 * 5 ≤ 198; decide, by show 0 + 4 * 5 ≤ 256; decide⟩, HFS.out.tame⟩, H5.out.1.below hb6⟩, H5.out.2.1.below hb6 H5.out.2.1.pos, H5.out.2.2.trans (Keeps.of_below hb6)⟩
          have hAl := alike_any ⟨100, 198, 300, eb, 0⟩ (NDr w mb sb qb) tb2 bb2 mb sb qb 4 (k + 1) 0 st blk w6 (H6.out.toS HM.out).1
          clear hT2 hb6 H5 HU HFS HGE
          try dsimp only
          go_wp2_with fail
          refine hAl.mono ?_
          clear hAl
          rintro e w7 ⟨rfl, hb7⟩
          have H7 : Hid (DuA w ⟨100, 198, 300, eb, 0⟩ tb2 bb2 mb sb qb (k + 1) st blk w7) := Lib.hid (H6.out.below hb7)
          clear hb7 H6
          generalize (⟨100, 198, 300, eb, 0⟩ : Geo) = g2 at H7
          obtain ⟨y0, y1⟩ := ref_cells H7.out.1.2.cells
          try dsimp only
          go_wp2_with fail
          clear y0 y1
          go_loopw [119] (fun jv wr => ∃ j : Nat, jv = .int .i64 (j : Int) ∧ j ≤ 16 ∧ Hid (BoS g2 (NDr w mb sb qb) tb2 bb2 mb sb qb 4 (k + 1) 0 st blk wr ∧ Keeps (fun i => i < w.heap.size) w wr)) (fun jv _ => 17 - (intOf jv).toNat)
          case atStart => exact ⟨0, rfl, by omega, Lib.hid ⟨H7.out.toS HM.out, H7.out.2.2⟩⟩
          case round => as_aux_lemma =>
            clear H7
            obtain ⟨j, rfl, hj, H⟩ := hrel
            have hj0 : (0 : Int) ≤ j := by omega
            by_cases hjt : j < 16
            · have hj1 : (j : Int) < 16 := by omega
              have hG : Calls Tryz.prog 45 #[.pointer (some ⟨bb2, 0, none⟩), .pointer (some ⟨tb2, 0, none⟩), .pointer (some ⟨mb, 0, none⟩), .agg #[.int .i64 3, .int .i64 (j : Int), .int .u8 0]] wr fun e wx => e = .returned (.bool true) ∧ BoS g2 (NDr w mb sb qb) tb2 bb2 mb sb qb 4 (k + 1) 0 st blk wx ∧ Keeps (fun i => i < w.heap.size) w wx := by
                have h3 := both3_any (k := k + 1) (by omega) (j : Int) 0 H.out.1
                refine h3.mono ?_
                rintro e wx ⟨rfl, hS', hkp⟩
                exact ⟨rfl, hS', H.out.2.trans (hkp.mono (fun q _ hq => ⟨.inl hq, by have := HM.out.2.1; omega, by have := HM.out.2.2.1; omega⟩))⟩
              have hbc := built_call7 (j : Int)
              clear H
              go_wp2_with (refine wpList_build_to rfl 91 _ rfl #[.int .i64 3, .int .i64 (j : Int), .int .u8 0] (by simp only [List.map_toArray, List.map_cons, List.map_nil]; exact hbc) ?_)
              refine hG.mono ?_
              clear hG hbc
              rintro e w8 ⟨rfl, hD⟩
              have H8 := Lib.hid hD
              clear hD
              try dsimp only
              go_wp2_with fail
              exact ⟨⟨j + 1, by push_cast; rfl, by omega, H8⟩, by simp [intOf]; omega⟩
            · obtain rfl : j = 16 := by omega
              have HF := Lib.hid H.out.2
              clear H
              go_wp2_with fail
              go_ret
              exact ⟨rfl, HF.out.below (Nat.le_refl _) (fun i hi => hi)⟩
end Go.Proofs.YtajmcplanlibnaaGreatDoor
