/- DepotCounts: live, dead and free slots are all slots; a container has dead ones only while it has a live one. -/
import Derived.Test.YtjikpodghmfjcaaGreatDoorKT0
import Derived.Test.YtjikpodghmfjcaaGreatDoorR0
import Derived.Deep.Grids
set_option linter.unusedSimpArgs false
set_option linter.unusedVariables false
set_option linter.unnecessarySimpa false
namespace Go.Proofs.YtjikpodghmfjcaaGreatDoor
open Go.RowKit Go.Maps
def DcI (w : World) (tb bb k c : Nat) (st : Nat → Int) (blk : Nat → List Int) (wx : World) : Prop := DepS (fun i => i < w.heap.size) tb bb 3 k c st blk wx ∧ Keeps (fun i => i < w.heap.size) w wx ∧ EtAt wx ∧ 0 < w.heap.size
theorem DcI.below {w wx wy : World} {tb bb k c : Nat} {st : Nat → Int} {blk : Nat → List Int} (h : DcI w tb bb k c st blk wx) (hb : Below wx.heap.size wx wy) : DcI w tb bb k c st blk wy :=
  ⟨h.1.below hb, h.2.1.trans (Keeps.of_below hb), h.2.2.1.below hb h.2.2.1.pos, h.2.2.2⟩
theorem DcI.turn {w wx wy : World} {tb bb k c k' c' : Nat} {st st' : Nat → Int} {blk blk' : Nat → List Int} (h : DcI w tb bb k c st blk wx) (hd : DepS (fun i => i < w.heap.size) tb bb 3 k' c' st' blk' wy) (hk : Keeps (fun i => i < w.heap.size) wx wy) : DcI w tb bb k' c' st' blk' wy :=
  ⟨hd, h.2.1.trans hk, h.2.2.1.keeps hk h.2.2.2, h.2.2.2⟩
theorem worst_live {N : Nat → Prop} {tb bb n k c : Nat} {st : Nat → Int} {blk : Nat → List Int} {wx : World} (h : DepS N tb bb n k c st blk wx) (h0 : 0 < (worstR (boxS st) n).2) :
    0 < (slots4 (boxS st (worstR (boxS st) n).1) (worstR (boxS st) n).1 4).length := by
  have h1 := worstR_is (boxS st) n h0
  have hn : 1 ≤ n := by
    cases n with
    | zero => exact absurd (show 0 < 0 from h0) (Nat.lt_irrefl 0)
    | succ m => omega
  have hlt := worstR_lt (boxS st) n hn
  generalize (worstR (boxS st) n).1 = y at h1 hlt ⊢
  have hex : ∃ t, t < 4 ∧ boxS st y t = 2 := by
    apply Classical.byContradiction
    intro hn
    have := (cnt4_zero (boxS st y) 2).2 (fun t ht e => hn ⟨t, ht, e⟩)
    omega
  obtain ⟨t, ht, he⟩ := hex
  obtain ⟨u, hu, hl⟩ := h.live (y * 4 + t) (by omega) he
  refine slots4_pos _ _ (u % 4) (by omega) ?_
  unfold boxS
  rw [show y * 4 + u % 4 = u by omega]
  exact hl
def pg1 (x : Int) : List Int := x :: zer 63
theorem pg1_ok (x : Int) (h : 0 ≤ x ∧ x < 256) : PgOk (pg1 x) := by
  refine ⟨by simp [pg1, zer], fun y hy => ?_⟩
  rcases List.mem_cons.1 hy with rfl | hy
  · exact h
  · exact zer_u8 63 y hy
set_option maxRecDepth 100000 in
set_option maxHeartbeats 8000000 in
theorem dcounts_any (a : Option Addr) (len cap : Nat) (K S W : Nat → Int) (hlen : len ≤ maxLen) (hW : ∀ i, i < len → 0 ≤ W i ∧ W i < 256) (w : World) (hks : Calls7At w a len K S W) (hg : EtAt w) :
    Calls Tryz.prog 9 #[.slice a len cap] w fun e w' => e = .returned (.bool true) ∧ Below w.heap.size w w' := by
  have hST := stands07_any (fun k => k < w.heap.size) w (fun i h => h)
  have HKS := Lib.hid hks
  have HET := Lib.hid hg
  have HW := Lib.hid hW
  have hlen2 : (len : Int) ≤ 9223372036854775807 := by unfold maxLen at hlen; omega
  have hlen0 : (0 : Int) ≤ len := by omega
  clear hlen hks hg hW
  go_enter Tryz.func9, Tryz.ntmps9
  go_wp2_with fail
  refine hST.mono ?_
  clear hST
  rintro e w1 ⟨rfl, hk1⟩
  try dsimp only
  by_cases hout : 300 < len
  · have HK := Lib.hid hk1
    have e3 : (300 : Int) < len := by omega
    clear hk1
    go_wp2_with fail
    go_ret
    exact ⟨rfl, HK.out.below (Nat.le_refl _) (fun i hi => hi)⟩
  · have n3 : (len : Int) ≤ 300 := by omega
    clear hout
    have hFR := dep_fresh 3 ⟨by omega, by omega⟩ (fun k => k < w.heap.size) w1 (fun i h => Nat.lt_of_lt_of_le h hk1.size) (fun _ => zer 64)
    rw [show ((3 : Nat) : Int) = 3 from rfl] at hFR
    go_wp2_with fail
    refine hFR.mono ?_
    clear hFR
    rintro e w2 ⟨⟨bb, tb, rfl, hT⟩, hk2⟩
    have H2 : Hid (DcI w tb bb 0 0 (fun _ => 0) (fun _ => zer 64) w2) := Lib.hid ⟨hT, hk1.trans hk2, HET.out.keeps (hk1.trans hk2) HET.out.pos, HET.out.pos⟩
    clear hT hk1 hk2
    try dsimp only
    go_wp2_with fail
    go_loopw [31] (fun iv wr => ∃ i k st blk, iv = .int .i64 ((i : Nat) : Int) ∧ i ≤ len ∧ k ≤ i ∧ Hid (DcI w tb bb k 0 st blk wr)) (fun iv _ => 301 - (intOf iv).toNat)
    case atStart => exact ⟨0, 0, _, _, rfl, by omega, by omega, H2⟩
    case round =>
      clear H2
      obtain ⟨i, k, st, blk, rfl, hi, hki, H⟩ := hrel
      have hi0 : (0 : Int) ≤ i := by omega
      by_cases hit : i < len
      case neg =>
        have hi1 : ¬ ((i : Int) < len) := by omega
        have HF := Lib.hid H.out.2.1
        clear hi hki hit H
        go_wp2_with fail
        go_ret
        exact ⟨rfl, HF.out.below (Nat.le_refl _) (fun i hi => hi)⟩
      case pos =>
        have hi1 : (i : Int) < len := by omega
        obtain ⟨b, off, rfl, hbs, hc⟩ := (HKS.out.keeps H.out.2.1) i hit
        have hWi := HW.out i hit
        have HC := Lib.hid hc
        clear hc
        generalize K i = xk at HC
        generalize S i = xs at HC
        generalize W i = xw at HC hWi
        obtain ⟨w0, w1'⟩ := hWi
        have HPK := Lib.hid (pg1_ok xw ⟨w0, w1'⟩)
        have HB5 : Hid (Tryz.prog.built 32 [(0, .int .u8 xw)] = some (v8a (pg1 xw))) := Lib.hid (built_pg1 xw)
        generalize pg1 xw = pg at HPK HB5
        repeat ((fail_if_success (with_reducible refine stop_at 35 rfl ?_)); (first | (first | (refine call7_load rfl (.tmp 33) rfl b (off + i * 3) xk xs xw (by simp [Act.eval]) HC.out ?_) | (refine call7_store rfl (.tmp 6) (.tmp 34) rfl wr.heap.size xk xs xw 0 0 0 rfl rfl (heap_alloc_new wr _) ?_)) | go_values | go_skip | go_guarded | go_step | go_upon))
        have hbx : ∀ o : Obj, Below wr.heap.size wr ((wr.alloc o).setRow wr.heap.size #[.int .i64 xk, .int .i64 xs, .int .u8 xw]) := fun o => below_setRow ((Below.refl _ _).alloc (Nat.le_refl _) _) (Nat.le_refl _) _
        refine gen_world (fun wx => Hid (wx.heap[wr.heap.size]? = some (.cells #[.int .i64 xk, .int .i64 xs, .int .u8 xw] 63) ∧ DcI w tb bb k 0 st blk wx)) (Lib.hid ⟨setRow_heap _ _ _ _ _ (0, 0) (heap_alloc_new wr _), H.out.below (hbx _)⟩) ?_
        clear hbx H HC
        generalize wr.heap.size = cb
        intro w4 H4
        try simp only [Act.put]
        obtain ⟨z0, z1, z2⟩ := blk3 H4.out.1
        have H5 := Lib.hid H4.out.2
        clear H4
        by_cases k0 : xk = 0
        · subst k0
          cases hr : roomR st (-1) (3 * 4) with
          | true =>
            have hP := dep_put (by omega) (by decide) pg HPK.out (by obtain ⟨s, h1, h2, _⟩ := (roomR_iff _ _ _).1 hr; exact ⟨s, h1, h2⟩) H5.out.1
            clear hr
            go_wp2_with (refine wpList_build_to rfl 32 _ rfl (v8a pg) (by simp only [List.map_toArray, List.map_cons, List.map_nil]; exact HB5.out) ?_)
            refine hP.mono ?_
            clear hP
            rintro e w5 ⟨⟨s, rfl, hm, hd⟩, hk5⟩
            have H6 := Lib.hid (H5.out.turn hd hk5)
            clear hd hk5 hm H5 z0 z1 z2 HPK HB5
            generalize (fun t => if t = s then (1 : Int) else st t) = st' at H6
            generalize (fun t => if t = s then pg else blk t) = blk' at H6
            try dsimp only
            have hC := dep_commit (by omega) (by omega) (by decide) H6.out.1
            go_wp2_with fail
            refine hC.mono ?_
            clear hC
            rintro e wA ⟨rfl, hd, hkp⟩
            have HA : Hid (DcI w tb bb (k + 1) 0 st' blk' wA) := Lib.hid (H6.out.turn hd hkp)
            clear hd hkp H6
            try dsimp only
            have hCn := dep_count (by omega) HA.out.1
            have h12 := cntS_three (st') (3 * 4) HA.out.1.rng
            have hzz := (worstR_zero (boxS (st')) 3).trans (cntS_box (st') 2 3).symm
            have hlt := worstR_lt (boxS (st')) 3 (by omega)
            have hle := (worstR_le (boxS (st')) 3).1
            have hpos : 0 < (worstR (boxS (st')) 3).2 → 0 < (slots4 (boxS (st') (worstR (boxS (st')) 3).1) (worstR (boxS (st')) 3).1 4).length := fun h0 => worst_live HA.out.1 h0
            have hsl := slots4_le (boxS (st') (worstR (boxS (st')) 3).1) (worstR (boxS (st')) 3).1 4
            have hW := Lib.hid (fun wx (hb : Below wA.heap.size wA wx) => dep_worst (by omega) (HA.out.below hb).1)
            have hS := Lib.hid (fun wx (hb : Below wA.heap.size wA wx) => dep_slots (by omega) hlt (HA.out.below hb).1)
            generalize slots4 (boxS (st') (worstR (boxS (st')) 3).1) (worstR (boxS (st')) 3).1 4 = l at hpos hsl hS
            generalize (worstR (boxS (st')) 3).1 = y1 at hlt hS hW
            generalize (worstR (boxS (st')) 3).2 = y2 at hzz hle hpos hW
            generalize cntS (st') 1 (3 * 4) = x1 at h12 hCn
            generalize cntS (st') 2 (3 * 4) = x2 at h12 hCn hzz
            generalize cntS (st') 0 (3 * 4) = x0 at h12 hCn
            go_wp2_with fail
            refine hCn.mono ?_
            clear hCn
            rintro e wB ⟨rfl, hbB⟩
            have HB := Lib.hid hbB
            clear hbB
            try dsimp only
            go_wp2_with fail
            refine (hW.out wB HB.out).mono ?_
            clear hW
            rintro e wC ⟨rfl, hbC⟩
            have HC := Lib.hid (HB.out.trans (hbC.mono HB.out.size))
            clear hbC HB
            try dsimp only
            go_wp2_with fail
            refine (hS.out wC HC.out).mono ?_
            clear hS
            rintro e wD ⟨⟨sa, sc, rfl, _⟩, hbD⟩
            have HD := Lib.hid (HA.out.below (HC.out.trans (hbD.mono HC.out.size)))
            clear hbD HC HA
            try dsimp only
            have s12 : ((x1 : Int) + (x2 : Int)) + (x0 : Int) = 12 := by omega
            by_cases qz : y2 = 0
            · have qx : x2 = 0 := hzz.1 qz
              subst qz
              subst qx
              clear hzz hpos hle
              have b1 : (((x1 : Int) + ((0 : Nat) : Int)) + (x0 : Int) != 12) = false := by simp only [s12]; rfl
              have b2 : ((x1 : Int) + (x0 : Int) != 12) = false := by have : (x1 : Int) + (x0 : Int) = 12 := by omega
                                                                      simp only [this]; rfl
              go_wp2_with fail
              exact ⟨⟨i + 1, k + 1, _, _, by push_cast; rfl, by omega, by omega, HD⟩, by simp [intOf]; omega⟩
            · have qx : ¬ x2 = 0 := fun h => qz (hzz.2 h)
              have ql := hpos (by omega)
              have b1 : (((x1 : Int) + (x2 : Int)) + (x0 : Int) != 12) = false := by simp only [s12]; rfl
              have b2 : (0 : Int) < y2 := by omega
              have b3 : ((l.length : Int) == 0) = false := by rw [beq_eq_false_iff_ne]; omega
              have b4 : ((y2 : Int) == 0) = false := by rw [beq_eq_false_iff_ne]; omega
              have b5 : ((x2 : Int) == 0) = false := by rw [beq_eq_false_iff_ne]; omega
              clear hzz hpos qz qx ql
              go_wp2_with fail
              exact ⟨⟨i + 1, k + 1, _, _, by push_cast; rfl, by omega, by omega, HD⟩, by simp [intOf]; omega⟩
          | false =>
            have hP := dep_full (by omega) pg HPK.out (fun s hs h0 => by have := roomR_none _ _ _ hr s hs h0; omega) H5.out.1
            clear hr
            go_wp2_with (refine wpList_build_to rfl 32 _ rfl (v8a pg) (by simp only [List.map_toArray, List.map_cons, List.map_nil]; exact HB5.out) ?_)
            refine hP.mono ?_
            clear hP
            rintro e w5 ⟨⟨t, x, rfl, hev⟩, hb5⟩
            have H6 := Lib.hid (H5.out.below hb5)
            clear hev hb5 H5 z0 z1 z2 HPK HB5
            have hU := dep_undo (by omega) H6.out.1
            try dsimp only
            go_wp2_with fail
            refine hU.mono ?_
            clear hU
            rintro e w6 ⟨rfl, hd, hk6⟩
            have H7 := Lib.hid (H6.out.turn hd hk6)
            clear hd hk6 H6
            try dsimp only
            have hC := dep_commit (by omega) (by omega) (by decide) H7.out.1
            go_wp2_with fail
            refine hC.mono ?_
            clear hC
            rintro e wA ⟨rfl, hd, hkp⟩
            have HA : Hid (DcI w tb bb (k + 1) 0 st blk wA) := Lib.hid (H7.out.turn hd hkp)
            clear hd hkp H7
            try dsimp only
            have hCn := dep_count (by omega) HA.out.1
            have h12 := cntS_three (st) (3 * 4) HA.out.1.rng
            have hzz := (worstR_zero (boxS (st)) 3).trans (cntS_box (st) 2 3).symm
            have hlt := worstR_lt (boxS (st)) 3 (by omega)
            have hle := (worstR_le (boxS (st)) 3).1
            have hpos : 0 < (worstR (boxS (st)) 3).2 → 0 < (slots4 (boxS (st) (worstR (boxS (st)) 3).1) (worstR (boxS (st)) 3).1 4).length := fun h0 => worst_live HA.out.1 h0
            have hsl := slots4_le (boxS (st) (worstR (boxS (st)) 3).1) (worstR (boxS (st)) 3).1 4
            have hW := Lib.hid (fun wx (hb : Below wA.heap.size wA wx) => dep_worst (by omega) (HA.out.below hb).1)
            have hS := Lib.hid (fun wx (hb : Below wA.heap.size wA wx) => dep_slots (by omega) hlt (HA.out.below hb).1)
            generalize slots4 (boxS (st) (worstR (boxS (st)) 3).1) (worstR (boxS (st)) 3).1 4 = l at hpos hsl hS
            generalize (worstR (boxS (st)) 3).1 = y1 at hlt hS hW
            generalize (worstR (boxS (st)) 3).2 = y2 at hzz hle hpos hW
            generalize cntS (st) 1 (3 * 4) = x1 at h12 hCn
            generalize cntS (st) 2 (3 * 4) = x2 at h12 hCn hzz
            generalize cntS (st) 0 (3 * 4) = x0 at h12 hCn
            go_wp2_with fail
            refine hCn.mono ?_
            clear hCn
            rintro e wB ⟨rfl, hbB⟩
            have HB := Lib.hid hbB
            clear hbB
            try dsimp only
            go_wp2_with fail
            refine (hW.out wB HB.out).mono ?_
            clear hW
            rintro e wC ⟨rfl, hbC⟩
            have HC := Lib.hid (HB.out.trans (hbC.mono HB.out.size))
            clear hbC HB
            try dsimp only
            go_wp2_with fail
            refine (hS.out wC HC.out).mono ?_
            clear hS
            rintro e wD ⟨⟨sa, sc, rfl, _⟩, hbD⟩
            have HD := Lib.hid (HA.out.below (HC.out.trans (hbD.mono HC.out.size)))
            clear hbD HC HA
            try dsimp only
            have s12 : ((x1 : Int) + (x2 : Int)) + (x0 : Int) = 12 := by omega
            by_cases qz : y2 = 0
            · have qx : x2 = 0 := hzz.1 qz
              subst qz
              subst qx
              clear hzz hpos hle
              have b1 : (((x1 : Int) + ((0 : Nat) : Int)) + (x0 : Int) != 12) = false := by simp only [s12]; rfl
              have b2 : ((x1 : Int) + (x0 : Int) != 12) = false := by have : (x1 : Int) + (x0 : Int) = 12 := by omega
                                                                      simp only [this]; rfl
              go_wp2_with fail
              exact ⟨⟨i + 1, k + 1, _, _, by push_cast; rfl, by omega, by omega, HD⟩, by simp [intOf]; omega⟩
            · have qx : ¬ x2 = 0 := fun h => qz (hzz.2 h)
              have ql := hpos (by omega)
              have b1 : (((x1 : Int) + (x2 : Int)) + (x0 : Int) != 12) = false := by simp only [s12]; rfl
              have b2 : (0 : Int) < y2 := by omega
              have b3 : ((l.length : Int) == 0) = false := by rw [beq_eq_false_iff_ne]; omega
              have b4 : ((y2 : Int) == 0) = false := by rw [beq_eq_false_iff_ne]; omega
              have b5 : ((x2 : Int) == 0) = false := by rw [beq_eq_false_iff_ne]; omega
              clear hzz hpos qz qx ql
              go_wp2_with fail
              exact ⟨⟨i + 1, k + 1, _, _, by push_cast; rfl, by omega, by omega, HD⟩, by simp [intOf]; omega⟩
        by_cases k1 : xk = 1
        · subst k1
          by_cases h0 : hasR st 3 xs = 0
          · obtain ⟨s, rfl, hs, hl⟩ := hasR_zero h0
            have hD := dep_drop (by omega) (by decide) hs hl H5.out.1
            clear h0 hs hl
            go_wp2_with fail
            refine hD.mono ?_
            clear hD
            rintro e w5 ⟨rfl, hd, hk5⟩
            have H6 := Lib.hid (H5.out.turn hd hk5)
            clear hd hk5 H5 z0 z1 z2 HPK HB5
            generalize dropT st s = st' at H6
            try dsimp only
            have hC := dep_commit (by omega) (by omega) (by decide) H6.out.1
            go_wp2_with fail
            refine hC.mono ?_
            clear hC
            rintro e wA ⟨rfl, hd, hkp⟩
            have HA : Hid (DcI w tb bb (k + 1) 0 st' blk wA) := Lib.hid (H6.out.turn hd hkp)
            clear hd hkp H6
            try dsimp only
            have hCn := dep_count (by omega) HA.out.1
            have h12 := cntS_three (st') (3 * 4) HA.out.1.rng
            have hzz := (worstR_zero (boxS (st')) 3).trans (cntS_box (st') 2 3).symm
            have hlt := worstR_lt (boxS (st')) 3 (by omega)
            have hle := (worstR_le (boxS (st')) 3).1
            have hpos : 0 < (worstR (boxS (st')) 3).2 → 0 < (slots4 (boxS (st') (worstR (boxS (st')) 3).1) (worstR (boxS (st')) 3).1 4).length := fun h0 => worst_live HA.out.1 h0
            have hsl := slots4_le (boxS (st') (worstR (boxS (st')) 3).1) (worstR (boxS (st')) 3).1 4
            have hW := Lib.hid (fun wx (hb : Below wA.heap.size wA wx) => dep_worst (by omega) (HA.out.below hb).1)
            have hS := Lib.hid (fun wx (hb : Below wA.heap.size wA wx) => dep_slots (by omega) hlt (HA.out.below hb).1)
            generalize slots4 (boxS (st') (worstR (boxS (st')) 3).1) (worstR (boxS (st')) 3).1 4 = l at hpos hsl hS
            generalize (worstR (boxS (st')) 3).1 = y1 at hlt hS hW
            generalize (worstR (boxS (st')) 3).2 = y2 at hzz hle hpos hW
            generalize cntS (st') 1 (3 * 4) = x1 at h12 hCn
            generalize cntS (st') 2 (3 * 4) = x2 at h12 hCn hzz
            generalize cntS (st') 0 (3 * 4) = x0 at h12 hCn
            go_wp2_with fail
            refine hCn.mono ?_
            clear hCn
            rintro e wB ⟨rfl, hbB⟩
            have HB := Lib.hid hbB
            clear hbB
            try dsimp only
            go_wp2_with fail
            refine (hW.out wB HB.out).mono ?_
            clear hW
            rintro e wC ⟨rfl, hbC⟩
            have HC := Lib.hid (HB.out.trans (hbC.mono HB.out.size))
            clear hbC HB
            try dsimp only
            go_wp2_with fail
            refine (hS.out wC HC.out).mono ?_
            clear hS
            rintro e wD ⟨⟨sa, sc, rfl, _⟩, hbD⟩
            have HD := Lib.hid (HA.out.below (HC.out.trans (hbD.mono HC.out.size)))
            clear hbD HC HA
            try dsimp only
            have s12 : ((x1 : Int) + (x2 : Int)) + (x0 : Int) = 12 := by omega
            by_cases qz : y2 = 0
            · have qx : x2 = 0 := hzz.1 qz
              subst qz
              subst qx
              clear hzz hpos hle
              have b1 : (((x1 : Int) + ((0 : Nat) : Int)) + (x0 : Int) != 12) = false := by simp only [s12]; rfl
              have b2 : ((x1 : Int) + (x0 : Int) != 12) = false := by have : (x1 : Int) + (x0 : Int) = 12 := by omega
                                                                      simp only [this]; rfl
              go_wp2_with fail
              exact ⟨⟨i + 1, k + 1, _, _, by push_cast; rfl, by omega, by omega, HD⟩, by simp [intOf]; omega⟩
            · have qx : ¬ x2 = 0 := fun h => qz (hzz.2 h)
              have ql := hpos (by omega)
              have b1 : (((x1 : Int) + (x2 : Int)) + (x0 : Int) != 12) = false := by simp only [s12]; rfl
              have b2 : (0 : Int) < y2 := by omega
              have b3 : ((l.length : Int) == 0) = false := by rw [beq_eq_false_iff_ne]; omega
              have b4 : ((y2 : Int) == 0) = false := by rw [beq_eq_false_iff_ne]; omega
              have b5 : ((x2 : Int) == 0) = false := by rw [beq_eq_false_iff_ne]; omega
              clear hzz hpos qz qx ql
              go_wp2_with fail
              exact ⟨⟨i + 1, k + 1, _, _, by push_cast; rfl, by omega, by omega, HD⟩, by simp [intOf]; omega⟩
          · have hD := dep_drop_err (by omega) rfl h0 H5.out.1
            clear h0
            go_wp2_with fail
            refine hD.mono ?_
            clear hD
            rintro e w5 ⟨⟨t, x, rfl, hev⟩, hb5⟩
            have H6 := Lib.hid (H5.out.below hb5)
            clear hev hb5 H5 z0 z1 z2 HPK HB5
            try dsimp only
            have hC := dep_commit (by omega) (by omega) (by decide) H6.out.1
            go_wp2_with fail
            refine hC.mono ?_
            clear hC
            rintro e wA ⟨rfl, hd, hkp⟩
            have HA : Hid (DcI w tb bb (k + 1) 0 st blk wA) := Lib.hid (H6.out.turn hd hkp)
            clear hd hkp H6
            try dsimp only
            have hCn := dep_count (by omega) HA.out.1
            have h12 := cntS_three (st) (3 * 4) HA.out.1.rng
            have hzz := (worstR_zero (boxS (st)) 3).trans (cntS_box (st) 2 3).symm
            have hlt := worstR_lt (boxS (st)) 3 (by omega)
            have hle := (worstR_le (boxS (st)) 3).1
            have hpos : 0 < (worstR (boxS (st)) 3).2 → 0 < (slots4 (boxS (st) (worstR (boxS (st)) 3).1) (worstR (boxS (st)) 3).1 4).length := fun h0 => worst_live HA.out.1 h0
            have hsl := slots4_le (boxS (st) (worstR (boxS (st)) 3).1) (worstR (boxS (st)) 3).1 4
            have hW := Lib.hid (fun wx (hb : Below wA.heap.size wA wx) => dep_worst (by omega) (HA.out.below hb).1)
            have hS := Lib.hid (fun wx (hb : Below wA.heap.size wA wx) => dep_slots (by omega) hlt (HA.out.below hb).1)
            generalize slots4 (boxS (st) (worstR (boxS (st)) 3).1) (worstR (boxS (st)) 3).1 4 = l at hpos hsl hS
            generalize (worstR (boxS (st)) 3).1 = y1 at hlt hS hW
            generalize (worstR (boxS (st)) 3).2 = y2 at hzz hle hpos hW
            generalize cntS (st) 1 (3 * 4) = x1 at h12 hCn
            generalize cntS (st) 2 (3 * 4) = x2 at h12 hCn hzz
            generalize cntS (st) 0 (3 * 4) = x0 at h12 hCn
            go_wp2_with fail
            refine hCn.mono ?_
            clear hCn
            rintro e wB ⟨rfl, hbB⟩
            have HB := Lib.hid hbB
            clear hbB
            try dsimp only
            go_wp2_with fail
            refine (hW.out wB HB.out).mono ?_
            clear hW
            rintro e wC ⟨rfl, hbC⟩
            have HC := Lib.hid (HB.out.trans (hbC.mono HB.out.size))
            clear hbC HB
            try dsimp only
            go_wp2_with fail
            refine (hS.out wC HC.out).mono ?_
            clear hS
            rintro e wD ⟨⟨sa, sc, rfl, _⟩, hbD⟩
            have HD := Lib.hid (HA.out.below (HC.out.trans (hbD.mono HC.out.size)))
            clear hbD HC HA
            try dsimp only
            have s12 : ((x1 : Int) + (x2 : Int)) + (x0 : Int) = 12 := by omega
            by_cases qz : y2 = 0
            · have qx : x2 = 0 := hzz.1 qz
              subst qz
              subst qx
              clear hzz hpos hle
              have b1 : (((x1 : Int) + ((0 : Nat) : Int)) + (x0 : Int) != 12) = false := by simp only [s12]; rfl
              have b2 : ((x1 : Int) + (x0 : Int) != 12) = false := by have : (x1 : Int) + (x0 : Int) = 12 := by omega
                                                                      simp only [this]; rfl
              go_wp2_with fail
              exact ⟨⟨i + 1, k + 1, _, _, by push_cast; rfl, by omega, by omega, HD⟩, by simp [intOf]; omega⟩
            · have qx : ¬ x2 = 0 := fun h => qz (hzz.2 h)
              have ql := hpos (by omega)
              have b1 : (((x1 : Int) + (x2 : Int)) + (x0 : Int) != 12) = false := by simp only [s12]; rfl
              have b2 : (0 : Int) < y2 := by omega
              have b3 : ((l.length : Int) == 0) = false := by rw [beq_eq_false_iff_ne]; omega
              have b4 : ((y2 : Int) == 0) = false := by rw [beq_eq_false_iff_ne]; omega
              have b5 : ((x2 : Int) == 0) = false := by rw [beq_eq_false_iff_ne]; omega
              clear hzz hpos qz qx ql
              go_wp2_with fail
              exact ⟨⟨i + 1, k + 1, _, _, by push_cast; rfl, by omega, by omega, HD⟩, by simp [intOf]; omega⟩
        by_cases k2 : xk = 2
        · subst k2
          by_cases h0 : hasR st 3 xs = 0
          · obtain ⟨s, rfl, hs, hl⟩ := hasR_zero h0
            cases hr : roomR st ((s : Int) / 4) (3 * 4) with
            | true =>
              have hM := dep_move (by omega) (by decide) hs hl hr H5.out.1
              clear h0 hs hl hr
              go_wp2_with fail
              refine hM.mono ?_
              clear hM
              rintro e w5 ⟨⟨t, rfl, hm, hd⟩, hk5⟩
              have H6 := Lib.hid (H5.out.turn hd hk5)
              clear hd hk5 hm H5 z0 z1 z2 HPK HB5
              generalize dropT (stSet st t 1) s = st' at H6
              generalize pgSet blk t (blk s) = blk' at H6
              try dsimp only
              go_wp2_with fail
              refine (num07_nil w5).mono ?_
              rintro e w6 ⟨rfl, rfl⟩
              try dsimp only
              have hC := dep_commit (by omega) (by omega) (by decide) H6.out.1
              go_wp2_with fail
              refine hC.mono ?_
              clear hC
              rintro e wA ⟨rfl, hd, hkp⟩
              have HA : Hid (DcI w tb bb (k + 1) 0 st' blk' wA) := Lib.hid (H6.out.turn hd hkp)
              clear hd hkp H6
              try dsimp only
              have hCn := dep_count (by omega) HA.out.1
              have h12 := cntS_three (st') (3 * 4) HA.out.1.rng
              have hzz := (worstR_zero (boxS (st')) 3).trans (cntS_box (st') 2 3).symm
              have hlt := worstR_lt (boxS (st')) 3 (by omega)
              have hle := (worstR_le (boxS (st')) 3).1
              have hpos : 0 < (worstR (boxS (st')) 3).2 → 0 < (slots4 (boxS (st') (worstR (boxS (st')) 3).1) (worstR (boxS (st')) 3).1 4).length := fun h0 => worst_live HA.out.1 h0
              have hsl := slots4_le (boxS (st') (worstR (boxS (st')) 3).1) (worstR (boxS (st')) 3).1 4
              have hW := Lib.hid (fun wx (hb : Below wA.heap.size wA wx) => dep_worst (by omega) (HA.out.below hb).1)
              have hS := Lib.hid (fun wx (hb : Below wA.heap.size wA wx) => dep_slots (by omega) hlt (HA.out.below hb).1)
              generalize slots4 (boxS (st') (worstR (boxS (st')) 3).1) (worstR (boxS (st')) 3).1 4 = l at hpos hsl hS
              generalize (worstR (boxS (st')) 3).1 = y1 at hlt hS hW
              generalize (worstR (boxS (st')) 3).2 = y2 at hzz hle hpos hW
              generalize cntS (st') 1 (3 * 4) = x1 at h12 hCn
              generalize cntS (st') 2 (3 * 4) = x2 at h12 hCn hzz
              generalize cntS (st') 0 (3 * 4) = x0 at h12 hCn
              go_wp2_with fail
              refine hCn.mono ?_
              clear hCn
              rintro e wB ⟨rfl, hbB⟩
              have HB := Lib.hid hbB
              clear hbB
              try dsimp only
              go_wp2_with fail
              refine (hW.out wB HB.out).mono ?_
              clear hW
              rintro e wC ⟨rfl, hbC⟩
              have HC := Lib.hid (HB.out.trans (hbC.mono HB.out.size))
              clear hbC HB
              try dsimp only
              go_wp2_with fail
              refine (hS.out wC HC.out).mono ?_
              clear hS
              rintro e wD ⟨⟨sa, sc, rfl, _⟩, hbD⟩
              have HD := Lib.hid (HA.out.below (HC.out.trans (hbD.mono HC.out.size)))
              clear hbD HC HA
              try dsimp only
              have s12 : ((x1 : Int) + (x2 : Int)) + (x0 : Int) = 12 := by omega
              by_cases qz : y2 = 0
              · have qx : x2 = 0 := hzz.1 qz
                subst qz
                subst qx
                clear hzz hpos hle
                have b1 : (((x1 : Int) + ((0 : Nat) : Int)) + (x0 : Int) != 12) = false := by simp only [s12]; rfl
                have b2 : ((x1 : Int) + (x0 : Int) != 12) = false := by have : (x1 : Int) + (x0 : Int) = 12 := by omega
                                                                        simp only [this]; rfl
                go_wp2_with fail
                exact ⟨⟨i + 1, k + 1, _, _, by push_cast; rfl, by omega, by omega, HD⟩, by simp [intOf]; omega⟩
              · have qx : ¬ x2 = 0 := fun h => qz (hzz.2 h)
                have ql := hpos (by omega)
                have b1 : (((x1 : Int) + (x2 : Int)) + (x0 : Int) != 12) = false := by simp only [s12]; rfl
                have b2 : (0 : Int) < y2 := by omega
                have b3 : ((l.length : Int) == 0) = false := by rw [beq_eq_false_iff_ne]; omega
                have b4 : ((y2 : Int) == 0) = false := by rw [beq_eq_false_iff_ne]; omega
                have b5 : ((x2 : Int) == 0) = false := by rw [beq_eq_false_iff_ne]; omega
                clear hzz hpos qz qx ql
                go_wp2_with fail
                exact ⟨⟨i + 1, k + 1, _, _, by push_cast; rfl, by omega, by omega, HD⟩, by simp [intOf]; omega⟩
            | false =>
              have hM := dep_move_full (by omega) hs hl hr H5.out.1
              clear h0 hs hl hr
              go_wp2_with fail
              refine hM.mono ?_
              clear hM
              rintro e w5 ⟨⟨t, x, rfl, hev⟩, hb5⟩
              have H6 := Lib.hid (H5.out.below hb5)
              have hNU := num07_err (.iface t x) 20 w5 hev H6.out.2.2.1
              clear hev hb5 H5 z0 z1 z2 HPK HB5
              try dsimp only
              go_wp2_with fail
              refine hNU.mono ?_
              clear hNU
              rintro e w6 ⟨rfl, hb6⟩
              have H7 := Lib.hid (H6.out.below hb6)
              clear hb6 H6
              have hU := dep_undo (by omega) H7.out.1
              try dsimp only
              go_wp2_with fail
              refine hU.mono ?_
              clear hU
              rintro e w7 ⟨rfl, hd, hk7⟩
              have H8 := Lib.hid (H7.out.turn hd hk7)
              clear hd hk7 H7
              try dsimp only
              have hC := dep_commit (by omega) (by omega) (by decide) H8.out.1
              go_wp2_with fail
              refine hC.mono ?_
              clear hC
              rintro e wA ⟨rfl, hd, hkp⟩
              have HA : Hid (DcI w tb bb (k + 1) 0 st blk wA) := Lib.hid (H8.out.turn hd hkp)
              clear hd hkp H8
              try dsimp only
              have hCn := dep_count (by omega) HA.out.1
              have h12 := cntS_three (st) (3 * 4) HA.out.1.rng
              have hzz := (worstR_zero (boxS (st)) 3).trans (cntS_box (st) 2 3).symm
              have hlt := worstR_lt (boxS (st)) 3 (by omega)
              have hle := (worstR_le (boxS (st)) 3).1
              have hpos : 0 < (worstR (boxS (st)) 3).2 → 0 < (slots4 (boxS (st) (worstR (boxS (st)) 3).1) (worstR (boxS (st)) 3).1 4).length := fun h0 => worst_live HA.out.1 h0
              have hsl := slots4_le (boxS (st) (worstR (boxS (st)) 3).1) (worstR (boxS (st)) 3).1 4
              have hW := Lib.hid (fun wx (hb : Below wA.heap.size wA wx) => dep_worst (by omega) (HA.out.below hb).1)
              have hS := Lib.hid (fun wx (hb : Below wA.heap.size wA wx) => dep_slots (by omega) hlt (HA.out.below hb).1)
              generalize slots4 (boxS (st) (worstR (boxS (st)) 3).1) (worstR (boxS (st)) 3).1 4 = l at hpos hsl hS
              generalize (worstR (boxS (st)) 3).1 = y1 at hlt hS hW
              generalize (worstR (boxS (st)) 3).2 = y2 at hzz hle hpos hW
              generalize cntS (st) 1 (3 * 4) = x1 at h12 hCn
              generalize cntS (st) 2 (3 * 4) = x2 at h12 hCn hzz
              generalize cntS (st) 0 (3 * 4) = x0 at h12 hCn
              go_wp2_with fail
              refine hCn.mono ?_
              clear hCn
              rintro e wB ⟨rfl, hbB⟩
              have HB := Lib.hid hbB
              clear hbB
              try dsimp only
              go_wp2_with fail
              refine (hW.out wB HB.out).mono ?_
              clear hW
              rintro e wC ⟨rfl, hbC⟩
              have HC := Lib.hid (HB.out.trans (hbC.mono HB.out.size))
              clear hbC HB
              try dsimp only
              go_wp2_with fail
              refine (hS.out wC HC.out).mono ?_
              clear hS
              rintro e wD ⟨⟨sa, sc, rfl, _⟩, hbD⟩
              have HD := Lib.hid (HA.out.below (HC.out.trans (hbD.mono HC.out.size)))
              clear hbD HC HA
              try dsimp only
              have s12 : ((x1 : Int) + (x2 : Int)) + (x0 : Int) = 12 := by omega
              by_cases qz : y2 = 0
              · have qx : x2 = 0 := hzz.1 qz
                subst qz
                subst qx
                clear hzz hpos hle
                have b1 : (((x1 : Int) + ((0 : Nat) : Int)) + (x0 : Int) != 12) = false := by simp only [s12]; rfl
                have b2 : ((x1 : Int) + (x0 : Int) != 12) = false := by have : (x1 : Int) + (x0 : Int) = 12 := by omega
                                                                        simp only [this]; rfl
                go_wp2_with fail
                exact ⟨⟨i + 1, k + 1, _, _, by push_cast; rfl, by omega, by omega, HD⟩, by simp [intOf]; omega⟩
              · have qx : ¬ x2 = 0 := fun h => qz (hzz.2 h)
                have ql := hpos (by omega)
                have b1 : (((x1 : Int) + (x2 : Int)) + (x0 : Int) != 12) = false := by simp only [s12]; rfl
                have b2 : (0 : Int) < y2 := by omega
                have b3 : ((l.length : Int) == 0) = false := by rw [beq_eq_false_iff_ne]; omega
                have b4 : ((y2 : Int) == 0) = false := by rw [beq_eq_false_iff_ne]; omega
                have b5 : ((x2 : Int) == 0) = false := by rw [beq_eq_false_iff_ne]; omega
                clear hzz hpos qz qx ql
                go_wp2_with fail
                exact ⟨⟨i + 1, k + 1, _, _, by push_cast; rfl, by omega, by omega, HD⟩, by simp [intOf]; omega⟩
          · obtain ⟨r, hr⟩ : ∃ r, hasR st 3 xs = r := ⟨_, rfl⟩
            rw [hr] at h0
            have hr20 : (r == 20) = false := by rcases hasR_cases hr h0 with ⟨rfl, _⟩ | ⟨rfl, _⟩ <;> rfl
            have hM := dep_move_err (by omega) hr h0 H5.out.1
            clear h0 hr
            go_wp2_with fail
            refine hM.mono ?_
            clear hM
            rintro e w5 ⟨⟨t, x, rfl, hev⟩, hb5⟩
            have H6 := Lib.hid (H5.out.below hb5)
            have hNU := num07_err (.iface t x) r w5 hev H6.out.2.2.1
            clear hev hb5 H5 z0 z1 z2 HPK HB5
            try dsimp only
            go_wp2_with fail
            refine hNU.mono ?_
            clear hNU
            rintro e w6 ⟨rfl, hb6⟩
            have H7 := Lib.hid (H6.out.below hb6)
            clear hb6 H6
            try dsimp only
            have hC := dep_commit (by omega) (by omega) (by decide) H7.out.1
            go_wp2_with fail
            refine hC.mono ?_
            clear hC
            rintro e wA ⟨rfl, hd, hkp⟩
            have HA : Hid (DcI w tb bb (k + 1) 0 st blk wA) := Lib.hid (H7.out.turn hd hkp)
            clear hd hkp H7
            try dsimp only
            have hCn := dep_count (by omega) HA.out.1
            have h12 := cntS_three (st) (3 * 4) HA.out.1.rng
            have hzz := (worstR_zero (boxS (st)) 3).trans (cntS_box (st) 2 3).symm
            have hlt := worstR_lt (boxS (st)) 3 (by omega)
            have hle := (worstR_le (boxS (st)) 3).1
            have hpos : 0 < (worstR (boxS (st)) 3).2 → 0 < (slots4 (boxS (st) (worstR (boxS (st)) 3).1) (worstR (boxS (st)) 3).1 4).length := fun h0 => worst_live HA.out.1 h0
            have hsl := slots4_le (boxS (st) (worstR (boxS (st)) 3).1) (worstR (boxS (st)) 3).1 4
            have hW := Lib.hid (fun wx (hb : Below wA.heap.size wA wx) => dep_worst (by omega) (HA.out.below hb).1)
            have hS := Lib.hid (fun wx (hb : Below wA.heap.size wA wx) => dep_slots (by omega) hlt (HA.out.below hb).1)
            generalize slots4 (boxS (st) (worstR (boxS (st)) 3).1) (worstR (boxS (st)) 3).1 4 = l at hpos hsl hS
            generalize (worstR (boxS (st)) 3).1 = y1 at hlt hS hW
            generalize (worstR (boxS (st)) 3).2 = y2 at hzz hle hpos hW
            generalize cntS (st) 1 (3 * 4) = x1 at h12 hCn
            generalize cntS (st) 2 (3 * 4) = x2 at h12 hCn hzz
            generalize cntS (st) 0 (3 * 4) = x0 at h12 hCn
            go_wp2_with fail
            refine hCn.mono ?_
            clear hCn
            rintro e wB ⟨rfl, hbB⟩
            have HB := Lib.hid hbB
            clear hbB
            try dsimp only
            go_wp2_with fail
            refine (hW.out wB HB.out).mono ?_
            clear hW
            rintro e wC ⟨rfl, hbC⟩
            have HC := Lib.hid (HB.out.trans (hbC.mono HB.out.size))
            clear hbC HB
            try dsimp only
            go_wp2_with fail
            refine (hS.out wC HC.out).mono ?_
            clear hS
            rintro e wD ⟨⟨sa, sc, rfl, _⟩, hbD⟩
            have HD := Lib.hid (HA.out.below (HC.out.trans (hbD.mono HC.out.size)))
            clear hbD HC HA
            try dsimp only
            have s12 : ((x1 : Int) + (x2 : Int)) + (x0 : Int) = 12 := by omega
            by_cases qz : y2 = 0
            · have qx : x2 = 0 := hzz.1 qz
              subst qz
              subst qx
              clear hzz hpos hle
              have b1 : (((x1 : Int) + ((0 : Nat) : Int)) + (x0 : Int) != 12) = false := by simp only [s12]; rfl
              have b2 : ((x1 : Int) + (x0 : Int) != 12) = false := by have : (x1 : Int) + (x0 : Int) = 12 := by omega
                                                                      simp only [this]; rfl
              go_wp2_with fail
              exact ⟨⟨i + 1, k + 1, _, _, by push_cast; rfl, by omega, by omega, HD⟩, by simp [intOf]; omega⟩
            · have qx : ¬ x2 = 0 := fun h => qz (hzz.2 h)
              have ql := hpos (by omega)
              have b1 : (((x1 : Int) + (x2 : Int)) + (x0 : Int) != 12) = false := by simp only [s12]; rfl
              have b2 : (0 : Int) < y2 := by omega
              have b3 : ((l.length : Int) == 0) = false := by rw [beq_eq_false_iff_ne]; omega
              have b4 : ((y2 : Int) == 0) = false := by rw [beq_eq_false_iff_ne]; omega
              have b5 : ((x2 : Int) == 0) = false := by rw [beq_eq_false_iff_ne]; omega
              clear hzz hpos qz qx ql
              go_wp2_with fail
              exact ⟨⟨i + 1, k + 1, _, _, by push_cast; rfl, by omega, by omega, HD⟩, by simp [intOf]; omega⟩
        · clear z1 z2 HPK HB5
          have hC := dep_commit (by omega) (by omega) (by decide) H5.out.1
          go_wp2_with fail
          refine hC.mono ?_
          clear hC
          rintro e wA ⟨rfl, hd, hkp⟩
          have HA : Hid (DcI w tb bb (k + 1) 0 st blk wA) := Lib.hid (H5.out.turn hd hkp)
          clear hd hkp H5
          try dsimp only
          have hCn := dep_count (by omega) HA.out.1
          have h12 := cntS_three (st) (3 * 4) HA.out.1.rng
          have hzz := (worstR_zero (boxS (st)) 3).trans (cntS_box (st) 2 3).symm
          have hlt := worstR_lt (boxS (st)) 3 (by omega)
          have hle := (worstR_le (boxS (st)) 3).1
          have hpos : 0 < (worstR (boxS (st)) 3).2 → 0 < (slots4 (boxS (st) (worstR (boxS (st)) 3).1) (worstR (boxS (st)) 3).1 4).length := fun h0 => worst_live HA.out.1 h0
          have hsl := slots4_le (boxS (st) (worstR (boxS (st)) 3).1) (worstR (boxS (st)) 3).1 4
          have hW := Lib.hid (fun wx (hb : Below wA.heap.size wA wx) => dep_worst (by omega) (HA.out.below hb).1)
          have hS := Lib.hid (fun wx (hb : Below wA.heap.size wA wx) => dep_slots (by omega) hlt (HA.out.below hb).1)
          generalize slots4 (boxS (st) (worstR (boxS (st)) 3).1) (worstR (boxS (st)) 3).1 4 = l at hpos hsl hS
          generalize (worstR (boxS (st)) 3).1 = y1 at hlt hS hW
          generalize (worstR (boxS (st)) 3).2 = y2 at hzz hle hpos hW
          generalize cntS (st) 1 (3 * 4) = x1 at h12 hCn
          generalize cntS (st) 2 (3 * 4) = x2 at h12 hCn hzz
          generalize cntS (st) 0 (3 * 4) = x0 at h12 hCn
          go_wp2_with fail
          refine hCn.mono ?_
          clear hCn
          rintro e wB ⟨rfl, hbB⟩
          have HB := Lib.hid hbB
          clear hbB
          try dsimp only
          go_wp2_with fail
          refine (hW.out wB HB.out).mono ?_
          clear hW
          rintro e wC ⟨rfl, hbC⟩
          have HC := Lib.hid (HB.out.trans (hbC.mono HB.out.size))
          clear hbC HB
          try dsimp only
          go_wp2_with fail
          refine (hS.out wC HC.out).mono ?_
          clear hS
          rintro e wD ⟨⟨sa, sc, rfl, _⟩, hbD⟩
          have HD := Lib.hid (HA.out.below (HC.out.trans (hbD.mono HC.out.size)))
          clear hbD HC HA
          try dsimp only
          have s12 : ((x1 : Int) + (x2 : Int)) + (x0 : Int) = 12 := by omega
          by_cases qz : y2 = 0
          · have qx : x2 = 0 := hzz.1 qz
            subst qz
            subst qx
            clear hzz hpos hle
            have b1 : (((x1 : Int) + ((0 : Nat) : Int)) + (x0 : Int) != 12) = false := by simp only [s12]; rfl
            have b2 : ((x1 : Int) + (x0 : Int) != 12) = false := by have : (x1 : Int) + (x0 : Int) = 12 := by omega
                                                                    simp only [this]; rfl
            go_wp2_with fail
            exact ⟨⟨i + 1, k + 1, _, _, by push_cast; rfl, by omega, by omega, HD⟩, by simp [intOf]; omega⟩
          · have qx : ¬ x2 = 0 := fun h => qz (hzz.2 h)
            have ql := hpos (by omega)
            have b1 : (((x1 : Int) + (x2 : Int)) + (x0 : Int) != 12) = false := by simp only [s12]; rfl
            have b2 : (0 : Int) < y2 := by omega
            have b3 : ((l.length : Int) == 0) = false := by rw [beq_eq_false_iff_ne]; omega
            have b4 : ((y2 : Int) == 0) = false := by rw [beq_eq_false_iff_ne]; omega
            have b5 : ((x2 : Int) == 0) = false := by rw [beq_eq_false_iff_ne]; omega
            clear hzz hpos qz qx ql
            go_wp2_with fail
            exact ⟨⟨i + 1, k + 1, _, _, by push_cast; rfl, by omega, by omega, HD⟩, by simp [intOf]; omega⟩
end Go.Proofs.YtjikpodghmfjcaaGreatDoor
set_option linter.unnecessarySimpa false
namespace Go.Proofs.YtjikpodghmfjcaaGreatDoor
open Go.ChangeShapes Go.WideShapes Go.ChangeAt Go.RowKit Go.Lib
section
variable {H : Type} {enc : TypeId × Value → H} {W : World} {base : Nat} {held : Bool}
set_option maxRecDepth 100000 in
theorem open_calls7In {fuel : Nat} {v : Value} {x : DataW H × List MemPlace} (h : DataW.trod enc Tryz.prog W base (fun _ => true) held fuel 59 [v] = some x) :
    ∃ a len cap L B X, v = .slice a len cap ∧ Calls7At W a len L B X ∧ len ≤ maxLen ∧ ∀ i, i < len → 0 ≤ X i ∧ X i < 256 := by
  have ec : Tryz.prog.cellsOf 63 = 3 := by kernel_rfl
  have e3 : Tryz.prog.cellsOf 3 = 1 := by kernel_rfl
  have e8 : Tryz.prog.cellsOf 5 = 1 := by kernel_rfl
  rcases Go.Deep.open_slice Tryz.underlying59 h with ⟨hcs, _⟩ | ⟨a, len, cap, m, n, D, Pl, hcs, _, hl, hm, hmm, _, hi⟩
  · simp only [List.cons.injEq, and_true] at hcs
    exact ⟨none, 0, 0, fun _ => 0, fun _ => 0, fun _ => 0, hcs, fun i h => by omega, Nat.zero_le _, fun i h => by omega⟩
  · simp only [List.cons.injEq, and_true] at hcs
    simp only [if_true] at hmm
    subst hmm
    rw [ec] at hi
    obtain ⟨K, hK⟩ := Go.Deep.choose_lt (α := Int × Int × Int) (p := fun i k => W.cell? ((a.add (i * 3)).add 0) = some (.int .i64 k.1) ∧ W.cell? ((a.add (i * 3)).add 1) = some (.int .i64 k.2.1) ∧ W.cell? ((a.add (i * 3)).add 2) = some (.int .u8 k.2.2) ∧ (Lit.int .u8 k.2.2).wf = true) (fun i hil => by
      obtain ⟨cs', h1, hf⟩ := hi i hil
      obtain ⟨_, hlen, hc⟩ := World.cells?_some h1
      match cs', hlen with
      | [v0, v1, v2], _ =>
        obtain ⟨xs, n, _, hx, _, hxl, hat⟩ := DataW.trod_struct Tryz.underlying63 hf
        have h0 := hat 0 _ rfl
        have h1 := hat 1 _ rfl
        have h2 := hat 2 _ rfl
        try simp only [List.getElem_toArray, List.getElem_cons_zero, List.getElem_cons_succ] at h0 h1 h2
        simp only [e3, e8, List.drop_succ_cons, List.drop_zero, List.take_succ_cons, List.take_zero] at h0 h1 h2
        first | skip | skip
        have hl3 : xs.length = 3 := hxl
        match xs, hl3 with
        | [y0, y1, y2], _ =>
          simp only [List.getElem?_cons_zero, List.getElem?_cons_succ] at h0 h1 h2
          obtain ⟨p, ea, _, _⟩ := DataW.trod_int Tryz.underlying3 h0
          obtain ⟨q, eb, _, _⟩ := DataW.trod_int Tryz.underlying3 h1
          obtain ⟨r, ed, _, wr⟩ := DataW.trod_int Tryz.underlying5 h2
          simp only [List.cons.injEq, and_true] at ea eb ed
          subst ea eb ed
          exact ⟨(p, q, r), hc 0 (by omega), hc 1 (by omega), hc 2 (by omega), wr⟩)
    refine ⟨some a, len, m, fun i => (K i).1, fun i => (K i).2.1, fun i => (K i).2.2, hcs, fun i hil => ?_, Nat.le_trans hl hm, fun i hil => by
      have h := (hK i (by omega)).2.2.2
      have bmin : IntKind.u8.min = 0 := rfl
      have bmax : IntKind.u8.max = 255 := rfl
      simp [Lit.wf, bmin, bmax] at h
      show 0 ≤ (K i).2.2 ∧ (K i).2.2 < 256
      omega⟩
    obtain ⟨q0, q1, q2, _⟩ := hK i (by omega)
    have hs : a.spot = none := by simpa [Addr.add] using World.cell?_spot (hK 0 (by omega)).1
    obtain ⟨b, o, sp⟩ := a
    simp only at hs
    subst hs
    rw [Addr.add_mid, Addr.add_mid] at q0 q1 q2
    refine ⟨b, o, rfl, World.block_lt_of_cell? W _ q0, fun j v hv => ?_⟩
    match j, hv with
    | 0, hv => cases hv; exact q0
    | 1, hv => cases hv; exact q1
    | 2, hv => cases hv; exact q2
end
end Go.Proofs.YtjikpodghmfjcaaGreatDoor
set_option linter.unnecessarySimpa false
namespace Go.Proofs.YtjikpodghmfjcaaGreatDoor
open Go.ChangeShapes Go.WideShapes Go.ChangeAt Go.RowKit Go.Lib
set_option maxRecDepth 100000 in
theorem depotCounts_lifted (os : Os) (started : os.Started) (H : Type) (enc : TypeId × Value → H) :
    ReturnsInHanded {} Tryz.checked os 9 .any (fun w args => (Rows.depotCountsSpec.pre enc Tryz.prog Tryz.f9 [] false w args ∧ laidMetH Tryz.prog laidE w) ∧ sizedMet enc Tryz.prog Tryz.f9 (OpenSpec.ofChange Rows.depotCountsSpec) false w args)
      (Rows.depotCountsSpec.post enc Tryz.prog Tryz.f9 false true false false) := by
  refine returnsInHanded_of_change_and (C := Tryz.checked) (X := fun w _ => laidMetH Tryz.prog laidE w) (fun _ _ _ hh h => h.of_heap hh) Tryz.own started (by kernel_rfl) Tryz.func9
    (ChangeSpec.witness_at (enc := enc) (C := Tryz.checked) (os := os) (X := fun w _ => laidMetH Tryz.prog laidE w) false (laidWorld os) #[.slice none 0 0] 8 rfl (by kernel_rfl) (by kernel_rfl) (by kernel_rfl) (by kernel_rfl) (by kernel_rfl) (laidWorld_met os _)) ?_
  intro W base args ds gs before hval0 hW _ _ hL _
  have hval : ∀ (j : Nat) t v, Tryz.f9.params[j]? = some t → args[j]? = some v → Value.okWide Tryz.prog W .any base t v := hval0
  have hW' := hW
  obtain ⟨p, q, hA0, hV0, rfl, _, _⟩ := hW
  have hA : DataW.TrodAll enc Tryz.prog W 0 (fun _ => true) true Tryz.f9.params.toList args.toList ds p := hA0
  rw [Tryz.params9] at hA hval
  obtain ⟨v0, d0, rfl, rfl, h0⟩ := trodAll_one hA
  obtain ⟨rfl, rfl⟩ := trodVars_none hV0
  clear hA0 hV0 hval0
  simp only [List.append_nil] at hW'
  have hW1 := hW'
  have hlt : ∀ x ∈ p, x.block < W.heap.size := fun x hx => by simpa using hW'.lt x (by simpa using hx)
  have hargs : ∀ (W' : World), Below W.heap.size W W' → DataW.TrodAll enc Tryz.prog W' 0 (fun b => decide (b < W.heap.size)) true [59] [v0] [d0] (p) := fun W' hn =>
    trodAll_mk1 (Below.trod Tryz.laidOut (by kernel_rfl) (of_decide_eq_true (by kernel_rfl)) h0 hn hlt)
  have emin : IntKind.i64.min = -9223372036854775808 := rfl
  have emax : IntKind.i64.max = 9223372036854775807 := rfl
  have bmin : IntKind.u8.min = 0 := rfl
  have bmax : IntKind.u8.max = 255 := rfl
  obtain ⟨u0, l0, k0, hv0⟩ := okWide_slice Tryz.underlying59 (hval 0 59 v0 rfl rfl)
  obtain ⟨fuel0, hf0⟩ := h0
  subst hv0
  obtain ⟨a0, len0, c0, L0, B0, X0, hq0, hb0, hm0, hr0⟩ := open_calls7In (v := .slice u0 l0 k0) hf0
  rw [hq0] at hargs hW1 ⊢
  have et : EtAt W := by
    have h := handle_of_laid hL
    rw [show typeHandle Tryz.prog 29 = .pointer (some ⟨1, 29, none⟩) by kernel_rfl] at h
    exact h
  have hq : Calls Tryz.prog 9 #[.slice a0 len0 c0] W fun e w' => e = .returned (.bool true) ∧ Below W.heap.size W w' :=
    dcounts_any a0 len0 c0 L0 B0 X0 hm0 hr0 W hb0 et
  refine hq.mono fun e W' ⟨he, hb⟩ => ?_
  subst he
  exact ⟨_, rfl, ⟨_, _, _, [], _, [], hW1, trodAll_mk1 (shut_bool Tryz.underlying4 true), hargs _ hb, rfl, hb.frame _, fun h => by cases h⟩⟩
theorem depotCounts_holds : Rows.DepotCountsSaid :=
  OpenClaim.holds_of_wide 9 Tryz.f9 rfl rfl rfl rfl rfl rfl rfl ⟨rfl, rfl, rfl, rfl, rfl⟩ rfl rfl rfl rfl rfl (by kernel_rfl) Tryz.func9 (by kernel_rfl)
    (of_decide_eq_true (by kernel_rfl)) (by unfold Func.isWrapper; first | (rw [if_pos (by decide +kernel)]; kernel_rfl) | (rw [if_neg (by decide +kernel)]; exact ⟨rfl, rfl⟩))
    (fun os started H enc _ => depotCounts_lifted os started H enc)
end Go.Proofs.YtjikpodghmfjcaaGreatDoor
