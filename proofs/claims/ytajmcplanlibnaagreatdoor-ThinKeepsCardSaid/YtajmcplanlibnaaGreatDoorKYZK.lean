/- ThinKeeps: reservations that are to last are there behind any crash; those that aren't to are gone. -/
import Derived.Test.YtajmcplanlibnaaGreatDoorKYZH
import Derived.Test.YtajmcplanlibnaaGreatDoorKYZJp
import Derived.Test.YtajmcplanlibnaaGreatDoorKYJG1
set_option linter.unusedSimpArgs false
set_option linter.unusedVariables false
set_option linter.unnecessarySimpa false
namespace Go.Proofs.YtajmcplanlibnaaGreatDoor
open Go.RowKit Go.Maps
def noTab : J.Tab := ⟨0, [], -1, 0, false⟩
theorem tab_set {w : World} {b T : Nat} {y0 y1 y2 y3 y4 : Value} (hb : w.heap[b]? = some (.cells #[y0, y1, y2, y3, y4] T)) (x0 x1 x2 x3 x4 : Value) :
    (((((w.setCell ⟨b, 0, none⟩ x0).setCell ⟨b, 1, none⟩ x1).setCell ⟨b, 2, none⟩ x2).setCell ⟨b, 3, none⟩ x3).setCell ⟨b, 4, none⟩ x4).heap[b]? = some (.cells #[x0, x1, x2, x3, x4] T) ∧
    Keeps (fun q => q ≠ b) w (((((w.setCell ⟨b, 0, none⟩ x0).setCell ⟨b, 1, none⟩ x1).setCell ⟨b, 2, none⟩ x2).setCell ⟨b, 3, none⟩ x3).setCell ⟨b, 4, none⟩ x4) :=
  ⟨(Xz3 (Xz3 (Xz3 (Xz3 (Xz3 hb x0) x1) x2) x3) x4).trans rfl,
   ((((Keeps.set w b 0 x0 (by simp)).trans (Keeps.set _ b 1 x1 (by simp))).trans (Keeps.set _ b 2 x2 (by simp))).trans (Keeps.set _ b 3 x3 (by simp))).trans (Keeps.set _ b 4 x4 (by simp))⟩
structure TkS (w : World) (n2 wb vb db i : Nat) (lv : Value) (bb t1 t2 t3 : Nat) (B : BookS) (k : Nat) (want : J.Tab) (aw : Option Addr) (cw : Nat) (wx : World) : Prop where
  vol : VolI wx vb (fun q => q < n2 ∨ q = wb) C0 lv bb t1 t2 t3 B
  good : GdS B 100 298 400 k db
  le : k ≤ 2 + i
  opn : B.opn = none
  cache : B.disk.cache = []
  sgn : B.view 0 = signF C0
  none : B.view 1 = zer 64
  says : J.readF (B.view 2) = want
  box : wx.heap[wb]? = some (.cells #[.int .u32 want.g, .slice aw want.ks.length cw, .int .i64 want.h, .int .i64 want.ty, .bool want.ap] 110)
  keys : Jz4 w aw want.ks
  len : want.ks.length ≤ maxLen
def TkF (cb : Nat) (a2 : Option Addr) (c2 : Nat) (wx : World) : Prop := wx.heap[cb]? = some (.cells (cfgC C0 (.slice a2 2 c2)) 102)
def TkI (w w3 : World) (wb vb db i : Nat) (wx : World) : Prop := ∃ lv bb t1 t2 t3 B k want aw cw, TkS w w3.heap.size wb vb db i lv bb t1 t2 t3 B k want aw cw wx ∧ Keeps (fun q => q < w3.heap.size) w3 wx
set_option maxRecDepth 100000 in
set_option maxHeartbeats 8000000 in
theorem keeps11_any (a : Option Addr) (len cap : Nat) (T : Nat → J.Tab) (A : Nat → Option Addr) (C : Nat → Nat) (a1 : Option Addr) (pl cp : Nat) (K1 : Nat → Int) (hlen : len ≤ maxLen) (hpl : pl ≤ maxLen) (w : World) (hks : TabsAt w a len T A C) (hp : PickIn w a1 pl K1) (hg : EtAt w) :
    Calls Tryz.prog 8 #[.slice a len cap, .slice a1 pl cp] w fun e w' => e = .returned (.bool true) ∧ Below w.heap.size w w' := by
  have hST := stands11_any (fun k => k < w.heap.size) w (fun i h => h)
  have HKS := hZ hks
  have HP := hZ (And.intro hp hpl)
  have HET := hZ hg
  have hlen2 : (len : Int) ≤ 9223372036854775807 := by unfold maxLen at hlen; omega
  have hlen0 : (0 : Int) ≤ len := by omega
  clear hlen hks hg hp hpl
  go_enter Tryz.func8, Tryz.ntmps8
  go_wp2_with fail
  refine hST.mono ?_
  clear hST
  rintro e w1 ⟨rfl, hk1⟩
  have HK1 := hZ (hk1.below (Nat.le_refl _) (fun i hi => hi))
  clear hk1
  try dsimp only
  by_cases hout : 20 < len
  · have e3 : (20 : Int) < len := by omega
    go_wp2_with fail
    go_ret
    exact ⟨rfl, HK1.out⟩
  have n3 : (len : Int) ≤ 20 := by omega
  have n4 : ¬ ((20 : Int) < len) := by omega
  clear hout
  have hPL := plain_any w1
  go_wp2_with fail
  refine hPL.mono ?_
  clear hPL
  rintro e w2 ⟨⟨a2, c2, rfl, hL⟩, hb2⟩
  have H2 := hZ (And.intro (HK1.out.trans (hb2.mono HK1.out.size)) hL)
  clear hL hb2 HK1
  try dsimp only
  unfold cfgC
  go_upto_region 6 with fail
  have hb0 : ∀ o : Obj, Below w2.heap.size w2 (w2.alloc o) := fun o => bZ
  refine Kz0 (fun wx => Hid (wx.heap[w2.heap.size]? = some (.cells (cfgC C0 (.slice a2 2 c2)) 102) ∧ wx.ownsRow w1.heap.size 3 1 (.slice a2 2 c2) 2 (lunsV C0) ∧ Below w.heap.size w wx)) (hZ ⟨heap_alloc_new w2 _, Vz4 H2.out.2 (hb0 _), H2.out.1.trans ((hb0 _).mono H2.out.1.size)⟩) ?_
  clear hb0 H2
  generalize w2.heap.size = cb
  intro w3 H3
  have hND := diskNew_any 400 (by decide) (fun q => q < w3.heap.size) w3 (fun i hi => hi)
  obtain ⟨z0, z1, z2, z3, z4, z5⟩ := Zz8 H3.out.1
  have hc : ((C0.sec : Nat) : Int) = 400 := rfl
  rw [hc] at z0
  go_wp2_with fail
  refine hND.mono ?_
  clear hND z0 z1 z2 z3 z4 z5 hc
  rintro e w4 ⟨⟨db, rfl, hdb, hD⟩, hb4⟩
  have H4 : Hid (Below w3.heap.size w3 w4) := hZ hb4
  have hMT := vmount_zero a2 c2 db w1.heap.size _ w4 hD (Vz4 H3.out.2.1 hb4)
  clear hdb hD hb4
  try dsimp only
  obtain ⟨z0, z1, z2, z3, z4, z5⟩ := Zz8 ((H4.out.block _ (Zz0 H3.out.1)).trans H3.out.1)
  unfold ptrV at hMT
  go_wp2_with fail
  refine hMT.mono ?_
  clear hMT z0 z1 z2 z3 z4 z5
  rintro e w5 ⟨⟨vb, lv, bb, t1, t2, t3, rfl, hvb, hV⟩, hG, hv, hk⟩
  have H5 : Hid (VolI w5 vb (fun q => q < w3.heap.size) C0 lv bb t1 t2 t3 (b0 db) ∧ GdS (b0 db) 100 298 400 2 db ∧ (∀ i, i < 298 → (b0 db).view i = if i = 0 then signF C0 else zer 64) ∧ Keeps (fun q => q < w3.heap.size) w3 w5) := hZ ⟨hV, hG, hv, (Keeps.of_below H4.out).trans hk⟩
  clear hV hG hv hk hvb H4
  have hNO := J.None_any w5
  try dsimp only
  go_wp2_with fail
  refine hNO.mono ?_
  clear hNO
  rintro e w6 ⟨rfl, hb6⟩
  have H6 : Hid (VolI w6 vb (fun q => q < w3.heap.size) C0 lv bb t1 t2 t3 (b0 db) ∧ Keeps (fun q => q < w3.heap.size) w3 w6) := hZ ⟨H5.out.1.below hb6, H5.out.2.2.2.trans (Keeps.of_below hb6)⟩
  have HG := hZ (And.intro H5.out.2.1 H5.out.2.2.1)
  clear hb6 H5
  try dsimp only
  go_upto_region 11 with fail
  have ha6 : ∀ o : Obj, Below w6.heap.size w6 (w6.alloc o) := fun o => bZ
  refine Kz0 (fun wx => Hid (TkI w w3 w6.heap.size vb db 0 wx)) (hZ ⟨lv, bb, t1, t2, t3, b0 db, 2, noTab, none, 0, ⟨H6.out.1.keep (ha6 _) (fun q hq => by
    rcases hq with hq | rfl
    · exact ⟨Nat.lt_of_lt_of_le (H6.out.1.N_lt q (.inl hq)) (ha6 _).size, .inl hq⟩
    · exact ⟨by simp, .inr (Nat.le_refl _)⟩), HG.out.1, Nat.le_refl _, b0_opn db, b0_cache db, HG.out.2 0 (by decide), HG.out.2 1 (by decide), by rw [HG.out.2 2 (by decide)]; exact J.read_zero, heap_alloc_new w6 _, Jz4.nil _ _, Nat.zero_le _⟩, H6.out.2.trans (Keeps.of_below (ha6 _))⟩) ?_
  have HW3 : Hid (w3.heap.size ≤ w6.heap.size) := hZ H6.out.2.size
  clear ha6 H6 HG
  generalize w6.heap.size = wb at HW3 ⊢
  intro w7 H7
  go_wp2_with fail
  go_loopw [43] (fun iv wr => ∃ i : Nat, iv = .int .i64 (i : Int) ∧ i ≤ len ∧ Hid (TkI w w3 wb vb db i wr)) (fun iv _ => 30 - (intOf iv).toNat)
  case atStart => exact ⟨0, rfl, Nat.zero_le _, H7⟩
  case round =>
    clear H7
    obtain ⟨i, rfl, hi, H⟩ := hrel
    have hi0 : (0 : Int) ≤ i := by omega
    by_cases hit : i < len
    case pos =>
      have hi1 : (i : Int) < len := by omega
      have hi20 : i ≤ 20 := by omega
      obtain ⟨lv, bb, t1, t2, t3, B, k, want, aw, cw, hS, hK⟩ := H.out
      have HS := hZ hS
      have HK := hZ hK
      clear hS hK H
      have HBW : Hid (Below w.heap.size w wr) := hZ (H3.out.2.2.trans ((HK.out.below (Nat.le_refl _) (fun i hi => hi)).mono H3.out.2.2.size))
      obtain ⟨b, off, rfl, hbs, hc, hkk, hwf⟩ := HKS.out i hit
      generalize T i = t at hc hkk hwf
      generalize A i = ta at hc hkk
      generalize C i = tc at hc
      have HC : Hid (wr.rangeAt b (off + i * 5) [.int .u32 t.g, .slice ta t.ks.length tc, .int .i64 t.h, .int .i64 t.ty, .bool t.ap]) := hZ (fun j v hv => (HBW.out.cell (p := ⟨b, _, none⟩) hbs).trans (hc j v hv))
      have HT := hZ (And.intro hkk hwf)
      clear hc hkk hwf
      go_upto_region 14 with (refine wpList_load_mid rfl 110 (.tmp 45) rfl b (off + i * 5) (by simp [Act.eval]) [.int .u32 t.g, .slice ta t.ks.length tc, .int .i64 t.h, .int .i64 t.ty, .bool t.ap] _ HC.out Tryz.underlying110 rfl info_tab ?_)
      have har : ∀ o : Obj, Below wr.heap.size wr (wr.alloc o) := fun o => bZ
      have HWB := hZ (Zz0 HS.out.box)
      refine Kz0 (fun wx => Hid (wx.heap[wr.heap.size]? = some (.cells #[.int .u32 t.g, .slice ta t.ks.length tc, .int .i64 t.h, .int .i64 t.ty, .bool t.ap] 110) ∧ VolI wx vb (fun q => (q < w3.heap.size ∨ q = wb) ∨ q = wr.heap.size) C0 lv bb t1 t2 t3 B ∧ wx.heap[wb]? = some (.cells #[.int .u32 want.g, .slice aw want.ks.length cw, .int .i64 want.h, .int .i64 want.ty, .bool want.ap] 110) ∧ Keeps (fun q => q < w3.heap.size) w3 wx)) (hZ ⟨heap_alloc_new wr _, HS.out.vol.keep (har _) (fun q hq => by
        rcases hq with hq | rfl
        · exact ⟨Nat.lt_of_lt_of_le (HS.out.vol.N_lt q (.inl hq)) (har _).size, .inl hq⟩
        · exact ⟨by simp, .inr (Nat.le_refl _)⟩), ((har _).block _ HWB.out).trans HS.out.box, HK.out.trans (Keeps.of_below (har _))⟩) ?_
      have HNE : Hid (wb ≠ wr.heap.size ∧ w3.heap.size ≤ wr.heap.size) := hZ ⟨by have := HWB.out; omega, HK.out.size⟩
      have HB := hZ (And.intro (And.intro HS.out.good HS.out.le) (And.intro HS.out.opn (And.intro HS.out.cache (And.intro HS.out.sgn (And.intro HS.out.none HS.out.says)))))
      have HW := hZ (And.intro HS.out.keys HS.out.len)
      clear har HWB HS HK HC HBW hbs
      generalize wr.heap.size = eb at HNE ⊢
      intro w8 H8
      have HBW : Hid (Below w.heap.size w w8) := hZ (H3.out.2.2.trans ((H8.out.2.2.2.below (Nat.le_refl _) (fun i hi => hi)).mono H3.out.2.2.size))
      obtain ⟨z0, z1, z2, z3, z4⟩ := tab_cells (t := t) (a := ta) (c := tc) H8.out.1
      cases hs : J.soundT t
      case true =>
        have hKP := vkeep_ok t ta tc 1 100 298 400 k db C0_fits (by decide) (by decide) hs HT.out.2 (by have := HB.out.1.2; omega) w8 H8.out.2.1 HB.out.1.1 HB.out.2.1 (HT.out.1.below HBW.out)
        unfold ptrV tabL at hKP
        go_wp2_with fail
        refine hKP.mono ?_
        clear hKP z0 z1 z2 z3 z4
        rintro e w9 ⟨rfl, hV9, hG9, hv9, hk9⟩
        have H9 : Hid (w9.heap[eb]? = some (.cells #[.int .u32 t.g, .slice ta t.ks.length tc, .int .i64 t.h, .int .i64 t.ty, .bool t.ap] 110) ∧ VolI w9 vb (fun q => (q < w3.heap.size ∨ q = wb) ∨ q = eb) C0 lv bb t1 t2 t3 (keptB B 1 t) ∧ w9.heap[wb]? = some (.cells #[.int .u32 want.g, .slice aw want.ks.length cw, .int .i64 want.h, .int .i64 want.ty, .bool want.ap] 110) ∧ Keeps (fun q => q < w3.heap.size) w3 w9) := hZ ⟨hk9.blk (.inr rfl) H8.out.1, hV9, hk9.blk (.inl (.inr rfl)) H8.out.2.2.1, H8.out.2.2.2.trans (hk9.mono (fun q _ hq => .inl (.inl hq)))⟩
        have HG9 := hZ (And.intro hG9 hv9)
        have HSR : Hid (J.readF ((keptB B 1 t).view 2) = if t.ap then t else noTab) := hZ (by
          rw [hv9 2 (by decide), if_pos rfl]
          exact pgT_read hs HT.out.2)
        clear hV9 hG9 hv9 hk9 H8 HBW
        have HBW : Hid (Below w.heap.size w w9) := hZ (H3.out.2.2.trans ((H9.out.2.2.2.below (Nat.le_refl _) (fun i hi => hi)).mono H3.out.2.2.size))
        have hRS := J.rSound_any t.g t.h t.ty t.ap ta t.ks tc w9 (by have := HT.out.2.2.1; unfold maxLen at this; omega) (HT.out.1.below HBW.out)
        rw [show J.rsoundF t.ks t.h t.ty = true from hs] at hRS
        have HSO := hZ hs
        clear hs
        obtain ⟨z0, z1, z2, z3, z4, _⟩ := blk5 H9.out.1
        try dsimp only
        go_wp2_with fail
        refine hRS.mono ?_
        clear hRS z0 z1 z2 z3 z4
        rintro e w10 ⟨rfl, hb10⟩
        have H10 : Hid (w10.heap[eb]? = some (.cells #[.int .u32 t.g, .slice ta t.ks.length tc, .int .i64 t.h, .int .i64 t.ty, .bool t.ap] 110) ∧ VolI w10 vb (fun q => (q < w3.heap.size ∨ q = wb) ∨ q = eb) C0 lv bb t1 t2 t3 (keptB B 1 t) ∧ w10.heap[wb]? = some (.cells #[.int .u32 want.g, .slice aw want.ks.length cw, .int .i64 want.h, .int .i64 want.ty, .bool want.ap] 110) ∧ Keeps (fun q => q < w3.heap.size) w3 w10) := hZ ⟨(hb10.block _ (Zz0 H9.out.1)).trans H9.out.1, H9.out.2.1.below hb10, (hb10.block _ (Zz0 H9.out.2.2.1)).trans H9.out.2.2.1, H9.out.2.2.2.trans (Keeps.of_below hb10)⟩
        clear hb10 H9 HBW
        try dsimp only
        obtain ⟨z0, z1, z2, z3, z4, _⟩ := blk5 H10.out.1
        obtain ⟨y0, y1, y2, y3, y4, x0, x1, x2, x3, x4⟩ := blk5 H10.out.2.2.1
        go_upto_region 21 with fail
        have hts := tab_set H10.out.2.2.1 (.int .u32 t.g) (.slice ta t.ks.length tc) (.int .i64 t.h) (.int .i64 t.ty) (.bool t.ap)
        refine Kz0 (fun wx => Hid (wx.heap[eb]? = some (.cells #[.int .u32 t.g, .slice ta t.ks.length tc, .int .i64 t.h, .int .i64 t.ty, .bool t.ap] 110) ∧ VolI wx vb (fun q => (q < w3.heap.size ∨ q = wb) ∨ q = eb) C0 lv bb t1 t2 t3 (keptB B 1 t) ∧ wx.heap[wb]? = some (.cells #[.int .u32 t.g, .slice ta t.ks.length tc, .int .i64 t.h, .int .i64 t.ty, .bool t.ap] 110) ∧ Keeps (fun q => q < w3.heap.size) w3 wx)) (hZ ⟨hts.2.blk (fun e => HNE.out.1 e.symm) H10.out.1, H10.out.2.1.frame (hts.2.mono (fun q _ hn e => hn (.inl (.inr e)))), hts.1, H10.out.2.2.2.trans (hts.2.mono (fun q _ hq e => by have := HW3.out; omega))⟩) ?_
        clear hts H10 z0 z1 z2 z3 z4 y0 y1 y2 y3 y4 x0 x1 x2 x3 x4
        intro w11 H11
        obtain ⟨z0, z1, z2, z3, z4, _⟩ := blk5 H11.out.1
        cases hap : t.ap
        case true =>
          have HSY : Hid (J.readF ((keptB B 1 t).view 2) = t) := hZ (HSR.out.trans (if_pos hap))
          have HNT : Hid (Jz4 w ta t.ks ∧ t.ks.length ≤ maxLen) := hZ ⟨HT.out.1, HT.out.2.2.1⟩
          rw [hap] at z4
          have H12 : Hid (VolI w11 vb (fun q => (q < w3.heap.size ∨ q = wb) ∨ q = eb) C0 lv bb t1 t2 t3 (keptB B 1 t) ∧ w11.heap[wb]? = some (.cells #[.int .u32 t.g, .slice ta t.ks.length tc, .int .i64 t.h, .int .i64 t.ty, .bool t.ap] 110) ∧ Keeps (fun q => q < w3.heap.size) w3 w11) := hZ H11.out.2
          clear H11 HSR hap
          have hKT := vkept_ok 1 298 C0_fits HG9.out.1.n (by decide) w11 H12.out.1
          rw [show (1 : Nat) + 1 = 2 from rfl, HSY.out] at hKT
          unfold ptrV at hKT
          try dsimp only
          go_wp2_with fail
          refine hKT.mono ?_
          clear hKT
          rintro e w13 ⟨⟨v, rfl, ra, rc, rfl, hrk, hrn⟩, hb13⟩
          have H13 : Hid (VolI w13 vb (fun q => (q < w3.heap.size ∨ q = wb) ∨ q = eb) C0 lv bb t1 t2 t3 (keptB B 1 t) ∧ w13.heap[wb]? = some (.cells #[.int .u32 (t).g, .slice ta (t).ks.length tc, .int .i64 (t).h, .int .i64 (t).ty, .bool (t).ap] 110) ∧ Keeps (fun q => q < w3.heap.size) w3 w13) := hZ ⟨H12.out.1.below hb13, (hb13.block _ (Zz0 H12.out.2.1)).trans H12.out.2.1, H12.out.2.2.trans (Keeps.of_below hb13)⟩
          have HRK := hZ hrk
          clear hb13 hrk hrn H12
          try dsimp only
          go_upto_region 24 with fail
          have ha13 : ∀ o : Obj, Below w13.heap.size w13 (w13.alloc o) := fun o => bZ
          refine Kz0 (fun wx => Hid (wx.heap[w13.heap.size]? = some (.cells #[.int .u32 (t).g, .slice ra (t).ks.length rc, .int .i64 (t).h, .int .i64 (t).ty, .bool (t).ap] 110) ∧ Jz4 wx ra (t).ks ∧ VolI wx vb (fun q => (q < w3.heap.size ∨ q = wb) ∨ q = eb) C0 lv bb t1 t2 t3 (keptB B 1 t) ∧ wx.heap[wb]? = some (.cells #[.int .u32 (t).g, .slice ta (t).ks.length tc, .int .i64 (t).h, .int .i64 (t).ty, .bool (t).ap] 110) ∧ Keeps (fun q => q < w3.heap.size) w3 wx)) (hZ ⟨heap_alloc_new w13 _, HRK.out.below (ha13 _), H13.out.1.below (ha13 _), ((ha13 _).block _ (Zz0 H13.out.2.1)).trans H13.out.2.1, H13.out.2.2.trans (Keeps.of_below (ha13 _))⟩) ?_
          clear ha13 H13 HRK
          generalize w13.heap.size = gb
          intro w14 H14
          have hSM := J.same_yes (t) ra (ta) rc (tc) w14 (by have := HNT.out.2; unfold maxLen at this; omega) H14.out.2.1 (HNT.out.1.below (H3.out.2.2.trans ((H14.out.2.2.2.2.below (Nat.le_refl _) (fun i hi => hi)).mono H3.out.2.2.size)))
          obtain ⟨z0, z1, z2, z3, z4, _⟩ := blk5 H14.out.1
          obtain ⟨y0, y1, y2, y3, y4, _⟩ := blk5 H14.out.2.2.2.1
          go_wp2_with fail
          refine hSM.mono ?_
          clear hSM z0 z1 z2 z3 z4 y0 y1 y2 y3 y4
          rintro e w15 ⟨rfl, hb15⟩
          have H15 : Hid (VolI w15 vb (fun q => (q < w3.heap.size ∨ q = wb) ∨ q = eb) C0 lv bb t1 t2 t3 (keptB B 1 t) ∧ w15.heap[wb]? = some (.cells #[.int .u32 (t).g, .slice ta (t).ks.length tc, .int .i64 (t).h, .int .i64 (t).ty, .bool (t).ap] 110) ∧ Keeps (fun q => q < w3.heap.size) w3 w15) := hZ ⟨H14.out.2.2.1.below hb15, (hb15.block _ (Zz0 H14.out.2.2.2.1)).trans H14.out.2.2.2.1, H14.out.2.2.2.2.trans (Keeps.of_below hb15)⟩
          clear hb15 H14
          try dsimp only
          go_wp2_with fail
          go_roundw
          · exact ⟨i + 1, by push_cast; rfl, by omega, hZ ⟨lv, bb, t1, t2, t3, keptB B 1 t, k + 1, t, ta, tc, ⟨H15.out.1.less (fun q hq => .inl hq), HG9.out.1, by have := HB.out.1.2; omega, keptB_opn _ _ _, keptB_cache _ _ _, ((HG9.out.2 0 (by decide)).trans (if_neg (by decide))).trans HB.out.2.2.2.1, ((HG9.out.2 1 (by decide)).trans (if_neg (by decide))).trans HB.out.2.2.2.2.1, HSY.out, H15.out.2.1, HNT.out.1, HNT.out.2⟩, H15.out.2.2⟩⟩
          · simp only [intOf]; omega
        case false =>
          have HSY : Hid (J.readF ((keptB B 1 t).view 2) = noTab) := hZ (HSR.out.trans (if_neg (by rw [hap]; decide)))
          have HNT : Hid (Jz4 w none noTab.ks ∧ noTab.ks.length ≤ maxLen) := hZ ⟨Jz4.nil _ _, Nat.zero_le _⟩
          rw [hap] at z4
          have hNO := J.None_any w11
          go_wp2_with fail
          refine hNO.mono ?_
          clear hNO z0 z1 z2 z3 z4
          rintro e w12 ⟨rfl, hb12⟩
          have H12a : Hid (VolI w12 vb (fun q => (q < w3.heap.size ∨ q = wb) ∨ q = eb) C0 lv bb t1 t2 t3 (keptB B 1 t) ∧ w12.heap[wb]? = some (.cells #[.int .u32 t.g, .slice ta t.ks.length tc, .int .i64 t.h, .int .i64 t.ty, .bool t.ap] 110) ∧ Keeps (fun q => q < w3.heap.size) w3 w12) := hZ ⟨H11.out.2.1.below hb12, (hb12.block _ (Zz0 H11.out.2.2.1)).trans H11.out.2.2.1, H11.out.2.2.2.trans (Keeps.of_below hb12)⟩
          clear hb12 H11 HSR
          try dsimp only
          obtain ⟨y0, y1, y2, y3, y4, x0, x1, x2, x3, x4⟩ := blk5 H12a.out.2.1
          go_upto_region 23 with fail
          have hts := tab_set H12a.out.2.1 (.int .u32 0) (.slice none 0 0) (.int .i64 (-1)) (.int .i64 0) (.bool false)
          refine Kz0 (fun wx => Hid (VolI wx vb (fun q => (q < w3.heap.size ∨ q = wb) ∨ q = eb) C0 lv bb t1 t2 t3 (keptB B 1 t) ∧ wx.heap[wb]? = some (.cells #[.int .u32 noTab.g, .slice none noTab.ks.length 0, .int .i64 noTab.h, .int .i64 noTab.ty, .bool noTab.ap] 110) ∧ Keeps (fun q => q < w3.heap.size) w3 wx)) (hZ ⟨H12a.out.1.frame (hts.2.mono (fun q _ hn e => hn (.inl (.inr e)))), hts.1, H12a.out.2.2.trans (hts.2.mono (fun q _ hq e => by have := HW3.out; omega))⟩) ?_
          clear hts H12a y0 y1 y2 y3 y4 x0 x1 x2 x3 x4
          intro w12' H12
          have hKT := vkept_ok 1 298 C0_fits HG9.out.1.n (by decide) w12' H12.out.1
          rw [show (1 : Nat) + 1 = 2 from rfl, HSY.out] at hKT
          unfold ptrV at hKT
          try dsimp only
          go_wp2_with fail
          refine hKT.mono ?_
          clear hKT
          rintro e w13 ⟨⟨v, rfl, ra, rc, rfl, hrk, hrn⟩, hb13⟩
          have H13 : Hid (VolI w13 vb (fun q => (q < w3.heap.size ∨ q = wb) ∨ q = eb) C0 lv bb t1 t2 t3 (keptB B 1 t) ∧ w13.heap[wb]? = some (.cells #[.int .u32 (noTab).g, .slice none (noTab).ks.length 0, .int .i64 (noTab).h, .int .i64 (noTab).ty, .bool (noTab).ap] 110) ∧ Keeps (fun q => q < w3.heap.size) w3 w13) := hZ ⟨H12.out.1.below hb13, (hb13.block _ (Zz0 H12.out.2.1)).trans H12.out.2.1, H12.out.2.2.trans (Keeps.of_below hb13)⟩
          have HRK := hZ hrk
          clear hb13 hrk hrn H12
          try dsimp only
          go_upto_region 24 with fail
          have ha13 : ∀ o : Obj, Below w13.heap.size w13 (w13.alloc o) := fun o => bZ
          refine Kz0 (fun wx => Hid (wx.heap[w13.heap.size]? = some (.cells #[.int .u32 (noTab).g, .slice ra (noTab).ks.length rc, .int .i64 (noTab).h, .int .i64 (noTab).ty, .bool (noTab).ap] 110) ∧ Jz4 wx ra (noTab).ks ∧ VolI wx vb (fun q => (q < w3.heap.size ∨ q = wb) ∨ q = eb) C0 lv bb t1 t2 t3 (keptB B 1 t) ∧ wx.heap[wb]? = some (.cells #[.int .u32 (noTab).g, .slice none (noTab).ks.length 0, .int .i64 (noTab).h, .int .i64 (noTab).ty, .bool (noTab).ap] 110) ∧ Keeps (fun q => q < w3.heap.size) w3 wx)) (hZ ⟨heap_alloc_new w13 _, HRK.out.below (ha13 _), H13.out.1.below (ha13 _), ((ha13 _).block _ (Zz0 H13.out.2.1)).trans H13.out.2.1, H13.out.2.2.trans (Keeps.of_below (ha13 _))⟩) ?_
          clear ha13 H13 HRK
          generalize w13.heap.size = gb
          intro w14 H14
          have hSM := J.same_yes (noTab) ra (none) rc (0) w14 (by have := HNT.out.2; unfold maxLen at this; omega) H14.out.2.1 (HNT.out.1.below (H3.out.2.2.trans ((H14.out.2.2.2.2.below (Nat.le_refl _) (fun i hi => hi)).mono H3.out.2.2.size)))
          obtain ⟨z0, z1, z2, z3, z4, _⟩ := blk5 H14.out.1
          obtain ⟨y0, y1, y2, y3, y4, _⟩ := blk5 H14.out.2.2.2.1
          go_wp2_with fail
          refine hSM.mono ?_
          clear hSM z0 z1 z2 z3 z4 y0 y1 y2 y3 y4
          rintro e w15 ⟨rfl, hb15⟩
          have H15 : Hid (VolI w15 vb (fun q => (q < w3.heap.size ∨ q = wb) ∨ q = eb) C0 lv bb t1 t2 t3 (keptB B 1 t) ∧ w15.heap[wb]? = some (.cells #[.int .u32 (noTab).g, .slice none (noTab).ks.length 0, .int .i64 (noTab).h, .int .i64 (noTab).ty, .bool (noTab).ap] 110) ∧ Keeps (fun q => q < w3.heap.size) w3 w15) := hZ ⟨H14.out.2.2.1.below hb15, (hb15.block _ (Zz0 H14.out.2.2.2.1)).trans H14.out.2.2.2.1, H14.out.2.2.2.2.trans (Keeps.of_below hb15)⟩
          clear hb15 H14
          try dsimp only
          go_wp2_with fail
          go_roundw
          · exact ⟨i + 1, by push_cast; rfl, by omega, hZ ⟨lv, bb, t1, t2, t3, keptB B 1 t, k + 1, noTab, none, 0, ⟨H15.out.1.less (fun q hq => .inl hq), HG9.out.1, by have := HB.out.1.2; omega, keptB_opn _ _ _, keptB_cache _ _ _, ((HG9.out.2 0 (by decide)).trans (if_neg (by decide))).trans HB.out.2.2.2.1, ((HG9.out.2 1 (by decide)).trans (if_neg (by decide))).trans HB.out.2.2.2.2.1, HSY.out, H15.out.2.1, HNT.out.1, HNT.out.2⟩, H15.out.2.2⟩⟩
          · simp only [intOf]; omega
      case false =>
        have hKP := vkeep_bad t ta tc 1 298 C0_fits (by decide) hs HT.out.2 w8 H8.out.2.1 (HT.out.1.below HBW.out)
        unfold ptrV tabL at hKP
        go_wp2_with fail
        refine hKP.mono ?_
        clear hKP z0 z1 z2 z3 z4
        rintro e w9 ⟨⟨y, x, rfl, he⟩, hb9⟩
        have H9 : Hid (w9.heap[eb]? = some (.cells #[.int .u32 t.g, .slice ta t.ks.length tc, .int .i64 t.h, .int .i64 t.ty, .bool t.ap] 110) ∧ VolI w9 vb (fun q => (q < w3.heap.size ∨ q = wb) ∨ q = eb) C0 lv bb t1 t2 t3 B ∧ w9.heap[wb]? = some (.cells #[.int .u32 want.g, .slice aw want.ks.length cw, .int .i64 want.h, .int .i64 want.ty, .bool want.ap] 110) ∧ Keeps (fun q => q < w3.heap.size) w3 w9 ∧ Below w.heap.size w w9) := hZ ⟨(hb9.block _ (Zz0 H8.out.1)).trans H8.out.1, H8.out.2.1.below hb9, (hb9.block _ (Zz0 H8.out.2.2.1)).trans H8.out.2.2.1, H8.out.2.2.2.trans (Keeps.of_below hb9), HBW.out.trans (hb9.mono HBW.out.size)⟩
        have HE := hZ he
        clear hb9 he H8 HBW
        have hRS := J.rSound_any t.g t.h t.ty t.ap ta t.ks tc w9 (by have := HT.out.2.2.1; unfold maxLen at this; omega) (HT.out.1.below H9.out.2.2.2.2)
        rw [show J.rsoundF t.ks t.h t.ty = false from hs] at hRS
        have HSO := hZ hs
        clear hs
        obtain ⟨z0, z1, z2, z3, z4, _⟩ := blk5 H9.out.1
        try dsimp only
        go_wp2_with fail
        refine hRS.mono ?_
        clear hRS z0 z1 z2 z3 z4
        rintro e w10 ⟨rfl, hb10⟩
        have H10 : Hid (VolI w10 vb (fun q => (q < w3.heap.size ∨ q = wb) ∨ q = eb) C0 lv bb t1 t2 t3 B ∧ w10.heap[wb]? = some (.cells #[.int .u32 want.g, .slice aw want.ks.length cw, .int .i64 want.h, .int .i64 want.ty, .bool want.ap] 110) ∧ Keeps (fun q => q < w3.heap.size) w3 w10 ∧ Below w.heap.size w w10) := hZ ⟨H9.out.2.1.below hb10, (hb10.block _ (Zz0 H9.out.2.2.1)).trans H9.out.2.2.1, H9.out.2.2.2.1.trans (Keeps.of_below hb10), H9.out.2.2.2.2.trans (hb10.mono H9.out.2.2.2.2.size)⟩
        have hNM := num11_err (.iface y x) 1 w10 (HE.out.below hb10) (HET.out.below H10.out.2.2.2 HET.out.pos)
        clear hb10 H9 HE
        try dsimp only
        go_wp2_with fail
        refine hNM.mono ?_
        clear hNM
        rintro e w11 ⟨rfl, hb11⟩
        have H11 : Hid (VolI w11 vb (fun q => (q < w3.heap.size ∨ q = wb) ∨ q = eb) C0 lv bb t1 t2 t3 B ∧ w11.heap[wb]? = some (.cells #[.int .u32 want.g, .slice aw want.ks.length cw, .int .i64 want.h, .int .i64 want.ty, .bool want.ap] 110) ∧ Keeps (fun q => q < w3.heap.size) w3 w11) := hZ ⟨H10.out.1.below hb11, (hb11.block _ (Zz0 H10.out.2.1)).trans H10.out.2.1, H10.out.2.2.1.trans (Keeps.of_below hb11)⟩
        clear hb11 H10
        try dsimp only
        go_wp2_with fail
        go_roundw
        · exact ⟨i + 1, by push_cast; rfl, by omega, hZ ⟨lv, bb, t1, t2, t3, B, k, want, aw, cw, ⟨H11.out.1.less (fun q hq => .inl hq), HB.out.1.1, by have := HB.out.1.2; omega, HB.out.2.1, HB.out.2.2.1, HB.out.2.2.2.1, HB.out.2.2.2.2.1, HB.out.2.2.2.2.2, H11.out.2.1, HW.out.1, HW.out.2⟩, H11.out.2.2⟩⟩
        · simp only [intOf]; omega
    case neg =>
      have hi1 : ¬ ((i : Int) < len) := by omega
      have hi20 : i ≤ 20 := by omega
      obtain ⟨lv, bb, t1, t2, t3, B, k, want, aw, cw, hS, hK⟩ := H.out
      have HS := hZ hS
      have HK := hZ hK
      clear hS hK H
      have HCB : Hid (TkF cb a2 c2 wr) := hZ (HK.out.blk (Zz0 H3.out.1) H3.out.1)
      have HLU : Hid (wr.ownsRow w1.heap.size 3 1 (.slice a2 2 c2) 2 (lunsV C0)) := hZ (HK.out.own H3.out.2.1 (fun q hq => (H3.out.2.1.lt q hq).2))
      have HBW : Hid (Below w.heap.size w wr) := hZ (H3.out.2.2.trans ((HK.out.below (Nat.le_refl _) (fun i hi => hi)).mono H3.out.2.2.size))
      go_upto_region 27 with fail
      have hne : Nonempty (SatW (TkF cb a2 c2)) := ⟨⟨_, (show TkF cb a2 c2 wr.drew from (Below.refl wr.heap.size wr).drew.block _ (Zz0 HCB.out) |>.trans HCB.out)⟩⟩
      refine Vz0 [(0, true), (1, true), (3, true), (2, false), (4, false), (5, true), (6, true), (7, true), (8, true), (9, true)] 99 (fun w' => ∃ p : SatW (TkF cb a2 c2), w' = p.w) (by kernel_rfl) (by kernel_rfl) (fun _ _ d _ _ h => by cases d <;> exact h) (Jz3 (show TkF cb a2 c2 wr.drew from (Below.refl wr.heap.size wr).drew.block _ (Zz0 HCB.out) |>.trans HCB.out)) ?_
      (repeat (with_reducible refine mix_q ?_; simp only [qd1, qd0, qt1, qt0]; go_big_quiet_step (fail); with_reducible refine wpQuiet_nil ?_))
      with_reducible refine mix_q ?_
      simp only [qd1, qd0, qt1, qt0]
      go_big_quiet_want
      refine Jz1 102 (.tmp 5) rfl cb 0 rfl (cfgL C0 (.slice a2 2 c2)) _ (fun wx hwx => by
        obtain ⟨q, rfl⟩ := hwx
        exact row_rangeL (show q.w.heap[cb]? = some (.cells (cfgL C0 (.slice a2 2 c2)).toArray _) from q.h)) Tryz.underlying102 rfl info_cfg ?_
      simp only [Act.put, qs0, qs1, qs2]
      go_big_quiet_on
      with_reducible refine wpQuiet_nil ?_
      with_reducible refine mix_a ?_; simp only [qd1, qd0, qt1, qt0]
      obtain ⟨Nd, hDk⟩ := HS.out.vol.drew.book.disk_at HS.out.good.db
      have hCR := crash_any pl K1 a1 cp HP.out.2 db Nd B.disk HS.out.cache wr.drew (HP.out.1.below (HBW.out.trans ((Below.refl _ _).drew.mono HBW.out.size))) hDk
      go_wp2_with fail
      refine hCR.mono ?_
      clear hCR
      rintro e w20 ⟨⟨eb, rfl, heb, hDe⟩, hb20⟩
      rw [show (⟨B.disk.firm, []⟩ : DiskS) = B.disk by rw [← HS.out.cache]] at hDe
      have hb20' : Below wr.heap.size wr w20 := (Below.refl _ _).drew.trans (hb20.mono (Below.refl wr.heap.size wr).drew.size)
      have hMA := vmount_again a2 c2 db eb k w1.heap.size _ B (by have := HS.out.le; omega) HS.out.good HS.out.opn HS.out.sgn w20 hDe (Vz4 HLU.out hb20')
      have H20 : Hid (Below wr.heap.size wr w20) := hZ hb20'
      have HCB20 : Hid (TkF cb a2 c2 w20) := hZ ((hb20'.block _ (Zz0 HCB.out)).trans HCB.out)
      clear hDe heb hb20 hb20' hDk
      try dsimp only
      go_wp2_with fail
      try with_reducible refine wpList_nil ?_
      with_reducible refine Qz0 ?_
      refine ⟨fun _ => Jz3 (F := TkF cb a2 c2) HCB20.out, ?_⟩
      (repeat (with_reducible refine mix_q ?_; simp only [qd1, qd0, qt1, qt0]; go_big_quiet_step (fail); with_reducible refine wpQuiet_nil ?_))
      with_reducible refine mix_a ?_; simp only [qd1, qd0, qt1, qt0]
      unfold ptrV at hMA
      go_wp2_with fail
      refine hMA.mono ?_
      clear hMA
      rintro e w21 ⟨⟨vb2, lv2, bb2, u1, u2, u3, B2, rfl, hvb2, hV2, hn2, hv2⟩, hk21⟩
      have hlt : wr.heap.size ≤ wr.drew.heap.size := (Below.refl wr.heap.size wr).drew.size
      have hbk : Below wr.heap.size wr w21 := H20.out.trans (hk21.below H20.out.size (fun q hq => Nat.lt_of_lt_of_le hq hlt))
      have H21 : Hid (VolI w21 vb2 (fun k => k < wr.drew.heap.size) C0 lv2 bb2 u1 u2 u3 B2 ∧ w21.heap[wb]? = some (.cells #[.int .u32 want.g, .slice aw want.ks.length cw, .int .i64 want.h, .int .i64 want.ty, .bool want.ap] 110) ∧ Below w.heap.size w w21) := hZ ⟨hV2, (hbk.block _ (Zz0 HS.out.box)).trans HS.out.box, HBW.out.trans (hbk.mono HBW.out.size)⟩
      have HCB21 : Hid (TkF cb a2 c2 w21) := hZ ((hbk.block _ (Zz0 HCB.out)).trans HCB.out)
      have HB2 : Hid (B2.n = 298 ∧ J.readF (B2.view 2) = want ∧ B2.view 1 = zer 64) := hZ ⟨hn2, by rw [hv2 2 (by decide)]; exact HS.out.says, (hv2 1 (by decide)).trans HS.out.none⟩
      have HNT : Hid (Jz4 w aw want.ks ∧ want.ks.length ≤ maxLen) := hZ ⟨HS.out.keys, HS.out.len⟩
      clear hV2 hn2 hv2 hk21 hvb2 hlt hbk H20 HCB20 HS HK HCB HLU HBW
      try dsimp only
      go_wp2_with fail
      try with_reducible refine wpList_nil ?_
      with_reducible refine Qz0 ?_
      refine ⟨fun _ => Jz3 (F := TkF cb a2 c2) HCB21.out, ?_⟩
      (repeat (with_reducible refine mix_q ?_; simp only [qd1, qd0, qt1, qt0]; go_big_quiet_step (fail); with_reducible refine wpQuiet_nil ?_))
      with_reducible refine Wz1 ?_
      clear HCB21 hne
      have hKT := vkept_ok 1 298 C0_fits HB2.out.1 (by decide) w21 H21.out.1
      rw [show (1 : Nat) + 1 = 2 from rfl, HB2.out.2.1] at hKT
      unfold ptrV at hKT
      go_wp2_with fail
      refine hKT.mono ?_
      clear hKT
      rintro e w22 ⟨⟨v, rfl, ra, rc, rfl, hrk, hrn⟩, hb22⟩
      have H22 : Hid (VolI w22 vb2 (fun k => k < wr.drew.heap.size) C0 lv2 bb2 u1 u2 u3 B2 ∧ w22.heap[wb]? = some (.cells #[.int .u32 want.g, .slice aw want.ks.length cw, .int .i64 want.h, .int .i64 want.ty, .bool want.ap] 110) ∧ Below w.heap.size w w22) := hZ ⟨H21.out.1.below hb22, (hb22.block _ (Zz0 H21.out.2.1)).trans H21.out.2.1, H21.out.2.2.trans (hb22.mono H21.out.2.2.size)⟩
      have HRK := hZ hrk
      clear hb22 hrk hrn H21
      try dsimp only
      go_upto_region 31 with fail
      have ha : ∀ o : Obj, Below w22.heap.size w22 (w22.alloc o) := fun o => bZ
      refine Kz0 (fun wx => Hid (wx.heap[w22.heap.size]? = some (.cells #[.int .u32 want.g, .slice ra want.ks.length rc, .int .i64 want.h, .int .i64 want.ty, .bool want.ap] 110) ∧ Jz4 wx ra want.ks ∧ VolI wx vb2 (fun k => k < wr.drew.heap.size) C0 lv2 bb2 u1 u2 u3 B2 ∧ wx.heap[wb]? = some (.cells #[.int .u32 want.g, .slice aw want.ks.length cw, .int .i64 want.h, .int .i64 want.ty, .bool want.ap] 110) ∧ Below w.heap.size w wx)) (hZ ⟨heap_alloc_new w22 _, HRK.out.below (ha _), H22.out.1.below (ha _), ((ha _).block _ (Zz0 H22.out.2.1)).trans H22.out.2.1, H22.out.2.2.trans ((ha _).mono H22.out.2.2.size)⟩) ?_
      clear ha H22 HRK
      generalize w22.heap.size = gb
      intro w23 H23
      have hKN := vkept_ok 0 298 C0_fits HB2.out.1 (by decide) w23 H23.out.2.2.1
      rw [show (1 : Nat) + 0 = 1 from rfl, HB2.out.2.2, show J.readF (zer 64) = noTab from J.read_zero] at hKN
      unfold ptrV at hKN
      go_wp2_with fail
      refine hKN.mono ?_
      clear hKN
      rintro e w24 ⟨⟨v, rfl, na, nc, rfl, hnk, hnn⟩, hb24⟩
      have H24 : Hid (w24.heap[gb]? = some (.cells #[.int .u32 want.g, .slice ra want.ks.length rc, .int .i64 want.h, .int .i64 want.ty, .bool want.ap] 110) ∧ Jz4 w24 ra want.ks ∧ VolI w24 vb2 (fun k => k < wr.drew.heap.size) C0 lv2 bb2 u1 u2 u3 B2 ∧ w24.heap[wb]? = some (.cells #[.int .u32 want.g, .slice aw want.ks.length cw, .int .i64 want.h, .int .i64 want.ty, .bool want.ap] 110) ∧ Below w.heap.size w w24) := hZ ⟨(hb24.block _ (Zz0 H23.out.1)).trans H23.out.1, H23.out.2.1.below hb24, H23.out.2.2.1.below hb24, (hb24.block _ (Zz0 H23.out.2.2.2.1)).trans H23.out.2.2.2.1, H23.out.2.2.2.2.trans (hb24.mono H23.out.2.2.2.2.size)⟩
      clear hb24 hnk hnn H23
      try dsimp only
      go_upto_region 32 with fail
      have ha : ∀ o : Obj, Below w24.heap.size w24 (w24.alloc o) := fun o => bZ
      refine Kz0 (fun wx => Hid (wx.heap[w24.heap.size]? = some (.cells #[.int .u32 noTab.g, .slice na noTab.ks.length nc, .int .i64 noTab.h, .int .i64 noTab.ty, .bool noTab.ap] 110) ∧ wx.heap[gb]? = some (.cells #[.int .u32 want.g, .slice ra want.ks.length rc, .int .i64 want.h, .int .i64 want.ty, .bool want.ap] 110) ∧ Jz4 wx ra want.ks ∧ VolI wx vb2 (fun k => k < wr.drew.heap.size) C0 lv2 bb2 u1 u2 u3 B2 ∧ wx.heap[wb]? = some (.cells #[.int .u32 want.g, .slice aw want.ks.length cw, .int .i64 want.h, .int .i64 want.ty, .bool want.ap] 110) ∧ Below w.heap.size w wx)) (hZ ⟨heap_alloc_new w24 _, ((ha _).block _ (Zz0 H24.out.1)).trans H24.out.1, H24.out.2.1.below (ha _), H24.out.2.2.1.below (ha _), ((ha _).block _ (Zz0 H24.out.2.2.2.1)).trans H24.out.2.2.2.1, H24.out.2.2.2.2.trans ((ha _).mono H24.out.2.2.2.2.size)⟩) ?_
      clear ha H24
      generalize w24.heap.size = nb
      intro w25 H25
      have hKB := vkept_bad 2 (by decide) (by decide) (by decide) w25 H25.out.2.2.2.1
      unfold ptrV at hKB
      go_wp2_with fail
      refine hKB.mono ?_
      clear hKB
      rintro e w26 ⟨⟨y, x, rfl, he⟩, hb26⟩
      have H26 : Hid (w26.heap[nb]? = some (.cells #[.int .u32 noTab.g, .slice na noTab.ks.length nc, .int .i64 noTab.h, .int .i64 noTab.ty, .bool noTab.ap] 110) ∧ w26.heap[gb]? = some (.cells #[.int .u32 want.g, .slice ra want.ks.length rc, .int .i64 want.h, .int .i64 want.ty, .bool want.ap] 110) ∧ Jz4 w26 ra want.ks ∧ w26.heap[wb]? = some (.cells #[.int .u32 want.g, .slice aw want.ks.length cw, .int .i64 want.h, .int .i64 want.ty, .bool want.ap] 110) ∧ Below w.heap.size w w26) := hZ ⟨(hb26.block _ (Zz0 H25.out.1)).trans H25.out.1, (hb26.block _ (Zz0 H25.out.2.1)).trans H25.out.2.1, H25.out.2.2.1.below hb26, (hb26.block _ (Zz0 H25.out.2.2.2.2.1)).trans H25.out.2.2.2.2.1, H25.out.2.2.2.2.2.trans (hb26.mono H25.out.2.2.2.2.2.size)⟩
      have HE := hZ he
      clear hb26 he H25
      try dsimp only
      go_upto_region 33 with fail
      have ha : ∀ o : Obj, Below w26.heap.size w26 (w26.alloc o) := fun o => bZ
      refine Kz0 (fun wx => Hid (wx.heap[nb]? = some (.cells #[.int .u32 noTab.g, .slice na noTab.ks.length nc, .int .i64 noTab.h, .int .i64 noTab.ty, .bool noTab.ap] 110) ∧ wx.heap[gb]? = some (.cells #[.int .u32 want.g, .slice ra want.ks.length rc, .int .i64 want.h, .int .i64 want.ty, .bool want.ap] 110) ∧ Jz4 wx ra want.ks ∧ wx.heap[wb]? = some (.cells #[.int .u32 want.g, .slice aw want.ks.length cw, .int .i64 want.h, .int .i64 want.ty, .bool want.ap] 110) ∧ Below w.heap.size w wx ∧ ErrV wx (.iface y x) 1)) (hZ ⟨((ha _).block _ (Zz0 H26.out.1)).trans H26.out.1, ((ha _).block _ (Zz0 H26.out.2.1)).trans H26.out.2.1, H26.out.2.2.1.below (ha _), ((ha _).block _ (Zz0 H26.out.2.2.2.1)).trans H26.out.2.2.2.1, H26.out.2.2.2.2.trans ((ha _).mono H26.out.2.2.2.2.size), HE.out.below (ha _)⟩) ?_
      clear ha H26 HE
      generalize w26.heap.size = fb
      intro w27 H27
      have hlw : want.ks.length ≤ 9223372036854775807 := by have := HNT.out.2; unfold maxLen at this; omega
      have HBR := hZ (fun (d : Nat) (os : Array Obj) => (Qz1 (w := w27) ⟨⟨d, os⟩, rfl⟩ : Below w27.heap.size w27 (Go.Sort.grow (redrawn w27 d) os)))
      have QN := hZ (fun (d : Nat) (os : Array Obj) => Calls.regrown_of (num11_err (.iface y x) 1 (Go.Sort.grow (redrawn w27 d) os) (H27.out.2.2.2.2.2.below (HBR.out d os)) (HET.out.below (H27.out.2.2.2.2.1.trans ((HBR.out d os).mono H27.out.2.2.2.2.1.size)) HET.out.pos)))
      have QS := hZ (fun (d : Nat) (os : Array Obj) => Calls.regrown_of (J.same_yes want ra aw rc cw (Go.Sort.grow (redrawn w27 d) os) hlw (H27.out.2.2.1.below (HBR.out d os)) (HNT.out.1.below (H27.out.2.2.2.2.1.trans ((HBR.out d os).mono H27.out.2.2.2.2.1.size)))))
      have Q0 := hZ (fun (d : Nat) (os : Array Obj) => Calls.regrown_of (J.None_any (Go.Sort.grow (redrawn w27 d) os)))
      have hsz : ∀ wx, Calls Tryz.prog 57 #[.agg #[.int .u32 noTab.g, .slice na noTab.ks.length nc, .int .i64 noTab.h, .int .i64 noTab.ty, .bool noTab.ap], .agg #[.int .u32 0, .slice none 0 0, .int .i64 (-1), .int .i64 0, .bool false]] wx fun e w' => e = .returned (.bool true) ∧ Below wx.heap.size wx w' := fun wx => J.same_yes noTab na none nc 0 wx (by decide) (Jz4.nil _ _) (Jz4.nil _ _)
      have QZ := hZ (fun (d : Nat) (os : Array Obj) => Calls.regrown_of (hsz (Go.Sort.grow (redrawn w27 d) os)))
      clear hsz
      refine wp_region_quiet_below (by kernel_rfl) (by kernel_rfl) ?_
      repeat (go_big_quiet_step (first | with_reducible exact QN.out _ _ | with_reducible exact QS.out _ _ | with_reducible exact Q0.out _ _ | with_reducible exact QZ.out _ _))
      go_big_quiet_want
      refine Jz1 110 (.tmp 15) rfl gb 0 rfl [.int .u32 want.g, .slice ra want.ks.length rc, .int .i64 want.h, .int .i64 want.ty, .bool want.ap] _ (fun wx hwx j v hv => by
        rw [cell_of_row wx gb (0 + j) _ _ (0, 0) (Wz4 H27.out.2.1 wx hwx)]
        simpa using hv) Tryz.underlying110 rfl info_tab ?_
      simp only [Act.put, qs0, qs1, qs2]
      go_big_quiet_on
      repeat (go_big_quiet_step (first | with_reducible exact QN.out _ _ | with_reducible exact QS.out _ _ | with_reducible exact Q0.out _ _ | with_reducible exact QZ.out _ _))
      go_big_quiet_want
      refine Jz1 110 (.tmp 10) rfl wb 0 rfl [.int .u32 want.g, .slice aw want.ks.length cw, .int .i64 want.h, .int .i64 want.ty, .bool want.ap] _ (fun wx hwx j v hv => by
        rw [cell_of_row wx wb (0 + j) _ _ (0, 0) (Wz4 H27.out.2.2.2.1 wx hwx)]
        simpa using hv) Tryz.underlying110 rfl info_tab ?_
      simp only [Act.put, qs0, qs1, qs2]
      go_big_quiet_on
      repeat (go_big_quiet_step (first | with_reducible exact QN.out _ _ | with_reducible exact QS.out _ _ | with_reducible exact Q0.out _ _ | with_reducible exact QZ.out _ _))
      go_big_quiet_want
      refine Jz1 110 (.tmp 16) rfl nb 0 rfl [.int .u32 noTab.g, .slice na noTab.ks.length nc, .int .i64 noTab.h, .int .i64 noTab.ty, .bool noTab.ap] _ (fun wx hwx j v hv => by
        rw [cell_of_row wx nb (0 + j) _ _ (0, 0) (Wz4 H27.out.1 wx hwx)]
        simpa using hv) Tryz.underlying110 rfl info_tab ?_
      simp only [Act.put, qs0, qs1, qs2]
      go_big_quiet_on
      repeat (go_big_quiet_step (first | with_reducible exact QN.out _ _ | with_reducible exact QS.out _ _ | with_reducible exact Q0.out _ _ | with_reducible exact QZ.out _ _))
      with_reducible refine wpQuiet_nil ?_
      intro wq hwq
      have hq := Qz1 hwq
      go_wp2_with fail
      go_ret
      exact ⟨rfl, H27.out.2.2.2.2.1.trans (hq.mono H27.out.2.2.2.2.1.size)⟩
end Go.Proofs.YtajmcplanlibnaaGreatDoor
