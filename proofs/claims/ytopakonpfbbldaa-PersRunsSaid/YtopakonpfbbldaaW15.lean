/- What Act of layer 10 (pers) makes of a table: clear. -/
import Derived.Test.YtopakonpfbbldaaW7a
import Derived.Test.YtopakonpfbbldaaW1
import Derived.Test.YtopakonpfbbldaaFnsA
namespace Go.Proofs.Ytopakonpfbbldaa
set_option linter.unusedSimpArgs false
set_option linter.unusedVariables false
open Go.RowKit

set_option maxRecDepth 100000 in
set_option maxHeartbeats 4000000 in
theorem act3 (t : Tab) (n oty key other : Int) (oap : Bool) (aw : Option Addr) (cw : Nat) (w : World) (hlen : t.ks.length ≤ 1000000)
    (hkw : KeysIn w aw t.ks) (hnw : aw = none → cw = 0) (hr : (keyF t.ks n).2 = true) (hk : (key != (keyF t.ks n).1) = false)  :
    Calls Try.prog 16 #[.agg #[.int .u32 t.g, .slice aw t.ks.length cw, .int .i64 t.h, .int .i64 t.ty, .bool t.ap], .int .i64 n,
      .agg #[.int .i64 3, .int .i64 oty, .int .u64 key, .int .u64 other, .bool oap]] w (ActPost (actF t n 3 oty key other oap) w) := by
  have HPR : Hid (actF t n 3 oty key other oap = ({ t with g := u32 (t.g + 1), ks := [], h := (withF [] t.h t.ty).1, ty := (withF [] t.h t.ty).2 }, 0, othersF (t.ks.map (·.1)) n)) := Lib.hid (by simp [actF, hr, hk])
  have HKW := Lib.hid hkw
  have HNW := Lib.hid hnw
  clear hkw hnw
  go_enter Try.func16, Try.ntmps16
  go_wp2_with fail
  obtain ⟨b0, b1, b2, b3⟩ := heap4 w (.cells #[.int .u32 t.g, .slice aw t.ks.length cw, .int .i64 t.h, .int .i64 t.ty, .bool t.ap] 25) (.cells #[.int .i64 3, .int .i64 oty, .int .u64 key, .int .u64 other, .bool oap] 37) (.cells #[.int .u32 0, .slice none 0 0, .int .i64 0, .int .i64 0, .bool false] 25) (.cells #[.int .u32 t.g, .slice aw t.ks.length cw, .int .i64 t.h, .int .i64 t.ty, .bool t.ap] 25)
  refine (copied_any _ _ _ _ _ _ _ _ hlen HNW.out (HKW.out.below (by repeat (first | with_reducible assumption | (with_reducible refine Below.setCell ?_ (by first | omega | (simp; done) | (simp; omega)) _) | (with_reducible refine Below.alloc ?_ (by first | omega | (simp; done) | (simp; omega)) _) | (with_reducible refine Below.drew ?_) | (with_reducible refine below_dN ?_ _) | with_reducible exact Below.refl _ _ | (with_reducible refine Below.trans ?_ (Below.mono (by assumption) (by first | omega | (simp; done) | (simp; omega)))))))).mono ?_
  rintro e w1 ⟨hx, hb⟩
  obtain ⟨a1, c1, he, ho⟩ := hx
  cases he
  have hs4 := hb.size
  simp at hs4
  have c0 := (hb.block _ (by first | (simp; done) | (simp; omega))).trans b0
  have c1' := (hb.block _ (by first | (simp; done) | (simp; omega))).trans b1
  have c2 := (hb.block _ (by first | (simp; done) | (simp; omega))).trans b2
  have c3 := (hb.block _ (by first | (simp; done) | (simp; omega))).trans b3
  have hbb : Below w.heap.size w w1 := by repeat (first | with_reducible assumption | (with_reducible refine Below.setCell ?_ (by first | omega | (simp; done) | (simp; omega)) _) | (with_reducible refine Below.alloc ?_ (by first | omega | (simp; done) | (simp; omega)) _) | (with_reducible refine Below.drew ?_) | (with_reducible refine below_dN ?_ _) | with_reducible exact Below.refl _ _ | (with_reducible refine Below.trans ?_ (Below.mono (by assumption) (by first | omega | (simp; done) | (simp; omega)))))
  obtain ⟨z0, z1, z2, z3, z4, y0, y1, y2, y3, y4⟩ := blk5 c0
  go_wp2_with fail
  have hg2 : w1.grownBy (((((w1.setCell ⟨w.heap.size, 0, none⟩ (.int .u32 t.g)).setCell ⟨w.heap.size, 1, none⟩ (.slice a1 t.ks.length c1)).setCell ⟨w.heap.size, 2, none⟩ (.int .i64 t.h)).setCell ⟨w.heap.size, 3, none⟩ (.int .i64 t.ty)).setCell ⟨w.heap.size, 4, none⟩ (.bool t.ap)) (some w.heap.size) := by repeat (first | exact grown_set _ _ _ _ | (refine grown_trans ?_ (grown_set _ _ _ _)))
  have d0 : (((((w1.setCell ⟨w.heap.size, 0, none⟩ (.int .u32 t.g)).setCell ⟨w.heap.size, 1, none⟩ (.slice a1 t.ks.length c1)).setCell ⟨w.heap.size, 2, none⟩ (.int .i64 t.h)).setCell ⟨w.heap.size, 3, none⟩ (.int .i64 t.ty)).setCell ⟨w.heap.size, 4, none⟩ (.bool t.ap)).heap[w.heap.size]? = some (.cells #[.int .u32 t.g, .slice a1 t.ks.length c1, .int .i64 t.h, .int .i64 t.ty, .bool t.ap] 25) := set_blk (set_blk (set_blk (set_blk (set_blk c0 _) _) _) _) _
  generalize ((((w1.setCell ⟨w.heap.size, 0, none⟩ (.int .u32 t.g)).setCell ⟨w.heap.size, 1, none⟩ (.slice a1 t.ks.length c1)).setCell ⟨w.heap.size, 2, none⟩ (.int .i64 t.h)).setCell ⟨w.heap.size, 3, none⟩ (.int .i64 t.ty)).setCell ⟨w.heap.size, 4, none⟩ (.bool t.ap) = w2 at hg2 d0 ⊢
  simp only [World.size_alloc] at ho
  have ho2 := ho.kept hg2 (by cases hob : (Value.slice a1 t.ks.length c1).ownBlock with | none => simp | some k' => right; have := (ho.lt k' hob).1; simp; omega)
  have hs2 := hg2.size
  have hbw2 : Below w.heap.size w w2 := hbb.grown hg2 (by omega) (fun k' hk' => by cases hk'; omega)
  refine (key_any _ _ _ _ _ _ _ _ _ (by omega) (KeysIn.of_own ho2)).mono ?_
  rintro e w3 ⟨rfl, hb3⟩
  have e0 := (hb3.block _ (by omega)).trans d0
  have e1 := (hb3.block _ (by omega)).trans ((hg2.block (w.heap.size + 1) (by omega) (by first | (simp; done) | (simp; omega))).trans c1')
  have e2 := (hb3.block _ (by omega)).trans ((hg2.block (w.heap.size + 1 + 1) (by omega) (by first | (simp; done) | (simp; omega))).trans c2)
  have e3 := (hb3.block _ (by omega)).trans ((hg2.block (w.heap.size + 1 + 1 + 1) (by omega) (by first | (simp; done) | (simp; omega))).trans c3)
  have hbw : Below w.heap.size w w3 := hbw2.trans (hb3.mono (by omega))
  have ho3 := own_below ho2 hb3
  have hsz : w.heap.size + 1 + 1 + 1 < w3.heap.size := by have := hb3.size; omega
  clear c0 c1' c2 c3 d0 ho ho2 hg2 hb3 hs2 hbw2 hbb hb hs4 b0 b1 b2 b3 z0 z1 z2 z3 z4 y0 y1 y2 y3 y4
  obtain ⟨z0, z1, z2, z3, z4, y0, y1, y2, y3, y4⟩ := blk5 e0
  obtain ⟨o0, o1, o2, o3, o4, _⟩ := blk5 e1
  obtain ⟨r0, r1, r2, r3, r4, s0, s1, s2, s3, s4⟩ := blk5 e2
  obtain ⟨x0, x1, x2, x3, x4, _⟩ := blk5 e3
  have HE := Lib.hid (And.intro e0 (And.intro e1 (And.intro e2 e3)))
  have HBW := Lib.hid hbw
  have HO3 := Lib.hid ho3
  clear e0 e1 e2 e3 hbw ho3
  have HF1 : Hid (t.ks.filter (fun _ => true) = t.ks) := Lib.hid (by simp)
  have HF2 : Hid (t.ks.filter (fun r => !(fun _ : Int × Int => true) r) = []) := Lib.hid (by simp)
  go_wp2_with (go_at_call 33; refine (without_any w.heap.size _ _ _ _ _ _ _ _ _ _ _ hlen HE.out.1 (KeysIn.of_own HO3.out) (says_all _)).mono ?_; rintro e w6 hw6; obtain ⟨v, a6, c6, rfl, hgone, hblk, hks, hgr⟩ := hw6; rw [HF2.out] at hblk hks; rw [HF1.out] at hgone; obtain ⟨h6, hh6⟩ : ∃ x, x = (withF [] t.h t.ty).1 := ⟨_, rfl⟩; obtain ⟨ty6, hty6⟩ : ∃ x, x = (withF [] t.h t.ty).2 := ⟨_, rfl⟩; rw [← hh6, ← hty6] at hblk; simp only [List.length_nil] at hblk hks; obtain ⟨z0, z1, z2, z3, z4, y0, y1, y2, y3, y4⟩ := blk5 hblk; have HBK := Lib.hid hblk; have HKS := Lib.hid hks; have HGN := Lib.hid hgone; have HGR := Lib.hid hgr; have HWF := Lib.hid (And.intro hh6 hty6); have hz6 := hgr.size; clear hblk hks hgone hgr hh6 hty6)
  have hb4 := set_blk (i := 0) HBK.out (.int .u32 ((t.g + 1) % 4294967296))
  have hg4 := grown_set w6 w.heap.size 0 (.int .u32 ((t.g + 1) % 4294967296))
  simp only [List.setIfInBounds_toArray, List.set_cons_zero] at hb4
  generalize w6.setCell ⟨w.heap.size, 0, none⟩ (.int .u32 ((t.g + 1) % 4294967296)) = w4 at hb4 hg4 ⊢
  clear z0 z1 z2 z3 z4 y0 y1 y2 y3 y4 o0 o1 o2 o3 o4 r0 r1 r2 r3 r4 s0 s1 s2 s3 s4 x0 x1 x2 x3 x4
  obtain ⟨z0, z1, z2, z3, z4, _⟩ := blk5 hb4
  have hne : ∀ (vv : Value) (e s m : Nat) (xs : List Value), w6.ownsRow w3.heap.size e s vv m xs → w4.ownsRow w3.heap.size e s vv m xs := fun vv e s m xs ho => ho.kept hg4 (by cases hob : vv.ownBlock with | none => simp | some k' => right; have := (ho.lt k' hob).1; simp; omega)
  have ho5 := hne _ _ _ _ _ HKS.out
  have ho6 := hne _ _ _ _ _ HGN.out
  have hsz4 := hg4.size
  have g4 := (hg4.block (w.heap.size + 1 + 1) (by omega) (by first | (simp; done) | (simp; omega))).trans ((HGR.out.block (w.heap.size + 1 + 1) (by omega) (by first | (simp; done) | (simp; omega))).trans HE.out.2.2.1)
  generalize hgo : t.ks.map (·.1) = go at *
  have hgl : go.length = t.ks.length := by rw [← hgo]; simp
  have hmap : t.ks.map (fun r => Value.int .i64 r.1) = go.map (Value.int .i64) := by rw [← hgo]; simp
  rw [hmap, ← hgl] at ho6
  have hlg : go.length ≤ 1000000 := by omega
  obtain ⟨gb, gc, hv⟩ := own_slice ho6
  rw [hv] at ho6 ⊢
  have HIG := Lib.hid (IntsIn.of_own ho6)
  have m0 := cellB (R := w.heap.size + 1 + 1) z0 (by first | (simp; done) | (simp; omega))
  have m1 := cellB (R := w.heap.size + 1 + 1) z1 (by first | (simp; done) | (simp; omega))
  have m2 := cellB (R := w.heap.size + 1 + 1) z2 (by first | (simp; done) | (simp; omega))
  have m3 := cellB (R := w.heap.size + 1 + 1) z3 (by first | (simp; done) | (simp; omega))
  have m4 := cellB (R := w.heap.size + 1 + 1) z4 (by first | (simp; done) | (simp; omega))
  have HO5 := Lib.hid ho5
  have HG4 := Lib.hid g4
  have HGG := Lib.hid hg4
  have hR4 : w.heap.size + 1 + 1 < w4.heap.size := by omega
  clear hgo hgl hmap hv ho5 ho6 hne g4 z0 z1 z2 z3 z4 hb4 HBK HKS HGN hg4
  refine wp_region_mix [(0, true), (1, true), (2, true), (3, false), (4, false), (5, true), (6, true)] 1000 (fun w' => ∃ p : RegrownB, w' = setO (Go.Sort.grow (redrawn w4 p.d) p.os) (w.heap.size + 1 + 1) p.o) (by kernel_rfl) (by kernel_rfl) (fun _ _ d _ _ h => by cases d <;> exact h) (growsB_drew hR4) ?_
  (repeat (refine mix_q ?_; simp only [List.drop_succ_cons, List.drop_zero, List.take_succ_cons, List.take_zero]; go_big_quiet_step (fail); refine wpQuiet_nil ?_))
  refine mix_a ?_; simp only [List.drop_succ_cons, List.drop_zero, List.take_succ_cons, List.take_zero]
  go_wp2_with (go_at_call 35; refine (others_any go gb gc n _ hlg (HIG.out.below (by repeat (first | with_reducible assumption | (with_reducible refine Below.setCell ?_ (by first | omega | (simp; done) | (simp; omega)) _) | (with_reducible refine Below.alloc ?_ (by first | omega | (simp; done) | (simp; omega)) _) | (with_reducible refine Below.drew ?_) | (with_reducible refine below_dN ?_ _) | with_reducible exact Below.refl _ _ | (with_reducible refine Below.trans ?_ (Below.mono (by assumption) (by first | omega | (simp; done) | (simp; omega)))))))).mono ?_; rintro e w5 ⟨hv5, hb5⟩; obtain ⟨v5, he5, ho7⟩ := hv5; cases he5)
  have hb45 : Below w4.heap.size w4 w5 := by repeat (first | with_reducible assumption | (with_reducible refine Below.setCell ?_ (by first | omega | (simp; done) | (simp; omega)) _) | (with_reducible refine Below.alloc ?_ (by first | omega | (simp; done) | (simp; omega)) _) | (with_reducible refine Below.drew ?_) | (with_reducible refine below_dN ?_ _) | with_reducible exact Below.refl _ _ | (with_reducible refine Below.trans ?_ (Below.mono (by assumption) (by first | omega | (simp; done) | (simp; omega)))))
  refine mixQ_normal ⟨fun _ => growsB_of hR4 (grown_of_below hb45 _), ?_⟩
  refine mix_a ?_; simp only [List.drop_succ_cons, List.drop_zero, List.take_succ_cons, List.take_zero]
  obtain ⟨r0, r1, r2, r3, r4, s0, s1, s2, s3, s4⟩ := blk5 ((hb45.block _ hR4).trans HG4.out)
  go_wp2_with fail
  refine mixQ_normal ⟨fun _ => growsB_of hR4 (grown_trans (grown_of_below hb45 _) (by repeat (first | exact grown_set _ _ _ _ | (refine grown_trans ?_ (grown_set _ _ _ _))))), ?_⟩
  (repeat (refine mix_q ?_; simp only [List.drop_succ_cons, List.drop_zero, List.take_succ_cons, List.take_zero]; go_big_quiet_step (fail); refine wpQuiet_nil ?_))
  refine mix_nil ?_
  go_wp2
  obtain ⟨b7, c7, hv7⟩ := own_slice ho7
  rw [hv7] at ho7 ⊢
  have HG5 : w5.grownBy _ (some (w.heap.size + 1 + 1)) := grown_trans (grown_trans (grown_trans (grown_trans (grown_set w5 (w.heap.size + 1 + 1) 0 (.int .u32 ((t.g + 1) % 4294967296))) (grown_set _ _ 1 (.slice a6 0 c6))) (grown_set _ _ 2 (.int .i64 h6))) (grown_set _ _ 3 (.int .i64 ty6))) (grown_set _ _ 4 (.bool t.ap))
  have hown5 := (own_below HO5.out hb45).kept HG5 (by cases hob : (Value.slice a6 0 c6).ownBlock with | none => simp | some k' => right; have := (HO5.out.lt k' hob).1; simp; omega)
  have hz5 := hb45.size
  have hown7 := ho7.kept HG5 (by cases hob : (Value.slice b7 (othersF go n).length c7).ownBlock with | none => simp | some k' => right; have := (ho7.lt k' hob).1; simp at this ⊢; omega)
  have hfin := (((HBW.out.grown HGR.out (by omega) (fun k' hk' => by cases hk'; omega)).grown HGG.out (by have := HGR.out.size; omega) (fun k' hk' => by cases hk'; omega)).trans (hb45.mono (by omega))).grown HG5 (by omega) (fun k' hk' => by cases hk'; omega)
  refine bodyPost_ret (v := .tuple #[.agg #[.int .u32 ((t.g + 1) % 4294967296), .slice a6 0 c6, .int .i64 h6, .int .i64 ty6, .bool t.ap], .int .i64 0, .slice b7 (othersF go n).length c7]) ?_ rfl ?_
  · clear hown5 hown7 hfin HG5 ho7 hb45 hb5
    simp only [results, Try.results16]
    go_simp
  · unfold ActPost
    rw [HPR.out, ← HWF.out.1, ← HWF.out.2]
    exact ⟨a6, c6, b7, c7, rfl, KeysIn.nil _ _, own_none hown5, IntsIn.of_own hown7, hfin⟩
  

end Go.Proofs.Ytopakonpfbbldaa
