/- What Act of layer 10 (pers) makes of a table: preempt of a reservation. -/
import Derived.Test.YtopakonpfbbldaaW7c
import Derived.Test.YtopakonpfbbldaaW1
import Derived.Test.YtopakonpfbbldaaFnsA
namespace Go.Proofs.Ytopakonpfbbldaa
set_option linter.unusedSimpArgs false
set_option linter.unusedVariables false
open Go.RowKit

set_option maxRecDepth 100000 in
set_option maxHeartbeats 4000000 in
theorem act4_t (t : Tab) (n oty key other : Int) (oap : Bool) (aw : Option Addr) (cw : Nat) (w : World) (hlen : t.ks.length ≤ 1000000)
    (hkw : KeysIn w aw t.ks) (hnw : aw = none → cw = 0) (htk : takesF t other = true) (hty : (t.ty != 0) = true) (hkn : knownF oty = true) (hfa : forAllF t.ty = false) (hke : (other == (keyF t.ks t.h).1) = true) (ho0 : (other == 0) = false) (hr : (keyF t.ks n).2 = true) (hk : (key != (keyF t.ks n).1) = false)  :
    Calls Try.prog 16 #[.agg #[.int .u32 t.g, .slice aw t.ks.length cw, .int .i64 t.h, .int .i64 t.ty, .bool t.ap], .int .i64 n,
      .agg #[.int .i64 4, .int .i64 oty, .int .u64 key, .int .u64 other, .bool oap]] w (ActPost (actF t n 4 oty key other oap) w) := by
  have HPT := Lib.hid (And.intro htk (And.intro hty (And.intro hkn (And.intro hfa (And.intro hke ho0)))))
  clear htk hty hkn hfa hke
  have HPR : Hid (actF t n 4 oty key other oap = preemptF t n oty other) := Lib.hid (by simp [actF, hr, hk])
  have HKW := Lib.hid hkw
  have HNW := Lib.hid hnw
  clear hkw hnw
  go_enter Try.func16, Try.ntmps16
  go_wp2_with fail
  obtain ⟨b0, b1, b2, b3⟩ := heap4 w (.cells #[.int .u32 t.g, .slice aw t.ks.length cw, .int .i64 t.h, .int .i64 t.ty, .bool t.ap] 25) (.cells #[.int .i64 4, .int .i64 oty, .int .u64 key, .int .u64 other, .bool oap] 37) (.cells #[.int .u32 0, .slice none 0 0, .int .i64 0, .int .i64 0, .bool false] 25) (.cells #[.int .u32 t.g, .slice aw t.ks.length cw, .int .i64 t.h, .int .i64 t.ty, .bool t.ap] 25)
  refine (copied_any _ _ _ _ _ _ _ _ hlen HNW.out (HKW.out.below (by repeat (first | with_reducible assumption | (with_reducible refine Below.setCell ?_ (by first | omega | (simp; done) | (simp; omega)) _) | (with_reducible refine Below.alloc ?_ (by first | omega | (simp; done) | (simp; omega)) _) | (with_reducible refine Below.drew ?_) | (with_reducible refine below_dN ?_ _) | with_reducible exact Below.refl _ _ | (with_reducible refine Below.trans ?_ (Below.mono (by assumption) (by first | omega | (simp; done) | (simp; omega)))))))).mono ?_
  rintro e w1 ⟨hx, hb⟩
  obtain ⟨a1, c1, he, ho⟩ := hx
  cases he
  have hs4 := hb.size
  simp at hs4
  have c0 := (hb.block _ (by first | (simp; done) | (simp; omega))).trans b0
  have c1' := (hb.block _ (by first | (simp; done) | (simp; omega))).trans b1
  have c2 := (hb.block _ (by first | (simp; done) | (simp; omega))).trans b2
  have c3 := (hb.block _ (by first | (simp; done) | (simp; omega))).trans b3
  have hbb : Below w.heap.size w w1 := by repeat (first | with_reducible assumption | (with_reducible refine Below.setCell ?_ (by first | omega | (simp; done) | (simp; omega)) _) | (with_reducible refine Below.alloc ?_ (by first | omega | (simp; done) | (simp; omega)) _) | (with_reducible refine Below.drew ?_) | (with_reducible refine below_dN ?_ _) | with_reducible exact Below.refl _ _ | (with_reducible refine Below.trans ?_ (Below.mono (by assumption) (by first | omega | (simp; done) | (simp; omega)))))
  obtain ⟨z0, z1, z2, z3, z4, y0, y1, y2, y3, y4⟩ := blk5 c0
  go_wp2_with fail
  have hg2 : w1.grownBy (((((w1.setCell ⟨w.heap.size, 0, none⟩ (.int .u32 t.g)).setCell ⟨w.heap.size, 1, none⟩ (.slice a1 t.ks.length c1)).setCell ⟨w.heap.size, 2, none⟩ (.int .i64 t.h)).setCell ⟨w.heap.size, 3, none⟩ (.int .i64 t.ty)).setCell ⟨w.heap.size, 4, none⟩ (.bool t.ap)) (some w.heap.size) := by repeat (first | exact grown_set _ _ _ _ | (refine grown_trans ?_ (grown_set _ _ _ _)))
  have d0 : (((((w1.setCell ⟨w.heap.size, 0, none⟩ (.int .u32 t.g)).setCell ⟨w.heap.size, 1, none⟩ (.slice a1 t.ks.length c1)).setCell ⟨w.heap.size, 2, none⟩ (.int .i64 t.h)).setCell ⟨w.heap.size, 3, none⟩ (.int .i64 t.ty)).setCell ⟨w.heap.size, 4, none⟩ (.bool t.ap)).heap[w.heap.size]? = some (.cells #[.int .u32 t.g, .slice a1 t.ks.length c1, .int .i64 t.h, .int .i64 t.ty, .bool t.ap] 25) := set_blk (set_blk (set_blk (set_blk (set_blk c0 _) _) _) _) _
  generalize ((((w1.setCell ⟨w.heap.size, 0, none⟩ (.int .u32 t.g)).setCell ⟨w.heap.size, 1, none⟩ (.slice a1 t.ks.length c1)).setCell ⟨w.heap.size, 2, none⟩ (.int .i64 t.h)).setCell ⟨w.heap.size, 3, none⟩ (.int .i64 t.ty)).setCell ⟨w.heap.size, 4, none⟩ (.bool t.ap) = w2 at hg2 d0 ⊢
  simp only [World.size_alloc] at ho
  have ho2 := ho.kept hg2 (by cases hob : (Value.slice a1 t.ks.length c1).ownBlock with | none => simp | some k' => right; have := (ho.lt k' hob).1; simp; omega)
  have hs2 := hg2.size
  have hbw2 : Below w.heap.size w w2 := hbb.grown hg2 (by omega) (fun k' hk' => by cases hk'; omega)
  refine (key_any _ _ _ _ _ _ _ _ _ (by omega) (KeysIn.of_own ho2)).mono ?_
  rintro e w3 ⟨rfl, hb3⟩
  have e0 := (hb3.block _ (by omega)).trans d0
  have e1 := (hb3.block _ (by omega)).trans ((hg2.block (w.heap.size + 1) (by omega) (by first | (simp; done) | (simp; omega))).trans c1')
  have e2 := (hb3.block _ (by omega)).trans ((hg2.block (w.heap.size + 1 + 1) (by omega) (by first | (simp; done) | (simp; omega))).trans c2)
  have e3 := (hb3.block _ (by omega)).trans ((hg2.block (w.heap.size + 1 + 1 + 1) (by omega) (by first | (simp; done) | (simp; omega))).trans c3)
  have hbw : Below w.heap.size w w3 := hbw2.trans (hb3.mono (by omega))
  have ho3 := own_below ho2 hb3
  have hsz : w.heap.size + 1 + 1 + 1 < w3.heap.size := by have := hb3.size; omega
  clear c0 c1' c2 c3 d0 ho ho2 hg2 hb3 hs2 hbw2 hbb hb hs4 b0 b1 b2 b3 z0 z1 z2 z3 z4 y0 y1 y2 y3 y4
  obtain ⟨z0, z1, z2, z3, z4, y0, y1, y2, y3, y4⟩ := blk5 e0
  obtain ⟨o0, o1, o2, o3, o4, _⟩ := blk5 e1
  obtain ⟨r0, r1, r2, r3, r4, s0, s1, s2, s3, s4⟩ := blk5 e2
  obtain ⟨x0, x1, x2, x3, x4, _⟩ := blk5 e3
  have HE := Lib.hid (And.intro e0 (And.intro e1 (And.intro e2 e3)))
  have HBW := Lib.hid hbw
  have HO3 := Lib.hid ho3
  clear e0 e1 e2 e3 hbw ho3
  go_wp2_with (go_at_call 36; refine (preempt_t3 t n 4 oty key other oap _ _ _ _ _ hlen (HKW.out.below HBW.out) HNW.out (KeysIn.of_own HO3.out) HPT.out.1 HPT.out.2.1 HPT.out.2.2.1 HPT.out.2.2.2.1 HPT.out.2.2.2.2.1 HPT.out.2.2.2.2.2).mono ?_; rintro e w6 ⟨a6, c6, b6, d6, rfl, hk6, hn6, hi6, hb6⟩; have HF := Lib.hid (And.intro hk6 (And.intro hn6 (And.intro hi6 hb6))); obtain ⟨r0, r1, r2, r3, r4, s0, s1, s2, s3, s4⟩ := blk5 ((hb6.block _ (by omega)).trans HE.out.2.2.1); have HBX := Lib.hid ((hb6.block _ (by omega)).trans HE.out.2.2.1); have hz6 := hb6.size; clear hk6 hn6 hi6)
  refine bodyPost_ret (v := .tuple #[.agg #[.int .u32 ((preemptF t n oty other).1.g), .slice a6 ((preemptF t n oty other).1.ks.length) c6, .int .i64 ((preemptF t n oty other).1.h), .int .i64 ((preemptF t n oty other).1.ty), .bool ((preemptF t n oty other).1.ap)], .int .i64 (preemptF t n oty other).2.1, .slice b6 (preemptF t n oty other).2.2.length d6]) ?_ rfl ?_
  · simp only [results, Try.results16]
    go_simp
  · unfold ActPost
    rw [HPR.out]
    have hgg : (w6).grownBy _ (some (w.heap.size + 1 + 1)) := grown_trans (grown_trans (grown_trans (grown_trans (grown_set (w6) (w.heap.size + 1 + 1) 0 (.int .u32 ((preemptF t n oty other).1.g))) (grown_set _ _ 1 (.slice a6 ((preemptF t n oty other).1.ks.length) c6))) (grown_set _ _ 2 (.int .i64 ((preemptF t n oty other).1.h)))) (grown_set _ _ 3 (.int .i64 ((preemptF t n oty other).1.ty)))) (grown_set _ _ 4 (.bool ((preemptF t n oty other).1.ap)))
    refine ⟨a6, c6, b6, d6, rfl, HF.out.1.grown hgg HBX.out (by simp) (by simp) (by simp), HF.out.2.1, HF.out.2.2.1.grown hgg HBX.out (by decide), ?_⟩
    exact (HBW.out.trans (HF.out.2.2.2.mono (by omega))).grown hgg (by omega) (fun k' hk' => by cases hk'; omega)

end Go.Proofs.Ytopakonpfbbldaa
