/- What Act of layer 10 (pers) makes of a table: reserve of a free one. -/
import Derived.Test.YtopakonpfbbldaaW7a
import Derived.Test.YtopakonpfbbldaaW1
import Derived.Test.YtopakonpfbbldaaFnsA
namespace Go.Proofs.Ytopakonpfbbldaa
set_option linter.unusedSimpArgs false
set_option linter.unusedVariables false
open Go.RowKit

set_option maxRecDepth 100000 in
set_option maxHeartbeats 4000000 in
theorem act1_f (t : Tab) (n oty key other : Int) (oap : Bool) (aw : Option Addr) (cw : Nat) (w : World) (hlen : t.ks.length ≤ 1000000)
    (hkw : KeysIn w aw t.ks) (hnw : aw = none → cw = 0) (hr : (keyF t.ks n).2 = true) (hk : (key != (keyF t.ks n).1) = false) (h1 : knownF oty = true) (h2 : (t.ty == 0) = true) :
    Calls Try.prog 16 #[.agg #[.int .u32 t.g, .slice aw t.ks.length cw, .int .i64 t.h, .int .i64 t.ty, .bool t.ap], .int .i64 n,
      .agg #[.int .i64 1, .int .i64 oty, .int .u64 key, .int .u64 other, .bool oap]] w (ActPost (actF t n 1 oty key other oap) w) := by
  have HPR : Hid (actF t n 1 oty key other oap = ({ t with h := n, ty := oty }, 0, [])) := Lib.hid (by simp [actF, hr, hk, h1, h2])
  have HKW := Lib.hid hkw
  have HNW := Lib.hid hnw
  clear hkw hnw
  go_enter Try.func16, Try.ntmps16
  go_wp2_with fail
  obtain ⟨b0, b1, b2, b3⟩ := heap4 w (.cells #[.int .u32 t.g, .slice aw t.ks.length cw, .int .i64 t.h, .int .i64 t.ty, .bool t.ap] 25) (.cells #[.int .i64 1, .int .i64 oty, .int .u64 key, .int .u64 other, .bool oap] 37) (.cells #[.int .u32 0, .slice none 0 0, .int .i64 0, .int .i64 0, .bool false] 25) (.cells #[.int .u32 t.g, .slice aw t.ks.length cw, .int .i64 t.h, .int .i64 t.ty, .bool t.ap] 25)
  refine (copied_any _ _ _ _ _ _ _ _ hlen HNW.out (HKW.out.below (by repeat (first | with_reducible assumption | (with_reducible refine Below.setCell ?_ (by first | omega | (simp; done) | (simp; omega)) _) | (with_reducible refine Below.alloc ?_ (by first | omega | (simp; done) | (simp; omega)) _) | (with_reducible refine Below.drew ?_) | (with_reducible refine below_dN ?_ _) | with_reducible exact Below.refl _ _ | (with_reducible refine Below.trans ?_ (Below.mono (by assumption) (by first | omega | (simp; done) | (simp; omega)))))))).mono ?_
  rintro e w1 ⟨hx, hb⟩
  obtain ⟨a1, c1, he, ho⟩ := hx
  cases he
  have hs4 := hb.size
  simp at hs4
  have c0 := (hb.block _ (by first | (simp; done) | (simp; omega))).trans b0
  have c1' := (hb.block _ (by first | (simp; done) | (simp; omega))).trans b1
  have c2 := (hb.block _ (by first | (simp; done) | (simp; omega))).trans b2
  have c3 := (hb.block _ (by first | (simp; done) | (simp; omega))).trans b3
  have hbb : Below w.heap.size w w1 := by repeat (first | with_reducible assumption | (with_reducible refine Below.setCell ?_ (by first | omega | (simp; done) | (simp; omega)) _) | (with_reducible refine Below.alloc ?_ (by first | omega | (simp; done) | (simp; omega)) _) | (with_reducible refine Below.drew ?_) | (with_reducible refine below_dN ?_ _) | with_reducible exact Below.refl _ _ | (with_reducible refine Below.trans ?_ (Below.mono (by assumption) (by first | omega | (simp; done) | (simp; omega)))))
  obtain ⟨z0, z1, z2, z3, z4, y0, y1, y2, y3, y4⟩ := blk5 c0
  go_wp2_with fail
  have hg2 : w1.grownBy (((((w1.setCell ⟨w.heap.size, 0, none⟩ (.int .u32 t.g)).setCell ⟨w.heap.size, 1, none⟩ (.slice a1 t.ks.length c1)).setCell ⟨w.heap.size, 2, none⟩ (.int .i64 t.h)).setCell ⟨w.heap.size, 3, none⟩ (.int .i64 t.ty)).setCell ⟨w.heap.size, 4, none⟩ (.bool t.ap)) (some w.heap.size) := by repeat (first | exact grown_set _ _ _ _ | (refine grown_trans ?_ (grown_set _ _ _ _)))
  have d0 : (((((w1.setCell ⟨w.heap.size, 0, none⟩ (.int .u32 t.g)).setCell ⟨w.heap.size, 1, none⟩ (.slice a1 t.ks.length c1)).setCell ⟨w.heap.size, 2, none⟩ (.int .i64 t.h)).setCell ⟨w.heap.size, 3, none⟩ (.int .i64 t.ty)).setCell ⟨w.heap.size, 4, none⟩ (.bool t.ap)).heap[w.heap.size]? = some (.cells #[.int .u32 t.g, .slice a1 t.ks.length c1, .int .i64 t.h, .int .i64 t.ty, .bool t.ap] 25) := set_blk (set_blk (set_blk (set_blk (set_blk c0 _) _) _) _) _
  generalize ((((w1.setCell ⟨w.heap.size, 0, none⟩ (.int .u32 t.g)).setCell ⟨w.heap.size, 1, none⟩ (.slice a1 t.ks.length c1)).setCell ⟨w.heap.size, 2, none⟩ (.int .i64 t.h)).setCell ⟨w.heap.size, 3, none⟩ (.int .i64 t.ty)).setCell ⟨w.heap.size, 4, none⟩ (.bool t.ap) = w2 at hg2 d0 ⊢
  simp only [World.size_alloc] at ho
  have ho2 := ho.kept hg2 (by cases hob : (Value.slice a1 t.ks.length c1).ownBlock with | none => simp | some k' => right; have := (ho.lt k' hob).1; simp; omega)
  have hs2 := hg2.size
  have hbw2 : Below w.heap.size w w2 := hbb.grown hg2 (by omega) (fun k' hk' => by cases hk'; omega)
  refine (key_any _ _ _ _ _ _ _ _ _ (by omega) (KeysIn.of_own ho2)).mono ?_
  rintro e w3 ⟨rfl, hb3⟩
  have e0 := (hb3.block _ (by omega)).trans d0
  have e1 := (hb3.block _ (by omega)).trans ((hg2.block (w.heap.size + 1) (by omega) (by first | (simp; done) | (simp; omega))).trans c1')
  have e2 := (hb3.block _ (by omega)).trans ((hg2.block (w.heap.size + 1 + 1) (by omega) (by first | (simp; done) | (simp; omega))).trans c2)
  have e3 := (hb3.block _ (by omega)).trans ((hg2.block (w.heap.size + 1 + 1 + 1) (by omega) (by first | (simp; done) | (simp; omega))).trans c3)
  have hbw : Below w.heap.size w w3 := hbw2.trans (hb3.mono (by omega))
  have ho3 := own_below ho2 hb3
  have hsz : w.heap.size + 1 + 1 + 1 < w3.heap.size := by have := hb3.size; omega
  clear c0 c1' c2 c3 d0 ho ho2 hg2 hb3 hs2 hbw2 hbb hb hs4 b0 b1 b2 b3 z0 z1 z2 z3 z4 y0 y1 y2 y3 y4
  obtain ⟨z0, z1, z2, z3, z4, y0, y1, y2, y3, y4⟩ := blk5 e0
  obtain ⟨o0, o1, o2, o3, o4, _⟩ := blk5 e1
  obtain ⟨r0, r1, r2, r3, r4, s0, s1, s2, s3, s4⟩ := blk5 e2
  obtain ⟨x0, x1, x2, x3, x4, _⟩ := blk5 e3
  have HE := Lib.hid (And.intro e0 (And.intro e1 (And.intro e2 e3)))
  have HBW := Lib.hid hbw
  have HO3 := Lib.hid ho3
  clear e0 e1 e2 e3 hbw ho3
  have HOF := HO3
  go_wp2_with (go_at_call 31; refine (known_any _ _).mono ?_; rintro e w5 ⟨rfl, rfl⟩)
  have k1 := cellB (R := w.heap.size) o1 (by first | (simp; done) | (simp; omega))
  have hR : w.heap.size < w3.heap.size := by omega
  refine wp_region_mix [(0, true), (1, true), (2, true), (3, true), (4, false), (5, true), (6, false)] 6 (fun w' => ∃ p : RegrownB, w' = setO (Go.Sort.grow (redrawn w3 p.d) p.os) (w.heap.size) p.o) (by kernel_rfl) (by kernel_rfl) (fun _ _ d _ _ h => by cases d <;> exact h) (growsB_drew hR) ?_
  (repeat (refine mix_q ?_; simp only [List.drop_succ_cons, List.drop_zero, List.take_succ_cons, List.take_zero]; go_big_quiet_step (fail); refine wpQuiet_nil ?_))
  refine mix_a ?_; simp only [List.drop_succ_cons, List.drop_zero, List.take_succ_cons, List.take_zero]
  go_wp2_with fail
  refine mixQ_normal ⟨fun _ => growsB_of hR (grown_trans (grown_drew _ _) (grown_set _ _ _ _)), ?_⟩
  (repeat (refine mix_q ?_; simp only [List.drop_succ_cons, List.drop_zero, List.take_succ_cons, List.take_zero]; go_big_quiet_step (fail); refine wpQuiet_nil ?_))
  refine mix_a ?_; simp only [List.drop_succ_cons, List.drop_zero, List.take_succ_cons, List.take_zero]
  go_wp2_with fail
  refine mixQ_normal ⟨fun h => absurd h (by simp), mix_nil ?_⟩
  have hb3 : ((w3.setCell ⟨w.heap.size, 2, none⟩ (.int .i64 n)).setCell ⟨w.heap.size, 3, none⟩ (.int .i64 oty)).drew.heap[w.heap.size]? = some (.cells #[.int .u32 t.g, .slice a1 t.ks.length c1, .int .i64 n, .int .i64 oty, .bool t.ap] 25) := set_blk (set_blk HE.out.1 _) _
  have hg3 : w3.grownBy ((w3.setCell ⟨w.heap.size, 2, none⟩ (.int .i64 n)).setCell ⟨w.heap.size, 3, none⟩ (.int .i64 oty)).drew (some (w.heap.size)) := grown_trans (grown_trans (grown_set _ _ _ _) (grown_set _ _ _ _)) (grown_drew _ _)
  have hbw4 : Below w.heap.size w ((w3.setCell ⟨w.heap.size, 2, none⟩ (.int .i64 n)).setCell ⟨w.heap.size, 3, none⟩ (.int .i64 oty)).drew := HBW.out.grown hg3 (by omega) (fun k' hk' => by cases hk'; omega)
  have ho4 := HO3.out.kept hg3 (by cases hob : (Value.slice a1 t.ks.length c1).ownBlock with | none => simp | some k' => right; have := (HO3.out.lt k' hob).1; simp; omega)
  have c2 := (hg3.block (w.heap.size + 1 + 1) (by omega) (by first | (simp; done) | (simp; omega))).trans HE.out.2.2.1
  clear k1 z0 z1 z2 z3 z4 y0 y1 y2 y3 y4 o0 o1 o2 o3 o4 r0 r1 r2 r3 r4 s0 s1 s2 s3 s4 x0 x1 x2 x3 x4 HE HO3 HOF
  have hsz4 : w.heap.size + 1 + 1 + 1 < ((w3.setCell ⟨w.heap.size, 2, none⟩ (.int .i64 n)).setCell ⟨w.heap.size, 3, none⟩ (.int .i64 oty)).drew.heap.size := Nat.lt_of_lt_of_le hsz hg3.size
  generalize ((w3.setCell ⟨w.heap.size, 2, none⟩ (.int .i64 n)).setCell ⟨w.heap.size, 3, none⟩ (.int .i64 oty)).drew = w4 at hb3 hbw4 ho4 c2 hsz4 ⊢
  clear hg3 HBW hR
  obtain ⟨z0, z1, z2, z3, z4, _⟩ := blk5 hb3
  obtain ⟨r0, r1, r2, r3, r4, s0, s1, s2, s3, s4⟩ := blk5 c2
  have HBW := Lib.hid hbw4
  have HO3 := Lib.hid ho4
  have HOF := HO3
  clear hbw4 ho4
  go_wp2
  refine bodyPost_ret (v := .tuple #[.agg #[.int .u32 (t.g), .slice a1 t.ks.length c1, .int .i64 (n), .int .i64 (oty), .bool t.ap], .int .i64 0, .slice none 0 0]) ?_ rfl ?_
  · simp only [results, Try.results16]
    go_simp
  · unfold ActPost
    rw [HPR.out]
    have hbw := HBW.out
    have hgg : (w4).grownBy _ (some (w.heap.size + 1 + 1)) := grown_trans (grown_trans (grown_trans (grown_trans (grown_set (w4) (w.heap.size + 1 + 1) 0 (.int .u32 (t.g))) (grown_set _ _ 1 (.slice a1 t.ks.length c1))) (grown_set _ _ 2 (.int .i64 (n)))) (grown_set _ _ 3 (.int .i64 (oty)))) (grown_set _ _ 4 (.bool t.ap))
    have hown := (HOF.out).kept hgg (by cases hob : (Value.slice a1 t.ks.length c1).ownBlock with | none => simp | some k' => right; have := (HO3.out.lt k' hob).1; simp; omega)
    refine ⟨a1, c1, none, 0, rfl, KeysIn.of_own hown, own_none hown, IntsIn.nil _ _, ?_⟩
    all_goals repeat (first | with_reducible assumption | (with_reducible refine Below.setCell ?_ (by first | omega | (simp; done) | (simp; omega)) _) | (with_reducible refine Below.alloc ?_ (by first | omega | (simp; done) | (simp; omega)) _) | (with_reducible refine Below.drew ?_) | (with_reducible refine below_dN ?_ _) | with_reducible exact Below.refl _ _ | (with_reducible refine Below.trans ?_ (Below.mono (by assumption) (by first | omega | (simp; done) | (simp; omega)))))

end Go.Proofs.Ytopakonpfbbldaa
