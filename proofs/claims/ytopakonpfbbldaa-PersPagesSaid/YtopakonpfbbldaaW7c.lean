/- What preempt of layer 10 (pers) makes of a table, of which another key's reservation is taken. -/
import Derived.Test.YtopakonpfbbldaaW7a
namespace Go.Proofs.Ytopakonpfbbldaa
set_option linter.unusedSimpArgs false
set_option linter.unusedVariables false
open Go.RowKit

set_option maxRecDepth 100000 in
set_option maxHeartbeats 4000000 in
theorem preempt_t3 (t : Tab) (n ac oty key other : Int) (oap : Bool) (aw aT : Option Addr) (cw cT : Nat) (w : World) (hlen : t.ks.length ≤ 1000000)
    (hkw : KeysIn w aw t.ks) (hnw : aw = none → cw = 0) (hkT : KeysIn w aT t.ks) (hc : takesF t other = true) (h1 : (t.ty != 0) = true) (h4 : knownF oty = true)
    (h2 : forAllF t.ty = false) (h5 : (other == (keyF t.ks t.h).1) = true) (h3 : (other == 0) = false) :
    Calls Try.prog 36 #[.agg #[.int .u32 t.g, .slice aw t.ks.length cw, .int .i64 t.h, .int .i64 t.ty, .bool t.ap], .agg #[.int .u32 t.g, .slice aT t.ks.length cT, .int .i64 t.h, .int .i64 t.ty, .bool t.ap], .int .i64 n,
      .agg #[.int .i64 ac, .int .i64 oty, .int .u64 key, .int .u64 other, .bool oap]] w (ActPost (preemptF t n oty other) w) := by
  have HKW := Lib.hid hkw
  have HKT := Lib.hid hkT
  have HNW := Lib.hid hnw
  have HC := Lib.hid hc
  clear hkw hkT hnw hc
  all_goals
    go_enter Try.func36, Try.ntmps36
    go_wp2_with (first | (go_at_call 27; (refine (key_any _ _ _ _ _ _ _ _ _ (by omega) (HKT.out.below (by repeat (first | with_reducible assumption | (with_reducible refine Below.setCell ?_ (by first | omega | (simp; done) | (simp; omega)) _) | (with_reducible refine Below.alloc ?_ (by first | omega | (simp; done) | (simp; omega)) _) | (with_reducible refine Below.drew ?_) | (with_reducible refine below_dN ?_ _) | with_reducible exact Below.refl _ _ | (with_reducible refine Below.trans ?_ (Below.mono (by assumption) (by first | omega | (simp; done) | (simp; omega)))))))).mono ?_; rintro e w1 ⟨rfl, hb⟩; obtain ⟨hc, hf, hz⟩ := bcell hb; have hs5 := hb.size; simp at hs5; have l0 : w.heap.size < w1.heap.size := (by omega); have l1 : w.heap.size + 1 < w1.heap.size := (by omega); have l2 : w.heap.size + 1 + 1 < w1.heap.size := (by omega); have l3 : w.heap.size + 1 + 1 + 1 < w1.heap.size := (by omega); have l4 : w.heap.size + 1 + 1 + 1 + 1 < w1.heap.size := (by omega); clear hz hs5)) | (go_at_call 28; (refine (forAll_any _ _).mono ?_; rintro e w2 ⟨rfl, rfl⟩)) | (go_at_call 31; (refine (known_any _ _).mono ?_; rintro e w2 ⟨rfl, rfl⟩)))
    obtain ⟨b0, b1, b2, b3, b4⟩ := heap5 w (.cells #[.int .u32 t.g, .slice aw t.ks.length cw, .int .i64 t.h, .int .i64 t.ty, .bool t.ap] 25) (.cells #[.int .u32 t.g, .slice aT t.ks.length cT, .int .i64 t.h, .int .i64 t.ty, .bool t.ap] 25) (.cells #[.int .i64 n] 3) (.cells #[.int .i64 ac, .int .i64 oty, .int .u64 key, .int .u64 other, .bool oap] 37) (.cells #[.int .u32 0, .slice none 0 0, .int .i64 0, .int .i64 0, .bool false] 25)
    have c0 := (heap_alloc_old w1 (.cells #[.bool true] 4) l0).trans ((hb.block _ (by first | (simp; done) | (simp; omega))).trans b0)
    have c1 := (heap_alloc_old w1 (.cells #[.bool true] 4) l1).trans ((hb.block _ (by first | (simp; done) | (simp; omega))).trans b1)
    have c2 := (heap_alloc_old w1 (.cells #[.bool true] 4) l2).trans ((hb.block _ (by first | (simp; done) | (simp; omega))).trans b2)
    have c3 := (heap_alloc_old w1 (.cells #[.bool true] 4) l3).trans ((hb.block _ (by first | (simp; done) | (simp; omega))).trans b3)
    have c4 := (heap_alloc_old w1 (.cells #[.bool true] 4) l4).trans ((hb.block _ (by simp)).trans b4)
    have c5 := heap_alloc_new w1 (.cells #[.bool true] 4)
    have hbb : Below w.heap.size w (w1.alloc (.cells #[.bool true] 4)) := by repeat (first | with_reducible assumption | (with_reducible refine Below.setCell ?_ (by first | omega | (simp; done) | (simp; omega)) _) | (with_reducible refine Below.alloc ?_ (by first | omega | (simp; done) | (simp; omega)) _) | (with_reducible refine Below.drew ?_) | (with_reducible refine below_dN ?_ _) | with_reducible exact Below.refl _ _ | (with_reducible refine Below.trans ?_ (Below.mono (by assumption) (by first | omega | (simp; done) | (simp; omega)))))
    have HKW0 := Lib.hid (HKW.out.below hbb)
    have HKT0 := Lib.hid (HKT.out.below hbb)
    clear b0 b1 b2 b3 b4 hc hf hb
    have hl0 : w1.heap.size < (w1.alloc (.cells #[.bool true] 4)).heap.size := by simp
    generalize w1.heap.size = B14 at *
    generalize w1.alloc (.cells #[.bool true] 4) = W0 at *
    go_loopw [16, 74] (fun s i wr => ∃ k : Nat, k ≤ t.ks.length ∧ i = .int .i64 k ∧ s = .bool ((t.ks.take k).any (namedF true other n)) ∧ Below W0.heap.size W0 wr) (fun _ i _ => t.ks.length - (intOf i).toNat)
    case atStart => exact ⟨0, Nat.zero_le _, rfl, rfl, Below.refl _ _⟩
    case round =>
      obtain ⟨k, hk, rfl, rfl, hbel⟩ := hrel
      have hbs := hbel.size
      have d2 := (hbel.block _ (Nat.lt_of_lt_of_le l2 (Nat.le_of_lt hl0))).trans c2
      have d3 := (hbel.block _ (Nat.lt_of_lt_of_le l3 (Nat.le_of_lt hl0))).trans c3
      have d5 := (hbel.block _ hl0).trans c5
      by_cases hlt : k < t.ks.length
      · obtain ⟨b, off, rfl, hb, e1, e2⟩ := HKT0.out k hlt
        have x1 := (hbel.cell (p := ⟨b, off + k * 2, none⟩) hb).trans e1
        have x2 := (hbel.cell (p := ⟨b, off + k * 2 + 1, none⟩) hb).trans e2
        have hts : t.ks.take (k + 1) = t.ks.take k ++ [t.ks[k]] := List.take_succ_eq_append_getElem hlt
        have HTS : Hid ((t.ks.take (k + 1)).any (namedF true other n) = ((t.ks.take k).any (namedF true other n) || namedF true other n t.ks[k])) := Lib.hid (by rw [hts]; exact any_snoc _ _ _)
        clear hts e1 e2
        cases q : (t.ks.take k).any (namedF true other n)
        · have HQ := Lib.hid q
          clear q
          have hT : wr.cell? ⟨B14, 0, none⟩ = some (.bool true) := by simp [World.cell?, d5]
          have hN : wr.cell? ⟨w.heap.size + 1 + 1, 0, none⟩ = some (.int .i64 n) := by simp [World.cell?, d2]
          have hs := fun (w1 : World) (hb : Below wr.heap.size wr w1) => (says_named wr B14 (w.heap.size + 1 + 1 + 1) (w.heap.size + 1 + 1) true ac oty key other n oap hT hN d3).2 t.ks[k] w1 hb
          simp only [List.append_toArray, List.cons_append, List.nil_append] at hs
          have HSY := Lib.hid hs
          clear hs hT hN
          go_wp2_with fail
          refine (HSY.out _ (by repeat (first | with_reducible assumption | (with_reducible refine Below.setCell ?_ (by first | omega | (simp; done) | (simp; omega)) _) | (with_reducible refine Below.alloc ?_ (by first | omega | (simp; done) | (simp; omega)) _) | (with_reducible refine Below.drew ?_) | (with_reducible refine below_dN ?_ _) | with_reducible exact Below.refl _ _ | (with_reducible refine Below.trans ?_ (Below.mono (by assumption) (by first | omega | (simp; done) | (simp; omega))))))).mono ?_
          rintro e w2 ⟨rfl, hb2⟩
          go_wp2
          go_roundw
          case rel => exact ⟨k + 1, by omega, by go_num, by rw [HTS.out, HQ.out]; rfl, by repeat (first | with_reducible assumption | (with_reducible refine Below.setCell ?_ (by first | omega | (simp; done) | (simp; omega)) _) | (with_reducible refine Below.alloc ?_ (by first | omega | (simp; done) | (simp; omega)) _) | (with_reducible refine Below.drew ?_) | (with_reducible refine below_dN ?_ _) | with_reducible exact Below.refl _ _ | (with_reducible refine Below.trans ?_ (Below.mono (by assumption) (by first | omega | (simp; done) | (simp; omega)))))⟩
          case measure => simp [intOf]; omega
        · have HQ := Lib.hid q
          clear q
          go_wp2
          go_roundw
          case rel => exact ⟨k + 1, by omega, by go_num, by rw [HTS.out, HQ.out]; rfl, by repeat (first | with_reducible assumption | (with_reducible refine Below.setCell ?_ (by first | omega | (simp; done) | (simp; omega)) _) | (with_reducible refine Below.alloc ?_ (by first | omega | (simp; done) | (simp; omega)) _) | (with_reducible refine Below.drew ?_) | (with_reducible refine below_dN ?_ _) | with_reducible exact Below.refl _ _ | (with_reducible refine Below.trans ?_ (Below.mono (by assumption) (by first | omega | (simp; done) | (simp; omega)))))⟩
          case measure => simp [intOf]; omega
      · obtain rfl : k = t.ks.length := by omega
        have hT : wr.cell? ⟨B14, 0, none⟩ = some (.bool true) := by simp [World.cell?, d5]
        have hN : wr.cell? ⟨w.heap.size + 1 + 1, 0, none⟩ = some (.int .i64 n) := by simp [World.cell?, d2]
        have HSY := Lib.hid (says_named wr B14 (w.heap.size + 1 + 1 + 1) (w.heap.size + 1 + 1) true ac oty key other n oap hT hN d3)
        have d1 := (hbel.block _ (Nat.lt_trans l1 hl0)).trans c1
        have d4 := (hbel.block _ (Nat.lt_trans l4 hl0)).trans c4
        have HD1 := Lib.hid d1
        have HKr := Lib.hid (HKT0.out.below hbel)
        have HD := Lib.hid (And.intro d2 (And.intro d3 (And.intro d4 d5)))
        have HBW := Lib.hid (hbb.trans (hbel.mono hbb.size))
        have hlr : w.heap.size + 1 + 1 + 1 + 1 < wr.heap.size := by omega
        have hlr5 : B14 < wr.heap.size := by omega
        clear d1 d2 d3 d4 d5 hN c0 c1 c2 c3 c4 c5 hbel hbb
        have htk : t.ks.take t.ks.length = t.ks := List.take_length
        rw [htk]
        cases q : t.ks.any (namedF true other n)
        all_goals
          have HQ := Lib.hid q
          clear q htk
          go_wp2_with (go_at_call 33; refine (without_any (w.heap.size + 1) _ _ _ _ _ _ _ _ _ _ _ hlen HD1.out HKr.out HSY.out).mono ?_; rintro e w2 hw2; obtain ⟨v, rfl⟩ := hw2.ret; have HW := Lib.hid hw2; clear hw2; obtain ⟨y5⟩ : Nonempty (w2.cell? ⟨B14, 0, none⟩ = some (.bool true)) := ⟨without_cell HW.out (by omega) hT⟩)
          clear y5
          obtain ⟨v', a', cap', e1, hgone, hblk, hks, hgr⟩ := HW.out
          obtain rfl : v = v' := by cases e1; rfl
          obtain ⟨d2, d3, d4, d5⟩ := HD.out
          have f2 := (hgr.block (w.heap.size + 1 + 1) (by omega) (by first | (simp; done) | (simp; omega))).trans d2
          have f3 := (hgr.block (w.heap.size + 1 + 1 + 1) (by omega) (by first | (simp; done) | (simp; omega))).trans d3
          have f4 := (hgr.block (w.heap.size + 1 + 1 + 1 + 1) (by omega) (by first | (simp; done) | (simp; omega))).trans d4
          have hz2 := hgr.size
          clear d2 d3 d4 d5 e1
          generalize hL : t.ks.filter (fun r => !namedF true other n r) = l at *
          have HL := Lib.hid hL
          clear hL
          generalize (withF l t.h t.ty).1 = h' at *
          generalize (withF l t.h t.ty).2 = ty' at *
          have x2 : w2.cell? ⟨w.heap.size + 1 + 1, 0, none⟩ = some (.int .i64 n) := by simp [World.cell?, f2]
          obtain ⟨_, x3, _⟩ := blk5 f3
          have k2 := cellB (R := w.heap.size + 1) x2 (by first | (simp; done) | (simp; omega))
          have k3 := cellB (R := w.heap.size + 1) x3 (by first | (simp; done) | (simp; omega))
          obtain ⟨z0, z1, z2, z3, z4, y0, y1, y2, y3, y4⟩ := blk5 hblk
          have HF := Lib.hid (And.intro f2 (And.intro f3 f4))
          have HBK := Lib.hid hblk
          have HKS := Lib.hid hks
          have HGN := Lib.hid hgone
          have HGR := Lib.hid hgr
          clear f2 f3 f4 hblk hks hgone hgr x2 x3
          have hR : w.heap.size + 1 < w2.heap.size := by omega
          refine wp_region_mix [(0, true), (1, true), (2, true), (3, true), (4, false), (5, true), (6, false)] 6 (fun w' => ∃ p : RegrownB, w' = setO (Go.Sort.grow (redrawn w2 p.d) p.os) (w.heap.size + 1) p.o) (by kernel_rfl) (by kernel_rfl) (fun _ _ d _ _ h => by cases d <;> exact h) (growsB_drew hR) ?_
          (repeat (refine mix_q ?_; simp only [List.drop_succ_cons, List.drop_zero, List.take_succ_cons, List.take_zero]; go_big_quiet_step (fail); refine wpQuiet_nil ?_))
          refine mix_a ?_; simp only [List.drop_succ_cons, List.drop_zero, List.take_succ_cons, List.take_zero]
          go_wp2_with fail
          refine mixQ_normal ⟨fun _ => growsB_of hR (grown_trans (grown_drew _ _) (grown_set _ _ _ _)), ?_⟩
          (repeat (refine mix_q ?_; simp only [List.drop_succ_cons, List.drop_zero, List.take_succ_cons, List.take_zero]; go_big_quiet_step (fail); refine wpQuiet_nil ?_))
          refine mix_a ?_; simp only [List.drop_succ_cons, List.drop_zero, List.take_succ_cons, List.take_zero]
          go_wp2_with fail
          refine mixQ_normal ⟨fun h => absurd h (by simp), mix_nil ?_⟩
          have hb3 : ((w2.setCell ⟨w.heap.size + 1, 2, none⟩ (.int .i64 n)).setCell ⟨w.heap.size + 1, 3, none⟩ (.int .i64 oty)).drew.heap[w.heap.size + 1]? = some (.cells #[.int .u32 t.g, .slice a' l.length cap', .int .i64 n, .int .i64 oty, .bool t.ap] 25) := set_blk (set_blk HBK.out _) _
          have hg3 : w2.grownBy ((w2.setCell ⟨w.heap.size + 1, 2, none⟩ (.int .i64 n)).setCell ⟨w.heap.size + 1, 3, none⟩ (.int .i64 oty)).drew (some (w.heap.size + 1)) := grown_trans (grown_trans (grown_set _ _ _ _) (grown_set _ _ _ _)) (grown_drew _ _)
          clear k2 k3 z0 z1 z2 z3 z4 y0 y1 y2 y3 y4
          generalize ((w2.setCell ⟨w.heap.size + 1, 2, none⟩ (.int .i64 n)).setCell ⟨w.heap.size + 1, 3, none⟩ (.int .i64 oty)).drew = w3 at hb3 hg3 ⊢
          obtain ⟨z0, z1, z2, z3, z4, y0, y1, y2, y3, y4⟩ := blk5 hb3
          go_wp2
          have hb4 : (w3.setCell ⟨w.heap.size + 1, 0, none⟩ (.int .u32 ((t.g + 1) % 4294967296))).heap[w.heap.size + 1]? = some (.cells #[.int .u32 ((t.g + 1) % 4294967296), .slice a' l.length cap', .int .i64 n, .int .i64 oty, .bool t.ap] 25) := set_blk hb3 _
          have hg4 : w2.grownBy (w3.setCell ⟨w.heap.size + 1, 0, none⟩ (.int .u32 ((t.g + 1) % 4294967296))) (some (w.heap.size + 1)) := grown_trans hg3 (grown_set _ _ _ _)
          clear z0 z1 z2 z3 z4 y0 y1 y2 y3 y4 hb3 hg3
          generalize w3.setCell ⟨w.heap.size + 1, 0, none⟩ (.int .u32 ((t.g + 1) % 4294967296)) = w4 at hb4 hg4 ⊢
          obtain ⟨z0, z1, z2, z3, z4, _⟩ := blk5 hb4
          have hne : ∀ (vv : Value) (e s m : Nat) (xs : List Value), w2.ownsRow wr.heap.size e s vv m xs → w4.ownsRow wr.heap.size e s vv m xs := fun vv e s m xs ho => ho.kept hg4 (by cases hob : vv.ownBlock with | none => simp | some k' => right; have := (ho.lt k' hob).1; simp; omega)
          have ho5 := hne _ _ _ _ _ HKS.out
          have ho6 := hne _ _ _ _ _ HGN.out
          have hsz4 := hg4.size
          have g2 := (hg4.block (w.heap.size + 1 + 1) (by omega) (by first | (simp; done) | (simp; omega))).trans HF.out.1
          have g4 := (hg4.block (w.heap.size + 1 + 1 + 1 + 1) (by omega) (by first | (simp; done) | (simp; omega))).trans HF.out.2.2
          have x2 : w4.cell? ⟨w.heap.size + 1 + 1, 0, none⟩ = some (.int .i64 n) := by simp [World.cell?, g2]
          obtain ⟨r0, r1, r2, r3, r4, s0, s1, s2, s3, s4⟩ := blk5 g4
          have hlg : (t.ks.filter (namedF true other n)).length ≤ t.ks.length := List.length_filter_le _ _
          generalize hgo : (t.ks.filter (namedF true other n)).map (·.1) = go at *
          have hgl : go.length = (t.ks.filter (namedF true other n)).length := by rw [← hgo]; simp
          have hmap : (t.ks.filter (namedF true other n)).map (fun r => Value.int .i64 r.1) = go.map (Value.int .i64) := by rw [← hgo]; simp
          rw [hmap, ← hgl] at ho6
          rw [← hgl] at hlg
          obtain ⟨gb, gc, hv⟩ := own_slice ho6
          rw [hv] at ho6 ⊢
          have HIG := Lib.hid (IntsIn.of_own ho6)
          have k2 := cellB (R := w.heap.size + 1 + 1 + 1 + 1) x2 (by first | (simp; done) | (simp; omega))
          have m0 := cellB (R := w.heap.size + 1 + 1 + 1 + 1) z0 (by first | (simp; done) | (simp; omega))
          have m1 := cellB (R := w.heap.size + 1 + 1 + 1 + 1) z1 (by first | (simp; done) | (simp; omega))
          have m2 := cellB (R := w.heap.size + 1 + 1 + 1 + 1) z2 (by first | (simp; done) | (simp; omega))
          have m3 := cellB (R := w.heap.size + 1 + 1 + 1 + 1) z3 (by first | (simp; done) | (simp; omega))
          have m4 := cellB (R := w.heap.size + 1 + 1 + 1 + 1) z4 (by first | (simp; done) | (simp; omega))
          have HGO := Lib.hid hgo
          have HO5 := Lib.hid ho5
          have HG4 := Lib.hid g4
          have hR4 : w.heap.size + 1 + 1 + 1 + 1 < w4.heap.size := by omega
          clear hgo hgl hmap hv ho5 ho6 hne g2 g4 z0 z1 z2 z3 z4 x2 r0 r1 r2 r3 r4 s0 s1 s2 s3 s4 hb4
          refine wp_region_mix [(0, true), (1, true), (2, true), (3, false), (4, false), (5, true), (6, true)] 1000 (fun w' => ∃ p : RegrownB, w' = setO (Go.Sort.grow (redrawn w4 p.d) p.os) (w.heap.size + 1 + 1 + 1 + 1) p.o) (by kernel_rfl) (by kernel_rfl) (fun _ _ d _ _ h => by cases d <;> exact h) (growsB_drew hR4) ?_
          (repeat (refine mix_q ?_; simp only [List.drop_succ_cons, List.drop_zero, List.take_succ_cons, List.take_zero]; go_big_quiet_step (fail); refine wpQuiet_nil ?_))
          refine mix_a ?_; simp only [List.drop_succ_cons, List.drop_zero, List.take_succ_cons, List.take_zero]
          go_wp2_with (go_at_call 35; refine (others_any go gb gc n _ (by omega) (HIG.out.below (by repeat (first | with_reducible assumption | (with_reducible refine Below.setCell ?_ (by first | omega | (simp; done) | (simp; omega)) _) | (with_reducible refine Below.alloc ?_ (by first | omega | (simp; done) | (simp; omega)) _) | (with_reducible refine Below.drew ?_) | (with_reducible refine below_dN ?_ _) | with_reducible exact Below.refl _ _ | (with_reducible refine Below.trans ?_ (Below.mono (by assumption) (by first | omega | (simp; done) | (simp; omega)))))))).mono ?_; rintro e w5 ⟨hv5, hb5⟩; obtain ⟨v5, he5, ho7⟩ := hv5; cases he5)
          have hb45 : Below w4.heap.size w4 w5 := by repeat (first | with_reducible assumption | (with_reducible refine Below.setCell ?_ (by first | omega | (simp; done) | (simp; omega)) _) | (with_reducible refine Below.alloc ?_ (by first | omega | (simp; done) | (simp; omega)) _) | (with_reducible refine Below.drew ?_) | (with_reducible refine below_dN ?_ _) | with_reducible exact Below.refl _ _ | (with_reducible refine Below.trans ?_ (Below.mono (by assumption) (by first | omega | (simp; done) | (simp; omega)))))
          refine mixQ_normal ⟨fun _ => growsB_of hR4 (grown_of_below hb45 _), ?_⟩
          refine mix_a ?_; simp only [List.drop_succ_cons, List.drop_zero, List.take_succ_cons, List.take_zero]
          obtain ⟨r0, r1, r2, r3, r4, s0, s1, s2, s3, s4⟩ := blk5 ((hb45.block _ hR4).trans HG4.out)
          go_wp2_with fail
          refine mixQ_normal ⟨fun _ => growsB_of hR4 (grown_trans (grown_of_below hb45 _) (by repeat (first | exact grown_set _ _ _ _ | (refine grown_trans ?_ (grown_set _ _ _ _))))), ?_⟩
          (repeat (refine mix_q ?_; simp only [List.drop_succ_cons, List.drop_zero, List.take_succ_cons, List.take_zero]; go_big_quiet_step (fail); refine wpQuiet_nil ?_))
          refine mix_nil ?_
          go_wp2
          have hpr : preemptF t n oty other = ({ g := (t.g + 1) % 4294967296, ks := l, h := n, ty := oty, ap := t.ap }, 0, othersF go n) := by
            simp only [preemptF, HC.out, h4, HL.out, HGO.out, u32, Bool.not_true, Bool.and_false, Bool.or_false, Bool.false_eq_true, if_false, if_true]
          obtain ⟨b7, c7, hv7⟩ := own_slice ho7
          rw [hv7] at ho7 ⊢
          have HG5 : w5.grownBy _ (some (w.heap.size + 1 + 1 + 1 + 1)) := grown_trans (grown_trans (grown_trans (grown_trans (grown_set w5 (w.heap.size + 1 + 1 + 1 + 1) 0 (.int .u32 ((t.g + 1) % 4294967296))) (grown_set _ _ 1 (.slice a' l.length cap'))) (grown_set _ _ 2 (.int .i64 n))) (grown_set _ _ 3 (.int .i64 oty))) (grown_set _ _ 4 (.bool t.ap))
          have hown5 := (own_below HO5.out hb45).kept HG5 (by cases hob : (Value.slice a' l.length cap').ownBlock with | none => simp | some k' => right; have := (HO5.out.lt k' hob).1; simp; omega)
          have hz5 := hb45.size
          have hown7 := ho7.kept HG5 (by cases hob : (Value.slice b7 (othersF go n).length c7).ownBlock with | none => simp | some k' => right; have := (ho7.lt k' hob).1; simp at this ⊢; omega)
          have hfin := (((HBW.out.grown HGR.out (by omega) (fun k' hk' => by cases hk'; omega)).grown hg4 (by have := HGR.out.size; omega) (fun k' hk' => by cases hk'; omega)).trans (hb45.mono (by omega))).grown HG5 (by omega) (fun k' hk' => by cases hk'; omega)
          refine bodyPost_ret (v := .tuple #[.agg #[.int .u32 ((t.g + 1) % 4294967296), .slice a' l.length cap', .int .i64 n, .int .i64 oty, .bool t.ap], .int .i64 0, .slice b7 (othersF go n).length c7]) ?_ rfl ?_
          · clear hown5 hown7 hfin HG5 ho7 hb45 hb5
            simp only [results, Try.results36]
            go_simp
          · unfold ActPost
            rw [hpr]
            exact ⟨a', cap', b7, c7, rfl, KeysIn.of_own hown5, own_none hown5, IntsIn.of_own hown7, hfin⟩

end Go.Proofs.Ytopakonpfbbldaa
