/- One preempts another one: the anchor of the statements of layer 10 answers true. -/
import Derived.Test.YtopakonpfbbldaaW12
import Derived.Test.YtopakonpfbbldaaW24
import Derived.Test.YtopakonpfbbldaaW25
namespace Go.Proofs.Ytopakonpfbbldaa
set_option linter.unusedSimpArgs false
set_option linter.unusedVariables false
open Go.RowKit

theorem post_to {r r' : Tab × Int × List Int} {args : Array Value} {w : World} (h : Calls Try.prog 16 args w (ActPost r w)) (he : r = r') : Calls Try.prog 16 args w (ActPost r' w) := he ▸ h
theorem bars_to (g h ty n d : Int) (ap : Bool) (ks : List (Int × Int)) (b : Bool) (he : barsF ks h ty n d = b) (a : Option Addr) (cap : Nat) (w : World) (hlen : ks.length ≤ 9223372036854775807) (hk : KeysIn w a ks) :
    Calls Try.prog 14 #[.agg #[.int .u32 g, .slice a ks.length cap, .int .i64 h, .int .i64 ty, .bool ap], .int .i64 n, .int .i64 d] w fun e w' => e = .returned (.bool b) ∧ Below w.heap.size w w' := by
  rw [← he]; exact Bars_any g h ty n d ap a ks cap w hlen hk

set_option maxRecDepth 100000 in
set_option maxHeartbeats 4000000 in
theorem stands_any (w : World) : Calls Try.prog 10 #[] w fun e w' => e = .returned (.bool true) ∧ Below w.heap.size w w' := by
  go_enter Try.func10, Try.ntmps10
  go_wp2_with fail
  refine (None_any _).mono ?_
  rintro e w1 ⟨rfl, hb1⟩
  go_wp2_with fail
  refine (post_to (r' := (⟨1, [(1, 5)], -1, 0, false⟩, 0, [])) (act0_k2 ⟨0, [], -1, 0, false⟩ 1 0 0 5 false none 0 _ (by simp) (KeysIn.nil _ _) (fun _ => rfl) rfl rfl rfl rfl) rfl).mono ?_
  rintro e w2 ⟨a2, c2, b2, d2, rfl, hk2, hn2, hi2, hb2⟩
  have HK2 := Lib.hid (And.intro hk2 hn2)
  clear hi2 hk2 hn2
  go_wp2_with fail
  have hB2 := heap_alloc_new w2 (.cells #[.int .u32 1, .slice a2 1 c2, .int .i64 (-1), .int .i64 0, .bool false] 25)
  have hK2 := HK2.out.1.below ((Below.refl w2.heap.size w2).alloc (Nat.le_refl _) (.cells #[.int .u32 1, .slice a2 1 c2, .int .i64 (-1), .int .i64 0, .bool false] 25))
  have hs1 := hb1.size
  have hs2 := hb2.size
  have hw2 : Below w.heap.size w (w2.alloc (.cells #[.int .u32 1, .slice a2 1 c2, .int .i64 (-1), .int .i64 0, .bool false] 25)) := by repeat (first | with_reducible assumption | (with_reducible refine Below.setCell ?_ (by first | omega | (simp; done) | (simp; omega)) _) | (with_reducible refine Below.alloc ?_ (by first | omega | (simp; done) | (simp; omega)) _) | (with_reducible refine Below.drew ?_) | (with_reducible refine below_dN ?_ _) | with_reducible exact Below.refl _ _ | (with_reducible refine Below.trans ?_ (Below.mono (by assumption) (by first | omega | (simp; done) | (simp; omega)))))
  have hlB : w.heap.size ≤ w2.heap.size := Nat.le_trans hb1.size hb2.size
  generalize w2.alloc (.cells #[.int .u32 1, .slice a2 1 c2, .int .i64 (-1), .int .i64 0, .bool false] 25) = v2 at hB2 hK2 hw2 ⊢
  generalize w2.heap.size = B at hB2 hlB ⊢
  have H2 := Lib.hid (And.intro hB2 (And.intro hK2 (And.intro HK2.out.2 hw2)))
  clear hB2 hK2 hw2 hb1 hb2 HK2
  have hBv : B < v2.heap.size := (Array.getElem?_eq_some_iff.1 H2.out.1).1
  refine (post_to (r' := (⟨1, [(1, 5)], 1, 1, false⟩, 0, [])) (act1_f ⟨1, [(1, 5)], -1, 0, false⟩ 1 1 5 0 false a2 c2 _ (by simp) H2.out.2.1 H2.out.2.2.1 rfl rfl rfl rfl) rfl).mono ?_
  rintro e w3 ⟨a3, c3, b3, d3, rfl, hk, hn, hi, hb⟩
  have hB := (hb.block B (by omega)).trans H2.out.1
  obtain ⟨z0, z1, z2, z3, z4, y0, y1, y2, y3, y4⟩ := blk5 hB
  have HK := Lib.hid (And.intro hk (And.intro hn (And.intro hB (And.intro hi (H2.out.2.2.2.trans (hb.mono (by omega)))))))
  have hs := hb.size
  have hBw : B < w3.heap.size := by omega
  clear hk hn hi hb hB hs
  go_wp2_with fail
  have hg : w3.grownBy (((((w3.setCell ⟨B, 0, none⟩ (.int .u32 1)).setCell ⟨B, 1, none⟩ (.slice a3 1 c3)).setCell ⟨B, 2, none⟩ (.int .i64 1)).setCell ⟨B, 3, none⟩ (.int .i64 1)).setCell ⟨B, 4, none⟩ (.bool false)) (some B) := by repeat (first | exact grown_set _ _ _ _ | (refine grown_trans ?_ (grown_set _ _ _ _)))
  have hB : (((((w3.setCell ⟨B, 0, none⟩ (.int .u32 1)).setCell ⟨B, 1, none⟩ (.slice a3 1 c3)).setCell ⟨B, 2, none⟩ (.int .i64 1)).setCell ⟨B, 3, none⟩ (.int .i64 1)).setCell ⟨B, 4, none⟩ (.bool false)).heap[B]? = some (.cells #[.int .u32 1, .slice a3 1 c3, .int .i64 1, .int .i64 1, .bool false] 25) := set_blk (set_blk (set_blk (set_blk (set_blk HK.out.2.2.1 _) _) _) _) _
  have hk := HK.out.1.grown hg HK.out.2.2.1 (by simp) (by simp) (by simp)
  have hi := HK.out.2.2.2.1.grown hg HK.out.2.2.1 (by decide)
  have hw := HK.out.2.2.2.2.grown hg (by omega) (fun k' hk' => by cases hk'; omega)
  have hv := hg.size
  generalize (((((w3.setCell ⟨B, 0, none⟩ (.int .u32 1)).setCell ⟨B, 1, none⟩ (.slice a3 1 c3)).setCell ⟨B, 2, none⟩ (.int .i64 1)).setCell ⟨B, 3, none⟩ (.int .i64 1)).setCell ⟨B, 4, none⟩ (.bool false)) = v3 at hg hB hk hi hw hv ⊢
  have H3 := Lib.hid (And.intro hB (And.intro hk (And.intro HK.out.2.1 hw)))
  have HI3 := Lib.hid hi
  have hBv3 : B < v3.heap.size := by omega
  clear hg hB hk hi hw hv HK z0 z1 z2 z3 z4 y0 y1 y2 y3 y4
  refine (post_to (r' := (⟨2, [(1, 5), (2, 6)], 1, 1, false⟩, 0, [])) (act0_k2 ⟨1, [(1, 5)], 1, 1, false⟩ 2 0 0 6 false a3 c3 _ (by simp) H3.out.2.1 H3.out.2.2.1 rfl rfl rfl rfl) rfl).mono ?_
  rintro e w4 ⟨a4, c4, b4, d4, rfl, hk, hn, hi, hb⟩
  have hB := (hb.block B (by omega)).trans H3.out.1
  obtain ⟨z0, z1, z2, z3, z4, y0, y1, y2, y3, y4⟩ := blk5 hB
  have HK := Lib.hid (And.intro hk (And.intro hn (And.intro hB (And.intro hi (H3.out.2.2.2.trans (hb.mono (by omega)))))))
  have hs := hb.size
  have hBw : B < w4.heap.size := by omega
  clear hk hn hi hb hB hs
  go_wp2_with fail
  have hg : w4.grownBy (((((w4.setCell ⟨B, 0, none⟩ (.int .u32 2)).setCell ⟨B, 1, none⟩ (.slice a4 2 c4)).setCell ⟨B, 2, none⟩ (.int .i64 1)).setCell ⟨B, 3, none⟩ (.int .i64 1)).setCell ⟨B, 4, none⟩ (.bool false)) (some B) := by repeat (first | exact grown_set _ _ _ _ | (refine grown_trans ?_ (grown_set _ _ _ _)))
  have hB : (((((w4.setCell ⟨B, 0, none⟩ (.int .u32 2)).setCell ⟨B, 1, none⟩ (.slice a4 2 c4)).setCell ⟨B, 2, none⟩ (.int .i64 1)).setCell ⟨B, 3, none⟩ (.int .i64 1)).setCell ⟨B, 4, none⟩ (.bool false)).heap[B]? = some (.cells #[.int .u32 2, .slice a4 2 c4, .int .i64 1, .int .i64 1, .bool false] 25) := set_blk (set_blk (set_blk (set_blk (set_blk HK.out.2.2.1 _) _) _) _) _
  have hk := HK.out.1.grown hg HK.out.2.2.1 (by simp) (by simp) (by simp)
  have hi := HK.out.2.2.2.1.grown hg HK.out.2.2.1 (by decide)
  have hw := HK.out.2.2.2.2.grown hg (by omega) (fun k' hk' => by cases hk'; omega)
  have hv := hg.size
  generalize (((((w4.setCell ⟨B, 0, none⟩ (.int .u32 2)).setCell ⟨B, 1, none⟩ (.slice a4 2 c4)).setCell ⟨B, 2, none⟩ (.int .i64 1)).setCell ⟨B, 3, none⟩ (.int .i64 1)).setCell ⟨B, 4, none⟩ (.bool false)) = v4 at hg hB hk hi hw hv ⊢
  have H4 := Lib.hid (And.intro hB (And.intro hk (And.intro HK.out.2.1 hw)))
  have HI4 := Lib.hid hi
  have hBv4 : B < v4.heap.size := by omega
  clear hg hB hk hi hw hv HK z0 z1 z2 z3 z4 y0 y1 y2 y3 y4
  refine (bars_to 2 1 1 2 7 false [(1, 5), (2, 6)] true rfl a4 c4 _ (by simp) H4.out.2.1).mono ?_
  rintro e v5 ⟨rfl, hb⟩
  have hB := (hb.block B (by omega)).trans H4.out.1
  obtain ⟨z0, z1, z2, z3, z4, y0, y1, y2, y3, y4⟩ := blk5 hB
  have hv := hb.size
  have hBv5 : B < v5.heap.size := by omega
  have H5 := Lib.hid (And.intro hB (And.intro (H4.out.2.1.below hb) (And.intro H4.out.2.2.1 (H4.out.2.2.2.trans (hb.mono (by omega))))))
  obtain ⟨a5, rfl⟩ : ∃ x, x = a4 := ⟨_, rfl⟩
  obtain ⟨c5, rfl⟩ : ∃ x, x = c4 := ⟨_, rfl⟩
  clear hB hv hb
  go_wp2_with fail
  clear z0 z1 z2 z3 z4 y0 y1 y2 y3 y4
  refine (bars_to 2 1 1 2 6 false [(1, 5), (2, 6)] false rfl a5 c5 _ (by simp) H5.out.2.1).mono ?_
  rintro e v6 ⟨rfl, hb⟩
  have hB := (hb.block B (by omega)).trans H5.out.1
  obtain ⟨z0, z1, z2, z3, z4, y0, y1, y2, y3, y4⟩ := blk5 hB
  have hv := hb.size
  have hBv6 : B < v6.heap.size := by omega
  have H6 := Lib.hid (And.intro hB (And.intro (H5.out.2.1.below hb) (And.intro H5.out.2.2.1 (H5.out.2.2.2.trans (hb.mono (by omega))))))
  obtain ⟨a6, rfl⟩ : ∃ x, x = a5 := ⟨_, rfl⟩
  obtain ⟨c6, rfl⟩ : ∃ x, x = c5 := ⟨_, rfl⟩
  clear hB hv hb
  go_wp2_with fail
  clear z0 z1 z2 z3 z4 y0 y1 y2 y3 y4
  refine (post_to (r' := (⟨3, [(2, 6)], 2, 1, false⟩, 0, [1])) (act4_t ⟨2, [(1, 5), (2, 6)], 1, 1, false⟩ 2 1 6 5 false a6 c6 _ (by simp) H6.out.2.1 H6.out.2.2.1 rfl rfl rfl rfl rfl rfl rfl rfl) rfl).mono ?_
  rintro e w7 ⟨a7, c7, b7, d7, rfl, hk, hn, hi, hb⟩
  have hB := (hb.block B (by omega)).trans H6.out.1
  obtain ⟨z0, z1, z2, z3, z4, y0, y1, y2, y3, y4⟩ := blk5 hB
  have HK := Lib.hid (And.intro hk (And.intro hn (And.intro hB (And.intro hi (H6.out.2.2.2.trans (hb.mono (by omega)))))))
  have hs := hb.size
  have hBw : B < w7.heap.size := by omega
  obtain ⟨b, off, rfl, hbs, hc, cur, hcur⟩ := hi 0 (by simp)
  simp only [Int.ofNat_zero, Nat.add_zero, List.getElem_cons_zero] at hc
  have hne : ¬ b = B := fun e => by
    rw [e] at hcur
    rw [hcur] at hB
    simp only [Option.some.injEq, Obj.cells.injEq] at hB
    exact absurd hB.2.1 (by decide)
  have hne2 : ¬ B = b := fun e => hne e.symm
  clear hk hn hi hb hB hs hcur
  go_wp2
  go_ret
  refine ⟨rfl, ?_⟩
  have hw := HK.out.2.2.2.2
  repeat (first | with_reducible assumption | (with_reducible refine Below.setCell ?_ (by first | omega | (simp; done) | (simp; omega)) _) | (with_reducible refine Below.alloc ?_ (by first | omega | (simp; done) | (simp; omega)) _) | (with_reducible refine Below.drew ?_) | (with_reducible refine below_dN ?_ _) | with_reducible exact Below.refl _ _ | (with_reducible refine Below.trans ?_ (Below.mono (by assumption) (by first | omega | (simp; done) | (simp; omega)))))
end Go.Proofs.Ytopakonpfbbldaa
