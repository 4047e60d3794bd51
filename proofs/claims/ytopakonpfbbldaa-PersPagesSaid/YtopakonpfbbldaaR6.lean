/- What put of the reference of layer 10 makes. -/
import Derived.Test.YtopakonpfbbldaaR3
import Derived.Test.YtopakonpfbbldaaW6
import Derived.Test.YtopakonpfbbldaaFnsE
namespace Go.Proofs.Ytopakonpfbbldaa
set_option linter.unusedSimpArgs false
set_option linter.unusedVariables false
open Go.RowKit

theorem grown_weak {a b : World} {r : Option Nat} {R : Nat} (h : a.grownBy b r) (hr : ∀ k, r = some k → k = R) : a.grownBy b (some R) :=
  ⟨h.os, h.tape, h.output, h.size, fun i hi hn => h.block i hi (fun e => hn (by rw [hr i e.symm]))⟩

set_option maxRecDepth 100000 in
set_option maxHeartbeats 4000000 in
theorem rput_any (g h ty : Int) (ap : Bool) (v : Value) (ks : List Int) (w : World) (hlen : ks.length = 8) :
    Calls Try.prog 42 #[.agg #[.int .u32 g, v, .int .i64 h, .int .i64 ty, .bool ap], Value.agg (ks.map (Value.int .u64)).toArray] w fun e w' =>
      (∃ a' cap', e = .returned (.agg #[.int .u32 g, .slice a' (regsF 0 ks).length cap', .int .i64 h, .int .i64 ty, .bool ap]) ∧ w'.ownsRow w.heap.size 32 2 (.slice a' (regsF 0 ks).length cap') (regsF 0 ks).length (flat (regsF 0 ks))) ∧ Below w.heap.size w w' := by
  obtain ⟨i0, hi, hz0, hz1, hz2⟩ := info_parts info_reg
  go_enter Try.func42, Try.ntmps42
  go_wp2
  obtain ⟨b0, b1, b2⟩ := heap3 w (.cells #[.int .u32 g, .slice none 0 0, .int .i64 h, .int .i64 ty, .bool ap] 25) (.cells (ks.map (Value.int .u64)).toArray 57) (.cells #[.int .u32 0, .slice none 0 0, .int .i64 0, .int .i64 0, .bool false] 25)
  have HB0 := Lib.hid (And.intro b0 (And.intro b1 b2))
  clear b0 b1 b2
  go_loopw [5] (fun i wr => ∃ k : Nat, k ≤ 8 ∧ i = .int .i64 k ∧ ∃ a' cap', wr.heap[w.heap.size]? = some (.cells #[.int .u32 g, .slice a' (regsF 0 (ks.take k)).length cap', .int .i64 h, .int .i64 ty, .bool ap] 25) ∧
    wr.heap[w.heap.size + 1]? = some (.cells (ks.map (Value.int .u64)).toArray 57) ∧
    wr.heap[w.heap.size + 1 + 1]? = some (.cells #[.int .u32 0, .slice none 0 0, .int .i64 0, .int .i64 0, .bool false] 25) ∧
    wr.ownsRow (w.heap.size + 3) 32 2 (.slice a' (regsF 0 (ks.take k)).length cap') (regsF 0 (ks.take k)).length (flat (regsF 0 (ks.take k))) ∧ Below w.heap.size w wr) (fun i _ => 8 - (intOf i).toNat)
  case atStart => exact ⟨0, by omega, rfl, none, 0, HB0.out.1, HB0.out.2.1, HB0.out.2.2, World.ownsRow_nil _ _ _ _, by repeat (first | with_reducible assumption | (with_reducible refine Below.setCell ?_ (by first | omega | (simp; done) | (simp; omega)) _) | (with_reducible refine Below.alloc ?_ (by first | omega | (simp; done) | (simp; omega)) _) | (with_reducible refine Below.drew ?_) | (with_reducible refine below_dN ?_ _) | with_reducible exact Below.refl _ _ | (with_reducible refine Below.trans ?_ (Below.mono (by assumption) (by first | omega | (simp; done) | (simp; omega)))))⟩
  case round =>
    obtain ⟨k, hk, rfl, a1, c1, d0, d1, d2, hown, hbel⟩ := hrel
    have hR : w.heap.size + 1 + 1 < wr.heap.size := (Array.getElem?_eq_some_iff.1 d2).1
    have HD := Lib.hid (And.intro d0 (And.intro d1 d2))
    obtain ⟨z0, z1, z2, z3, z4, y0, y1, y2, y3, y4⟩ := blk5 d0
    obtain ⟨r0, r1, r2, r3, r4, s0, s1, s2, s3, s4⟩ := blk5 d2
    have HO := Lib.hid hown
    have HBL := Lib.hid hbel
    clear hown hbel
    by_cases hlt : k < 8
    · have hlt' : k < ks.length := by omega
      have hts : ks.take (k + 1) = ks.take k ++ [ks[k]] := List.take_succ_eq_append_getElem hlt'
      have hrs : regsF 0 (ks.take (k + 1)) = regsF 0 (ks.take k) ++ (if ks[k] == 0 then [] else [((k : Int), ks[k])]) := by
        rw [hts, regsF_snoc]; simp [List.length_take, show min k ks.length = k by omega]
      have HRS := Lib.hid hrs
      clear hts hrs
      obtain ⟨f1, f2⟩ := arr_cell d1 k hlt'
      rw [show ks.getD k 0 = ks[k] by simp [hlt']] at f1
      have hi0 : (0 : Int) ≤ k := by omega
      have hi8 : (k : Int) < 8 := by omega
      have hlk := regsF_le (ks.take k) 0
      rw [List.length_take] at hlk
      have hl8 : (regsF 0 (ks.take k)).length ≤ 8 := by omega
      clear d0 d1 d2 hlk
      cases q : (ks[k] == 0)
      · obtain ⟨R, hR1, hR2, hRo⟩ : ∃ R, R < wr.heap.size ∧ w.heap.size + 1 < R ∧ ∀ k', (Value.slice a1 (regsF 0 (ks.take k)).length c1).ownBlock = some k' → k' = R := by
          rcases own_addr0 HO.out with ⟨rfl, rfl, _⟩ | ⟨g0, rfl, hg0, hgW, _⟩
          · exact ⟨w.heap.size + 1 + 1, hR, by omega, by simp [Value.ownBlock]⟩
          · exact ⟨g0, hgW, by omega, by simp [Value.ownBlock]⟩
        have k1 := cellB (R := R) z1 (by simp; omega)
        have k2 := cellB (R := R) f1 (by simp; omega)
        have HRO := Lib.hid hRo
        have HG : Hid (∀ wx v2 : World, Below wr.heap.size wr wx → wx.grownBy v2 (Value.slice a1 (regsF 0 (ks.take k)).length c1).ownBlock → wr.grownBy v2 (some R)) := Lib.hid (fun wx v2 hb h => grown_trans (grown_of_below hb _) (grown_weak h hRo))
        clear hRo
        have hcast : ((ks[k] != 0) = true) := by simpa using q
        go_wp2
        refine wp_region_mix [(0, true), (1, true), (2, true), (3, true), (4, true), (5, true), (6, true), (7, false), (8, false), (9, true), (10, false)] 10 (fun w' => ∃ p : RegrownB, w' = setO (Go.Sort.grow (redrawn wr p.d) p.os) (R) p.o) (by kernel_rfl) (by kernel_rfl) (fun _ _ d _ _ h => by cases d <;> exact h) (growsB_drew hR1) ?_
        (repeat (refine mix_q ?_; simp only [List.drop_succ_cons, List.drop_zero, List.take_succ_cons, List.take_zero]; go_big_quiet_step (fail); refine wpQuiet_nil ?_))
        refine mix_a ?_; simp only [List.drop_succ_cons, List.drop_zero, List.take_succ_cons, List.take_zero]
        go_wp2_with fail
        refine mixQ_normal ⟨fun _ => growsB_of hR1 (grown_of_below (by repeat (first | with_reducible assumption | (with_reducible refine Below.setCell ?_ (by first | omega | (simp; done) | (simp; omega)) _) | (with_reducible refine Below.alloc ?_ (by first | omega | (simp; done) | (simp; omega)) _) | (with_reducible refine Below.drew ?_) | (with_reducible refine below_dN ?_ _) | with_reducible exact Below.refl _ _ | (with_reducible refine Below.trans ?_ (Below.mono (by assumption) (by first | omega | (simp; done) | (simp; omega)))))) _), ?_⟩
        refine mix_a ?_; simp only [List.drop_succ_cons, List.drop_zero, List.take_succ_cons, List.take_zero]
        refine step_append_list rfl (.tmp 16) (.tmp 22) 23 rfl (w.heap.size + 3) 32 i0 (.agg #[.int .i64 0, .int .u64 0]) 2 16 Try.underlying23 hi hz0 hz1 hz2 rfl (by decide) (.slice a1 (regsF 0 (ks.take k)).length c1) (regsF 0 (ks.take k)).length (flat (regsF 0 (ks.take k))) rfl (HO.out.alloc _) (.slice (some ⟨wr.heap.size, 0, none⟩) 1 1) 1 [.int .i64 k, .int .u64 ks[k]] rfl (.inr ⟨⟨wr.heap.size, 0, none⟩, 1, rfl, rfl, fun j u hu => cell_two_new _ _ _ _ j u hu, by simp [Value.oneCell']⟩) (by unfold maxLen; omega) (by omega) (by simp; omega) ?_
        intro v1 w1 ho1 hg1
        simp only [Act.put, List.setIfInBounds_toArray, List.set_cons_zero, List.set_cons_succ]
        obtain ⟨a2, c2, hv1⟩ := own_slice ho1
        rw [hv1] at ho1 ⊢
        clear hv1
        have hgB := HG.out _ _ (by repeat (first | with_reducible assumption | (with_reducible refine Below.setCell ?_ (by first | omega | (simp; done) | (simp; omega)) _) | (with_reducible refine Below.alloc ?_ (by first | omega | (simp; done) | (simp; omega)) _) | (with_reducible refine Below.drew ?_) | (with_reducible refine below_dN ?_ _) | with_reducible exact Below.refl _ _ | (with_reducible refine Below.trans ?_ (Below.mono (by assumption) (by first | omega | (simp; done) | (simp; omega)))))) hg1
        have hgO := grown_trans (grown_of_below (show Below wr.heap.size wr _ from (by repeat (first | with_reducible assumption | (with_reducible refine Below.setCell ?_ (by first | omega | (simp; done) | (simp; omega)) _) | (with_reducible refine Below.alloc ?_ (by first | omega | (simp; done) | (simp; omega)) _) | (with_reducible refine Below.drew ?_) | (with_reducible refine below_dN ?_ _) | with_reducible exact Below.refl _ _ | (with_reducible refine Below.trans ?_ (Below.mono (by assumption) (by first | omega | (simp; done) | (simp; omega))))))) _) hg1
        have hoB : ∀ k', (Value.slice a1 (regsF 0 (ks.take k)).length c1).ownBlock = some k' → w.heap.size + 3 ≤ k' := fun k' h => (HO.out.lt k' h).1
        have e0 := (hgO.block w.heap.size (by omega) (fun h => by have := hoB _ h.symm; omega)).trans HD.out.1
        have e1 := (hgO.block (w.heap.size + 1) (by omega) (fun h => by have := hoB _ h.symm; omega)).trans HD.out.2.1
        have e2 := (hgO.block (w.heap.size + 1 + 1) (by omega) (fun h => by have := hoB _ h.symm; omega)).trans HD.out.2.2
        have HBL1 := Lib.hid (HBL.out.grown hgO (by omega) (fun k' h => by have := hoB _ h; omega))
        have hs1 := hgO.size
        clear hgO hoB
        have HE := Lib.hid (And.intro e0 (And.intro e1 e2))
        clear e0 e1 e2
        refine wpList_nil (mixQ_normal ⟨fun _ => growsB_of hR1 hgB, ?_⟩)
        (repeat (refine mix_q ?_; simp only [List.drop_succ_cons, List.drop_zero, List.take_succ_cons, List.take_zero]; go_big_quiet_step (fail); refine wpQuiet_nil ?_))
        refine mix_a ?_; simp only [List.drop_succ_cons, List.drop_zero, List.take_succ_cons, List.take_zero]
        obtain ⟨z0, z1, z2, z3, z4, y0, y1, y2, y3, y4⟩ := blk5 HE.out.1
        clear hgB hg1
        go_wp2_with fail
        refine mixQ_normal ⟨fun h => absurd h (by simp), mix_nil ?_⟩
        have e : regsF 0 (ks.take (k + 1)) = regsF 0 (ks.take k) ++ [((k : Int), ks[k])] := by rw [HRS.out, q]; simp
        have hl : (regsF 0 (ks.take (k + 1))).length = (regsF 0 (ks.take k)).length + 1 := by rw [e]; simp
        have hfl : flat (regsF 0 (ks.take (k + 1))) = flat (regsF 0 (ks.take k)) ++ [.int .i64 k, .int .u64 ks[k]] := by rw [e, flat_append]; rfl
        have hgf := grown_set w1 w.heap.size 1 (.slice a2 ((regsF 0 (ks.take k)).length + 1) c2)
        have d0 := set_blk (i := 1) HE.out.1 (.slice a2 ((regsF 0 (ks.take k)).length + 1) c2)
        have d1 := (hgf.block (w.heap.size + 1) (by omega) (by simp)).trans HE.out.2.1
        have d2 := (hgf.block (w.heap.size + 1 + 1) (by omega) (by simp; omega)).trans HE.out.2.2
        go_wp2
        go_roundw
        case rel =>
          refine ⟨k + 1, by omega, by go_num, a2, c2, ?_⟩
          rw [hl, hfl]
          refine ⟨d0, d1, d2, ?_, ?_⟩
          · exact ho1.kept hgf (by cases hob : (Value.slice a2 ((regsF 0 (ks.take k)).length + 1) c2).ownBlock with | none => simp | some k' => right; have := (ho1.lt k' hob).1; simp; omega)
          · exact HBL1.out.grown hgf (by omega) (fun k' hk' => by cases hk'; omega)
        case measure => simp [intOf]; omega
      · go_wp2
        go_roundw
        case rel =>
          have e : regsF 0 (ks.take (k + 1)) = regsF 0 (ks.take k) := by rw [HRS.out, q]; simp
          refine ⟨k + 1, by omega, by go_num, a1, c1, ?_⟩
          rw [e]
          exact ⟨HD.out.1, HD.out.2.1, HD.out.2.2, HO.out, HBL.out⟩
        case measure => simp [intOf]; omega
    · obtain rfl : k = 8 := by omega
      have htk : ks.take 8 = ks := by rw [← hlen]; exact List.take_length
      rw [htk] at z1
      have HO8 := HO.out
      have d8 := HD.out.1
      rw [htk] at HO8 d8
      have HO9 := Lib.hid HO8
      clear HO8 htk HD d0 d8
      go_wp2
      refine bodyPost_ret (v := .agg #[.int .u32 g, .slice a1 (regsF 0 ks).length c1, .int .i64 h, .int .i64 ty, .bool ap]) ?_ rfl ?_
      · simp only [results, Try.results42]
        go_simp
      · have hgg : wr.grownBy _ (some (w.heap.size + 1 + 1)) := grown_trans (grown_trans (grown_trans (grown_trans (grown_set wr (w.heap.size + 1 + 1) 0 (.int .u32 g)) (grown_set _ _ 1 (.slice a1 (regsF 0 ks).length c1))) (grown_set _ _ 2 (.int .i64 h))) (grown_set _ _ 3 (.int .i64 ty))) (grown_set _ _ 4 (.bool ap))
        refine ⟨⟨a1, c1, rfl, own_mono (HO9.out.kept hgg (by cases hob : (Value.slice a1 (regsF 0 ks).length c1).ownBlock with | none => simp | some k' => right; have := (HO9.out.lt k' hob).1; simp; omega)) (by omega)⟩, HBL.out.grown hgg (by omega) (fun k' hk' => by cases hk'; omega)⟩
end Go.Proofs.Ytopakonpfbbldaa
