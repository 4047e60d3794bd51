/- What Step answers over the pairs. -/
import Derived.Test.YtnicmfboomibjaaDoorN6
import Derived.Test.YtnicmfboomibjaaDoorK12
namespace Go.Proofs.YtnicmfboomibjaaDoor
set_option linter.unusedSimpArgs false
set_option linter.unusedVariables false
open Go.RowKit
theorem pairsF_cons (A : Int) (p : Pr) (l out : List Pr) (d : DealS) : pairsF A (p :: l) out d = if (pairF d p.1 p.2 A).2.1 != 0 then ((pairF d p.1 p.2 A).2.1, out, (pairF d p.1 p.2 A).2.2)
    else pairsF A l (if (pairF d p.1 p.2 A).1.toList.isEmpty then out else out ++ [(p.1, (pairF d p.1 p.2 A).1)]) (pairF d p.1 p.2 A).2.2 := rfl
theorem LogPost.put {lb : Nat} {s s' : LogS} {w w' : World} (h : LogPost lb s w w') (i : Nat) (u : Value) (e : (logCells s).setIfInBounds i u = logCells s') : LogPost lb s' w (w'.setCell ⟨lb, i, none⟩ u) :=
  ⟨by rw [set_blk h.1 u, e], grown_tr h.2 (grown_setCell w' ⟨lb, i, none⟩ u)⟩
theorem grown_own {w w1 w5 : World} {row row2 : Option Nat} (h : w.grownBy w1 row) (g : w1.grownBy w5 row2) (hr : ∀ k, row2 = some k → w.heap.size ≤ k) : w.grownBy w5 row :=
  ⟨g.os.trans h.os, g.tape.trans h.tape, g.output.trans h.output, Nat.le_trans h.size g.size, fun k hk hne => (g.block k (Nat.lt_of_lt_of_le hk h.size) (fun e => by have := hr k e.symm; omega)).trans (h.block k hk hne)⟩
set_option maxRecDepth 100000 in
set_option maxHeartbeats 4000000 in
theorem step_c11 (lb : Nat) (s : LogS) (f : Nat) (A X : Int) (G : Bool) (a : Option Addr) (ps : List Pr) (c : Nat) (w : World) (hE : EnvN w) (h5 : 5 < lb) (hl : w.heap[lb]? = some (.cells (logCells s) 55)) (ho : PairsIn w a ps) (hne : ∀ x, a = some x → 0 < ps.length → x.block ≠ lb) (hps : ps.length ≤ 1000000) (hsz : ∀ p ∈ ps, p.2.size ≤ 100000)
    (h1 : s.over = false) (h2 : (s.st == 3) = false) (hfs : s.first = true)
    (e1 : wrap64 (bits .and .u8 ((f : Int) / 4) 3) = A) (e2 : wrap64 (bits .and .u8 (f : Int) 3) = X) (e3 : (bits .and .u8 (f : Int) 128 != 0) = true) (e4 : (bits .and .u8 (f : Int) 112 != 0) = G) (g1 : G = false) (g2 : (A == 2) = false) (g3 : (A == 3) = false) (g4 : decide (A < s.st) = false) (g6 : (A != s.st) = false) (g8 : decide (X ≤ A) = false) (g9 : (X == 2) = false)
    (r : Nat × List Pr × Int × LogS) (hr : r = if (pairsF A ps [] s.d).1 != 0 then (0, [], (pairsF A ps [] s.d).1, ⟨A, (pairsF A ps [] s.d).2.2, true, true⟩)
      else (f, (pairsF A ps [] s.d).2.1, 0, ⟨X, clipF (pairsF A ps [] s.d).2.2, true, false⟩)) :
    Calls Tryd.prog 25 #[.pointer (some ⟨lb, 0, none⟩), .int .u8 f, .slice a ps.length c] w (StepPost lb r w) := by
  have HR := Lib.hid hr
  have HE := Lib.hid hE
  have HL := Lib.hid hl
  have HO := Lib.hid ho
  have HNE := Lib.hid hne
  have HSZ := Lib.hid hsz
  have HF1 := Lib.hid (And.intro h1 hfs)
  have hlb := lt_of_blk hl
  obtain ⟨c0, _, _, _, _, _, _, _, _, c9, c10⟩ := (blk11 hl).1
  obtain ⟨f0, _, _, _, _, _, _, _, _, f9, _⟩ := (blk11 hl).2
  rw [h1] at c10
  rw [hfs] at c9
  clear hr hE hl ho hne hsz h1 hfs
  go_enter Tryd.func25, Tryd.ntmps25
  go_wp2_with fail
  have HW0 : Hid (LogPost lb ⟨A, s.d, true, false⟩ w ((w.setCell ⟨lb, 9, none⟩ (.bool true)).setCell ⟨lb, 0, none⟩ (.int .i64 A))) := Lib.hid
    ⟨by rw [set_blk (set_blk HL.out _) _]; obtain ⟨h1, h2⟩ := HF1.out; unfold logCells; rw [h1]; rfl, grown_tr (grown_setCell w ⟨lb, 9, none⟩ _) (grown_setCell _ ⟨lb, 0, none⟩ _)⟩
  generalize ((w.setCell ⟨lb, 9, none⟩ (.bool true)).setCell ⟨lb, 0, none⟩ (.int .i64 A)) = w0 at HW0 ⊢
  have HG := Lib.hid (And.intro e3 e4)
  rw [e1, e2]
  clear c0 c9 c10 f0 f9 g1 g2 g3 g4 g6 g8 g9 e1 e2 e3 e4 h2
  go_loopw [13, 115] (fun ov iv wr => ∃ (i : Nat) (acc : List Pr) (d : DealS) (a' : Option Addr) (c' : Nat), ov = .slice a' acc.length c' ∧ iv = .int .i64 i ∧ i ≤ ps.length ∧ acc.length ≤ i ∧ Hid (pairsF A ps [] s.d = pairsF A (ps.drop i) acc d) ∧ Hid (wr.ownsRow w.heap.size 39 2 (.slice a' acc.length c') acc.length (flatP acc)) ∧ Hid (LogPost lb ⟨A, d, true, false⟩ w wr)) (fun _ iv _ => ps.length - (intOf iv).toNat)
  case atStart => exact ⟨0, [], s.d, none, 0, rfl, rfl, by omega, by simp, Lib.hid rfl, Lib.hid (World.ownsRow_nil _ _ _ _), HW0⟩
  case round =>
    clear HW0 w0
    obtain ⟨i, acc, d, a', c', rfl, rfl, hi, hacc, HQ, HOW, HLP⟩ := hrel
    by_cases hlt : i < ps.length
    · obtain ⟨b, off, rfl, hbs, c1, c2⟩ := (HO.out.beside HLP.out.2 HNE.out) i hlt
      have hi0 : (0 : Int) ≤ i := by omega
      have hi1 : (i : Int) < ps.length := by omega
      have HD : Hid (pairsF A ps [] s.d = pairsF A (ps[i] :: ps.drop (i + 1)) acc d) := Lib.hid (by rw [HQ.out, List.drop_eq_getElem_cons hlt])
      have hvz := HSZ.out ps[i] (List.getElem_mem _)
      generalize ps[i] = p at c1 c2 HD hvz
      obtain ⟨K, V⟩ := p
      dsimp only at c1 c2 hvz
      obtain ⟨hb0, hp0, hs0⟩ := pairBlock wr K V
      have hln : lb < wr.heap.size := lt_of_blk HLP.out.1
      have HC := Lib.hid (pair_any lb ⟨A, d, true, false⟩ K V A (wr.alloc (.cells #[.string K, .string V] 39)) ((HE.out.kept HLP.out.2 (fun k hk => by cases hk; exact h5)).below hb0 (Nat.le_refl _)) h5 hvz ((hb0.block lb hln).trans HLP.out.1))
      have HP0 := Lib.hid (And.intro hb0 (And.intro hp0 hs0))
      clear hb0 hp0 hs0 HQ
      rw [pairsF_cons] at HD
      dsimp only at HD HC
      generalize pairF d K V A = pr at HD HC
      obtain ⟨ans, st, d'⟩ := pr
      dsimp only at HD HC
      go_wp2_with fail
      refine HC.out.mono ?_
      rintro e w1 ⟨rfl, hp1⟩
      have HL1 : Hid (LogPost lb ⟨A, d', true, false⟩ w w1) := Lib.hid ⟨hp1.1, grown_tr HLP.out.2 (grown_tr (grown_be HP0.out.1 _) hp1.2)⟩
      have HOW1 : Hid (w1.ownsRow w.heap.size 39 2 (.slice a' acc.length c') acc.length (flatP acc)) := Lib.hid ((HOW.out.alloc _).kept hp1.2 (by
        cases hob : (Value.slice a' acc.length c').ownBlock with
        | none => exact .inl rfl
        | some k => right; have := (HOW.out.lt k hob).1; intro e; cases e; omega))
      obtain ⟨p0, p1, _⟩ := blk2 ((hp1.2.block wr.heap.size (by rw [HP0.out.2.2]; omega) (by intro e; cases e; omega)).trans HP0.out.2.1)
      clear hp1 HC HP0 HOW HLP c1 c2
      dsimp only
      cases hst : (st != 0)
      case true =>
        rw [hst, if_pos rfl] at HD
        have HEN := Lib.hid (end_any lb ⟨A, d', true, false⟩ st w1 HL1.out.1)
        go_wp2_with fail
        refine HEN.out.mono ?_
        rintro e w2 ⟨rfl, hp2⟩
        have HL2 := Lib.hid hp2
        clear hp2
        dsimp only
        go_wp2_with fail
        go_ret3
        refine ⟨none, 0, ?_, ?_, ⟨fun x hx => (by cases hx), fun _ => rfl⟩, ?_⟩
        · rw [HR.out, HD.out, if_pos hst]; rfl
        · rw [HR.out, HD.out, if_pos hst]; exact PairsIn.nil _ _
        · rw [HR.out, HD.out, if_pos hst]; exact ⟨HL2.out.1, grown_tr HL1.out.2 HL2.out.2⟩
      rw [hst, if_neg (by decide)] at HD
      cases hem : ans.toList.isEmpty
      case true =>
        rw [hem, if_pos rfl] at HD
        go_wp2_with fail
        refine ⟨⟨i + 1, acc, d', a', c', rfl, by go_num, by omega, by omega, HD, HOW1, HL1⟩, by simp [intOf]; omega⟩
      rw [hem, if_neg (by decide)] at HD
      obtain ⟨i0, hi0', hq0, hq1, hq2⟩ := info_parts info_pair
      go_wp2_with (at_builtin; refine wpList_append_own _ rfl _ _ 24 rfl w.heap.size 39 i0 (.agg #[.string ⟨#[]⟩, .string ⟨#[]⟩]) 2 32 Tryd.underlying24 hi0' hq0 hq1 hq2 rfl (by decide) _ _ _ rfl (HOW1.out.alloc _) ⟨w1.heap.size, 0, none⟩ 1 1 [.string K, .string ans] rfl rfl ?c1 ?c2 ?c3 ?c4 ?c5 ?_)
      case c1 => intro j u hu; exact cell_two_new _ _ _ _ j u hu
      case c2 => simp [Value.oneCell']
      case c3 => unfold maxLen; omega
      case c4 => omega
      case c5 => have := HL1.out.2.size; simp; omega
      intro v5 w5 hown hgrow _
      obtain ⟨a5, c5, hv5⟩ := own_slice hown
      rw [hv5] at hown ⊢
      clear hv5
      have HL5 : Hid (LogPost lb ⟨A, d', true, false⟩ w w5) := Lib.hid (by
        have hlt1 := lt_of_blk HL1.out.1
        have hne5 : some lb ≠ (Value.slice a' acc.length c').ownBlock := by
          intro e; have := (HOW1.out.lt lb e.symm).1; omega
        refine ⟨?_, grown_own (grown_tr HL1.out.2 (grown_be ((Below.refl _ _).alloc (Nat.le_refl _) (.cells #[.string K, .string ans] 39)) _)) hgrow (fun k hk => (HOW1.out.lt k hk).1)⟩
        rw [hgrow.block lb (by simp; omega) hne5]
        exact (Below.heap_alloc _ _ _ hlt1).trans HL1.out.1)
      have HO5 : Hid (w5.ownsRow w.heap.size 39 2 (.slice a5 (acc ++ [(K, ans)]).length c5) (acc ++ [(K, ans)]).length (flatP (acc ++ [(K, ans)]))) := Lib.hid (by simpa [flatP_append, flatP] using hown)
      clear hown hgrow
      go_wp2_with fail
      go_roundw
      case rel => exact ⟨i + 1, acc ++ [(K, ans)], d', a5, c5, by simp, by go_num, by omega, by simp; omega, HD, HO5, HL5⟩
      case measure => simp [intOf]; omega
    · obtain rfl : i = ps.length := by omega
      have HD : Hid (pairsF A ps [] s.d = (0, acc, d)) := Lib.hid (by rw [HQ.out, List.drop_length]; rfl)
      obtain ⟨k0, k1, _, _, _, k5, k6, _, _, _, _⟩ := (blk11 HLP.out.1).1
      obtain ⟨j0, _, _, _, _, _, j6, _, _, _, _⟩ := (blk11 HLP.out.1).2
      clear HQ
      have HNA : Hid (∀ x, a' = some x → 0 < acc.length → x.block ≠ lb) := Lib.hid (fun x hx _ e => by subst hx; have := (HOW.out.lt x.block rfl).1; omega)
      have r5 := cell_regrown k5
      have r6 := cell_regrown k6
      have HMON : Hid (wr.heap.size ≤ wr.heap.size) := Lib.hid (Nat.le_refl _)
      clear k0 k1 k5 k6 j0 j6
      cases cb : decide (d.bu < d.fi)
      case true =>
        have HCL : Hid (clipF d = { d with fi := d.bu }) := Lib.hid (by unfold clipF; rw [if_pos (of_decide_eq_true cb)])
        go_wp2_with fail
        refine wp_region_quiet_below (by kernel_rfl) (by kernel_rfl) ?_
        (repeat (go_big_quiet_step (fail)))
        refine wpQuiet_nil ?_
        intro wq hwq
        have hq := below_of_regrown hwq
        clear hwq
        have HLQ := Lib.hid (HLP.out.more hq)
        have HPQ := Lib.hid ((PairsIn.of_own HOW.out).below (hq.mono HMON.out))
        obtain ⟨k0, _, _, _, _, k5, k6, _, _, _, _⟩ := (blk11 HLQ.out.1).1
        obtain ⟨j0, _, _, _, _, _, j6, _, _, _, _⟩ := (blk11 HLQ.out.1).2
        clear hq r5 r6
        go_wp2_with fail
        go_ret3
        refine ⟨a', c', ?_, ?_, ⟨fun x hx => (by subst hx; exact (HOW.out.lt x.block rfl).1), own_none HOW.out⟩, ?_⟩
        · rw [HR.out, HD.out, HCL.out]; rfl
        · rw [HR.out, HD.out, HCL.out]
          exact ((HPQ.out).beside (grown_setCell _ ⟨lb, 6, none⟩ _) HNA.out).beside (grown_setCell _ ⟨lb, 0, none⟩ _) HNA.out
        · rw [HR.out, HD.out, HCL.out]
          exact ((HLQ.out).put 6 (.int .i64 d.bu) (s' := ⟨A, { d with fi := d.bu }, true, false⟩) rfl).put 0 (.int .i64 X) (s' := ⟨X, { d with fi := d.bu }, true, false⟩) rfl
      case false =>
        have HCL : Hid (clipF d = d) := Lib.hid (by unfold clipF; rw [if_neg (of_decide_eq_false cb)])
        go_wp2_with fail
        refine wp_region_quiet_below (by kernel_rfl) (by kernel_rfl) ?_
        (repeat (go_big_quiet_step (fail)))
        refine wpQuiet_nil ?_
        intro wq hwq
        have hq := below_of_regrown hwq
        clear hwq
        have HLQ := Lib.hid (HLP.out.more hq)
        have HPQ := Lib.hid ((PairsIn.of_own HOW.out).below (hq.mono HMON.out))
        obtain ⟨k0, _, _, _, _, k5, k6, _, _, _, _⟩ := (blk11 HLQ.out.1).1
        obtain ⟨j0, _, _, _, _, _, j6, _, _, _, _⟩ := (blk11 HLQ.out.1).2
        clear hq r5 r6
        go_wp2_with fail
        go_ret3
        refine ⟨a', c', ?_, ?_, ⟨fun x hx => (by subst hx; exact (HOW.out.lt x.block rfl).1), own_none HOW.out⟩, ?_⟩
        · rw [HR.out, HD.out, HCL.out]; rfl
        · rw [HR.out, HD.out, HCL.out]
          exact (HPQ.out).beside (grown_setCell _ ⟨lb, 0, none⟩ _) HNA.out
        · rw [HR.out, HD.out, HCL.out]
          exact (HLQ.out).put 0 (.int .i64 X) (s' := ⟨X, d, true, false⟩) rfl
set_option maxRecDepth 100000 in
set_option maxHeartbeats 4000000 in
theorem step_c10 (lb : Nat) (s : LogS) (f : Nat) (A X : Int) (G : Bool) (a : Option Addr) (ps : List Pr) (c : Nat) (w : World) (hE : EnvN w) (h5 : 5 < lb) (hl : w.heap[lb]? = some (.cells (logCells s) 55)) (ho : PairsIn w a ps) (hne : ∀ x, a = some x → 0 < ps.length → x.block ≠ lb) (hps : ps.length ≤ 1000000) (hsz : ∀ p ∈ ps, p.2.size ≤ 100000)
    (h1 : s.over = false) (h2 : (s.st == 3) = false) (hfs : s.first = true)
    (e1 : wrap64 (bits .and .u8 ((f : Int) / 4) 3) = A) (e2 : wrap64 (bits .and .u8 (f : Int) 3) = X) (e3 : (bits .and .u8 (f : Int) 128 != 0) = false) (e4 : (bits .and .u8 (f : Int) 112 != 0) = G) (g1 : G = false) (g2 : (A == 2) = false) (g3 : (A == 3) = false) (g4 : decide (A < s.st) = false) (g6 : (A != s.st) = false) (g8 : (X != 0) = false)
    (r : Nat × List Pr × Int × LogS) (hr : r = if (pairsF A ps [] s.d).1 != 0 then (0, [], (pairsF A ps [] s.d).1, ⟨A, (pairsF A ps [] s.d).2.2, true, true⟩)
      else (f, (pairsF A ps [] s.d).2.1, 0, ⟨A, clipF (pairsF A ps [] s.d).2.2, true, false⟩)) :
    Calls Tryd.prog 25 #[.pointer (some ⟨lb, 0, none⟩), .int .u8 f, .slice a ps.length c] w (StepPost lb r w) := by
  have HR := Lib.hid hr
  have HE := Lib.hid hE
  have HL := Lib.hid hl
  have HO := Lib.hid ho
  have HNE := Lib.hid hne
  have HSZ := Lib.hid hsz
  have HF1 := Lib.hid (And.intro h1 hfs)
  have hlb := lt_of_blk hl
  obtain ⟨c0, _, _, _, _, _, _, _, _, c9, c10⟩ := (blk11 hl).1
  obtain ⟨f0, _, _, _, _, _, _, _, _, f9, _⟩ := (blk11 hl).2
  rw [h1] at c10
  rw [hfs] at c9
  clear hr hE hl ho hne hsz h1 hfs
  go_enter Tryd.func25, Tryd.ntmps25
  go_wp2_with fail
  have HW0 : Hid (LogPost lb ⟨A, s.d, true, false⟩ w ((w.setCell ⟨lb, 9, none⟩ (.bool true)).setCell ⟨lb, 0, none⟩ (.int .i64 A))) := Lib.hid
    ⟨by rw [set_blk (set_blk HL.out _) _]; obtain ⟨h1, h2⟩ := HF1.out; unfold logCells; rw [h1]; rfl, grown_tr (grown_setCell w ⟨lb, 9, none⟩ _) (grown_setCell _ ⟨lb, 0, none⟩ _)⟩
  generalize ((w.setCell ⟨lb, 9, none⟩ (.bool true)).setCell ⟨lb, 0, none⟩ (.int .i64 A)) = w0 at HW0 ⊢
  have HG := Lib.hid (And.intro e3 e4)
  rw [e1, e2]
  clear c0 c9 c10 f0 f9 g1 g2 g3 g4 g6 g8 e1 e2 e3 e4 h2
  go_loopw [13, 115] (fun ov iv wr => ∃ (i : Nat) (acc : List Pr) (d : DealS) (a' : Option Addr) (c' : Nat), ov = .slice a' acc.length c' ∧ iv = .int .i64 i ∧ i ≤ ps.length ∧ acc.length ≤ i ∧ Hid (pairsF A ps [] s.d = pairsF A (ps.drop i) acc d) ∧ Hid (wr.ownsRow w.heap.size 39 2 (.slice a' acc.length c') acc.length (flatP acc)) ∧ Hid (LogPost lb ⟨A, d, true, false⟩ w wr)) (fun _ iv _ => ps.length - (intOf iv).toNat)
  case atStart => exact ⟨0, [], s.d, none, 0, rfl, rfl, by omega, by simp, Lib.hid rfl, Lib.hid (World.ownsRow_nil _ _ _ _), HW0⟩
  case round =>
    clear HW0 w0
    obtain ⟨i, acc, d, a', c', rfl, rfl, hi, hacc, HQ, HOW, HLP⟩ := hrel
    by_cases hlt : i < ps.length
    · obtain ⟨b, off, rfl, hbs, c1, c2⟩ := (HO.out.beside HLP.out.2 HNE.out) i hlt
      have hi0 : (0 : Int) ≤ i := by omega
      have hi1 : (i : Int) < ps.length := by omega
      have HD : Hid (pairsF A ps [] s.d = pairsF A (ps[i] :: ps.drop (i + 1)) acc d) := Lib.hid (by rw [HQ.out, List.drop_eq_getElem_cons hlt])
      have hvz := HSZ.out ps[i] (List.getElem_mem _)
      generalize ps[i] = p at c1 c2 HD hvz
      obtain ⟨K, V⟩ := p
      dsimp only at c1 c2 hvz
      obtain ⟨hb0, hp0, hs0⟩ := pairBlock wr K V
      have hln : lb < wr.heap.size := lt_of_blk HLP.out.1
      have HC := Lib.hid (pair_any lb ⟨A, d, true, false⟩ K V A (wr.alloc (.cells #[.string K, .string V] 39)) ((HE.out.kept HLP.out.2 (fun k hk => by cases hk; exact h5)).below hb0 (Nat.le_refl _)) h5 hvz ((hb0.block lb hln).trans HLP.out.1))
      have HP0 := Lib.hid (And.intro hb0 (And.intro hp0 hs0))
      clear hb0 hp0 hs0 HQ
      rw [pairsF_cons] at HD
      dsimp only at HD HC
      generalize pairF d K V A = pr at HD HC
      obtain ⟨ans, st, d'⟩ := pr
      dsimp only at HD HC
      go_wp2_with fail
      refine HC.out.mono ?_
      rintro e w1 ⟨rfl, hp1⟩
      have HL1 : Hid (LogPost lb ⟨A, d', true, false⟩ w w1) := Lib.hid ⟨hp1.1, grown_tr HLP.out.2 (grown_tr (grown_be HP0.out.1 _) hp1.2)⟩
      have HOW1 : Hid (w1.ownsRow w.heap.size 39 2 (.slice a' acc.length c') acc.length (flatP acc)) := Lib.hid ((HOW.out.alloc _).kept hp1.2 (by
        cases hob : (Value.slice a' acc.length c').ownBlock with
        | none => exact .inl rfl
        | some k => right; have := (HOW.out.lt k hob).1; intro e; cases e; omega))
      obtain ⟨p0, p1, _⟩ := blk2 ((hp1.2.block wr.heap.size (by rw [HP0.out.2.2]; omega) (by intro e; cases e; omega)).trans HP0.out.2.1)
      clear hp1 HC HP0 HOW HLP c1 c2
      dsimp only
      cases hst : (st != 0)
      case true =>
        rw [hst, if_pos rfl] at HD
        have HEN := Lib.hid (end_any lb ⟨A, d', true, false⟩ st w1 HL1.out.1)
        go_wp2_with fail
        refine HEN.out.mono ?_
        rintro e w2 ⟨rfl, hp2⟩
        have HL2 := Lib.hid hp2
        clear hp2
        dsimp only
        go_wp2_with fail
        go_ret3
        refine ⟨none, 0, ?_, ?_, ⟨fun x hx => (by cases hx), fun _ => rfl⟩, ?_⟩
        · rw [HR.out, HD.out, if_pos hst]; rfl
        · rw [HR.out, HD.out, if_pos hst]; exact PairsIn.nil _ _
        · rw [HR.out, HD.out, if_pos hst]; exact ⟨HL2.out.1, grown_tr HL1.out.2 HL2.out.2⟩
      rw [hst, if_neg (by decide)] at HD
      cases hem : ans.toList.isEmpty
      case true =>
        rw [hem, if_pos rfl] at HD
        go_wp2_with fail
        refine ⟨⟨i + 1, acc, d', a', c', rfl, by go_num, by omega, by omega, HD, HOW1, HL1⟩, by simp [intOf]; omega⟩
      rw [hem, if_neg (by decide)] at HD
      obtain ⟨i0, hi0', hq0, hq1, hq2⟩ := info_parts info_pair
      go_wp2_with (at_builtin; refine wpList_append_own _ rfl _ _ 24 rfl w.heap.size 39 i0 (.agg #[.string ⟨#[]⟩, .string ⟨#[]⟩]) 2 32 Tryd.underlying24 hi0' hq0 hq1 hq2 rfl (by decide) _ _ _ rfl (HOW1.out.alloc _) ⟨w1.heap.size, 0, none⟩ 1 1 [.string K, .string ans] rfl rfl ?c1 ?c2 ?c3 ?c4 ?c5 ?_)
      case c1 => intro j u hu; exact cell_two_new _ _ _ _ j u hu
      case c2 => simp [Value.oneCell']
      case c3 => unfold maxLen; omega
      case c4 => omega
      case c5 => have := HL1.out.2.size; simp; omega
      intro v5 w5 hown hgrow _
      obtain ⟨a5, c5, hv5⟩ := own_slice hown
      rw [hv5] at hown ⊢
      clear hv5
      have HL5 : Hid (LogPost lb ⟨A, d', true, false⟩ w w5) := Lib.hid (by
        have hlt1 := lt_of_blk HL1.out.1
        have hne5 : some lb ≠ (Value.slice a' acc.length c').ownBlock := by
          intro e; have := (HOW1.out.lt lb e.symm).1; omega
        refine ⟨?_, grown_own (grown_tr HL1.out.2 (grown_be ((Below.refl _ _).alloc (Nat.le_refl _) (.cells #[.string K, .string ans] 39)) _)) hgrow (fun k hk => (HOW1.out.lt k hk).1)⟩
        rw [hgrow.block lb (by simp; omega) hne5]
        exact (Below.heap_alloc _ _ _ hlt1).trans HL1.out.1)
      have HO5 : Hid (w5.ownsRow w.heap.size 39 2 (.slice a5 (acc ++ [(K, ans)]).length c5) (acc ++ [(K, ans)]).length (flatP (acc ++ [(K, ans)]))) := Lib.hid (by simpa [flatP_append, flatP] using hown)
      clear hown hgrow
      go_wp2_with fail
      go_roundw
      case rel => exact ⟨i + 1, acc ++ [(K, ans)], d', a5, c5, by simp, by go_num, by omega, by simp; omega, HD, HO5, HL5⟩
      case measure => simp [intOf]; omega
    · obtain rfl : i = ps.length := by omega
      have HD : Hid (pairsF A ps [] s.d = (0, acc, d)) := Lib.hid (by rw [HQ.out, List.drop_length]; rfl)
      obtain ⟨k0, k1, _, _, _, k5, k6, _, _, _, _⟩ := (blk11 HLP.out.1).1
      obtain ⟨j0, _, _, _, _, _, j6, _, _, _, _⟩ := (blk11 HLP.out.1).2
      clear HQ
      have HNA : Hid (∀ x, a' = some x → 0 < acc.length → x.block ≠ lb) := Lib.hid (fun x hx _ e => by subst hx; have := (HOW.out.lt x.block rfl).1; omega)
      have r5 := cell_regrown k5
      have r6 := cell_regrown k6
      have HMON : Hid (wr.heap.size ≤ wr.heap.size) := Lib.hid (Nat.le_refl _)
      clear k0 k1 k5 k6 j0 j6
      cases cb : decide (d.bu < d.fi)
      case true =>
        have HCL : Hid (clipF d = { d with fi := d.bu }) := Lib.hid (by unfold clipF; rw [if_pos (of_decide_eq_true cb)])
        go_wp2_with fail
        refine wp_region_quiet_below (by kernel_rfl) (by kernel_rfl) ?_
        (repeat (go_big_quiet_step (fail)))
        refine wpQuiet_nil ?_
        intro wq hwq
        have hq := below_of_regrown hwq
        clear hwq
        have HLQ := Lib.hid (HLP.out.more hq)
        have HPQ := Lib.hid ((PairsIn.of_own HOW.out).below (hq.mono HMON.out))
        obtain ⟨k0, _, _, _, _, k5, k6, _, _, _, _⟩ := (blk11 HLQ.out.1).1
        obtain ⟨j0, _, _, _, _, _, j6, _, _, _, _⟩ := (blk11 HLQ.out.1).2
        clear hq r5 r6
        go_wp2_with fail
        go_ret3
        refine ⟨a', c', ?_, ?_, ⟨fun x hx => (by subst hx; exact (HOW.out.lt x.block rfl).1), own_none HOW.out⟩, ?_⟩
        · rw [HR.out, HD.out, HCL.out]; rfl
        · rw [HR.out, HD.out, HCL.out]
          exact (HPQ.out).beside (grown_setCell _ ⟨lb, 6, none⟩ _) HNA.out
        · rw [HR.out, HD.out, HCL.out]
          exact (HLQ.out).put 6 (.int .i64 d.bu) (s' := ⟨A, { d with fi := d.bu }, true, false⟩) rfl
      case false =>
        have HCL : Hid (clipF d = d) := Lib.hid (by unfold clipF; rw [if_neg (of_decide_eq_false cb)])
        go_wp2_with fail
        refine wp_region_quiet_below (by kernel_rfl) (by kernel_rfl) ?_
        (repeat (go_big_quiet_step (fail)))
        refine wpQuiet_nil ?_
        intro wq hwq
        have hq := below_of_regrown hwq
        clear hwq
        have HLQ := Lib.hid (HLP.out.more hq)
        have HPQ := Lib.hid ((PairsIn.of_own HOW.out).below (hq.mono HMON.out))
        obtain ⟨k0, _, _, _, _, k5, k6, _, _, _, _⟩ := (blk11 HLQ.out.1).1
        obtain ⟨j0, _, _, _, _, _, j6, _, _, _, _⟩ := (blk11 HLQ.out.1).2
        clear hq r5 r6
        go_wp2_with fail
        go_ret3
        refine ⟨a', c', ?_, ?_, ⟨fun x hx => (by subst hx; exact (HOW.out.lt x.block rfl).1), own_none HOW.out⟩, ?_⟩
        · rw [HR.out, HD.out, HCL.out]; rfl
        · rw [HR.out, HD.out, HCL.out]
          exact HPQ.out
        · rw [HR.out, HD.out, HCL.out]
          exact HLQ.out
set_option maxRecDepth 100000 in
set_option maxHeartbeats 4000000 in
theorem step_c01 (lb : Nat) (s : LogS) (f : Nat) (A X : Int) (G : Bool) (a : Option Addr) (ps : List Pr) (c : Nat) (w : World) (hE : EnvN w) (h5 : 5 < lb) (hl : w.heap[lb]? = some (.cells (logCells s) 55)) (ho : PairsIn w a ps) (hne : ∀ x, a = some x → 0 < ps.length → x.block ≠ lb) (hps : ps.length ≤ 1000000) (hsz : ∀ p ∈ ps, p.2.size ≤ 100000)
    (h1 : s.over = false) (h2 : (s.st == 3) = false) (hfs : s.first = false)
    (e1 : wrap64 (bits .and .u8 ((f : Int) / 4) 3) = A) (e2 : wrap64 (bits .and .u8 (f : Int) 3) = X) (e3 : (bits .and .u8 (f : Int) 128 != 0) = true) (e4 : (bits .and .u8 (f : Int) 112 != 0) = G) (g1 : G = false) (g2 : (A == 2) = false) (g3 : (A == 3) = false) (g4 : decide (A < s.st) = false) (g8 : decide (X ≤ A) = false) (g9 : (X == 2) = false)
    (r : Nat × List Pr × Int × LogS) (hr : r = if (pairsF A ps [] s.d).1 != 0 then (0, [], (pairsF A ps [] s.d).1, ⟨A, (pairsF A ps [] s.d).2.2, true, true⟩)
      else if decide ((pairsF A ps [] s.d).2.2.nx < 0) then (0, [], 519, ⟨A, (pairsF A ps [] s.d).2.2, true, true⟩)
      else (f, (pairsF A ps [] s.d).2.1, 0, ⟨X, clipF (pairsF A ps [] s.d).2.2, true, false⟩)) :
    Calls Tryd.prog 25 #[.pointer (some ⟨lb, 0, none⟩), .int .u8 f, .slice a ps.length c] w (StepPost lb r w) := by
  have HR := Lib.hid hr
  have HE := Lib.hid hE
  have HL := Lib.hid hl
  have HO := Lib.hid ho
  have HNE := Lib.hid hne
  have HSZ := Lib.hid hsz
  have HF1 := Lib.hid (And.intro h1 hfs)
  have hlb := lt_of_blk hl
  obtain ⟨c0, _, _, _, _, _, _, _, _, c9, c10⟩ := (blk11 hl).1
  obtain ⟨f0, _, _, _, _, _, _, _, _, f9, _⟩ := (blk11 hl).2
  rw [h1] at c10
  rw [hfs] at c9
  clear hr hE hl ho hne hsz h1 hfs
  go_enter Tryd.func25, Tryd.ntmps25
  go_wp2_with fail
  have HW0 : Hid (LogPost lb ⟨A, s.d, true, false⟩ w ((w.setCell ⟨lb, 9, none⟩ (.bool true)).setCell ⟨lb, 0, none⟩ (.int .i64 A))) := Lib.hid
    ⟨by rw [set_blk (set_blk HL.out _) _]; obtain ⟨h1, h2⟩ := HF1.out; unfold logCells; rw [h1]; rfl, grown_tr (grown_setCell w ⟨lb, 9, none⟩ _) (grown_setCell _ ⟨lb, 0, none⟩ _)⟩
  generalize ((w.setCell ⟨lb, 9, none⟩ (.bool true)).setCell ⟨lb, 0, none⟩ (.int .i64 A)) = w0 at HW0 ⊢
  have HG := Lib.hid (And.intro e3 e4)
  rw [e1, e2]
  clear c0 c9 c10 f0 f9 g1 g2 g3 g4 g8 g9 e1 e2 e3 e4 h2
  go_loopw [13, 115] (fun ov iv wr => ∃ (i : Nat) (acc : List Pr) (d : DealS) (a' : Option Addr) (c' : Nat), ov = .slice a' acc.length c' ∧ iv = .int .i64 i ∧ i ≤ ps.length ∧ acc.length ≤ i ∧ Hid (pairsF A ps [] s.d = pairsF A (ps.drop i) acc d) ∧ Hid (wr.ownsRow w.heap.size 39 2 (.slice a' acc.length c') acc.length (flatP acc)) ∧ Hid (LogPost lb ⟨A, d, true, false⟩ w wr)) (fun _ iv _ => ps.length - (intOf iv).toNat)
  case atStart => exact ⟨0, [], s.d, none, 0, rfl, rfl, by omega, by simp, Lib.hid rfl, Lib.hid (World.ownsRow_nil _ _ _ _), HW0⟩
  case round =>
    clear HW0 w0
    obtain ⟨i, acc, d, a', c', rfl, rfl, hi, hacc, HQ, HOW, HLP⟩ := hrel
    by_cases hlt : i < ps.length
    · obtain ⟨b, off, rfl, hbs, c1, c2⟩ := (HO.out.beside HLP.out.2 HNE.out) i hlt
      have hi0 : (0 : Int) ≤ i := by omega
      have hi1 : (i : Int) < ps.length := by omega
      have HD : Hid (pairsF A ps [] s.d = pairsF A (ps[i] :: ps.drop (i + 1)) acc d) := Lib.hid (by rw [HQ.out, List.drop_eq_getElem_cons hlt])
      have hvz := HSZ.out ps[i] (List.getElem_mem _)
      generalize ps[i] = p at c1 c2 HD hvz
      obtain ⟨K, V⟩ := p
      dsimp only at c1 c2 hvz
      obtain ⟨hb0, hp0, hs0⟩ := pairBlock wr K V
      have hln : lb < wr.heap.size := lt_of_blk HLP.out.1
      have HC := Lib.hid (pair_any lb ⟨A, d, true, false⟩ K V A (wr.alloc (.cells #[.string K, .string V] 39)) ((HE.out.kept HLP.out.2 (fun k hk => by cases hk; exact h5)).below hb0 (Nat.le_refl _)) h5 hvz ((hb0.block lb hln).trans HLP.out.1))
      have HP0 := Lib.hid (And.intro hb0 (And.intro hp0 hs0))
      clear hb0 hp0 hs0 HQ
      rw [pairsF_cons] at HD
      dsimp only at HD HC
      generalize pairF d K V A = pr at HD HC
      obtain ⟨ans, st, d'⟩ := pr
      dsimp only at HD HC
      go_wp2_with fail
      refine HC.out.mono ?_
      rintro e w1 ⟨rfl, hp1⟩
      have HL1 : Hid (LogPost lb ⟨A, d', true, false⟩ w w1) := Lib.hid ⟨hp1.1, grown_tr HLP.out.2 (grown_tr (grown_be HP0.out.1 _) hp1.2)⟩
      have HOW1 : Hid (w1.ownsRow w.heap.size 39 2 (.slice a' acc.length c') acc.length (flatP acc)) := Lib.hid ((HOW.out.alloc _).kept hp1.2 (by
        cases hob : (Value.slice a' acc.length c').ownBlock with
        | none => exact .inl rfl
        | some k => right; have := (HOW.out.lt k hob).1; intro e; cases e; omega))
      obtain ⟨p0, p1, _⟩ := blk2 ((hp1.2.block wr.heap.size (by rw [HP0.out.2.2]; omega) (by intro e; cases e; omega)).trans HP0.out.2.1)
      clear hp1 HC HP0 HOW HLP c1 c2
      dsimp only
      cases hst : (st != 0)
      case true =>
        rw [hst, if_pos rfl] at HD
        have HEN := Lib.hid (end_any lb ⟨A, d', true, false⟩ st w1 HL1.out.1)
        go_wp2_with fail
        refine HEN.out.mono ?_
        rintro e w2 ⟨rfl, hp2⟩
        have HL2 := Lib.hid hp2
        clear hp2
        dsimp only
        go_wp2_with fail
        go_ret3
        refine ⟨none, 0, ?_, ?_, ⟨fun x hx => (by cases hx), fun _ => rfl⟩, ?_⟩
        · rw [HR.out, HD.out, if_pos hst]; rfl
        · rw [HR.out, HD.out, if_pos hst]; exact PairsIn.nil _ _
        · rw [HR.out, HD.out, if_pos hst]; exact ⟨HL2.out.1, grown_tr HL1.out.2 HL2.out.2⟩
      rw [hst, if_neg (by decide)] at HD
      cases hem : ans.toList.isEmpty
      case true =>
        rw [hem, if_pos rfl] at HD
        go_wp2_with fail
        refine ⟨⟨i + 1, acc, d', a', c', rfl, by go_num, by omega, by omega, HD, HOW1, HL1⟩, by simp [intOf]; omega⟩
      rw [hem, if_neg (by decide)] at HD
      obtain ⟨i0, hi0', hq0, hq1, hq2⟩ := info_parts info_pair
      go_wp2_with (at_builtin; refine wpList_append_own _ rfl _ _ 24 rfl w.heap.size 39 i0 (.agg #[.string ⟨#[]⟩, .string ⟨#[]⟩]) 2 32 Tryd.underlying24 hi0' hq0 hq1 hq2 rfl (by decide) _ _ _ rfl (HOW1.out.alloc _) ⟨w1.heap.size, 0, none⟩ 1 1 [.string K, .string ans] rfl rfl ?c1 ?c2 ?c3 ?c4 ?c5 ?_)
      case c1 => intro j u hu; exact cell_two_new _ _ _ _ j u hu
      case c2 => simp [Value.oneCell']
      case c3 => unfold maxLen; omega
      case c4 => omega
      case c5 => have := HL1.out.2.size; simp; omega
      intro v5 w5 hown hgrow _
      obtain ⟨a5, c5, hv5⟩ := own_slice hown
      rw [hv5] at hown ⊢
      clear hv5
      have HL5 : Hid (LogPost lb ⟨A, d', true, false⟩ w w5) := Lib.hid (by
        have hlt1 := lt_of_blk HL1.out.1
        have hne5 : some lb ≠ (Value.slice a' acc.length c').ownBlock := by
          intro e; have := (HOW1.out.lt lb e.symm).1; omega
        refine ⟨?_, grown_own (grown_tr HL1.out.2 (grown_be ((Below.refl _ _).alloc (Nat.le_refl _) (.cells #[.string K, .string ans] 39)) _)) hgrow (fun k hk => (HOW1.out.lt k hk).1)⟩
        rw [hgrow.block lb (by simp; omega) hne5]
        exact (Below.heap_alloc _ _ _ hlt1).trans HL1.out.1)
      have HO5 : Hid (w5.ownsRow w.heap.size 39 2 (.slice a5 (acc ++ [(K, ans)]).length c5) (acc ++ [(K, ans)]).length (flatP (acc ++ [(K, ans)]))) := Lib.hid (by simpa [flatP_append, flatP] using hown)
      clear hown hgrow
      go_wp2_with fail
      go_roundw
      case rel => exact ⟨i + 1, acc ++ [(K, ans)], d', a5, c5, by simp, by go_num, by omega, by simp; omega, HD, HO5, HL5⟩
      case measure => simp [intOf]; omega
    · obtain rfl : i = ps.length := by omega
      have HD : Hid (pairsF A ps [] s.d = (0, acc, d)) := Lib.hid (by rw [HQ.out, List.drop_length]; rfl)
      obtain ⟨k0, k1, _, _, _, k5, k6, _, _, _, _⟩ := (blk11 HLP.out.1).1
      obtain ⟨j0, _, _, _, _, _, j6, _, _, _, _⟩ := (blk11 HLP.out.1).2
      clear HQ
      have HNA : Hid (∀ x, a' = some x → 0 < acc.length → x.block ≠ lb) := Lib.hid (fun x hx _ e => by subst hx; have := (HOW.out.lt x.block rfl).1; omega)
      have r5 := cell_regrown k5
      have r6 := cell_regrown k6
      have HMON : Hid (wr.heap.size ≤ wr.heap.size) := Lib.hid (Nat.le_refl _)
      clear k0 k5 k6 j0 j6
      cases cn : decide (d.nx < 0)
      case true =>
        have HEN := Lib.hid (end_any lb ⟨A, d, true, false⟩ 519 wr HLP.out.1)
        have HCN := Lib.hid cn
        go_wp2_with fail
        refine HEN.out.mono ?_
        rintro e w2 ⟨rfl, hp2⟩
        have HL2 := Lib.hid hp2
        clear hp2
        dsimp only
        go_wp2_with fail
        go_ret3
        refine ⟨none, 0, ?_, ?_, ⟨fun x hx => (by cases hx), fun _ => rfl⟩, ?_⟩
        · rw [HR.out, HD.out, if_neg (by simp), if_pos HCN.out]; rfl
        · rw [HR.out, HD.out, if_neg (by simp), if_pos HCN.out]; exact PairsIn.nil _ _
        · rw [HR.out, HD.out, if_neg (by simp), if_pos HCN.out]; exact ⟨HL2.out.1, grown_tr HLP.out.2 HL2.out.2⟩
      have HCN := Lib.hid cn
      cases cb : decide (d.bu < d.fi)
      case true =>
        have HCL : Hid (clipF d = { d with fi := d.bu }) := Lib.hid (by unfold clipF; rw [if_pos (of_decide_eq_true cb)])
        go_wp2_with fail
        refine wp_region_quiet_below (by kernel_rfl) (by kernel_rfl) ?_
        (repeat (go_big_quiet_step (fail)))
        refine wpQuiet_nil ?_
        intro wq hwq
        have hq := below_of_regrown hwq
        clear hwq
        have HLQ := Lib.hid (HLP.out.more hq)
        have HPQ := Lib.hid ((PairsIn.of_own HOW.out).below (hq.mono HMON.out))
        obtain ⟨k0, _, _, _, _, k5, k6, _, _, _, _⟩ := (blk11 HLQ.out.1).1
        obtain ⟨j0, _, _, _, _, _, j6, _, _, _, _⟩ := (blk11 HLQ.out.1).2
        clear hq r5 r6
        go_wp2_with fail
        go_ret3
        refine ⟨a', c', ?_, ?_, ⟨fun x hx => (by subst hx; exact (HOW.out.lt x.block rfl).1), own_none HOW.out⟩, ?_⟩
        · rw [HR.out, HD.out, HCL.out]; rw [if_neg (by simp), if_neg (by simp only [HCN.out]; decide)]; rfl
        · rw [HR.out, HD.out, HCL.out]; rw [if_neg (by simp), if_neg (by simp only [HCN.out]; decide)]
          exact ((HPQ.out).beside (grown_setCell _ ⟨lb, 6, none⟩ _) HNA.out).beside (grown_setCell _ ⟨lb, 0, none⟩ _) HNA.out
        · rw [HR.out, HD.out, HCL.out]; rw [if_neg (by simp), if_neg (by simp only [HCN.out]; decide)]
          exact ((HLQ.out).put 6 (.int .i64 d.bu) (s' := ⟨A, { d with fi := d.bu }, true, false⟩) rfl).put 0 (.int .i64 X) (s' := ⟨X, { d with fi := d.bu }, true, false⟩) rfl
      case false =>
        have HCL : Hid (clipF d = d) := Lib.hid (by unfold clipF; rw [if_neg (of_decide_eq_false cb)])
        go_wp2_with fail
        refine wp_region_quiet_below (by kernel_rfl) (by kernel_rfl) ?_
        (repeat (go_big_quiet_step (fail)))
        refine wpQuiet_nil ?_
        intro wq hwq
        have hq := below_of_regrown hwq
        clear hwq
        have HLQ := Lib.hid (HLP.out.more hq)
        have HPQ := Lib.hid ((PairsIn.of_own HOW.out).below (hq.mono HMON.out))
        obtain ⟨k0, _, _, _, _, k5, k6, _, _, _, _⟩ := (blk11 HLQ.out.1).1
        obtain ⟨j0, _, _, _, _, _, j6, _, _, _, _⟩ := (blk11 HLQ.out.1).2
        clear hq r5 r6
        go_wp2_with fail
        go_ret3
        refine ⟨a', c', ?_, ?_, ⟨fun x hx => (by subst hx; exact (HOW.out.lt x.block rfl).1), own_none HOW.out⟩, ?_⟩
        · rw [HR.out, HD.out, HCL.out]; rw [if_neg (by simp), if_neg (by simp only [HCN.out]; decide)]; rfl
        · rw [HR.out, HD.out, HCL.out]; rw [if_neg (by simp), if_neg (by simp only [HCN.out]; decide)]
          exact (HPQ.out).beside (grown_setCell _ ⟨lb, 0, none⟩ _) HNA.out
        · rw [HR.out, HD.out, HCL.out]; rw [if_neg (by simp), if_neg (by simp only [HCN.out]; decide)]
          exact (HLQ.out).put 0 (.int .i64 X) (s' := ⟨X, d, true, false⟩) rfl
set_option maxRecDepth 100000 in
set_option maxHeartbeats 4000000 in
theorem step_c00 (lb : Nat) (s : LogS) (f : Nat) (A X : Int) (G : Bool) (a : Option Addr) (ps : List Pr) (c : Nat) (w : World) (hE : EnvN w) (h5 : 5 < lb) (hl : w.heap[lb]? = some (.cells (logCells s) 55)) (ho : PairsIn w a ps) (hne : ∀ x, a = some x → 0 < ps.length → x.block ≠ lb) (hps : ps.length ≤ 1000000) (hsz : ∀ p ∈ ps, p.2.size ≤ 100000)
    (h1 : s.over = false) (h2 : (s.st == 3) = false) (hfs : s.first = false)
    (e1 : wrap64 (bits .and .u8 ((f : Int) / 4) 3) = A) (e2 : wrap64 (bits .and .u8 (f : Int) 3) = X) (e3 : (bits .and .u8 (f : Int) 128 != 0) = false) (e4 : (bits .and .u8 (f : Int) 112 != 0) = G) (g1 : G = false) (g2 : (A == 2) = false) (g3 : (A == 3) = false) (g4 : decide (A < s.st) = false) (g8 : (X != 0) = false)
    (r : Nat × List Pr × Int × LogS) (hr : r = if (pairsF A ps [] s.d).1 != 0 then (0, [], (pairsF A ps [] s.d).1, ⟨A, (pairsF A ps [] s.d).2.2, true, true⟩)
      else if decide ((pairsF A ps [] s.d).2.2.nx < 0) then (0, [], 519, ⟨A, (pairsF A ps [] s.d).2.2, true, true⟩)
      else (f, (pairsF A ps [] s.d).2.1, 0, ⟨A, clipF (pairsF A ps [] s.d).2.2, true, false⟩)) :
    Calls Tryd.prog 25 #[.pointer (some ⟨lb, 0, none⟩), .int .u8 f, .slice a ps.length c] w (StepPost lb r w) := by
  have HR := Lib.hid hr
  have HE := Lib.hid hE
  have HL := Lib.hid hl
  have HO := Lib.hid ho
  have HNE := Lib.hid hne
  have HSZ := Lib.hid hsz
  have HF1 := Lib.hid (And.intro h1 hfs)
  have hlb := lt_of_blk hl
  obtain ⟨c0, _, _, _, _, _, _, _, _, c9, c10⟩ := (blk11 hl).1
  obtain ⟨f0, _, _, _, _, _, _, _, _, f9, _⟩ := (blk11 hl).2
  rw [h1] at c10
  rw [hfs] at c9
  clear hr hE hl ho hne hsz h1 hfs
  go_enter Tryd.func25, Tryd.ntmps25
  go_wp2_with fail
  have HW0 : Hid (LogPost lb ⟨A, s.d, true, false⟩ w ((w.setCell ⟨lb, 9, none⟩ (.bool true)).setCell ⟨lb, 0, none⟩ (.int .i64 A))) := Lib.hid
    ⟨by rw [set_blk (set_blk HL.out _) _]; obtain ⟨h1, h2⟩ := HF1.out; unfold logCells; rw [h1]; rfl, grown_tr (grown_setCell w ⟨lb, 9, none⟩ _) (grown_setCell _ ⟨lb, 0, none⟩ _)⟩
  generalize ((w.setCell ⟨lb, 9, none⟩ (.bool true)).setCell ⟨lb, 0, none⟩ (.int .i64 A)) = w0 at HW0 ⊢
  have HG := Lib.hid (And.intro e3 e4)
  rw [e1, e2]
  clear c0 c9 c10 f0 f9 g1 g2 g3 g4 g8 e1 e2 e3 e4 h2
  go_loopw [13, 115] (fun ov iv wr => ∃ (i : Nat) (acc : List Pr) (d : DealS) (a' : Option Addr) (c' : Nat), ov = .slice a' acc.length c' ∧ iv = .int .i64 i ∧ i ≤ ps.length ∧ acc.length ≤ i ∧ Hid (pairsF A ps [] s.d = pairsF A (ps.drop i) acc d) ∧ Hid (wr.ownsRow w.heap.size 39 2 (.slice a' acc.length c') acc.length (flatP acc)) ∧ Hid (LogPost lb ⟨A, d, true, false⟩ w wr)) (fun _ iv _ => ps.length - (intOf iv).toNat)
  case atStart => exact ⟨0, [], s.d, none, 0, rfl, rfl, by omega, by simp, Lib.hid rfl, Lib.hid (World.ownsRow_nil _ _ _ _), HW0⟩
  case round =>
    clear HW0 w0
    obtain ⟨i, acc, d, a', c', rfl, rfl, hi, hacc, HQ, HOW, HLP⟩ := hrel
    by_cases hlt : i < ps.length
    · obtain ⟨b, off, rfl, hbs, c1, c2⟩ := (HO.out.beside HLP.out.2 HNE.out) i hlt
      have hi0 : (0 : Int) ≤ i := by omega
      have hi1 : (i : Int) < ps.length := by omega
      have HD : Hid (pairsF A ps [] s.d = pairsF A (ps[i] :: ps.drop (i + 1)) acc d) := Lib.hid (by rw [HQ.out, List.drop_eq_getElem_cons hlt])
      have hvz := HSZ.out ps[i] (List.getElem_mem _)
      generalize ps[i] = p at c1 c2 HD hvz
      obtain ⟨K, V⟩ := p
      dsimp only at c1 c2 hvz
      obtain ⟨hb0, hp0, hs0⟩ := pairBlock wr K V
      have hln : lb < wr.heap.size := lt_of_blk HLP.out.1
      have HC := Lib.hid (pair_any lb ⟨A, d, true, false⟩ K V A (wr.alloc (.cells #[.string K, .string V] 39)) ((HE.out.kept HLP.out.2 (fun k hk => by cases hk; exact h5)).below hb0 (Nat.le_refl _)) h5 hvz ((hb0.block lb hln).trans HLP.out.1))
      have HP0 := Lib.hid (And.intro hb0 (And.intro hp0 hs0))
      clear hb0 hp0 hs0 HQ
      rw [pairsF_cons] at HD
      dsimp only at HD HC
      generalize pairF d K V A = pr at HD HC
      obtain ⟨ans, st, d'⟩ := pr
      dsimp only at HD HC
      go_wp2_with fail
      refine HC.out.mono ?_
      rintro e w1 ⟨rfl, hp1⟩
      have HL1 : Hid (LogPost lb ⟨A, d', true, false⟩ w w1) := Lib.hid ⟨hp1.1, grown_tr HLP.out.2 (grown_tr (grown_be HP0.out.1 _) hp1.2)⟩
      have HOW1 : Hid (w1.ownsRow w.heap.size 39 2 (.slice a' acc.length c') acc.length (flatP acc)) := Lib.hid ((HOW.out.alloc _).kept hp1.2 (by
        cases hob : (Value.slice a' acc.length c').ownBlock with
        | none => exact .inl rfl
        | some k => right; have := (HOW.out.lt k hob).1; intro e; cases e; omega))
      obtain ⟨p0, p1, _⟩ := blk2 ((hp1.2.block wr.heap.size (by rw [HP0.out.2.2]; omega) (by intro e; cases e; omega)).trans HP0.out.2.1)
      clear hp1 HC HP0 HOW HLP c1 c2
      dsimp only
      cases hst : (st != 0)
      case true =>
        rw [hst, if_pos rfl] at HD
        have HEN := Lib.hid (end_any lb ⟨A, d', true, false⟩ st w1 HL1.out.1)
        go_wp2_with fail
        refine HEN.out.mono ?_
        rintro e w2 ⟨rfl, hp2⟩
        have HL2 := Lib.hid hp2
        clear hp2
        dsimp only
        go_wp2_with fail
        go_ret3
        refine ⟨none, 0, ?_, ?_, ⟨fun x hx => (by cases hx), fun _ => rfl⟩, ?_⟩
        · rw [HR.out, HD.out, if_pos hst]; rfl
        · rw [HR.out, HD.out, if_pos hst]; exact PairsIn.nil _ _
        · rw [HR.out, HD.out, if_pos hst]; exact ⟨HL2.out.1, grown_tr HL1.out.2 HL2.out.2⟩
      rw [hst, if_neg (by decide)] at HD
      cases hem : ans.toList.isEmpty
      case true =>
        rw [hem, if_pos rfl] at HD
        go_wp2_with fail
        refine ⟨⟨i + 1, acc, d', a', c', rfl, by go_num, by omega, by omega, HD, HOW1, HL1⟩, by simp [intOf]; omega⟩
      rw [hem, if_neg (by decide)] at HD
      obtain ⟨i0, hi0', hq0, hq1, hq2⟩ := info_parts info_pair
      go_wp2_with (at_builtin; refine wpList_append_own _ rfl _ _ 24 rfl w.heap.size 39 i0 (.agg #[.string ⟨#[]⟩, .string ⟨#[]⟩]) 2 32 Tryd.underlying24 hi0' hq0 hq1 hq2 rfl (by decide) _ _ _ rfl (HOW1.out.alloc _) ⟨w1.heap.size, 0, none⟩ 1 1 [.string K, .string ans] rfl rfl ?c1 ?c2 ?c3 ?c4 ?c5 ?_)
      case c1 => intro j u hu; exact cell_two_new _ _ _ _ j u hu
      case c2 => simp [Value.oneCell']
      case c3 => unfold maxLen; omega
      case c4 => omega
      case c5 => have := HL1.out.2.size; simp; omega
      intro v5 w5 hown hgrow _
      obtain ⟨a5, c5, hv5⟩ := own_slice hown
      rw [hv5] at hown ⊢
      clear hv5
      have HL5 : Hid (LogPost lb ⟨A, d', true, false⟩ w w5) := Lib.hid (by
        have hlt1 := lt_of_blk HL1.out.1
        have hne5 : some lb ≠ (Value.slice a' acc.length c').ownBlock := by
          intro e; have := (HOW1.out.lt lb e.symm).1; omega
        refine ⟨?_, grown_own (grown_tr HL1.out.2 (grown_be ((Below.refl _ _).alloc (Nat.le_refl _) (.cells #[.string K, .string ans] 39)) _)) hgrow (fun k hk => (HOW1.out.lt k hk).1)⟩
        rw [hgrow.block lb (by simp; omega) hne5]
        exact (Below.heap_alloc _ _ _ hlt1).trans HL1.out.1)
      have HO5 : Hid (w5.ownsRow w.heap.size 39 2 (.slice a5 (acc ++ [(K, ans)]).length c5) (acc ++ [(K, ans)]).length (flatP (acc ++ [(K, ans)]))) := Lib.hid (by simpa [flatP_append, flatP] using hown)
      clear hown hgrow
      go_wp2_with fail
      go_roundw
      case rel => exact ⟨i + 1, acc ++ [(K, ans)], d', a5, c5, by simp, by go_num, by omega, by simp; omega, HD, HO5, HL5⟩
      case measure => simp [intOf]; omega
    · obtain rfl : i = ps.length := by omega
      have HD : Hid (pairsF A ps [] s.d = (0, acc, d)) := Lib.hid (by rw [HQ.out, List.drop_length]; rfl)
      obtain ⟨k0, k1, _, _, _, k5, k6, _, _, _, _⟩ := (blk11 HLP.out.1).1
      obtain ⟨j0, _, _, _, _, _, j6, _, _, _, _⟩ := (blk11 HLP.out.1).2
      clear HQ
      have HNA : Hid (∀ x, a' = some x → 0 < acc.length → x.block ≠ lb) := Lib.hid (fun x hx _ e => by subst hx; have := (HOW.out.lt x.block rfl).1; omega)
      have r5 := cell_regrown k5
      have r6 := cell_regrown k6
      have HMON : Hid (wr.heap.size ≤ wr.heap.size) := Lib.hid (Nat.le_refl _)
      clear k0 k5 k6 j0 j6
      cases cn : decide (d.nx < 0)
      case true =>
        have HEN := Lib.hid (end_any lb ⟨A, d, true, false⟩ 519 wr HLP.out.1)
        have HCN := Lib.hid cn
        go_wp2_with fail
        refine HEN.out.mono ?_
        rintro e w2 ⟨rfl, hp2⟩
        have HL2 := Lib.hid hp2
        clear hp2
        dsimp only
        go_wp2_with fail
        go_ret3
        refine ⟨none, 0, ?_, ?_, ⟨fun x hx => (by cases hx), fun _ => rfl⟩, ?_⟩
        · rw [HR.out, HD.out, if_neg (by simp), if_pos HCN.out]; rfl
        · rw [HR.out, HD.out, if_neg (by simp), if_pos HCN.out]; exact PairsIn.nil _ _
        · rw [HR.out, HD.out, if_neg (by simp), if_pos HCN.out]; exact ⟨HL2.out.1, grown_tr HLP.out.2 HL2.out.2⟩
      have HCN := Lib.hid cn
      cases cb : decide (d.bu < d.fi)
      case true =>
        have HCL : Hid (clipF d = { d with fi := d.bu }) := Lib.hid (by unfold clipF; rw [if_pos (of_decide_eq_true cb)])
        go_wp2_with fail
        refine wp_region_quiet_below (by kernel_rfl) (by kernel_rfl) ?_
        (repeat (go_big_quiet_step (fail)))
        refine wpQuiet_nil ?_
        intro wq hwq
        have hq := below_of_regrown hwq
        clear hwq
        have HLQ := Lib.hid (HLP.out.more hq)
        have HPQ := Lib.hid ((PairsIn.of_own HOW.out).below (hq.mono HMON.out))
        obtain ⟨k0, _, _, _, _, k5, k6, _, _, _, _⟩ := (blk11 HLQ.out.1).1
        obtain ⟨j0, _, _, _, _, _, j6, _, _, _, _⟩ := (blk11 HLQ.out.1).2
        clear hq r5 r6
        go_wp2_with fail
        go_ret3
        refine ⟨a', c', ?_, ?_, ⟨fun x hx => (by subst hx; exact (HOW.out.lt x.block rfl).1), own_none HOW.out⟩, ?_⟩
        · rw [HR.out, HD.out, HCL.out]; rw [if_neg (by simp), if_neg (by simp only [HCN.out]; decide)]; rfl
        · rw [HR.out, HD.out, HCL.out]; rw [if_neg (by simp), if_neg (by simp only [HCN.out]; decide)]
          exact (HPQ.out).beside (grown_setCell _ ⟨lb, 6, none⟩ _) HNA.out
        · rw [HR.out, HD.out, HCL.out]; rw [if_neg (by simp), if_neg (by simp only [HCN.out]; decide)]
          exact (HLQ.out).put 6 (.int .i64 d.bu) (s' := ⟨A, { d with fi := d.bu }, true, false⟩) rfl
      case false =>
        have HCL : Hid (clipF d = d) := Lib.hid (by unfold clipF; rw [if_neg (of_decide_eq_false cb)])
        go_wp2_with fail
        refine wp_region_quiet_below (by kernel_rfl) (by kernel_rfl) ?_
        (repeat (go_big_quiet_step (fail)))
        refine wpQuiet_nil ?_
        intro wq hwq
        have hq := below_of_regrown hwq
        clear hwq
        have HLQ := Lib.hid (HLP.out.more hq)
        have HPQ := Lib.hid ((PairsIn.of_own HOW.out).below (hq.mono HMON.out))
        obtain ⟨k0, _, _, _, _, k5, k6, _, _, _, _⟩ := (blk11 HLQ.out.1).1
        obtain ⟨j0, _, _, _, _, _, j6, _, _, _, _⟩ := (blk11 HLQ.out.1).2
        clear hq r5 r6
        go_wp2_with fail
        go_ret3
        refine ⟨a', c', ?_, ?_, ⟨fun x hx => (by subst hx; exact (HOW.out.lt x.block rfl).1), own_none HOW.out⟩, ?_⟩
        · rw [HR.out, HD.out, HCL.out]; rw [if_neg (by simp), if_neg (by simp only [HCN.out]; decide)]; rfl
        · rw [HR.out, HD.out, HCL.out]; rw [if_neg (by simp), if_neg (by simp only [HCN.out]; decide)]
          exact HPQ.out
        · rw [HR.out, HD.out, HCL.out]; rw [if_neg (by simp), if_neg (by simp only [HCN.out]; decide)]
          exact HLQ.out
theorem step_any (lb : Nat) (s : LogS) (f : Nat) (hf : f < 256) (a : Option Addr) (ps : List Pr) (c : Nat) (w : World) (hE : EnvN w) (h5 : 5 < lb) (hl : w.heap[lb]? = some (.cells (logCells s) 55)) (ho : PairsIn w a ps) (hne : ∀ x, a = some x → 0 < ps.length → x.block ≠ lb) (hps : ps.length ≤ 1000000) (hsz : ∀ p ∈ ps, p.2.size ≤ 100000) :
    Calls Tryd.prog 25 #[.pointer (some ⟨lb, 0, none⟩), .int .u8 f, .slice a ps.length c] w (StepPost lb (stepF s f ps) w) := by
  cases h : (s.over || s.st == 3)
  case true => exact step_a lb s f a ps c w hl h
  have h1 : s.over = false := by cases hh : s.over <;> simp_all
  have h2 : (s.st == 3) = false := by cases hh : (s.st == 3) <;> simp_all
  cases h3 : badF s f
  case true => exact step_b lb s f hf a ps c w hl h1 h2 h3
  obtain ⟨e1, e2, e3, e4⟩ := flags_2 f hf
  have hb := h3
  unfold badF at hb
  simp only [Bool.or_eq_false_iff] at hb
  obtain ⟨⟨⟨⟨⟨⟨g1, g2⟩, g3⟩, g4⟩, g5⟩, g6⟩, g7⟩ := hb
  have hr : stepF s f ps = if (pairsF (atF f) ps [] s.d).1 != 0 then (0, [], (pairsF (atF f) ps [] s.d).1, ⟨atF f, (pairsF (atF f) ps [] s.d).2.2, true, true⟩)
      else if !s.first && decide ((pairsF (atF f) ps [] s.d).2.2.nx < 0) then (0, [], 519, ⟨atF f, (pairsF (atF f) ps [] s.d).2.2, true, true⟩)
      else (f, (pairsF (atF f) ps [] s.d).2.1, 0, ⟨if trF f then nxF f else atF f, clipF (pairsF (atF f) ps [] s.d).2.2, true, false⟩) := by
    unfold stepF
    rw [if_neg (by rw [h]; decide), if_neg (by rw [h3]; decide)]
  rcases Bool.eq_false_or_eq_true s.first with hfs | hfs <;> rcases Bool.eq_false_or_eq_true (trF f) with ht | ht
  all_goals rw [hfs] at g5 hr
  all_goals rw [ht] at g6 g7 e3 hr
  all_goals simp only [Bool.true_and, Bool.false_and, Bool.not_true, Bool.not_false, Bool.or_eq_false_iff, if_true, Bool.false_eq_true, if_false] at g5 g6 g7 hr
  · exact step_c11 lb s f _ _ _ a ps c w hE h5 hl ho hne hps hsz h1 h2 hfs e1 e2 e3 e4 g1 g2 g3 g4 g5 g6.1 g6.2 _ hr
  · exact step_c10 lb s f _ _ _ a ps c w hE h5 hl ho hne hps hsz h1 h2 hfs e1 e2 e3 e4 g1 g2 g3 g4 g5 g7 _ hr
  · exact step_c01 lb s f _ _ _ a ps c w hE h5 hl ho hne hps hsz h1 h2 hfs e1 e2 e3 e4 g1 g2 g3 g4 g6.1 g6.2 _ hr
  · exact step_c00 lb s f _ _ _ a ps c w hE h5 hl ho hne hps hsz h1 h2 hfs e1 e2 e3 e4 g1 g2 g3 g4 g7 _ hr
end Go.Proofs.YtnicmfboomibjaaDoor
