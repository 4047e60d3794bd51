/- NegoDeals answers true at whatever input. -/
import Derived.Test.YtnicmfboomibjaaDoorN9
import Derived.Test.YtnicmfboomibjaaDoorN8
import Derived.Deep.MidRow
namespace Go.Proofs.YtnicmfboomibjaaDoor
set_option linter.unusedSimpArgs false
set_option linter.unusedVariables false
open Go.RowKit
def zeroD : DealS := ⟨0, false, false, 0, 0, 0, false, false⟩
def fullD (dn : Bool) (s : LogS) : DealS := if dn then s.d else zeroD
def DealsI (dn : Bool) (s : LogS) : Prop := LogInv s ∧ (dn = true → s.st = 3 ∧ s.first = true ∧ s.over = false)
theorem quiet_load_mid {P : Program} {op : Oper} {a : Act} {C : World → Prop} {K : Act → Prop} (ty : TypeId) (x : Operand) (ho : op.op = .load ty x)
    (b o : Nat) (hx : a.eval x = .pointer (some ⟨b, o, none⟩)) (cs : List Value) (d : TypeDesc) (hS : ∀ w, C w → w.rangeAt b o cs)
    (hu : P.underlying ty = some d) (hd : d.isRow = true) (hi : (P.info? ty).map (·.size) = some cs.length)
    (h : K (a.put op.dst (.agg cs.toArray))) : op.quiet P a C K :=
  quiet_of_run _ (fun w hw => by
    unfold execOp
    simp only [ho, hx, Instr.loadAt, Instr.sureAddr, Sem.run_bind, Sem.run_pure, Result.andThen_ok, run_loadVar_mid w b o ty cs d (hS w hw) hu hd hi]) h
theorem stepF_three (s : LogS) (f : Nat) (ps : List Pr) (h : s.st = 3) : stepF s f ps = (0, [], 512, s) := stepF_end s f ps (by rw [h]; simp)
theorem blk8 {w : World} {B : Nat} {c0 c1 c2 c3 c4 c5 c6 c7 : Value} {T : Nat} (h : w.heap[B]? = some (.cells #[c0, c1, c2, c3, c4, c5, c6, c7] T)) :
    (w.cell? ⟨B, 0, none⟩ = some c0 ∧ w.cell? ⟨B, 1, none⟩ = some c1 ∧ w.cell? ⟨B, 2, none⟩ = some c2 ∧ w.cell? ⟨B, 3, none⟩ = some c3 ∧ w.cell? ⟨B, 4, none⟩ = some c4 ∧ w.cell? ⟨B, 5, none⟩ = some c5 ∧ w.cell? ⟨B, 6, none⟩ = some c6 ∧ w.cell? ⟨B, 7, none⟩ = some c7) ∧
    (w.frozen? ⟨B, 0, none⟩ = false ∧ w.frozen? ⟨B, 1, none⟩ = false ∧ w.frozen? ⟨B, 2, none⟩ = false ∧ w.frozen? ⟨B, 3, none⟩ = false ∧ w.frozen? ⟨B, 4, none⟩ = false ∧ w.frozen? ⟨B, 5, none⟩ = false ∧ w.frozen? ⟨B, 6, none⟩ = false ∧ w.frozen? ⟨B, 7, none⟩ = false) := by simp [World.cell?, World.frozen?, h]
theorem drew_heap (w : World) : w.drew.heap = w.heap := rfl
theorem heap_set_other {w : World} {B i k : Nat} {v : Value} (hb : B ≠ i) : (w.setCell ⟨B, k, none⟩ v).heap[i]? = w.heap[i]? := heap_set_ne hb rfl
theorem deal_set (d d0 : DealS) : ((((((((dealVals d0).setIfInBounds 0 (.int .i64 d.nx)).setIfInBounds 1 (.bool d.hd)).setIfInBounds 2 (.bool d.dt)).setIfInBounds 3 (.int .i64 d.sg)).setIfInBounds 4 (.int .i64 d.bu)).setIfInBounds 5 (.int .i64 d.fi)).setIfInBounds 6 (.bool d.rd)).setIfInBounds 7 (.bool d.tg) = dealVals d := by
  simp [dealVals]
theorem deal_stored (w w0 : World) (fb lA : Nat) (d d0 : DealS) (o : Obj) (h : w.heap[fb]? = some (.cells (dealVals d0) 49)) (hA : w.heap[lA]? = some o) (hlt : lA < fb) (hb : Below lA w0 w) :
    ((((((((w.setCell ⟨fb, 0, none⟩ (.int .i64 d.nx)).setCell ⟨fb, 1, none⟩ (.bool d.hd)).setCell ⟨fb, 2, none⟩ (.bool d.dt)).setCell ⟨fb, 3, none⟩ (.int .i64 d.sg)).setCell ⟨fb, 4, none⟩ (.int .i64 d.bu)).setCell ⟨fb, 5, none⟩ (.int .i64 d.fi)).setCell ⟨fb, 6, none⟩ (.bool d.rd)).setCell ⟨fb, 7, none⟩ (.bool d.tg)).drew.heap[lA]? = some o ∧ ((((((((w.setCell ⟨fb, 0, none⟩ (.int .i64 d.nx)).setCell ⟨fb, 1, none⟩ (.bool d.hd)).setCell ⟨fb, 2, none⟩ (.bool d.dt)).setCell ⟨fb, 3, none⟩ (.int .i64 d.sg)).setCell ⟨fb, 4, none⟩ (.int .i64 d.bu)).setCell ⟨fb, 5, none⟩ (.int .i64 d.fi)).setCell ⟨fb, 6, none⟩ (.bool d.rd)).setCell ⟨fb, 7, none⟩ (.bool d.tg)).drew.heap[fb]? = some (.cells (dealVals d) 49) ∧ Below lA w0 ((((((((w.setCell ⟨fb, 0, none⟩ (.int .i64 d.nx)).setCell ⟨fb, 1, none⟩ (.bool d.hd)).setCell ⟨fb, 2, none⟩ (.bool d.dt)).setCell ⟨fb, 3, none⟩ (.int .i64 d.sg)).setCell ⟨fb, 4, none⟩ (.int .i64 d.bu)).setCell ⟨fb, 5, none⟩ (.int .i64 d.fi)).setCell ⟨fb, 6, none⟩ (.bool d.rd)).setCell ⟨fb, 7, none⟩ (.bool d.tg)).drew := by
  have hne : fb ≠ lA := by omega
  refine ⟨?_, ?_, ?_⟩
  · rw [drew_heap, heap_set_other hne, heap_set_other hne, heap_set_other hne, heap_set_other hne, heap_set_other hne, heap_set_other hne, heap_set_other hne, heap_set_other hne]
    exact hA
  · have := set_blk (set_blk (set_blk (set_blk (set_blk (set_blk (set_blk (set_blk h (i := 0) (.int .i64 d.nx)) (i := 1) (.bool d.hd)) (i := 2) (.bool d.dt)) (i := 3) (.int .i64 d.sg)) (i := 4) (.int .i64 d.bu)) (i := 5) (.int .i64 d.fi)) (i := 6) (.bool d.rd)) (i := 7) (.bool d.tg)
    rw [deal_set] at this
    rw [drew_heap]
    exact this
  · repeat (first | with_reducible assumption | (with_reducible refine Below.setCell ?_ (by first | omega | (simp; done) | (simp; omega)) _) | (with_reducible refine Below.alloc ?_ (by first | omega | (simp; done) | (simp; omega)) _) | (with_reducible refine Below.drew ?_) | (with_reducible refine below_dN ?_ _) | with_reducible exact Below.refl _ _ | (with_reducible refine Below.trans ?_ (Below.mono (by assumption) (by first | omega | (simp; done) | (simp; omega)))))
set_option maxRecDepth 100000 in
set_option maxHeartbeats 4000000 in
theorem negoDeals_any (a : Option Addr) (rs : List Rq) (c : Nat) (w : World) (hE : EnvN w) (ho : RqsIn w a rs) (hl : rs.length ≤ 140737488355328) (hf : ∀ r ∈ rs, r.f < 256) (hsm : ∀ r ∈ rs, ∀ p ∈ r.ps, p.1.size ≤ 140737488355328 ∧ p.2.size ≤ 140737488355328) :
    Calls Tryd.prog 8 #[.slice a rs.length c] w fun e w' => e = .returned (.bool true) ∧ Below w.heap.size w w' := by
  have HE := Lib.hid hE
  have HO := Lib.hid ho
  have HSM := Lib.hid hsm
  have HLN := Lib.hid hl
  have H256 := Lib.hid hf
  have h5 : 5 < w.heap.size := hE.2.2
  clear ho hsm hl hE hf
  go_enter Tryd.func8, Tryd.ntmps8
  go_wp2_with fail
  refine (stands16_any w HE.out).mono ?_
  rintro e w1 ⟨rfl, hb1⟩
  have HB1 := Lib.hid hb1
  clear hb1
  dsimp only
  go_wp2_with fail
  refine (few_any a rs c w1 (HO.out.below HB1.out) HLN.out HSM.out).mono ?_
  rintro e w2 ⟨⟨b, rfl, hfew⟩, hb2⟩
  have HB2 := Lib.hid (HB1.out.trans (hb2.mono HB1.out.size))
  clear hb2
  cases b
  · clear hfew
    dsimp only
    go_wp2_with fail
    go_ret
    exact ⟨rfl, HB2.out⟩
  have HF := Lib.hid (hfew rfl)
  clear hfew
  dsimp only
  go_wp2_with fail
  refine (new_any w2).mono ?_
  rintro e w3 ⟨rfl, hl3, hb3⟩
  have HL3 := Lib.hid hl3
  have HB3 := Lib.hid hb3
  have h52 : 5 < w2.heap.size := Nat.lt_of_lt_of_le h5 HB2.out.size
  have hlb3 := lt_of_blk hl3
  clear hl3 hb3
  dsimp only
  go_wp2_with fail
  have HF0 : Hid ((w3.alloc (.cells #[.int .i64 0, .bool false, .bool false, .int .i64 0, .int .i64 0, .int .i64 0, .bool false, .bool false] 49)).heap[w3.heap.size]? = some (.cells (dealVals (fullD false newS)) 49)) := Lib.hid (heap_alloc_new w3 _)
  have HL0 : Hid ((w3.alloc (.cells #[.int .i64 0, .bool false, .bool false, .int .i64 0, .int .i64 0, .int .i64 0, .bool false, .bool false] 49)).heap[w2.heap.size]? = some (.cells (logCells newS) 55)) := Lib.hid ((Below.heap_alloc _ _ _ hlb3).trans HL3.out)
  have HB0 : Hid (Below w2.heap.size w2 (w3.alloc (.cells #[.int .i64 0, .bool false, .bool false, .int .i64 0, .int .i64 0, .int .i64 0, .bool false, .bool false] 49))) := Lib.hid (HB3.out.alloc HB3.out.size _)
  obtain ⟨fb, hfb⟩ : ∃ fb, fb = w3.heap.size := ⟨_, rfl⟩
  rw [← hfb] at HF0 hlb3 ⊢
  generalize (w3.alloc (.cells #[.int .i64 0, .bool false, .bool false, .int .i64 0, .int .i64 0, .int .i64 0, .bool false, .bool false] 49)) = w4 at HF0 HL0 HB0 ⊢
  clear hfb HL3 HB3
  clear w3
  go_loopw [5, 21] (fun dv iv wr => ∃ (i : Nat) (dn : Bool) (s : LogS), dv = .bool dn ∧ iv = .int .i64 i ∧ i ≤ rs.length ∧ Hid (DealsI dn s) ∧ Hid (wr.heap[w2.heap.size]? = some (.cells (logCells s) 55)) ∧ Hid (wr.heap[fb]? = some (.cells (dealVals (fullD dn s)) 49)) ∧ Hid (Below w2.heap.size w2 wr)) (fun _ iv _ => rs.length - (intOf iv).toNat)
  case atStart => exact ⟨0, false, newS, rfl, rfl, by omega, Lib.hid ⟨newS_inv, fun h => by cases h⟩, HL0, HF0, HB0⟩
  case round =>
    clear HF0 HL0 HB0 w4
    obtain ⟨i, dn, s, rfl, rfl, hi, HI, HL, HFB, HB⟩ := hrel
    by_cases hlt : i < rs.length
    · obtain ⟨b, off, rfl, hbs, c1, c2, hpi⟩ := (HO.out.below (HB2.out.trans (HB.out.mono HB2.out.size))) i hlt
      have hi0 : (0 : Int) ≤ i := by omega
      have hi1 : (i : Int) < rs.length := by omega
      have W5 : Hid (wrap64 ((i : Int) + 1) = ((i + 1 : Nat) : Int)) := Lib.hid (by have := HLN.out; rw [IntWalk.wrap64_in _ (by omega)]; rfl)
      have HFR := Lib.hid (HF.out.2 rs[i] (List.getElem_mem _))
      have HRF := Lib.hid (H256.out rs[i] (List.getElem_mem _))
      have HPI := Lib.hid hpi
      have HPN : Hid (∀ x, rs[i].a = some x → 0 < rs[i].ps.length → x.block < w2.heap.size) := Lib.hid (fun x hx hp => by
        obtain ⟨b', o', e, hs, c1, c2, hpi⟩ := (HO.out.below HB2.out) i hlt
        obtain ⟨b3, o3, e3, hs3, _⟩ := hpi 0 hp
        rw [hx] at e3; cases e3; exact hs3)
      clear hpi
      generalize rs[i] = r at c1 c2 HPI HFR HRF HPN
      obtain ⟨f, a1, ps, cp⟩ := r
      dsimp only at c1 c2 HPI HFR HRF HPN
      go_wp2_with fail
      have HB1' : Hid (Below w2.heap.size w2 (wr.alloc (.cells #[.int .u8 f, .slice a1 ps.length cp] 51))) := Lib.hid (HB.out.alloc HB.out.size _)
      have HPI1 : Hid (PairsIn (wr.alloc (.cells #[.int .u8 f, .slice a1 ps.length cp] 51)) a1 ps) := Lib.hid (HPI.out.below ((Below.refl _ _).alloc (Nat.le_refl _) _))
      have HL1 : Hid ((wr.alloc (.cells #[.int .u8 f, .slice a1 ps.length cp] 51)).heap[w2.heap.size]? = some (.cells (logCells s) 55)) := Lib.hid ((Below.heap_alloc _ _ _ (lt_of_blk HL.out)).trans HL.out)
      have HF1 : Hid ((wr.alloc (.cells #[.int .u8 f, .slice a1 ps.length cp] 51)).heap[fb]? = some (.cells (dealVals (fullD dn s)) 49)) := Lib.hid ((Below.heap_alloc _ _ _ (lt_of_blk HFB.out)).trans HFB.out)
      clear HL HFB HB HPI c1 c2
      generalize (wr.alloc (.cells #[.int .u8 f, .slice a1 ps.length cp] 51)) = wx at HB1' HPI1 HL1 HF1 ⊢
      refine (step_any w2.heap.size s f HRF.out a1 ps cp wx (HE.out.below (HB2.out.trans (HB1'.out.mono HB2.out.size)) (Nat.le_refl _)) h52 HL1.out HPI1.out (fun x hx hp e => by have := HPN.out x hx hp; omega) (by have := HFR.out.1; dsimp only at this; omega) (fun p hp => by have := HFR.out.2 p hp; omega)).mono ?_
      rintro e w5 ⟨a5, c5, rfl, hp5, hx5, hl5⟩
      have HB5 := Lib.hid (Below.beside HB1'.out hl5.2 HB1'.out.size (Nat.le_refl _))
      have HF5 : Hid (w5.heap[fb]? = some (.cells (dealVals (fullD dn s)) 49)) := Lib.hid ((hl5.2.block fb (lt_of_blk HF1.out) (fun e => by cases e; omega)).trans HF1.out)
      have HL5 := Lib.hid hl5.1
      have HI5 := Lib.hid (stepF_inv s f ps HI.out.1)
      have HFN := Lib.hid (stepF_fine s f ps)
      clear hp5 hx5 hl5
      cases dn
      · generalize stepF s f ps = r at HL5 HI5 HFN ⊢
        obtain ⟨r1, r2, r3, s'⟩ := r
        dsimp only at HL5 HI5 HFN ⊢
        have k0 := (blk11 HL5.out).1.1
        cases e0 : (r3 == 0)
        · go_wp2_with fail
          refine wp_region_quiet_below (by kernel_rfl) (by kernel_rfl) ?_
          (repeat (go_big_quiet_step (fail)))
          refine wpQuiet_nil ?_
          intro wq hwq
          have hq := below_of_regrown hwq
          clear hwq
          have HQ := Lib.hid hq
          clear hq
          go_wp2_with fail
          have e : fullD false s' = fullD false s := rfl
          refine ⟨⟨i + 1, false, s', rfl, by rw [W5.out], by omega, Lib.hid ⟨HI5.out, fun h => by cases h⟩, Lib.hid ((HQ.out.block _ (lt_of_blk HL5.out)).trans HL5.out), Lib.hid ((HQ.out.block _ (lt_of_blk HF5.out)).trans HF5.out), Lib.hid (HB5.out.trans (HQ.out.mono HB5.out.size))⟩, by rw [W5.out]; simp [intOf]; omega⟩
        · have h0 : r3 = 0 := by simpa using e0
          have HFN2 := Lib.hid (HFN.out h0)
          cases e3 : (s'.st == 3)
          · go_wp2_with fail
            refine wp_region_quiet_below (by kernel_rfl) (by kernel_rfl) ?_
            (repeat (go_big_quiet_step (fail)))
            refine wpQuiet_nil ?_
            intro wq hwq
            have hq := below_of_regrown hwq
            clear hwq
            have HQ := Lib.hid hq
            have HL6 := Lib.hid ((hq.block _ (lt_of_blk HL5.out)).trans HL5.out)
            have HF6 := Lib.hid ((hq.block _ (lt_of_blk HF5.out)).trans HF5.out)
            clear hq
            have k0 := (blk11 HL6.out).1.1
            go_wp2_with fail
            refine ⟨⟨i + 1, false, s', rfl, by rw [W5.out], by omega, Lib.hid ⟨HI5.out, fun h => by cases h⟩, HL6, HF6, Lib.hid (HB5.out.trans (HQ.out.mono HB5.out.size))⟩, by rw [W5.out]; simp [intOf]; omega⟩
          · go_wp2_with fail
            refine wp_region_quiet_below (by kernel_rfl) (by kernel_rfl) ?_
            (repeat (go_big_quiet_step (fail)))
            refine wpQuiet_nil ?_
            intro wq hwq
            have hq := below_of_regrown hwq
            clear hwq
            have HQ := Lib.hid hq
            have HL6 := Lib.hid ((hq.block _ (lt_of_blk HL5.out)).trans HL5.out)
            have HF6 := Lib.hid ((hq.block _ (lt_of_blk HF5.out)).trans HF5.out)
            clear hq
            have h3 : s'.st = 3 := by simpa using e3
            obtain ⟨k0, k1, k2, k3, k4, k5, k6, k7, k8, _, _⟩ := (blk11 HL6.out).1
            obtain ⟨f0, f1, f2, f3, f4, f5, f6, f7⟩ := (blk8 HF6.out).2
            obtain ⟨p0, p1, p2, p3, p4, p5, p6, p7⟩ := (blk8 HF6.out).1
            go_wp2_with fail
            go_region
            go_wp2_with fail
            have HST := Lib.hid (deal_stored wq w2 fb w2.heap.size s'.d (fullD false s) _ HF6.out HL6.out (by omega) (HB5.out.trans (HQ.out.mono HB5.out.size)))
            refine ⟨⟨i + 1, true, s', rfl, by rw [W5.out], by omega, Lib.hid ⟨HI5.out, fun _ => ⟨h3, HFN2.out.2.1, HFN2.out.1⟩⟩, Lib.hid HST.out.1, Lib.hid HST.out.2.1, Lib.hid HST.out.2.2⟩, by rw [W5.out]; simp [intOf]; omega⟩
      · have h3 : s.st = 3 := (HI.out.2 rfl).1
        rw [stepF_three s f ps h3] at HL5 ⊢
        have H3 := Lib.hid h3
        have hs3 : (s.st != 3) = false := by rw [h3]; rfl
        clear h3
        obtain ⟨k0, k1, k2, k3, k4, k5, k6, k7, k8, _, _⟩ := (blk11 HL5.out).1
        obtain ⟨m0, m1, m2, m3, m4, m5, m6, m7⟩ := (blk8 (show w5.heap[fb]? = some (.cells (dealVals s.d) 49) from HF5.out)).1
        have r0 := cell_regrown k0
        have r1 := cell_regrown k1
        have r2 := cell_regrown k2
        have r3 := cell_regrown k3
        have r4 := cell_regrown k4
        have r5 := cell_regrown k5
        have r6 := cell_regrown k6
        have r7 := cell_regrown k7
        have r8 := cell_regrown k8
        have q0 := cell_regrown m0
        have q1 := cell_regrown m1
        have q2 := cell_regrown m2
        have q3 := cell_regrown m3
        have q4 := cell_regrown m4
        have q5 := cell_regrown m5
        have q6 := cell_regrown m6
        have q7 := cell_regrown m7
        clear k0 k1 k2 k3 k4 k5 k6 k7 k8 m0 m1 m2 m3 m4 m5 m6 m7
        dsimp only
        go_wp2_with fail
        refine wp_region_quiet_below (by kernel_rfl) (by kernel_rfl) ?_
        (repeat (go_big_quiet_step (fail)))
        refine wpQuiet_nil ?_
        intro wq hwq
        have hq := below_of_regrown hwq
        clear hwq
        have HQ := Lib.hid hq
        clear hq
        go_wp2_with fail
        refine ⟨⟨i + 1, true, s, rfl, by rw [W5.out], by omega, HI, Lib.hid ((HQ.out.block _ (lt_of_blk HL5.out)).trans HL5.out), Lib.hid ((HQ.out.block _ (lt_of_blk HF5.out)).trans HF5.out), Lib.hid (HB5.out.trans (HQ.out.mono HB5.out.size))⟩, by rw [W5.out]; simp [intOf]; omega⟩
    · obtain rfl : i = rs.length := by omega
      obtain ⟨m0, m1, m2, m3, m4, m5, m6, m7⟩ := (blk8 HFB.out).1
      cases dn
      · go_wp2_with fail
        go_ret
        exact ⟨rfl, HB2.out.trans ((HB.out.alloc HB.out.size _).mono HB2.out.size)⟩
      · obtain ⟨h1, h2⟩ := HI.out
        obtain ⟨e1, e2, e3⟩ := h2 rfl
        obtain ⟨g1, g2⟩ := h1.2.2.1 e2 e3
        obtain ⟨⟨_, o2⟩, ⟨o3, o4⟩, ⟨o5, o6⟩, ⟨o7, _⟩⟩ := h1.1
        clear h1 h2 e1 e2 e3
        have z1 : decide ((0 : Int) ≤ s.d.nx) = true := decide_eq_true g1
        have z2 : decide (s.d.nx < 8) = true := decide_eq_true (by omega)
        have z3 : decide ((64 : Int) ≤ s.d.sg) = true := decide_eq_true o3
        have z4 : decide (s.d.sg ≤ 256) = true := decide_eq_true o4
        have z5 : decide ((64 : Int) ≤ s.d.bu) = true := decide_eq_true o5
        have z6 : decide (s.d.bu ≤ 512) = true := decide_eq_true o6
        have z7 : decide ((64 : Int) ≤ s.d.fi) = true := decide_eq_true o7
        have z8 : decide (s.d.fi ≤ s.d.bu) = true := decide_eq_true g2
        have er : fullD true s = s.d := rfl
        simp only [er] at m0 m1 m2 m3 m4 m5 m6 m7
        clear er g1 g2 o2 o3 o4 o5 o6 o7
        go_wp2_with fail
        go_ret
        exact ⟨rfl, HB2.out.trans ((HB.out.alloc HB.out.size _).mono HB2.out.size)⟩
end Go.Proofs.YtnicmfboomibjaaDoor
