/- The statements of depot: of two blocks one is dropped. -/
import Derived.Test.YtajmcplanlibnaaGreatDoorKM20
set_option linter.unusedSimpArgs false
set_option linter.unusedVariables false
set_option linter.unnecessarySimpa false
namespace Go.Proofs.YtajmcplanlibnaaGreatDoor
open Go.RowKit Go.Maps
def bestL (hs : Nat → List Int) (but : Int) : Nat → Int × Bool
  | 0 => (-1, false)
  | b + 1 => if (b : Int) ≠ but ∧ 0 ≤ atV b (frR (hs b) 4) ∧ ((bestL hs but b).1 < 0 ∨ smR (hs b) 4 = true ∧ (bestL hs but b).2 = false) then (atV b (frR (hs b) 4), smR (hs b) 4) else bestL hs but b
theorem bestF_eq (B : BookS) (first : Nat) (but : Int) (hs : Nat → List Int) : ∀ n, (∀ i, i < n → B.view (first + i * 5) = hs i) → bestF B first but n = bestL hs but n
  | 0, _ => rfl
  | n + 1, h => by
    rw [bestF, bestL, bestF_eq B first but hs n (fun i hi => h i (by omega)), h n (by omega)]
def cntL (hs : Nat → List Int) (s : Int) : Nat → Nat
  | 0 => 0
  | i + 1 => cntL hs s i + (if (hs (i / 4)).getD (i % 4) 0 % 3 = s then 1 else 0)
theorem cntD_eq (B : BookS) (first : Nat) (s : Int) (hs : Nat → List Int) : ∀ n, (∀ i, i < n → B.view (first + i / 4 * 5) = hs (i / 4)) → cntD B first s n = cntL hs s n
  | 0, _ => rfl
  | n + 1, h => by
    rw [cntD, cntL, cntD_eq B first s hs n (fun i hi => h i (by omega)), h n (by omega)]
def pgOne (x : Int) : List Int := x :: zer 63
theorem pgOne_ok (x : Int) (h : 0 ≤ x ∧ x < 256) : PgOk (pgOne x) := ⟨rfl, fun y hy => by
  rcases List.mem_cons.1 hy with rfl | hy
  · exact h
  · exact zer_u8 63 y hy⟩
def hdA : List Int := setDF (zer 64) 0 1
def hdB : List Int := setDF hdA 1 1
def hdC : List Int := setDF hdB 0 2
noncomputable def dkA : BookS := freshB6.wrote 3 hdA
noncomputable def dkB : BookS := dkA.wrote 4 (pgOne 1)
noncomputable def dkC : BookS := dkB.wrote 3 hdB
noncomputable def dkD : BookS := dkC.wrote 5 (pgOne 2)
noncomputable def dkE : BookS := dkD.wrote 3 hdC
theorem dkA_view (j : Nat) (hj : j < 498) : dkA.view j = if j = 3 then hdA else zer 64 := by
  unfold dkA; rw [BookS.wrote_view, freshB6_view _ hj]
theorem dkB_view (j : Nat) (hj : j < 498) : dkB.view j = if j = 4 then pgOne 1 else if j = 3 then hdA else zer 64 := by
  unfold dkB; rw [BookS.wrote_view, dkA_view j hj]
theorem dkC_view (j : Nat) (hj : j < 498) : dkC.view j = if j = 3 then hdB else if j = 4 then pgOne 1 else zer 64 := by
  unfold dkC; rw [BookS.wrote_view, dkB_view j hj]
  by_cases h : j = 3 <;> simp [h]
theorem dkD_view (j : Nat) (hj : j < 498) : dkD.view j = if j = 5 then pgOne 2 else if j = 3 then hdB else if j = 4 then pgOne 1 else zer 64 := by
  unfold dkD; rw [BookS.wrote_view, dkC_view j hj]
theorem dkE_view (j : Nat) (hj : j < 498) : dkE.view j = if j = 3 then hdC else if j = 5 then pgOne 2 else if j = 4 then pgOne 1 else zer 64 := by
  unfold dkE; rw [BookS.wrote_view, dkD_view j hj]
  by_cases h : j = 3 <;> simp [h]
theorem dkA_n : dkA.n = 498 := by unfold dkA; rw [BookS.wrote_n, freshB6_n]
theorem dkB_n : dkB.n = 498 := by unfold dkB; rw [BookS.wrote_n, dkA_n]
theorem dkC_n : dkC.n = 498 := by unfold dkC; rw [BookS.wrote_n, dkB_n]
theorem dkD_n : dkD.n = 498 := by unfold dkD; rw [BookS.wrote_n, dkC_n]
theorem dkE_n : dkE.n = 498 := by unfold dkE; rw [BookS.wrote_n, dkD_n]
theorem dkA_cnt : dkA.cnt ≤ 1 := by
  have := BookS.wrote_cnt freshB6 3 hdA (by rw [freshB6_n]; decide)
  rw [freshB6_cnt] at this
  exact this
theorem dkB_cnt : dkB.cnt ≤ 2 := by
  have := BookS.wrote_cnt dkA 4 (pgOne 1) (by rw [dkA_n]; decide)
  have := dkA_cnt
  unfold dkB; omega
theorem dkC_cnt : dkC.cnt ≤ 3 := by
  have := BookS.wrote_cnt dkB 3 hdB (by rw [dkB_n]; decide)
  have := dkB_cnt
  unfold dkC; omega
theorem dkD_cnt : dkD.cnt ≤ 4 := by
  have := BookS.wrote_cnt dkC 5 (pgOne 2) (by rw [dkC_n]; decide)
  have := dkC_cnt
  unfold dkD; omega
theorem wrOk_cnt {B : BookS} {k : Nat} (h : B.cnt ≤ k) (hk : k < 60) (i : Nat) (p : List Int) : WrOk B i p := .inr (.inr (by show B.cnt ≠ 60; omega))
theorem best_first : (bestF freshB6 3 (-1) 2).1 = ((0 : Nat) : Int) := by
  rw [bestF_eq freshB6 3 (-1) (fun _ => zer 64) 2 (fun i hi => freshB6_view _ (by omega))]
  decide +kernel
theorem best_second : (bestF dkB 3 (-1) 2).1 = ((1 : Nat) : Int) := by
  rw [bestF_eq dkB 3 (-1) (fun i => if i = 0 then hdA else zer 64) 2 (fun i hi => by
    rw [dkB_view _ (by omega)]
    rcases (show i = 0 ∨ i = 1 by omega) with rfl | rfl <;> rfl)]
  decide +kernel
theorem hd_facts : hdB.getD 0 0 = 1 ∧ hdC.getD 1 0 = 1 := by decide +kernel
theorem cnt_E (s : Int) : cntD dkE 3 s 8 = cntL (fun i => if i = 0 then hdC else zer 64) s 8 := by
  refine cntD_eq dkE 3 s _ 8 (fun i hi => ?_)
  rw [dkE_view _ (by omega)]
  rcases (show i / 4 = 0 ∨ i / 4 = 1 by omega) with h | h <;> rw [h] <;> rfl
theorem cnt_facts : cntD dkE 3 1 8 = 1 ∧ cntD dkE 3 2 8 = 1 ∧ cntD dkE 3 0 8 = 6 := by
  rw [cnt_E, cnt_E, cnt_E]
  decide +kernel
theorem built_pg1 (x : Int) : Tryz.prog.built 37 [(0, .int .u8 x)] = some (v8a (pgOne x)) := by kernel_rfl
theorem page_load_g {ops : Array Oper} {rest : List Oper} {o : Oper} {a : Act} {w : World} {Q : Exit → Act → World → Prop} (hw : Region.wanted o (yielded ops a.tmps) = true) (x : Operand) (ho : o.op = .load 37 x) (g : Nat) (p : List Int) (hx : a.eval x = .pointer (some ⟨g, 0, none⟩)) (hg : w.heap[g]? = some (.cells (v8a p) 37)) (hp : p.length = 64)
    (h : wpList Tryz.prog ops Q rest (a.put o.dst (.agg (v8a p))) w) : wpList Tryz.prog ops Q (o :: rest) a w := by
  refine wpList_step fun K hK => ?_
  rw [if_pos hw]
  exact wp_load_mid _ x ho g 0 hx (v8 p) _ (row_range hg) Tryz.underlying37 rfl (by rw [v8_length, hp]; exact info_pgs) (hK _ _ h)
theorem build_g1 {P : Program} {ops : Array Oper} {rest : List Oper} {o : Oper} {a : Act} {w : World} {Q : Exit → Act → World → Prop} (hw : Region.wanted o (yielded ops a.tmps) = true) (t : TypeId) (parts : Array (Nat × Operand)) (ho : o.op = .build t parts)
    (cs : Array Value) (hb : P.built t (parts.map fun (i, x) => (i, a.eval x)).toList = some cs) (h : wpList P ops Q rest (a.put o.dst (.agg cs)) w) : wpList P ops Q (o :: rest) a w := by
  refine wpList_step fun K hK => ?_
  rw [if_pos hw]
  unfold Oper.wp execOp
  simp only [ho, Sem.run_bind, run_build w t _ cs hb, Result.andThen_ok]
  exact hK _ _ h
theorem page_eql_g {ops : Array Oper} {rest : List Oper} {o : Oper} {a : Act} {w : World} {Q : Exit → Act → World → Prop} (hw : Region.wanted o (yielded ops a.tmps) = true) (x y : Operand) (t2 : TypeId) (ho : o.op = .binOp .eql 37 x y t2) (p q : List Int) (hx : a.eval x = .agg (v8a p)) (hy : a.eval y = .agg (v8a q)) (hp : p.length = 64) (hq : q.length = 64)
    (h : wpList Tryz.prog ops Q rest (a.put o.dst (.bool (decide (p = q)))) w) : wpList Tryz.prog ops Q (o :: rest) a w := by
  refine wpList_step fun K hK => ?_
  rw [if_pos hw]
  unfold Oper.wp execOp
  simp only [ho, hx, hy, Sem.run_bind, run_eqGuard_agg w .eql _ x y (v8a p) (v8a q) guard_pg, pg_eql w p q hp hq, Result.andThen_ok]
  exact hK _ _ h
set_option maxRecDepth 100000 in
set_option maxHeartbeats 4000000 in
theorem stands07_any (N : Nat → Prop) (w : World) (hN : ∀ i, N i → i < w.heap.size) :
    Calls Tryz.prog 42 #[] w fun e w' => e = .returned (.bool true) ∧ Keeps N w w' := by
  have hFR := fresh07_any 2 (by decide) N w hN
  clear hN
  go_enter Tryz.func42, Tryz.ntmps42
  go_wp2_with fail
  refine hFR.mono ?_
  clear hFR
  rintro e w1 ⟨⟨bb, tb, rfl, hT⟩, hk1⟩
  have H1 : Hid (HolI 215 w1 tb N bb 3 2 freshB6 ∧ Keeps N w w1) := Lib.hid ⟨hT, hk1⟩
  clear hT hk1
  have hS := dPut_any tb N bb 3 2 freshB6 (by rw [freshB6_n]; decide) (pgOne 1) (pgOne_ok 1 (by decide)) 0 best_first (wrOk_cnt (k := 0) (by rw [freshB6_cnt]; exact Nat.le_refl _) (by decide) _ _) (by
    show WrOk (freshB6.wrote 3 (setDF (freshB6.view 3) 0 1)) _ _
    rw [freshB6_view _ (by decide)]
    exact wrOk_cnt (k := 1) dkA_cnt (by decide) _ _) w1 H1.out.1
  rw [show (freshB6.wrote (3 + 0 / 4 * 5) (setDF (freshB6.view (3 + 0 / 4 * 5)) (0 % 4) 1)).wrote (3 + 0 / 4 * 5 + 1 + 0 % 4) (pgOne 1) = dkB by
    show (freshB6.wrote 3 (setDF (freshB6.view 3) 0 1)).wrote 4 (pgOne 1) = dkB
    rw [freshB6_view _ (by decide)]; rfl] at hS
  try dsimp only
  go_wp2_with (refine wpList_build_to rfl 37 _ rfl (v8a (pgOne 1)) (built_pg1 1) ?_)
  refine hS.mono ?_
  clear hS
  rintro e w2 ⟨rfl, hT, hk⟩
  have H2 : Hid (HolI 215 w2 tb N bb 3 2 dkB ∧ Keeps N w w2) := Lib.hid ⟨hT, H1.out.2.trans hk⟩
  clear hT hk H1
  have hS := dPut_any tb N bb 3 2 dkB (by rw [dkB_n]; decide) (pgOne 2) (pgOne_ok 2 (by decide)) 1 best_second (wrOk_cnt (k := 2) dkB_cnt (by decide) _ _) (by
    show WrOk (dkB.wrote 3 (setDF (dkB.view 3) 1 1)) _ _
    rw [dkB_view _ (by decide)]
    exact wrOk_cnt (k := 3) dkC_cnt (by decide) _ _) w2 H2.out.1
  rw [show (dkB.wrote (3 + 1 / 4 * 5) (setDF (dkB.view (3 + 1 / 4 * 5)) (1 % 4) 1)).wrote (3 + 1 / 4 * 5 + 1 + 1 % 4) (pgOne 2) = dkD by
    show (dkB.wrote 3 (setDF (dkB.view 3) 1 1)).wrote 5 (pgOne 2) = dkD
    rw [dkB_view _ (by decide)]; rfl] at hS
  try dsimp only
  go_wp2_with (refine wpList_build_to rfl 37 _ rfl (v8a (pgOne 2)) (built_pg1 2) ?_)
  refine hS.mono ?_
  clear hS
  rintro e w3 ⟨rfl, hT, hk⟩
  have H3 : Hid (HolI 215 w3 tb N bb 3 2 dkD ∧ Keeps N w w3) := Lib.hid ⟨hT, H2.out.2.trans hk⟩
  clear hT hk H2
  have hS := ddrop_any tb N bb 3 2 dkD 0 (by decide) (by rw [dkD_n]; decide) (by
    show (dkD.view 3).getD 0 0 = 1
    rw [dkD_view _ (by decide)]; exact hd_facts.1) (wrOk_cnt (k := 4) dkD_cnt (by decide) _ _) w3 H3.out.1
  rw [show dkD.wrote (3 + 0 / 4 * 5) (setDF (dkD.view (3 + 0 / 4 * 5)) (0 % 4) 2) = dkE by
    show dkD.wrote 3 (setDF (dkD.view 3) 0 2) = dkE
    rw [dkD_view _ (by decide)]; rfl] at hS
  try dsimp only
  go_wp2_with fail
  refine hS.mono ?_
  clear hS
  rintro e w4 ⟨rfl, hT, hk⟩
  have H4 : Hid (HolI 215 w4 tb N bb 3 2 dkE ∧ Keeps N w w4) := Lib.hid ⟨hT, H3.out.2.trans hk⟩
  clear hT hk H3
  have hS := dget_any tb N bb 3 2 dkE 1 (by decide) (by rw [dkE_n]; decide) (by
    show (dkE.view 3).getD 1 0 = 1
    rw [dkE_view _ (by decide)]; exact hd_facts.2) w4 H4.out.1
  rw [show dkE.view (3 + 1 / 4 * 5 + 1 + 1 % 4) = pgOne 2 by
    show dkE.view 5 = _
    rw [dkE_view _ (by decide)]; rfl] at hS
  try dsimp only
  go_wp2_with fail
  refine hS.mono ?_
  clear hS
  rintro e w5 ⟨rfl, hb5⟩
  have H5 : Hid (HolI 215 w5 tb N bb 3 2 dkE ∧ Keeps N w w5) := Lib.hid ⟨H4.out.1.below hb5, H4.out.2.trans (Keeps.of_below hb5)⟩
  clear hb5 H4
  try dsimp only
  repeat ((fail_if_success (with_reducible refine stop_at 40 rfl ?_)); (first | (refine page_store rfl (.tmp 8) (.tmp 37) rfl w5.heap.size (pgOne 2) (zer 64) rfl rfl (heap_alloc_new w5 _) rfl rfl ?_) | go_values | go_skip | go_guarded | go_step | go_upon))
  have hbx : ∀ o : Obj, Below w5.heap.size w5 ((w5.alloc o).setRow w5.heap.size (v8a (pgOne 2))) := fun o => below_setRow ((Below.refl _ _).alloc (Nat.le_refl _) _) (Nat.le_refl _) _
  refine gen_world (fun wx => Hid (HolI 215 wx tb N bb 3 2 dkE ∧ Keeps N w wx ∧ wx.heap[w5.heap.size]? = some (.cells (v8a (pgOne 2)) 37))) (Lib.hid ⟨H5.out.1.below (hbx _), H5.out.2.trans (Keeps.of_below (hbx _)), setRow_heap _ _ _ _ _ (0, 0) (heap_alloc_new w5 _)⟩) ?_
  clear hbx H5
  generalize w5.heap.size = b8
  intro w6 H6
  have hS := dcount_any tb N bb 3 2 dkE (by rw [dkE_n]; decide) w6 H6.out.1
  rw [show 2 * 4 = 8 from rfl, cnt_facts.1, cnt_facts.2.1, cnt_facts.2.2] at hS
  go_wp2_with fail
  refine hS.mono ?_
  clear hS
  rintro e w7 ⟨rfl, hb7⟩
  have H7 : Hid (Keeps N w w7 ∧ w7.heap[b8]? = some (.cells (v8a (pgOne 2)) 37)) := Lib.hid ⟨H6.out.2.1.trans (Keeps.of_below hb7), (hb7.block _ (lt_of_blk H6.out.2.2)).trans H6.out.2.2⟩
  clear hb7 H6
  try dsimp only
  go_wp2_with fail
  refine (num07_nil w7).mono ?_
  rintro e w8 ⟨rfl, rfl⟩
  try dsimp only
  go_wp2_with fail
  refine (num07_nil w7).mono ?_
  rintro e w8 ⟨rfl, rfl⟩
  try dsimp only
  go_wp2_with fail
  refine (num07_nil w7).mono ?_
  rintro e w8 ⟨rfl, rfl⟩
  try dsimp only
  go_wp2_with fail
  refine (num07_nil w7).mono ?_
  rintro e w8 ⟨rfl, rfl⟩
  try dsimp only
  go_wp2_with fail
  refine (num07_nil w7).mono ?_
  rintro e w8 ⟨rfl, rfl⟩
  try dsimp only
  have hd2 : decide (pgOne 2 = pgOne 2) = true := decide_eq_true rfl
  go_wp2_with (first | (refine page_eql_g rfl (.tmp 67) (.tmp 68) _ rfl (pgOne 2) (pgOne 2) rfl rfl rfl rfl ?_; rw [hd2]) | (refine page_load_g rfl (.tmp 8) rfl b8 (pgOne 2) rfl H7.out.2 rfl ?_) | (refine build_g1 rfl 37 _ rfl (v8a (pgOne 2)) (built_pg1 2) ?_))
  refine (depotPages_any 2 (by decide) w7).mono ?_
  rintro e w8 ⟨rfl, rfl⟩
  try dsimp only
  go_wp2_with fail
  go_ret
  exact ⟨rfl, H7.out.1⟩
end Go.Proofs.YtajmcplanlibnaaGreatDoor
