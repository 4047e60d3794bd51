/- The statements of radix: two numbers of one node. -/
import Derived.Test.YtjikpodghmfjcaaGreatDoorKM1
import Derived.Test.YtjikpodghmfjcaaGreatDoorKQ8
import Derived.Test.YtjikpodghmfjcaaGreatDoorKG1
set_option linter.unusedSimpArgs false
set_option linter.unusedVariables false
set_option linter.unnecessarySimpa false
namespace Go.Proofs.YtjikpodghmfjcaaGreatDoor
open Go.RowKit Go.Maps
def pgFA : List Int := putNF (zer 64) 0 1
def pgFB : List Int := putNF (zer 64) 0 2
def pgFC : List Int := putNF (zer 64) 0 5
def pgFD : List Int := putNF pgFC 15 6
theorem at_facts : atF (zer 64) 0 = 0 ∧ atF pgFA 0 = 1 ∧ atF pgFB 0 = 2 ∧ atF pgFD 15 = 6 := by decide +kernel
theorem pg_facts : pgFB ≠ zer 64 ∧ pgFD ≠ zer 64 := by decide +kernel
noncomputable def bkA : BookS := freshB.wrote 2 pgFA
noncomputable def bkB : BookS := bkA.wrote 3 pgFB
noncomputable def bkC : BookS := bkB.wrote 4 pgFC
noncomputable def bkD : BookS := bkC.wrote 4 pgFD
theorem bkA_view (j : Nat) (hj : j < 198) : bkA.view j = if j = 2 then pgFA else zer 64 := by
  unfold bkA; rw [BookS.wrote_view, freshB_view _ hj]
theorem bkB_view (j : Nat) (hj : j < 198) : bkB.view j = if j = 3 then pgFB else if j = 2 then pgFA else zer 64 := by
  unfold bkB; rw [BookS.wrote_view, bkA_view j hj]
theorem bkC_view (j : Nat) (hj : j < 198) : bkC.view j = if j = 4 then pgFC else if j = 3 then pgFB else if j = 2 then pgFA else zer 64 := by
  unfold bkC; rw [BookS.wrote_view, bkB_view j hj]
theorem bkD_view (j : Nat) (hj : j < 198) : bkD.view j = if j = 4 then pgFD else if j = 3 then pgFB else if j = 2 then pgFA else zer 64 := by
  unfold bkD; rw [BookS.wrote_view, bkC_view j hj]
  by_cases h : j = 4 <;> simp [h]
theorem bkA_n : bkA.n = 198 := by unfold bkA; rw [BookS.wrote_n, freshB_n]
theorem bkB_n : bkB.n = 198 := by unfold bkB; rw [BookS.wrote_n, bkA_n]
theorem bkC_n : bkC.n = 198 := by unfold bkC; rw [BookS.wrote_n, bkB_n]
theorem bkD_n : bkD.n = 198 := by unfold bkD; rw [BookS.wrote_n, bkC_n]
theorem bkA_cnt : bkA.cnt ≤ 1 := by
  have := BookS.wrote_cnt freshB 2 pgFA (by rw [freshB_n]; decide)
  rw [freshB_cnt] at this
  exact this
theorem bkB_cnt : bkB.cnt ≤ 2 := by
  have := BookS.wrote_cnt bkA 3 pgFB (by rw [bkA_n]; decide)
  have := bkA_cnt
  unfold bkB; omega
theorem bkC_cnt : bkC.cnt ≤ 3 := by
  have := BookS.wrote_cnt bkB 4 pgFC (by rw [bkB_n]; decide)
  have := bkB_cnt
  unfold bkC; omega
theorem wrOk_of {B : BookS} {k : Nat} (h : B.cnt ≤ k) (hk : k < 60) (i : Nat) (p : List Int) : WrOk B i p := .inr (.inr (by show B.cnt ≠ 60; omega))
noncomputable def bkS : Nat → BookS
  | 0 => freshB
  | 1 => bkA
  | _ => bkB
def plZ : Nat → Nat := fun _ => 0
def plF : Nat → Nat
  | 2 => 15
  | _ => 0
theorem way_first : WayS freshB 2 9 0 0 0 (fun k => k) plZ where
  hm := by decide
  nd0 := rfl
  pl0 := rfl
  pl1 := rfl
  pl2 := rfl
  le := fun k hk => by omega
  on := fun k hk => by omega
  last := fun _ => by rw [freshB_view _ (by decide)]; exact at_facts.1
theorem set_first : SetS 2 9 0 (fun k => k) plZ bkS 5 where
  pos := fun k _ hk => by omega
  zero := fun k _ hk => by
    rcases (show k = 0 ∨ k = 1 by omega) with rfl | rfl
    · exact freshB_view _ (by decide)
    · show bkA.view 4 = _
      rw [bkA_view _ (by decide), if_neg (by decide)]
  new := fun k _ hk => by
    rcases (show k = 0 ∨ k = 1 by omega) with rfl | rfl <;> decide
  all := fun k _ hk j h1 h2 => by
    rcases (show k = 0 ∨ k = 1 by omega) with rfl | rfl
    · omega
    · rcases (show j = 1 by omega) with rfl
      exact .inr (by decide)
  may := fun k _ hk => by
    rcases (show k = 0 ∨ k = 1 by omega) with rfl | rfl
    · exact wrOk_of (k := 0) (by show freshB.cnt ≤ 0; rw [freshB_cnt]; exact Nat.le_refl _) (by decide) _ _
    · exact wrOk_of (k := 1) bkA_cnt (by decide) _ _
  next := fun k _ hk => by
    rcases (show k = 0 ∨ k = 1 by omega) with rfl | rfl
    · show bkA = freshB.wrote 2 (putNF (freshB.view 2) 0 1)
      rw [freshB_view _ (by decide)]; rfl
    · show bkB = bkA.wrote 3 (putNF (bkA.view 3) 0 2)
      rw [bkA_view _ (by decide), if_neg (by decide)]; rfl
  last := wrOk_of (k := 2) bkB_cnt (by decide) _ _
theorem last_first : (bkS 2).wrote (2 + 2) (putNF ((bkS 2).view (2 + 2)) (plZ 2) 5) = bkC := by
  show bkB.wrote 4 (putNF (bkB.view 4) 0 5) = bkC
  rw [bkB_view _ (by decide), if_neg (by decide), if_neg (by decide)]; rfl
theorem way_on {B : BookS} (h2 : B.view 2 = pgFA) (h3 : B.view 3 = pgFB) : WayS B 2 9 0 15 2 (fun k => k) plF where
  hm := by decide
  nd0 := rfl
  pl0 := rfl
  pl1 := rfl
  pl2 := rfl
  le := fun k hk => by omega
  on := fun k hk => by
    rcases (show k = 0 ∨ k = 1 by omega) with rfl | rfl
    · refine ⟨?_, by decide⟩
      show atF (B.view 2) 0 = 1
      rw [h2]; exact at_facts.2.1
    · refine ⟨?_, by decide⟩
      show atF (B.view 3) 0 = 2
      rw [h3]; exact at_facts.2.2.1
  last := fun h => by omega
theorem set_second : SetS 2 9 2 (fun k => k) plF (fun _ => bkC) 6 where
  pos := fun k _ hk => by omega
  zero := fun k _ hk => by omega
  new := fun k _ hk => by omega
  all := fun k _ hk j h1 h2 => by omega
  may := fun k _ hk => by omega
  next := fun k _ hk => by omega
  last := wrOk_of (k := 3) bkC_cnt (by decide) _ _
theorem last_second : bkC.wrote (2 + 2) (putNF (bkC.view (2 + 2)) (plF 2) 6) = bkD := by
  show bkC.wrote 4 (putNF (bkC.view 4) 15 6) = bkD
  rw [bkC_view _ (by decide), if_pos rfl]; rfl
theorem nodes_D : nodesF bkD 2 9 = 2 := by
  have v := bkD_view
  have hB := pg_facts.1
  have hD := pg_facts.2
  simp [nodesF, v, hB, hD]
set_option maxRecDepth 100000 in
set_option maxHeartbeats 4000000 in
theorem stands09_any (N : Nat → Prop) (w : World) (hN : ∀ i, N i → i < w.heap.size) :
    Calls Tryz.prog 19 #[] w fun e w' => e = .returned (.bool true) ∧ Keeps N w w' := by
  have hFR := fresh09_any 9 (by decide) N w hN
  clear hN
  go_enter Tryz.func19, Tryz.ntmps19
  go_wp2_with fail
  refine hFR.mono ?_
  clear hFR
  rintro e w1 ⟨⟨bb, tb, rfl, hT⟩, hk1⟩
  have H1 : Hid (HolI 119 w1 tb N bb 2 9 freshB ∧ Keeps N w w1) := Lib.hid ⟨hT, hk1⟩
  clear hT hk1
  have hS := rset_any tb N bb 2 9 freshB 0 0 0 (by decide) (by decide) (by rw [freshB_n]; decide) (fun k => k) plZ way_first bkS 5 (by decide) set_first rfl w1 H1.out.1
  rw [last_first] at hS
  try dsimp only
  go_wp2_with fail
  refine hS.mono ?_
  clear hS
  rintro e w2 ⟨rfl, hT, hk⟩
  have H2 : Hid (HolI 119 w2 tb N bb 2 9 bkC ∧ Keeps N w w2) := Lib.hid ⟨hT, H1.out.2.trans hk⟩
  clear hT hk H1
  have hS := rset_any tb N bb 2 9 bkC 0 15 2 (by decide) (by decide) (by rw [bkC_n]; decide) (fun k => k) plF (way_on (by rw [bkC_view _ (by decide)]; rfl) (by rw [bkC_view _ (by decide)]; rfl)) (fun _ => bkC) 6 (by decide) set_second rfl w2 H2.out.1
  rw [last_second] at hS
  try dsimp only
  go_wp2_with fail
  refine hS.mono ?_
  clear hS
  rintro e w3 ⟨rfl, hT, hk⟩
  have H3 : Hid (HolI 119 w3 tb N bb 2 9 bkD ∧ Keeps N w w3) := Lib.hid ⟨hT, H2.out.2.trans hk⟩
  clear hT hk H2
  have hG := rget_some tb N bb 2 9 bkD 0 15 (by decide) (by decide) (by rw [bkD_n]; decide) (fun k => k) plF (way_on (by rw [bkD_view _ (by decide)]; rfl) (by rw [bkD_view _ (by decide)]; rfl)) w3 H3.out.1
  rw [show atF (bkD.view (2 + 2)) (plF 2) = 6 by rw [bkD_view _ (by decide)]; exact at_facts.2.2.2] at hG
  try dsimp only
  go_wp2_with fail
  refine hG.mono ?_
  clear hG
  rintro e w4 ⟨rfl, hb4⟩
  have H4 : Hid (HolI 119 w4 tb N bb 2 9 bkD ∧ Keeps N w w4) := Lib.hid ⟨H3.out.1.below hb4, H3.out.2.trans (Keeps.of_below hb4)⟩
  clear hb4 H3
  have hM := rnodes_any tb N bb 2 9 bkD (by rw [bkD_n]; decide) w4 H4.out.1
  rw [nodes_D] at hM
  try dsimp only
  go_wp2_with fail
  refine hM.mono ?_
  clear hM
  rintro e w5 ⟨rfl, hb5⟩
  have HK := Lib.hid (H4.out.2.trans (Keeps.of_below hb5))
  clear hb5 H4
  try dsimp only
  go_wp2_with fail
  refine (num09_nil w5).mono ?_
  rintro e w6 ⟨rfl, rfl⟩
  try dsimp only
  go_wp2_with fail
  refine (num09_nil w5).mono ?_
  rintro e w6 ⟨rfl, rfl⟩
  try dsimp only
  go_wp2_with fail
  refine (num09_nil w5).mono ?_
  rintro e w6 ⟨rfl, rfl⟩
  try dsimp only
  go_wp2_with fail
  refine (num09_nil w5).mono ?_
  rintro e w6 ⟨rfl, rfl⟩
  try dsimp only
  go_wp2_with fail
  go_ret
  exact ⟨rfl, HK.out⟩
end Go.Proofs.YtjikpodghmfjcaaGreatDoor
set_option linter.unnecessarySimpa false
namespace Go.Proofs.YtjikpodghmfjcaaGreatDoor
open Go.RowKit Go.Maps
theorem tmod_rng9 (n m : Int) (hm : 0 < m) : -m < n.tmod m ∧ n.tmod m < m := by
  rcases Int.le_total 0 n with h | h
  · rw [Int.tmod_eq_emod_of_nonneg h]
    have h1 := Int.emod_nonneg n (show m ≠ 0 by omega)
    have h2 := Int.emod_lt_of_pos n hm
    omega
  · have e : n.tmod m = -((-n).tmod m) := by rw [Int.neg_tmod]; simp
    rw [e, Int.tmod_eq_emod_of_nonneg (show 0 ≤ -n by omega)]
    have h1 := Int.emod_nonneg (-n) (show m ≠ 0 by omega)
    have h2 := Int.emod_lt_of_pos (-n) hm
    omega
/-- The state of a slot; its page. -/
def stD (B : BookS) (s : Nat) : Int := (B.view (3 + s / 4 * 5)).getD (s % 4) 0
def pgS (s : Nat) : Nat := 3 + s / 4 * 5 + 1 + s % 4
theorem ForI.congr {rd rd' : Nat → List Int} {n : Nat} {M M' : Nat → Nat → Nat → Int} {r1 : Nat → Nat} {r2 : Nat → Nat → Nat} (h : ForI rd n (fun _ => False) M r1 r2) (he : ∀ p, p ≤ n → rd' p = rd p)
    (hM : ∀ l g b, l < 4 → g < 16 → b < 16 → M' l g b = M l g b) : ForI rd' n (fun _ => False) M' r1 r2 :=
  ⟨fun l hl => by rw [he 0 (Nat.zero_le _)]; exact h.root l hl, fun l g hl hg h1 => by rw [he _ (h.le1 l hl)]; exact h.mid l g hl hg h1, h.mid0,
   fun l g b hl hg hb h2 => by rw [he _ (h.le2 l g hl hg), hM l g b hl hg hb]; exact h.leaf l g b hl hg hb h2, fun l g b hl hg hb h2 => by rw [hM l g b hl hg hb]; exact h.leaf0 l g b hl hg hb h2,
   h.le1, h.le2, h.inj1, h.inj2, h.apart, fun p h1 h2 => by rw [he p h2]; exact h.used p h1 h2, fun p hp => hp.elim, fun p hp => by rw [he p hp]; exact h.ok p hp⟩
theorem ForI.done {B : BookS} {first n k : Nat} {M : Nat → Nat → Nat → Int} {r1 : Nat → Nat} {r2 : Nat → Nat → Nat} (h : ForI (rdOf B first) n (fun _ => False) M r1 r2) (hok : B.ok) (hl : B.lim k) (hk : k ≤ 10000) (hn : first + n < B.n) : ForI (rdOf B.done first) n (fun _ => False) M r1 r2 :=
  h.congr (fun p hp => BookS.done_view_lim hok hl hk (first + p) (by omega)) (fun _ _ _ _ _ _ => rfl)
/-- A forest on a new book, after so many commits. -/
def RxI (w0 : World) (tb bb n k : Nat) (M : Nat → Nat → Nat → Int) (wx : World) : Prop :=
  ∃ B r1 r2, HolI 119 wx tb (fun k => k < w0.heap.size) bb 2 n B ∧ ForI (rdOf B 2) n (fun _ => False) M r1 r2 ∧ B.cnt = 0 ∧ B.lim k ∧ B.n = 198 ∧ Keeps (fun k => k < w0.heap.size) w0 wx
theorem RxI.below {w0 wx wy : World} {tb bb n k : Nat} {M : Nat → Nat → Nat → Int} (h : RxI w0 tb bb n k M wx) (hb : Below wx.heap.size wx wy) : RxI w0 tb bb n k M wy := by
  obtain ⟨B, r1, r2, h1, h2, h3, h4, h5, h6⟩ := h
  exact ⟨B, r1, r2, h1.below hb, h2, h3, h4, h5, h6.trans (Keeps.of_below hb)⟩
theorem freshB_lim : freshB.lim 0 := ⟨by show ([] : List (Nat × List Int)).length ≤ _; simp, by show (0 : Int) + 1 ≤ _; omega, by show (0 : Int) ≤ _; omega⟩
/-- The numbers that are set, those ahead of a block. -/
def apM (l s y i : Nat) : Nat → Nat → Nat → Int := fun l' g b => if l' = l ∧ (16 * g + b) % s = 0 ∧ 16 * g + b < i then ((y + (16 * g + b) : Nat) : Int) else 0
theorem apM_lay (l s y i : Nat) (hs : 0 < s) (hi : i % s = 0) (l' g b : Nat) (hg : g < 16) (hb : b < 16) : apM l s y (i + s) l' g b = layM (apM l s y i) l (i / 16) (i % 16) ((y : Int) + i) l' g b := by
  unfold layM apM
  by_cases e : l' = l ∧ g = i / 16 ∧ b = i % 16
  · rw [if_pos e]
    have ei : 16 * g + b = i := by omega
    rw [if_pos ⟨e.1, by rw [ei]; exact hi, by omega⟩, ei]
    push_cast; rfl
  · rw [if_neg e]
    by_cases h1 : l' = l ∧ (16 * g + b) % s = 0 ∧ 16 * g + b < i
    · rw [if_pos h1, if_pos ⟨h1.1, h1.2.1, by omega⟩]
    · rw [if_neg h1, if_neg (fun h2 => ?_)]
      obtain ⟨a1, a2, a3⟩ := h2
      have h4 : ¬ 16 * g + b < i := fun h => h1 ⟨a1, a2, h⟩
      have h5 : 16 * g + b ≠ i := fun h => e ⟨a1, by omega, by omega⟩
      have h6 : (16 * g + b - i) % s = 0 := Nat.sub_mod_eq_zero_of_mod_eq (by rw [a2, hi])
      have h7 : 16 * g + b - i < s := by omega
      rw [Nat.mod_eq_of_lt h7] at h6
      omega
theorem rset_step {w0 wx : World} {tb bb n k : Nat} {M : Nat → Nat → Nat → Int} (hn : 70 ≤ n ∧ n ≤ 195) (hk : k ≤ 9000) {l block : Nat} (hl : l < 4) (hb : block < 256) (x : Int) (hx : 1 ≤ x ∧ x < 16777216) (h : RxI w0 tb bb n k M wx) :
    Calls Tryz.prog 21 #[.pointer (some ⟨tb, 0, none⟩), .int .i64 (l : Int), .int .i64 (block : Int), .int .i64 x] wx fun e wy => e = .returned .nilIface ∧
      Calls Tryz.prog 15 #[.pointer (some ⟨bb, 0, none⟩)] wy fun e wz => e = .returned .nilIface ∧ RxI w0 tb bb n (k + 1) (layM M l (block / 16) (block % 16) x) wz := by
  obtain ⟨B, r1, r2, h1, h2, h3, h4, h5, h6⟩ := h
  refine (rset_room h2 hn.1 tb _ bb (by omega) (by omega) (by omega) hl hb x hx wx h1).mono ?_
  rintro e wy ⟨rfl, ⟨B', r1', r2', hH, ⟨s1, s2, s3, s4⟩⟩, hkp⟩
  refine ⟨rfl, (hcommit_any 119 tb _ bb 2 n B' k (h4.same s3) (by omega) (by omega) wy hH).mono ?_⟩
  rintro e wz ⟨rfl, hD, hkz⟩
  exact ⟨rfl, B'.done, r1', r2', hD, s4.done hH.2.1.isOk (h4.same s3) (by omega) (by omega), BookS.done_cnt _, (h4.same s3).done (by omega), by rw [BookS.done_n, s1, h5], h6.trans (hkp.trans hkz)⟩
theorem rget_rx {w0 wx : World} {tb bb n k : Nat} {M : Nat → Nat → Nat → Int} (hn : n ≤ 195) {l block : Nat} (hl : l < 4) (hb : block < 256) (h : RxI w0 tb bb n k M wx) :
    Calls Tryz.prog 22 #[.pointer (some ⟨tb, 0, none⟩), .int .i64 (l : Int), .int .i64 (block : Int)] wx fun e wy => e = .returned (.tuple #[.int .i64 (M l (block / 16) (block % 16)), .nilIface]) ∧ RxI w0 tb bb n k M wy := by
  have h' := h
  obtain ⟨B, r1, r2, h1, h2, h3, h4, h5, h6⟩ := h
  refine (rget_for h2 tb _ bb (by omega) hl hb wx h1).mono ?_
  rintro e wy ⟨rfl, hbl⟩
  exact ⟨rfl, h'.below hbl⟩
theorem apM_at (l s y i j : Nat) (hj : j < i) : apM l s y i l (j / 16) (j % 16) = if j % s = 0 then (y : Int) + j else 0 := by
  unfold apM
  have e : 16 * (j / 16) + j % 16 = j := by omega
  rw [e]
  by_cases h : j % s = 0
  · rw [if_pos h, if_pos ⟨rfl, h, hj⟩]; push_cast; rfl
  · rw [if_neg h, if_neg (fun h' => h h'.2.1)]
theorem apM_other (l l' s y i g b : Nat) (h : l' ≠ l) : apM l s y i l' g b = 0 := by
  unfold apM
  rw [if_neg (fun h' => h h'.1)]
set_option maxRecDepth 100000 in
set_option maxHeartbeats 2000000 in
theorem apart_any (lun step x : Int) (w : World) : Calls Tryz.prog 4 #[.int .i64 lun, .int .i64 step, .int .i64 x] w fun e w' => e = .returned (.bool true) ∧ Below w.heap.size w w' := by
  have hST := stands09_any (fun k => k < w.heap.size) w (fun i h => h)
  go_enter Tryz.func4, Tryz.ntmps4
  go_wp2_with fail
  refine hST.mono ?_
  clear hST
  rintro e w1 ⟨rfl, hk1⟩
  try dsimp only
  have hm1 := tmod_rng9 lun 4 (by decide)
  have hm2 := tmod_rng9 step 40 (by decide)
  have hm3 := tmod_rng9 x 1000 (by decide)
  repeat ((fail_if_success (with_reducible refine stop_at 32 rfl ?_)); (first | go_values | go_skip | go_guarded | go_step | go_upon))
  obtain ⟨l, hl⟩ : ∃ l : Nat, (lun.tmod 4 + 4) % 4 = (l : Int) := ⟨((lun.tmod 4 + 4) % 4).toNat, by omega⟩
  obtain ⟨s, hs⟩ : ∃ s : Nat, step.tmod 40 % 40 + 1 = (s : Int) := ⟨(step.tmod 40 % 40 + 1).toNat, by omega⟩
  obtain ⟨y, hy⟩ : ∃ y : Nat, x.tmod 1000 % 1000 + 1 = (y : Int) := ⟨(x.tmod 1000 % 1000 + 1).toNat, by omega⟩
  have hl4 : l < 4 := by omega
  have hs1 : 1 ≤ s ∧ s ≤ 40 := by omega
  have hy1 : 1 ≤ y ∧ y ≤ 1000 := by omega
  rw [hl, hs, hy]
  generalize lun.tmod 4 = q1 at *
  generalize step.tmod 40 = q2 at *
  generalize x.tmod 1000 = q3 at *
  clear hm1 hm2 hm3 hl hs hy
  have hFR := fresh09_any 90 (by decide) (fun k => k < w.heap.size) w1 (fun i h => Nat.lt_of_lt_of_le h hk1.size)
  go_wp2_with fail
  refine hFR.mono ?_
  clear hFR
  rintro e w2 ⟨⟨bb, tb, rfl, hT⟩, hk2⟩
  have H2 : Hid (RxI w tb bb 90 0 (apM l s y 0) w2) := Lib.hid ⟨freshB, _, _, hT, (ForI.start 90).congr (fun p hp => freshB_view _ (by omega)) (fun _ _ _ _ _ _ => if_neg (by omega)), freshB_cnt, freshB_lim, freshB_n, hk1.trans hk2⟩
  clear hT hk1 hk2
  have i1 : (1 : Int) ≤ s := by omega
  have i2 : (s : Int) ≤ 40 := by omega
  have i3 : (1 : Int) ≤ y := by omega
  have i4 : (y : Int) ≤ 1000 := by omega
  have i5 : (0 : Int) ≤ l := by omega
  have i6 : (l : Int) < 4 := by omega
  have HS1 := Lib.hid hs1
  have HY1 := Lib.hid hy1
  clear hs1 hy1
  try dsimp only
  go_wp2_with fail
  go_loopw [9] (fun iv wr => ∃ i k : Nat, iv = .int .i64 (i : Int) ∧ k ≤ i ∧ i < 256 + s ∧ Hid (i % s = 0) ∧ Hid (RxI w tb bb 90 k (apM l s y i) wr)) (fun iv _ => 600 - (intOf iv).toNat)
  case atStart => exact ⟨0, 0, rfl, by omega, by omega, Lib.hid (Nat.zero_mod _), H2⟩
  case round =>
    clear H2
    obtain ⟨i, k, rfl, hki, hi, HM, H⟩ := hrel
    have hi0 : (0 : Int) ≤ i := by omega
    by_cases hlt : i < 256
    · have hi1 : (i : Int) < 256 := by omega
      have hSC := rset_step (w0 := w) (by decide) (by omega) hl4 hlt ((y : Int) + i) ⟨by omega, by omega⟩ H.out
      go_wp2_with fail
      refine hSC.mono ?_
      clear hSC
      rintro e wy ⟨rfl, hC⟩
      try dsimp only
      go_wp2_with fail
      refine hC.mono ?_
      clear hC
      rintro e wz ⟨rfl, hz⟩
      have HZ : Hid (RxI w tb bb 90 (k + 1) (apM l s y (i + s)) wz) := Lib.hid (by
        obtain ⟨B, r1, r2, h1, h2, h3⟩ := hz
        exact ⟨B, r1, r2, h1, h2.congr (fun _ _ => rfl) (fun l' g b _ hg hb => apM_lay l s y i (by have := HS1.out; omega) HM.out l' g b hg hb), h3⟩)
      clear hz H
      try dsimp only
      go_wp2_with fail
      exact ⟨⟨i + s, k + 1, by push_cast; rfl, by have := HS1.out; omega, by omega, Lib.hid (by rw [Nat.add_mod_right]; exact HM.out), HZ⟩, by have := HS1.out; simp [intOf]; omega⟩
    · have hi1 : ¬ ((i : Int) < 256) := by omega
      have HF : Hid (RxI w tb bb 90 k (apM l s y i) wr ∧ 256 ≤ i) := Lib.hid ⟨H.out, by omega⟩
      clear H hlt
      go_wp2_with fail
      go_loopw [53] (fun jv wz => ∃ j : Nat, jv = .int .i64 (j : Int) ∧ j ≤ 256 ∧ Hid (RxI w tb bb 90 k (apM l s y i) wz)) (fun jv _ => 256 - (intOf jv).toNat)
      case atStart => exact ⟨0, rfl, by omega, Lib.hid HF.out.1⟩
      case round =>
        obtain ⟨j, rfl, hj, HZ⟩ := hrel
        have hj0 : (0 : Int) ≤ j := by omega
        by_cases hjt : j < 256
        · have hj1 : (j : Int) < 256 := by omega
          have hG := rget_rx (w0 := w) (by decide) hl4 hjt HZ.out
          rw [apM_at l s y i j (by have := HF.out.2; omega)] at hG
          obtain ⟨v, hv⟩ : ∃ v, (if j % s = 0 then (y : Int) + j else 0) = v := ⟨_, rfl⟩
          rw [hv] at hG
          have HV := Lib.hid hv
          clear hv
          go_wp2_with fail
          refine hG.mono ?_
          clear hG HZ
          rintro e wy ⟨rfl, hy⟩
          have HY := Lib.hid hy
          clear hy
          have hG2 := rget_rx (w0 := w) (l := (l + 1) % 4) (block := j) (by decide) (by omega) hjt HY.out
          rw [apM_other l ((l + 1) % 4) s y i _ _ (by omega), show (((l + 1) % 4 : Nat) : Int) = ((l : Int) + 1) % 4 by push_cast; rfl] at hG2
          try dsimp only
          go_wp2_with fail
          refine hG2.mono ?_
          clear hG2 HY
          rintro e wz ⟨rfl, hz⟩
          have HW := Lib.hid hz
          clear hz
          try dsimp only
          have hsn : (s : Int) ≠ 0 := by omega
          by_cases hm : j % s = 0
          · have hr : (j : Int) % s = 0 := by omega
            obtain rfl : v = (y : Int) + j := by rw [← HV.out, if_pos hm]
            clear hm
            go_wp2_with fail
            exact ⟨⟨j + 1, by push_cast; rfl, by omega, HW⟩, by simp [intOf]; omega⟩
          · have hr : ((j : Int) % s == 0) = false := by rw [beq_eq_false_iff_ne]; omega
            have hr2 : ((j : Int) % s != 0) = true := by rw [bne_iff_ne]; omega
            obtain rfl : v = 0 := by rw [← HV.out, if_neg hm]
            clear hm
            go_wp2_with fail
            exact ⟨⟨j + 1, by push_cast; rfl, by omega, HW⟩, by simp [intOf]; omega⟩
        · have hj1 : ¬ ((j : Int) < 256) := by omega
          go_wp2_with fail
          go_ret
          exact ⟨rfl, by obtain ⟨B, r1, r2, _, _, _, _, _, h6⟩ := HZ.out; exact h6.below (Nat.le_refl _) (fun i hi => hi)⟩
end Go.Proofs.YtjikpodghmfjcaaGreatDoor
