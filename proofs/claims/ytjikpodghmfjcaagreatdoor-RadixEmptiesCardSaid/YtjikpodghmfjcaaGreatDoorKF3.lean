/- The statements of radix: two numbers of one node. -/
import Derived.Test.YtjikpodghmfjcaaGreatDoorKM1
import Derived.Test.YtjikpodghmfjcaaGreatDoorKQ8
import Derived.Test.YtjikpodghmfjcaaGreatDoorKG1
set_option linter.unusedSimpArgs false
set_option linter.unusedVariables false
set_option linter.unnecessarySimpa false
namespace Go.Proofs.YtjikpodghmfjcaaGreatDoor
open Go.RowKit Go.Maps
def pgFA : List Int := putNF (zer 64) 0 1
def pgFB : List Int := putNF (zer 64) 0 2
def pgFC : List Int := putNF (zer 64) 0 5
def pgFD : List Int := putNF pgFC 15 6
theorem at_facts : atF (zer 64) 0 = 0 ∧ atF pgFA 0 = 1 ∧ atF pgFB 0 = 2 ∧ atF pgFD 15 = 6 := by decide +kernel
theorem pg_facts : pgFB ≠ zer 64 ∧ pgFD ≠ zer 64 := by decide +kernel
noncomputable def bkA : BookS := freshB.wrote 2 pgFA
noncomputable def bkB : BookS := bkA.wrote 3 pgFB
noncomputable def bkC : BookS := bkB.wrote 4 pgFC
noncomputable def bkD : BookS := bkC.wrote 4 pgFD
theorem bkA_view (j : Nat) (hj : j < 198) : bkA.view j = if j = 2 then pgFA else zer 64 := by
  unfold bkA; rw [BookS.wrote_view, freshB_view _ hj]
theorem bkB_view (j : Nat) (hj : j < 198) : bkB.view j = if j = 3 then pgFB else if j = 2 then pgFA else zer 64 := by
  unfold bkB; rw [BookS.wrote_view, bkA_view j hj]
theorem bkC_view (j : Nat) (hj : j < 198) : bkC.view j = if j = 4 then pgFC else if j = 3 then pgFB else if j = 2 then pgFA else zer 64 := by
  unfold bkC; rw [BookS.wrote_view, bkB_view j hj]
theorem bkD_view (j : Nat) (hj : j < 198) : bkD.view j = if j = 4 then pgFD else if j = 3 then pgFB else if j = 2 then pgFA else zer 64 := by
  unfold bkD; rw [BookS.wrote_view, bkC_view j hj]
  by_cases h : j = 4 <;> simp [h]
theorem bkA_n : bkA.n = 198 := by unfold bkA; rw [BookS.wrote_n, freshB_n]
theorem bkB_n : bkB.n = 198 := by unfold bkB; rw [BookS.wrote_n, bkA_n]
theorem bkC_n : bkC.n = 198 := by unfold bkC; rw [BookS.wrote_n, bkB_n]
theorem bkD_n : bkD.n = 198 := by unfold bkD; rw [BookS.wrote_n, bkC_n]
theorem bkA_cnt : bkA.cnt ≤ 1 := by
  have := BookS.wrote_cnt freshB 2 pgFA (by rw [freshB_n]; decide)
  rw [freshB_cnt] at this
  exact this
theorem bkB_cnt : bkB.cnt ≤ 2 := by
  have := BookS.wrote_cnt bkA 3 pgFB (by rw [bkA_n]; decide)
  have := bkA_cnt
  unfold bkB; omega
theorem bkC_cnt : bkC.cnt ≤ 3 := by
  have := BookS.wrote_cnt bkB 4 pgFC (by rw [bkB_n]; decide)
  have := bkB_cnt
  unfold bkC; omega
theorem wrOk_of {B : BookS} {k : Nat} (h : B.cnt ≤ k) (hk : k < 60) (i : Nat) (p : List Int) : WrOk B i p := .inr (.inr (by show B.cnt ≠ 60; omega))
noncomputable def bkS : Nat → BookS
  | 0 => freshB
  | 1 => bkA
  | _ => bkB
def plZ : Nat → Nat := fun _ => 0
def plF : Nat → Nat
  | 2 => 15
  | _ => 0
theorem way_first : WayS freshB 2 9 0 0 0 (fun k => k) plZ where
  hm := by decide
  nd0 := rfl
  pl0 := rfl
  pl1 := rfl
  pl2 := rfl
  le := fun k hk => by omega
  on := fun k hk => by omega
  last := fun _ => by rw [freshB_view _ (by decide)]; exact at_facts.1
theorem set_first : SetS 2 9 0 (fun k => k) plZ bkS 5 where
  pos := fun k _ hk => by omega
  zero := fun k _ hk => by
    rcases (show k = 0 ∨ k = 1 by omega) with rfl | rfl
    · exact freshB_view _ (by decide)
    · show bkA.view 4 = _
      rw [bkA_view _ (by decide), if_neg (by decide)]
  new := fun k _ hk => by
    rcases (show k = 0 ∨ k = 1 by omega) with rfl | rfl <;> decide
  all := fun k _ hk j h1 h2 => by
    rcases (show k = 0 ∨ k = 1 by omega) with rfl | rfl
    · omega
    · rcases (show j = 1 by omega) with rfl
      exact .inr (by decide)
  may := fun k _ hk => by
    rcases (show k = 0 ∨ k = 1 by omega) with rfl | rfl
    · exact wrOk_of (k := 0) (by show freshB.cnt ≤ 0; rw [freshB_cnt]; exact Nat.le_refl _) (by decide) _ _
    · exact wrOk_of (k := 1) bkA_cnt (by decide) _ _
  next := fun k _ hk => by
    rcases (show k = 0 ∨ k = 1 by omega) with rfl | rfl
    · show bkA = freshB.wrote 2 (putNF (freshB.view 2) 0 1)
      rw [freshB_view _ (by decide)]; rfl
    · show bkB = bkA.wrote 3 (putNF (bkA.view 3) 0 2)
      rw [bkA_view _ (by decide), if_neg (by decide)]; rfl
  last := wrOk_of (k := 2) bkB_cnt (by decide) _ _
theorem last_first : (bkS 2).wrote (2 + 2) (putNF ((bkS 2).view (2 + 2)) (plZ 2) 5) = bkC := by
  show bkB.wrote 4 (putNF (bkB.view 4) 0 5) = bkC
  rw [bkB_view _ (by decide), if_neg (by decide), if_neg (by decide)]; rfl
theorem way_on {B : BookS} (h2 : B.view 2 = pgFA) (h3 : B.view 3 = pgFB) : WayS B 2 9 0 15 2 (fun k => k) plF where
  hm := by decide
  nd0 := rfl
  pl0 := rfl
  pl1 := rfl
  pl2 := rfl
  le := fun k hk => by omega
  on := fun k hk => by
    rcases (show k = 0 ∨ k = 1 by omega) with rfl | rfl
    · refine ⟨?_, by decide⟩
      show atF (B.view 2) 0 = 1
      rw [h2]; exact at_facts.2.1
    · refine ⟨?_, by decide⟩
      show atF (B.view 3) 0 = 2
      rw [h3]; exact at_facts.2.2.1
  last := fun h => by omega
theorem set_second : SetS 2 9 2 (fun k => k) plF (fun _ => bkC) 6 where
  pos := fun k _ hk => by omega
  zero := fun k _ hk => by omega
  new := fun k _ hk => by omega
  all := fun k _ hk j h1 h2 => by omega
  may := fun k _ hk => by omega
  next := fun k _ hk => by omega
  last := wrOk_of (k := 3) bkC_cnt (by decide) _ _
theorem last_second : bkC.wrote (2 + 2) (putNF (bkC.view (2 + 2)) (plF 2) 6) = bkD := by
  show bkC.wrote 4 (putNF (bkC.view 4) 15 6) = bkD
  rw [bkC_view _ (by decide), if_pos rfl]; rfl
theorem nodes_D : nodesF bkD 2 9 = 2 := by
  have v := bkD_view
  have hB := pg_facts.1
  have hD := pg_facts.2
  simp [nodesF, v, hB, hD]
set_option maxRecDepth 100000 in
set_option maxHeartbeats 4000000 in
theorem stands09_any (N : Nat → Prop) (w : World) (hN : ∀ i, N i → i < w.heap.size) :
    Calls Tryz.prog 19 #[] w fun e w' => e = .returned (.bool true) ∧ Keeps N w w' := by
  have hFR := fresh09_any 9 (by decide) N w hN
  clear hN
  go_enter Tryz.func19, Tryz.ntmps19
  go_wp2_with fail
  refine hFR.mono ?_
  clear hFR
  rintro e w1 ⟨⟨bb, tb, rfl, hT⟩, hk1⟩
  have H1 : Hid (HolI 119 w1 tb N bb 2 9 freshB ∧ Keeps N w w1) := Lib.hid ⟨hT, hk1⟩
  clear hT hk1
  have hS := rset_any tb N bb 2 9 freshB 0 0 0 (by decide) (by decide) (by rw [freshB_n]; decide) (fun k => k) plZ way_first bkS 5 (by decide) set_first rfl w1 H1.out.1
  rw [last_first] at hS
  try dsimp only
  go_wp2_with fail
  refine hS.mono ?_
  clear hS
  rintro e w2 ⟨rfl, hT, hk⟩
  have H2 : Hid (HolI 119 w2 tb N bb 2 9 bkC ∧ Keeps N w w2) := Lib.hid ⟨hT, H1.out.2.trans hk⟩
  clear hT hk H1
  have hS := rset_any tb N bb 2 9 bkC 0 15 2 (by decide) (by decide) (by rw [bkC_n]; decide) (fun k => k) plF (way_on (by rw [bkC_view _ (by decide)]; rfl) (by rw [bkC_view _ (by decide)]; rfl)) (fun _ => bkC) 6 (by decide) set_second rfl w2 H2.out.1
  rw [last_second] at hS
  try dsimp only
  go_wp2_with fail
  refine hS.mono ?_
  clear hS
  rintro e w3 ⟨rfl, hT, hk⟩
  have H3 : Hid (HolI 119 w3 tb N bb 2 9 bkD ∧ Keeps N w w3) := Lib.hid ⟨hT, H2.out.2.trans hk⟩
  clear hT hk H2
  have hG := rget_some tb N bb 2 9 bkD 0 15 (by decide) (by decide) (by rw [bkD_n]; decide) (fun k => k) plF (way_on (by rw [bkD_view _ (by decide)]; rfl) (by rw [bkD_view _ (by decide)]; rfl)) w3 H3.out.1
  rw [show atF (bkD.view (2 + 2)) (plF 2) = 6 by rw [bkD_view _ (by decide)]; exact at_facts.2.2.2] at hG
  try dsimp only
  go_wp2_with fail
  refine hG.mono ?_
  clear hG
  rintro e w4 ⟨rfl, hb4⟩
  have H4 : Hid (HolI 119 w4 tb N bb 2 9 bkD ∧ Keeps N w w4) := Lib.hid ⟨H3.out.1.below hb4, H3.out.2.trans (Keeps.of_below hb4)⟩
  clear hb4 H3
  have hM := rnodes_any tb N bb 2 9 bkD (by rw [bkD_n]; decide) w4 H4.out.1
  rw [nodes_D] at hM
  try dsimp only
  go_wp2_with fail
  refine hM.mono ?_
  clear hM
  rintro e w5 ⟨rfl, hb5⟩
  have HK := Lib.hid (H4.out.2.trans (Keeps.of_below hb5))
  clear hb5 H4
  try dsimp only
  go_wp2_with fail
  refine (num09_nil w5).mono ?_
  rintro e w6 ⟨rfl, rfl⟩
  try dsimp only
  go_wp2_with fail
  refine (num09_nil w5).mono ?_
  rintro e w6 ⟨rfl, rfl⟩
  try dsimp only
  go_wp2_with fail
  refine (num09_nil w5).mono ?_
  rintro e w6 ⟨rfl, rfl⟩
  try dsimp only
  go_wp2_with fail
  refine (num09_nil w5).mono ?_
  rintro e w6 ⟨rfl, rfl⟩
  try dsimp only
  go_wp2_with fail
  go_ret
  exact ⟨rfl, HK.out⟩
end Go.Proofs.YtjikpodghmfjcaaGreatDoor
set_option linter.unnecessarySimpa false
namespace Go.Proofs.YtjikpodghmfjcaaGreatDoor
open Go.RowKit Go.Maps
theorem tmod_rng9 (n m : Int) (hm : 0 < m) : -m < n.tmod m ∧ n.tmod m < m := by
  rcases Int.le_total 0 n with h | h
  · rw [Int.tmod_eq_emod_of_nonneg h]
    have h1 := Int.emod_nonneg n (show m ≠ 0 by omega)
    have h2 := Int.emod_lt_of_pos n hm
    omega
  · have e : n.tmod m = -((-n).tmod m) := by rw [Int.neg_tmod]; simp
    rw [e, Int.tmod_eq_emod_of_nonneg (show 0 ≤ -n by omega)]
    have h1 := Int.emod_nonneg (-n) (show m ≠ 0 by omega)
    have h2 := Int.emod_lt_of_pos (-n) hm
    omega
/-- The state of a slot; its page. -/
def stD (B : BookS) (s : Nat) : Int := (B.view (3 + s / 4 * 5)).getD (s % 4) 0
def pgS (s : Nat) : Nat := 3 + s / 4 * 5 + 1 + s % 4
theorem ForI.congr {rd rd' : Nat → List Int} {n : Nat} {M M' : Nat → Nat → Nat → Int} {r1 : Nat → Nat} {r2 : Nat → Nat → Nat} (h : ForI rd n (fun _ => False) M r1 r2) (he : ∀ p, p ≤ n → rd' p = rd p)
    (hM : ∀ l g b, l < 4 → g < 16 → b < 16 → M' l g b = M l g b) : ForI rd' n (fun _ => False) M' r1 r2 :=
  ⟨fun l hl => by rw [he 0 (Nat.zero_le _)]; exact h.root l hl, fun l g hl hg h1 => by rw [he _ (h.le1 l hl)]; exact h.mid l g hl hg h1, h.mid0,
   fun l g b hl hg hb h2 => by rw [he _ (h.le2 l g hl hg), hM l g b hl hg hb]; exact h.leaf l g b hl hg hb h2, fun l g b hl hg hb h2 => by rw [hM l g b hl hg hb]; exact h.leaf0 l g b hl hg hb h2,
   h.le1, h.le2, h.inj1, h.inj2, h.apart, fun p h1 h2 => by rw [he p h2]; exact h.used p h1 h2, fun p hp => hp.elim, fun p hp => by rw [he p hp]; exact h.ok p hp⟩
theorem ForI.done {B : BookS} {first n k : Nat} {M : Nat → Nat → Nat → Int} {r1 : Nat → Nat} {r2 : Nat → Nat → Nat} (h : ForI (rdOf B first) n (fun _ => False) M r1 r2) (hok : B.ok) (hl : B.lim k) (hk : k ≤ 10000) (hn : first + n < B.n) : ForI (rdOf B.done first) n (fun _ => False) M r1 r2 :=
  h.congr (fun p hp => BookS.done_view_lim hok hl hk (first + p) (by omega)) (fun _ _ _ _ _ _ => rfl)
/-- A forest on a new book, after so many commits. -/
def RxI (w0 : World) (tb bb n k : Nat) (M : Nat → Nat → Nat → Int) (wx : World) : Prop :=
  ∃ B r1 r2, HolI 119 wx tb (fun k => k < w0.heap.size) bb 2 n B ∧ ForI (rdOf B 2) n (fun _ => False) M r1 r2 ∧ B.cnt = 0 ∧ B.lim k ∧ B.n = 198 ∧ Keeps (fun k => k < w0.heap.size) w0 wx
theorem RxI.below {w0 wx wy : World} {tb bb n k : Nat} {M : Nat → Nat → Nat → Int} (h : RxI w0 tb bb n k M wx) (hb : Below wx.heap.size wx wy) : RxI w0 tb bb n k M wy := by
  obtain ⟨B, r1, r2, h1, h2, h3, h4, h5, h6⟩ := h
  exact ⟨B, r1, r2, h1.below hb, h2, h3, h4, h5, h6.trans (Keeps.of_below hb)⟩
theorem freshB_lim : freshB.lim 0 := ⟨by show ([] : List (Nat × List Int)).length ≤ _; simp, by show (0 : Int) + 1 ≤ _; omega, by show (0 : Int) ≤ _; omega⟩
/-- The numbers that are set, those ahead of a block. -/
def apM (l s y i : Nat) : Nat → Nat → Nat → Int := fun l' g b => if l' = l ∧ (16 * g + b) % s = 0 ∧ 16 * g + b < i then ((y + (16 * g + b) : Nat) : Int) else 0
theorem apM_lay (l s y i : Nat) (hs : 0 < s) (hi : i % s = 0) (l' g b : Nat) (hg : g < 16) (hb : b < 16) : apM l s y (i + s) l' g b = layM (apM l s y i) l (i / 16) (i % 16) ((y : Int) + i) l' g b := by
  unfold layM apM
  by_cases e : l' = l ∧ g = i / 16 ∧ b = i % 16
  · rw [if_pos e]
    have ei : 16 * g + b = i := by omega
    rw [if_pos ⟨e.1, by rw [ei]; exact hi, by omega⟩, ei]
    push_cast; rfl
  · rw [if_neg e]
    by_cases h1 : l' = l ∧ (16 * g + b) % s = 0 ∧ 16 * g + b < i
    · rw [if_pos h1, if_pos ⟨h1.1, h1.2.1, by omega⟩]
    · rw [if_neg h1, if_neg (fun h2 => ?_)]
      obtain ⟨a1, a2, a3⟩ := h2
      have h4 : ¬ 16 * g + b < i := fun h => h1 ⟨a1, a2, h⟩
      have h5 : 16 * g + b ≠ i := fun h => e ⟨a1, by omega, by omega⟩
      have h6 : (16 * g + b - i) % s = 0 := Nat.sub_mod_eq_zero_of_mod_eq (by rw [a2, hi])
      have h7 : 16 * g + b - i < s := by omega
      rw [Nat.mod_eq_of_lt h7] at h6
      omega
theorem rset_step {w0 wx : World} {tb bb n k : Nat} {M : Nat → Nat → Nat → Int} (hn : 70 ≤ n ∧ n ≤ 195) (hk : k ≤ 9000) {l block : Nat} (hl : l < 4) (hb : block < 256) (x : Int) (hx : 1 ≤ x ∧ x < 16777216) (h : RxI w0 tb bb n k M wx) :
    Calls Tryz.prog 21 #[.pointer (some ⟨tb, 0, none⟩), .int .i64 (l : Int), .int .i64 (block : Int), .int .i64 x] wx fun e wy => e = .returned .nilIface ∧
      Calls Tryz.prog 15 #[.pointer (some ⟨bb, 0, none⟩)] wy fun e wz => e = .returned .nilIface ∧ RxI w0 tb bb n (k + 1) (layM M l (block / 16) (block % 16) x) wz := by
  obtain ⟨B, r1, r2, h1, h2, h3, h4, h5, h6⟩ := h
  refine (rset_room h2 hn.1 tb _ bb (by omega) (by omega) (by omega) hl hb x hx wx h1).mono ?_
  rintro e wy ⟨rfl, ⟨B', r1', r2', hH, ⟨s1, s2, s3, s4⟩⟩, hkp⟩
  refine ⟨rfl, (hcommit_any 119 tb _ bb 2 n B' k (h4.same s3) (by omega) (by omega) wy hH).mono ?_⟩
  rintro e wz ⟨rfl, hD, hkz⟩
  exact ⟨rfl, B'.done, r1', r2', hD, s4.done hH.2.1.isOk (h4.same s3) (by omega) (by omega), BookS.done_cnt _, (h4.same s3).done (by omega), by rw [BookS.done_n, s1, h5], h6.trans (hkp.trans hkz)⟩
theorem rget_rx {w0 wx : World} {tb bb n k : Nat} {M : Nat → Nat → Nat → Int} (hn : n ≤ 195) {l block : Nat} (hl : l < 4) (hb : block < 256) (h : RxI w0 tb bb n k M wx) :
    Calls Tryz.prog 22 #[.pointer (some ⟨tb, 0, none⟩), .int .i64 (l : Int), .int .i64 (block : Int)] wx fun e wy => e = .returned (.tuple #[.int .i64 (M l (block / 16) (block % 16)), .nilIface]) ∧ RxI w0 tb bb n k M wy := by
  have h' := h
  obtain ⟨B, r1, r2, h1, h2, h3, h4, h5, h6⟩ := h
  refine (rget_for h2 tb _ bb (by omega) hl hb wx h1).mono ?_
  rintro e wy ⟨rfl, hbl⟩
  exact ⟨rfl, h'.below hbl⟩
theorem apM_at (l s y i j : Nat) (hj : j < i) : apM l s y i l (j / 16) (j % 16) = if j % s = 0 then (y : Int) + j else 0 := by
  unfold apM
  have e : 16 * (j / 16) + j % 16 = j := by omega
  rw [e]
  by_cases h : j % s = 0
  · rw [if_pos h, if_pos ⟨rfl, h, hj⟩]; push_cast; rfl
  · rw [if_neg h, if_neg (fun h' => h h'.2.1)]
theorem apM_other (l l' s y i g b : Nat) (h : l' ≠ l) : apM l s y i l' g b = 0 := by
  unfold apM
  rw [if_neg (fun h' => h h'.1)]
set_option maxRecDepth 100000 in
set_option maxHeartbeats 2000000 in
theorem apart_any (lun step x : Int) (w : World) : Calls Tryz.prog 4 #[.int .i64 lun, .int .i64 step, .int .i64 x] w fun e w' => e = .returned (.bool true) ∧ Below w.heap.size w w' := by
  have hST := stands09_any (fun k => k < w.heap.size) w (fun i h => h)
  go_enter Tryz.func4, Tryz.ntmps4
  go_wp2_with fail
  refine hST.mono ?_
  clear hST
  rintro e w1 ⟨rfl, hk1⟩
  try dsimp only
  have hm1 := tmod_rng9 lun 4 (by decide)
  have hm2 := tmod_rng9 step 40 (by decide)
  have hm3 := tmod_rng9 x 1000 (by decide)
  repeat ((fail_if_success (with_reducible refine stop_at 32 rfl ?_)); (first | go_values | go_skip | go_guarded | go_step | go_upon))
  obtain ⟨l, hl⟩ : ∃ l : Nat, (lun.tmod 4 + 4) % 4 = (l : Int) := ⟨((lun.tmod 4 + 4) % 4).toNat, by omega⟩
  obtain ⟨s, hs⟩ : ∃ s : Nat, step.tmod 40 % 40 + 1 = (s : Int) := ⟨(step.tmod 40 % 40 + 1).toNat, by omega⟩
  obtain ⟨y, hy⟩ : ∃ y : Nat, x.tmod 1000 % 1000 + 1 = (y : Int) := ⟨(x.tmod 1000 % 1000 + 1).toNat, by omega⟩
  have hl4 : l < 4 := by omega
  have hs1 : 1 ≤ s ∧ s ≤ 40 := by omega
  have hy1 : 1 ≤ y ∧ y ≤ 1000 := by omega
  rw [hl, hs, hy]
  generalize lun.tmod 4 = q1 at *
  generalize step.tmod 40 = q2 at *
  generalize x.tmod 1000 = q3 at *
  clear hm1 hm2 hm3 hl hs hy
  have hFR := fresh09_any 90 (by decide) (fun k => k < w.heap.size) w1 (fun i h => Nat.lt_of_lt_of_le h hk1.size)
  go_wp2_with fail
  refine hFR.mono ?_
  clear hFR
  rintro e w2 ⟨⟨bb, tb, rfl, hT⟩, hk2⟩
  have H2 : Hid (RxI w tb bb 90 0 (apM l s y 0) w2) := Lib.hid ⟨freshB, _, _, hT, (ForI.start 90).congr (fun p hp => freshB_view _ (by omega)) (fun _ _ _ _ _ _ => if_neg (by omega)), freshB_cnt, freshB_lim, freshB_n, hk1.trans hk2⟩
  clear hT hk1 hk2
  have i1 : (1 : Int) ≤ s := by omega
  have i2 : (s : Int) ≤ 40 := by omega
  have i3 : (1 : Int) ≤ y := by omega
  have i4 : (y : Int) ≤ 1000 := by omega
  have i5 : (0 : Int) ≤ l := by omega
  have i6 : (l : Int) < 4 := by omega
  have HS1 := Lib.hid hs1
  have HY1 := Lib.hid hy1
  clear hs1 hy1
  try dsimp only
  go_wp2_with fail
  go_loopw [9] (fun iv wr => ∃ i k : Nat, iv = .int .i64 (i : Int) ∧ k ≤ i ∧ i < 256 + s ∧ Hid (i % s = 0) ∧ Hid (RxI w tb bb 90 k (apM l s y i) wr)) (fun iv _ => 600 - (intOf iv).toNat)
  case atStart => exact ⟨0, 0, rfl, by omega, by omega, Lib.hid (Nat.zero_mod _), H2⟩
  case round =>
    clear H2
    obtain ⟨i, k, rfl, hki, hi, HM, H⟩ := hrel
    have hi0 : (0 : Int) ≤ i := by omega
    by_cases hlt : i < 256
    · have hi1 : (i : Int) < 256 := by omega
      have hSC := rset_step (w0 := w) (by decide) (by omega) hl4 hlt ((y : Int) + i) ⟨by omega, by omega⟩ H.out
      go_wp2_with fail
      refine hSC.mono ?_
      clear hSC
      rintro e wy ⟨rfl, hC⟩
      try dsimp only
      go_wp2_with fail
      refine hC.mono ?_
      clear hC
      rintro e wz ⟨rfl, hz⟩
      have HZ : Hid (RxI w tb bb 90 (k + 1) (apM l s y (i + s)) wz) := Lib.hid (by
        obtain ⟨B, r1, r2, h1, h2, h3⟩ := hz
        exact ⟨B, r1, r2, h1, h2.congr (fun _ _ => rfl) (fun l' g b _ hg hb => apM_lay l s y i (by have := HS1.out; omega) HM.out l' g b hg hb), h3⟩)
      clear hz H
      try dsimp only
      go_wp2_with fail
      exact ⟨⟨i + s, k + 1, by push_cast; rfl, by have := HS1.out; omega, by omega, Lib.hid (by rw [Nat.add_mod_right]; exact HM.out), HZ⟩, by have := HS1.out; simp [intOf]; omega⟩
    · have hi1 : ¬ ((i : Int) < 256) := by omega
      have HF : Hid (RxI w tb bb 90 k (apM l s y i) wr ∧ 256 ≤ i) := Lib.hid ⟨H.out, by omega⟩
      clear H hlt
      go_wp2_with fail
      go_loopw [53] (fun jv wz => ∃ j : Nat, jv = .int .i64 (j : Int) ∧ j ≤ 256 ∧ Hid (RxI w tb bb 90 k (apM l s y i) wz)) (fun jv _ => 256 - (intOf jv).toNat)
      case atStart => exact ⟨0, rfl, by omega, Lib.hid HF.out.1⟩
      case round =>
        obtain ⟨j, rfl, hj, HZ⟩ := hrel
        have hj0 : (0 : Int) ≤ j := by omega
        by_cases hjt : j < 256
        · have hj1 : (j : Int) < 256 := by omega
          have hG := rget_rx (w0 := w) (by decide) hl4 hjt HZ.out
          rw [apM_at l s y i j (by have := HF.out.2; omega)] at hG
          obtain ⟨v, hv⟩ : ∃ v, (if j % s = 0 then (y : Int) + j else 0) = v := ⟨_, rfl⟩
          rw [hv] at hG
          have HV := Lib.hid hv
          clear hv
          go_wp2_with fail
          refine hG.mono ?_
          clear hG HZ
          rintro e wy ⟨rfl, hy⟩
          have HY := Lib.hid hy
          clear hy
          have hG2 := rget_rx (w0 := w) (l := (l + 1) % 4) (block := j) (by decide) (by omega) hjt HY.out
          rw [apM_other l ((l + 1) % 4) s y i _ _ (by omega), show (((l + 1) % 4 : Nat) : Int) = ((l : Int) + 1) % 4 by push_cast; rfl] at hG2
          try dsimp only
          go_wp2_with fail
          refine hG2.mono ?_
          clear hG2 HY
          rintro e wz ⟨rfl, hz⟩
          have HW := Lib.hid hz
          clear hz
          try dsimp only
          have hsn : (s : Int) ≠ 0 := by omega
          by_cases hm : j % s = 0
          · have hr : (j : Int) % s = 0 := by omega
            obtain rfl : v = (y : Int) + j := by rw [← HV.out, if_pos hm]
            clear hm
            go_wp2_with fail
            exact ⟨⟨j + 1, by push_cast; rfl, by omega, HW⟩, by simp [intOf]; omega⟩
          · have hr : ((j : Int) % s == 0) = false := by rw [beq_eq_false_iff_ne]; omega
            have hr2 : ((j : Int) % s != 0) = true := by rw [bne_iff_ne]; omega
            obtain rfl : v = 0 := by rw [← HV.out, if_neg hm]
            clear hm
            go_wp2_with fail
            exact ⟨⟨j + 1, by push_cast; rfl, by omega, HW⟩, by simp [intOf]; omega⟩
        · have hj1 : ¬ ((j : Int) < 256) := by omega
          go_wp2_with fail
          go_ret
          exact ⟨rfl, by obtain ⟨B, r1, r2, _, _, _, _, _, h6⟩ := HZ.out; exact h6.below (Nat.le_refl _) (fun i hi => hi)⟩
end Go.Proofs.YtjikpodghmfjcaaGreatDoor
set_option linter.unnecessarySimpa false
namespace Go.Proofs.YtjikpodghmfjcaaGreatDoor
open Go.RowKit Go.Maps
/-- Has a unit a number? A group? -/
def has2 (M : Nat → Nat → Nat → Int) (l g : Nat) : Bool := (List.range 16).any fun b => decide (M l g b ≠ 0)
def has1 (M : Nat → Nat → Nat → Int) (l : Nat) : Bool := (List.range 16).any fun g => has2 M l g
theorem has2_iff (M : Nat → Nat → Nat → Int) (l g : Nat) : has2 M l g = true ↔ ∃ b, b < 16 ∧ M l g b ≠ 0 := by
  unfold has2
  rw [List.any_eq_true]
  constructor
  · rintro ⟨b, hb, h⟩; exact ⟨b, List.mem_range.1 hb, of_decide_eq_true h⟩
  · rintro ⟨b, hb, h⟩; exact ⟨b, List.mem_range.2 hb, decide_eq_true h⟩
theorem has1_iff (M : Nat → Nat → Nat → Int) (l : Nat) : has1 M l = true ↔ ∃ g, g < 16 ∧ ∃ b, b < 16 ∧ M l g b ≠ 0 := by
  unfold has1
  rw [List.any_eq_true]
  constructor
  · rintro ⟨g, hg, h⟩; exact ⟨g, List.mem_range.1 hg, (has2_iff M l g).1 h⟩
  · rintro ⟨g, hg, h⟩; exact ⟨g, List.mem_range.2 hg, (has2_iff M l g).2 h⟩
def cnt1 (M : Nat → Nat → Nat → Int) : Nat := ((List.range 4).filter (has1 M)).length
def cnt2 (M : Nat → Nat → Nat → Int) : Nat := ((List.range 64).filter fun i => has2 M (i / 16) (i % 16)).length
/-- The nodes that numbers take. -/
def needN (M : Nat → Nat → Nat → Int) : Nat := cnt1 M + cnt2 M
/-- The nodes that one more number takes. -/
def moreN (M : Nat → Nat → Nat → Int) (l g : Nat) : Nat := (if has1 M l = true then 0 else 1) + (if has2 M l g = true then 0 else 1)
theorem ForI.has1 {rd : Nat → List Int} {n : Nat} {M : Nat → Nat → Nat → Int} {r1 : Nat → Nat} {r2 : Nat → Nat → Nat} (h : ForI rd n (fun _ => False) M r1 r2) {l : Nat} (hl : l < 4) : r1 l ≠ 0 ↔ Go.Proofs.YtjikpodghmfjcaaGreatDoor.has1 M l = true := by
  rw [has1_iff]
  constructor
  · intro h1
    obtain ⟨g, hg, h2⟩ := (h.some1 hl).1 h1
    exact ⟨g, hg, (h.some2 hl hg).1 h2⟩
  · rintro ⟨g, hg, h2⟩
    exact (h.some1 hl).2 ⟨g, hg, (h.some2 hl hg).2 h2⟩
theorem ForI.need {rd : Nat → List Int} {n : Nat} {M : Nat → Nat → Nat → Int} {r1 : Nat → Nat} {r2 : Nat → Nat → Nat} (h : ForI rd n (fun _ => False) M r1 r2) : lkF r1 r2 = needN M := by
  unfold lkF needN cnt1 cnt2 lin1 lin2
  congr 2
  · refine List.filter_congr (fun l hl => ?_)
    rw [Bool.eq_iff_iff, decide_eq_true_eq]
    exact h.has1 (List.mem_range.1 hl)
  · refine List.filter_congr (fun i hi => ?_)
    have hi4 := List.mem_range.1 hi
    rw [Bool.eq_iff_iff, decide_eq_true_eq, has2_iff]
    exact h.some2 (by omega) (by omega)
theorem ForI.more {rd : Nat → List Int} {n : Nat} {M : Nat → Nat → Nat → Int} {r1 : Nat → Nat} {r2 : Nat → Nat → Nat} (h : ForI rd n (fun _ => False) M r1 r2) {l g : Nat} (hl : l < 4) (hg : g < 16) : (if r1 l = 0 then 1 else 0) + (if r2 l g = 0 then 1 else 0) = moreN M l g := by
  unfold moreN
  have e1 := h.has1 hl
  have e2 : r2 l g ≠ 0 ↔ has2 M l g = true := (h.some2 hl hg).trans (has2_iff M l g).symm
  congr 1
  · by_cases e : r1 l = 0
    · rw [if_pos e, if_neg (fun h' => (e1.2 h') e)]
    · rw [if_neg e, if_pos (e1.1 e)]
  · by_cases e : r2 l g = 0
    · rw [if_pos e, if_neg (fun h' => (e2.2 h') e)]
    · rw [if_neg e, if_pos (e2.1 e)]
/-- A forest on a new book: all is done; something is under way; what is under way came to nothing. -/
def RadS (N : Nat → Prop) (tb bb n k : Nat) (M : Nat → Nat → Nat → Int) (wx : World) : Prop :=
  ∃ B r1 r2, HolI 119 wx tb N bb 2 n B ∧ ForI (rdOf B 2) n (fun _ => False) M r1 r2 ∧ B.cnt = 0 ∧ B.lim k ∧ B.n = 198
def RadP (N : Nat → Prop) (tb bb n k : Nat) (M : Nat → Nat → Nat → Int) (wx : World) : Prop :=
  ∃ B r1 r2, HolI 119 wx tb N bb 2 n B ∧ ForI (rdOf B 2) n (fun _ => False) M r1 r2 ∧ B.cnt ≤ 3 ∧ B.lim k ∧ B.n = 198
def RadU (N : Nat → Prop) (tb bb n k : Nat) (M : Nat → Nat → Nat → Int) (wx : World) : Prop :=
  ∃ B B0 r1 r2, HolI 119 wx tb N bb 2 n B ∧ B.shut = B0.shut ∧ B0.ok ∧ ForI (rdOf B0 2) n (fun _ => False) M r1 r2 ∧ B0.cnt = 0 ∧ B0.lim k ∧ B0.n = 198
section
variable {N : Nat → Prop} {tb bb n k : Nat} {M : Nat → Nat → Nat → Int} {wx wy : World}
theorem RadS.below (h : RadS N tb bb n k M wx) (hb : Below wx.heap.size wx wy) : RadS N tb bb n k M wy := by
  obtain ⟨B, r1, r2, h1, h2⟩ := h
  exact ⟨B, r1, r2, h1.below hb, h2⟩
theorem RadP.below (h : RadP N tb bb n k M wx) (hb : Below wx.heap.size wx wy) : RadP N tb bb n k M wy := by
  obtain ⟨B, r1, r2, h1, h2⟩ := h
  exact ⟨B, r1, r2, h1.below hb, h2⟩
theorem RadU.below (h : RadU N tb bb n k M wx) (hb : Below wx.heap.size wx wy) : RadU N tb bb n k M wy := by
  obtain ⟨B, B0, r1, r2, h1, h2⟩ := h
  exact ⟨B, B0, r1, r2, h1.below hb, h2⟩
theorem RadS.keep {N' : Nat → Prop} (h : RadS N tb bb n k M wx) (hb : Below wx.heap.size wx wy) (hn : ∀ i, N' i → i < wy.heap.size ∧ (N i ∨ wx.heap.size ≤ i)) : RadS N' tb bb n k M wy := by
  obtain ⟨B, r1, r2, h1, h2⟩ := h
  exact ⟨B, r1, r2, h1.keep hb hn, h2⟩
theorem RadS.grow {N' : Nat → Prop} (h : RadS N tb bb n k M wx) (hk : Keeps (fun k => ¬ N k) wx wy) (hn : ∀ i, N' i → i < wy.heap.size ∧ (N i ∨ wx.heap.size ≤ i)) : RadS N' tb bb n k M wy := by
  obtain ⟨B, r1, r2, h1, h2⟩ := h
  exact ⟨B, r1, r2, h1.grow hk hn, h2⟩
theorem RadP.grow {N' : Nat → Prop} (h : RadP N tb bb n k M wx) (hk : Keeps (fun k => ¬ N k) wx wy) (hn : ∀ i, N' i → i < wy.heap.size ∧ (N i ∨ wx.heap.size ≤ i)) : RadP N' tb bb n k M wy := by
  obtain ⟨B, r1, r2, h1, h2⟩ := h
  exact ⟨B, r1, r2, h1.grow hk hn, h2⟩
theorem RadS.N_lt (h : RadS N tb bb n k M wx) : ∀ i, N i → i < wx.heap.size := by
  obtain ⟨B, r1, r2, h1, _⟩ := h
  exact h1.N_lt
theorem RadP.N_lt (h : RadP N tb bb n k M wx) : ∀ i, N i → i < wx.heap.size := by
  obtain ⟨B, r1, r2, h1, _⟩ := h
  exact h1.N_lt
theorem RadS.congr {M' : Nat → Nat → Nat → Int} (h : RadS N tb bb n k M wx) (hM : ∀ l g b, l < 4 → g < 16 → b < 16 → M' l g b = M l g b) : RadS N tb bb n k M' wx := by
  obtain ⟨B, r1, r2, h1, h2, h3⟩ := h
  exact ⟨B, r1, r2, h1, h2.congr (fun _ _ => rfl) hM, h3⟩
theorem RadS.need_le (h : RadS N tb bb n k M wx) : needN M ≤ n := by
  obtain ⟨B, r1, r2, h1, h2, h3⟩ := h
  rw [← h2.need, ← h2.nodes]
  exact nodesF_le _ _ _
theorem rad_get (hn : n ≤ 195) {l block : Nat} (hl : l < 4) (hb : block < 256) (h : RadS N tb bb n k M wx) :
    Calls Tryz.prog 22 #[.pointer (some ⟨tb, 0, none⟩), .int .i64 (l : Int), .int .i64 (block : Int)] wx fun e wy => e = .returned (.tuple #[.int .i64 (M l (block / 16) (block % 16)), .nilIface]) ∧ Below wx.heap.size wx wy := by
  obtain ⟨B, r1, r2, h1, h2, h3, h4, h5⟩ := h
  exact rget_for h2 tb _ bb (by omega) hl hb wx h1
theorem rad_nodes (hn : n ≤ 195) (h : RadS N tb bb n k M wx) :
    Calls Tryz.prog 24 #[.pointer (some ⟨tb, 0, none⟩)] wx fun e wy => e = .returned (.tuple #[.int .i64 (needN M : Nat), .nilIface]) ∧ Below wx.heap.size wx wy := by
  obtain ⟨B, r1, r2, h1, h2, h3, h4, h5⟩ := h
  rw [← h2.need, ← h2.nodes]
  exact rnodes_any tb N bb 2 n B (by omega) wx h1
theorem rad_set (hn : n ≤ 195) {l block : Nat} (hl : l < 4) (hb : block < 256) (x : Int) (hx : 1 ≤ x ∧ x < 16777216) (hroom : needN M + moreN M l (block / 16) ≤ n) (h : RadS N tb bb n k M wx) :
    Calls Tryz.prog 21 #[.pointer (some ⟨tb, 0, none⟩), .int .i64 (l : Int), .int .i64 (block : Int), .int .i64 x] wx fun e wy => e = .returned .nilIface ∧ RadP N tb bb n k (layM M l (block / 16) (block % 16) x) wy ∧ Keeps N wx wy := by
  obtain ⟨B, r1, r2, h1, h2, h3, h4, h5⟩ := h
  refine (rset_fits h2 tb N bb (by omega) (by omega) (by omega) hl hb x hx (by rw [Nat.add_assoc, h2.more hl (by omega), h2.need]; exact hroom) wx h1).mono ?_
  rintro e wy ⟨rfl, ⟨B', r1', r2', hH, ⟨s1, s2, s3, s4⟩⟩, hkp⟩
  exact ⟨rfl, ⟨B', r1', r2', hH, s4, by omega, h4.same s3, by rw [s1, h5]⟩, hkp⟩
theorem rad_clear (hn : n ≤ 195) {l block : Nat} (hl : l < 4) (hb : block < 256) (h : RadS N tb bb n k M wx) :
    Calls Tryz.prog 21 #[.pointer (some ⟨tb, 0, none⟩), .int .i64 (l : Int), .int .i64 (block : Int), .int .i64 0] wx fun e wy => e = .returned .nilIface ∧ RadP N tb bb n k (layM M l (block / 16) (block % 16) 0) wy ∧ Keeps N wx wy := by
  obtain ⟨B, r1, r2, h1, h2, h3, h4, h5⟩ := h
  refine (rset_clear h2 tb N bb (by omega) (by omega) (by omega) hl hb wx h1).mono ?_
  rintro e wy ⟨rfl, ⟨B', r1', r2', hH, ⟨s1, s2, s3, s4⟩⟩, hkp⟩
  exact ⟨rfl, ⟨B', r1', r2', hH, s4, by omega, h4.same s3, by rw [s1, h5]⟩, hkp⟩
theorem rad_full (hn : n ≤ 195) {l block : Nat} (hl : l < 4) (hb : block < 256) (x : Int) (hx : 1 ≤ x ∧ x < 16777216) (hroom : n < needN M + moreN M l (block / 16)) (h : RadS N tb bb n k M wx) :
    Calls Tryz.prog 21 #[.pointer (some ⟨tb, 0, none⟩), .int .i64 (l : Int), .int .i64 (block : Int), .int .i64 x] wx fun e wy => (∃ v, e = .returned v ∧ ErrV wy v 22) ∧ RadU N tb bb n k M wy ∧ Keeps N wx wy := by
  obtain ⟨B, r1, r2, h1, h2, h3, h4, h5⟩ := h
  refine (rset_full h2 tb N bb (by omega) (by omega) (by omega) hl hb x hx (by rw [Nat.add_assoc, h2.more hl (by omega), h2.need]; exact hroom) wx h1).mono ?_
  rintro e wy ⟨hv, ⟨B', hH, s3⟩, hkp⟩
  exact ⟨hv, ⟨B', B, r1, r2, hH, s3, h1.2.1.isOk, h2, h3, h4, h5⟩, hkp⟩
theorem rad_commit (hn : n ≤ 195) (hk : k ≤ 9000) (h : RadP N tb bb n k M wx) :
    Calls Tryz.prog 15 #[.pointer (some ⟨bb, 0, none⟩)] wx fun e wy => e = .returned .nilIface ∧ RadS N tb bb n (k + 1) M wy ∧ Keeps N wx wy := by
  obtain ⟨B, r1, r2, h1, h2, h3, h4, h5⟩ := h
  refine (hcommit_any 119 tb N bb 2 n B k h4 (by omega) (by omega) wx h1).mono ?_
  rintro e wz ⟨rfl, hD, hkz⟩
  exact ⟨rfl, ⟨B.done, r1, r2, hD, h2.done h1.2.1.isOk h4 (by omega) (by omega), BookS.done_cnt _, h4.done (by omega), by rw [BookS.done_n, h5]⟩, hkz⟩
theorem RadS.pend (h : RadS N tb bb n k M wx) : RadP N tb bb n k M wx := by
  obtain ⟨B, r1, r2, h1, h2, h3, h4⟩ := h
  exact ⟨B, r1, r2, h1, h2, by omega, h4⟩
theorem rad_undo (hn : n ≤ 195) (h : RadU N tb bb n k M wx) :
    Calls Tryz.prog 14 #[.pointer (some ⟨bb, 0, none⟩)] wx fun e wy => e = .returned (.tuple #[]) ∧ RadS N tb bb n k M wy ∧ Keeps N wx wy := by
  obtain ⟨B, B0, r1, r2, h1, hs, hok, h2, h3, h4, h5⟩ := h
  refine (hundo_any 119 tb N bb 2 n B wx h1).mono ?_
  rintro e wz ⟨rfl, hD, hkz⟩
  rw [hs] at hD
  refine ⟨rfl, ⟨B0.shut, r1, r2, hD, h2.congr (fun p hp => ?_) (fun _ _ _ _ _ _ => rfl), BookS.shut_cnt _, h4.shut, h5⟩, hkz⟩
  show B0.shut.view (2 + p) = B0.view (2 + p)
  rw [BookS.shut_view, BookS.view_f, BookS.f_none hok h3]
end
theorem rad_fresh (n : Nat) (hn : 1 ≤ n ∧ n ≤ 195) (N : Nat → Prop) (w : World) (hN : ∀ i, N i → i < w.heap.size) :
    Calls Tryz.prog 20 #[.int .i64 (n : Int)] w fun e w' => (∃ bb tb, e = .returned (.tuple #[.pointer (some ⟨bb, 0, none⟩), .pointer (some ⟨tb, 0, none⟩)]) ∧ RadS N tb bb n 0 (fun _ _ _ => 0) w') ∧ Keeps N w w' := by
  refine (fresh09_any n hn N w hN).mono ?_
  rintro e w' ⟨⟨bb, tb, rfl, hH⟩, hk⟩
  exact ⟨⟨bb, tb, rfl, ⟨freshB, _, _, hH, (ForI.start n).congr (fun p hp => freshB_view _ (by omega)) (fun _ _ _ _ _ _ => rfl), freshB_cnt, freshB_lim, freshB_n⟩⟩, hk⟩
end Go.Proofs.YtjikpodghmfjcaaGreatDoor
set_option linter.unnecessarySimpa false
namespace Go.Proofs.YtjikpodghmfjcaaGreatDoor
open Go.RowKit Go.Maps
theorem len_is_g {P : Program} (w : World) {ops : Array Oper} {rest : List Oper} {o : Oper} {a : Act} {Q : Exit → Act → World → Prop}
    (hw : Region.wanted o (yielded ops a.tmps) = true) (m : Operand) (t : TypeId) (hop : o.op = Op.call { callee := Callee.builtin Builtin.len, args := #[m], argTypes := #[t] })
    (k e : TypeId) (ht : P.underlying t = some (.map k e)) (b c : Nat) (f : Lit → Option Value) (hm : a.eval m = .map (some b)) (hown : MapIs P k w b c f)
    (hK : wpList P ops Q rest (a.put o.dst (.int .i64 c)) w) : wpList P ops Q (o :: rest) a w := by
  refine wpList_step fun K' hK' => ?_
  rw [if_pos hw]
  unfold Oper.wp
  simp [execOp, hop, resolve, invoke, builtin, hm, hown.len ht o.type, Result.andThen]
  exact hK' _ _ hK
/-- Whole numbers in memory. -/
def NumsAt (w : World) (a : Option Addr) (len : Nat) (K : Nat → Int) : Prop := ∀ i, i < len → ∃ b off, a = some ⟨b, off, none⟩ ∧ b < w.heap.size ∧ w.cell? ⟨b, off + i, none⟩ = some (.int .i64 (K i))
theorem NumsAt.keeps {w w' : World} {a : Option Addr} {len : Nat} {K : Nat → Int} (h : NumsAt w a len K) (hk : Keeps (fun k => k < w.heap.size) w w') : NumsAt w' a len K := fun i hi => by
  obtain ⟨b, off, ha, hb, hc⟩ := h i hi
  exact ⟨b, off, ha, Nat.lt_of_lt_of_le hb hk.size, by rw [World.cell?_of_block (w := w) (hk.block b hb hb)]; exact hc⟩
/-- The groups that are taken, as a map. -/
noncomputable def tkL (T : Nat → Bool) : Lit → Option Value := fun l => match l with
  | .int .i64 i => if 0 ≤ i then (if T i.toNat = true then some (.bool true) else none) else none
  | _ => none
theorem tkL_at (T : Nat → Bool) (g : Nat) : tkL T (.int .i64 (g : Int)) = if T g = true then some (.bool true) else none := by
  unfold tkL
  simp
theorem tkL_zero : tkL (fun _ => false) = fun _ => none := by
  funext l
  unfold tkL
  split
  · simp
  · rfl
theorem tkL_put (T : Nat → Bool) (g : Nat) : upd (tkL T) (.int .i64 (g : Int)) (some (.bool true)) = tkL (fun q => T q || decide (q = g)) := by
  funext l
  by_cases e : l = .int .i64 (g : Int)
  · subst e
    rw [upd_same, tkL_at]
    simp
  · rw [upd_other _ e]
    unfold tkL
    cases l with
    | int k i =>
      cases k <;> try rfl
      by_cases h0 : 0 ≤ i
      · simp only [h0, if_true]
        have : i.toNat ≠ g := fun h => e (by rw [← h, Int.toNat_of_nonneg h0])
        simp [this]
      · simp only [h0, if_false]
    | _ => rfl
noncomputable def tkC (T : Nat → Bool) : Nat := ((List.range 16).filter T).length
theorem tkC_le (T : Nat → Bool) : tkC T ≤ 16 := by
  have := List.length_filter_le T (List.range 16)
  simpa [tkC] using this
theorem tkC_put (T : Nat → Bool) (g : Nat) (hg : g < 16) (hT : T g = false) : tkC (fun q => T q || decide (q = g)) = tkC T + 1 := by
  have key : ∀ n, g < n → ((List.range n).filter fun q => T q || decide (q = g)).length = ((List.range n).filter T).length + 1 := by
    intro n
    induction n with
    | zero => intro h; omega
    | succ m ih =>
      intro h
      rw [List.range_succ, List.filter_append, List.filter_append, List.length_append, List.length_append]
      by_cases e : g = m
      · subst e
        have e2 : ((List.range g).filter fun q => T q || decide (q = g)) = (List.range g).filter T := List.filter_congr (fun q hq => by
          have := List.mem_range.1 hq
          simp [show q ≠ g by omega])
        rw [e2]
        simp [hT]
      · have := ih (by omega)
        rw [this]
        have e3 : List.filter (fun q => T q || decide (q = g)) [m] = List.filter T [m] := List.filter_congr (fun q hq => by
          rw [List.mem_singleton.1 hq]
          simp [show m ≠ g from fun h => e h.symm])
        rw [e3]
        omega
  exact key 16 hg
theorem tkC_same (T : Nat → Bool) (g : Nat) (hT : T g = true) : (fun q => T q || decide (q = g)) = T := by
  funext q
  by_cases e : q = g
  · subst e; simp [hT]
  · simp [e]
/-- The numbers of a forest stand in these groups of one unit. -/
def TkM (M : Nat → Nat → Nat → Int) (l : Nat) (T : Nat → Bool) : Prop := ∀ l' g, l' < 4 → g < 16 → ((∃ b, b < 16 ∧ M l' g b ≠ 0) ↔ l' = l ∧ T g = true)
theorem TkM.grp {M : Nat → Nat → Nat → Int} {l : Nat} {T : Nat → Bool} (h : TkM M l T) {l' g : Nat} (hl : l' < 4) (hg : g < 16) : has2 M l' g = true ↔ l' = l ∧ T g = true := by
  rw [has2_iff]
  exact h l' g hl hg
theorem tkC_pos (T : Nat → Bool) : 0 < tkC T ↔ ∃ g, g < 16 ∧ T g = true := by
  unfold tkC
  rw [List.length_pos_iff_exists_mem]
  constructor
  · rintro ⟨g, hg⟩
    have := List.mem_filter.1 hg
    exact ⟨g, List.mem_range.1 this.1, this.2⟩
  · rintro ⟨g, h1, h2⟩
    exact ⟨g, List.mem_filter.2 ⟨List.mem_range.2 h1, h2⟩⟩
theorem TkM.uni {M : Nat → Nat → Nat → Int} {l : Nat} {T : Nat → Bool} (h : TkM M l T) {l' : Nat} (hl : l' < 4) : has1 M l' = true ↔ l' = l ∧ 0 < tkC T := by
  rw [has1_iff, tkC_pos]
  constructor
  · rintro ⟨g, hg, hb⟩
    have := (h l' g hl hg).1 hb
    exact ⟨this.1, g, hg, this.2⟩
  · rintro ⟨h1, g, hg, hT⟩
    exact ⟨g, hg, (h l' g hl hg).2 ⟨h1, hT⟩⟩
theorem TkM.need {M : Nat → Nat → Nat → Int} {l : Nat} {T : Nat → Bool} (h : TkM M l T) (hl : l < 4) : needN M = tkC T + (if 0 < tkC T then 1 else 0) := by
  have e1 : cnt1 M = if 0 < tkC T then 1 else 0 := by
    unfold cnt1
    by_cases hc : 0 < tkC T
    · rw [if_pos hc]
      have : (List.range 4).filter (has1 M) = [l] := by
        have e : (List.range 4).filter (has1 M) = (List.range 4).filter (fun x => decide (x = l)) := List.filter_congr (fun x hx => by
          have hx4 := List.mem_range.1 hx
          have := h.uni hx4
          by_cases e : x = l
          · rw [this.2 ⟨e, hc⟩]; simp [e]
          · have : has1 M x = false := by
              rw [Bool.eq_false_iff]
              exact fun h' => e (this.1 h').1
            rw [this]; simp [e])
        rw [e]
        rcases (show l = 0 ∨ l = 1 ∨ l = 2 ∨ l = 3 by omega) with rfl | rfl | rfl | rfl <;> decide
      rw [this]; rfl
    · rw [if_neg hc]
      have : (List.range 4).filter (has1 M) = [] := by
        rw [List.filter_eq_nil_iff]
        intro x hx h'
        exact hc ((h.uni (List.mem_range.1 hx)).1 h').2
      rw [this]; rfl
  have e2 : cnt2 M = tkC T := by
    unfold cnt2 tkC
    have n1 : ((List.range 64).filter fun i => has2 M (i / 16) (i % 16)).Nodup := (List.nodup_range (n := 64)).filter _
    have n2 : (((List.range 16).filter T).map fun g => 16 * l + g).Nodup := nodup_map_on ((List.nodup_range (n := 16)).filter _) (fun x _ y _ e => by omega)
    have hiff : ∀ i, i ∈ ((List.range 64).filter fun i => has2 M (i / 16) (i % 16)) ↔ i ∈ (((List.range 16).filter T).map fun g => 16 * l + g) := fun i => by
      constructor
      · intro hi
        have hf := List.mem_filter.1 hi
        have h64 := List.mem_range.1 hf.1
        have := (h.grp (l' := i / 16) (g := i % 16) (by omega) (by omega)).1 hf.2
        exact List.mem_map.2 ⟨i % 16, List.mem_filter.2 ⟨List.mem_range.2 (by omega), this.2⟩, by have := this.1; omega⟩
      · intro hi
        obtain ⟨g, hg, rfl⟩ := List.mem_map.1 hi
        have hf := List.mem_filter.1 hg
        have h16 := List.mem_range.1 hf.1
        refine List.mem_filter.2 ⟨List.mem_range.2 (by omega), ?_⟩
        rw [show (16 * l + g) / 16 = l by omega, show (16 * l + g) % 16 = g by omega]
        exact (h.grp hl h16).2 ⟨rfl, hf.2⟩
    have a1 := nodup_le _ _ n1 (fun x hx => (hiff x).1 hx)
    have a2 := nodup_le _ _ n2 (fun x hx => (hiff x).2 hx)
    rw [List.length_map] at a1 a2
    omega
  unfold needN
  rw [e1, e2]; omega
theorem TkM.more {M : Nat → Nat → Nat → Int} {l : Nat} {T : Nat → Bool} (h : TkM M l T) (hl : l < 4) {g : Nat} (hg : g < 16) : moreN M l g = (if 0 < tkC T then 0 else 1) + (if T g = true then 0 else 1) := by
  unfold moreN
  congr 1
  · by_cases e : 0 < tkC T
    · rw [if_pos e, if_pos ((h.uni hl).2 ⟨rfl, e⟩)]
    · rw [if_neg e, if_neg (fun h' => e ((h.uni hl).1 h').2)]
  · by_cases e : T g = true
    · rw [if_pos e, if_pos ((h.grp hl hg).2 ⟨rfl, e⟩)]
    · rw [if_neg e, if_neg (fun h' => e ((h.grp hl hg).1 h').2)]
theorem TkM.start (l : Nat) : TkM (fun _ _ _ => 0) l (fun _ => false) := fun l' g _ _ => by
  constructor
  · rintro ⟨b, _, h⟩; exact absurd rfl h
  · rintro ⟨_, h⟩; cases h
theorem TkM.lay {M : Nat → Nat → Nat → Int} {l : Nat} {T : Nat → Bool} (h : TkM M l T) {g b : Nat} (hb : b < 16) (x : Int) (hx : x ≠ 0) : TkM (layM M l g b x) l (fun q => T q || decide (q = g)) := fun l' g' hl hg => by
  have hh := h l' g' hl hg
  unfold layM
  constructor
  · rintro ⟨b', hb', hne⟩
    by_cases e : l' = l ∧ g' = g ∧ b' = b
    · exact ⟨e.1, by simp [e.2.1]⟩
    · rw [if_neg e] at hne
      have := hh.1 ⟨b', hb', hne⟩
      exact ⟨this.1, by simp [this.2]⟩
  · rintro ⟨rfl, hT⟩
    by_cases e : g' = g
    · exact ⟨b, hb, by rw [if_pos ⟨rfl, e, rfl⟩]; exact hx⟩
    · have hT' : T g' = true := by simpa [e] using hT
      obtain ⟨b', hb', hne⟩ := hh.2 ⟨rfl, hT'⟩
      exact ⟨b', hb', by rw [if_neg (fun h' => e h'.2.1)]; exact hne⟩
/-- A set fits where the law says so. -/
theorem TkM.fits {M : Nat → Nat → Nat → Int} {l : Nat} {T : Nat → Bool} (h : TkM M l T) (hl : l < 4) {g n : Nat} (hg : g < 16) (hn : 2 ≤ n) (hle : needN M ≤ n) : (needN M + moreN M l g ≤ n) ↔ (T g = true ∨ tkC T + 1 < n) := by
  have hneed := h.need hl
  have hmore := h.more hl hg
  have hp : T g = true → 0 < tkC T := fun e => (tkC_pos T).2 ⟨g, hg, e⟩
  by_cases e : T g = true
  · have hc := hp e
    rw [if_pos hc] at hneed hmore
    rw [if_pos e] at hmore
    exact ⟨fun _ => .inl e, fun _ => by omega⟩
  · rw [if_neg e] at hmore
    by_cases hc : 0 < tkC T
    · rw [if_pos hc] at hneed hmore
      exact ⟨fun h => .inr (by omega), fun h => by rcases h with h | h <;> first | exact absurd h e | omega⟩
    · rw [if_neg hc] at hneed hmore
      exact ⟨fun h => .inr (by omega), fun h => by rcases h with h | h <;> first | exact absurd h e | omega⟩
end Go.Proofs.YtjikpodghmfjcaaGreatDoor
