/- The statements of radix: two numbers of one node. -/
import Derived.Test.YthaaoghbginmpaaDoorM16
set_option linter.unusedSimpArgs false
set_option linter.unusedVariables false
set_option linter.unnecessarySimpa false
namespace Go.Proofs.YthaaoghbginmpaaDoor
set_option linter.unusedSimpArgs false
set_option linter.unusedVariables false
open Go.RowKit Go.Maps
def pgFA : List Int := putNF (zer 64) 0 1
def pgFB : List Int := putNF (zer 64) 0 2
def pgFC : List Int := putNF (zer 64) 0 5
def pgFD : List Int := putNF pgFC 15 6
theorem at_facts : atF (zer 64) 0 = 0 ∧ atF pgFA 0 = 1 ∧ atF pgFB 0 = 2 ∧ atF pgFD 15 = 6 := by decide +kernel
theorem pg_facts : pgFB ≠ zer 64 ∧ pgFD ≠ zer 64 := by decide +kernel
noncomputable def bkA : BookS := freshB.wrote 2 pgFA
noncomputable def bkB : BookS := bkA.wrote 3 pgFB
noncomputable def bkC : BookS := bkB.wrote 4 pgFC
noncomputable def bkD : BookS := bkC.wrote 4 pgFD
theorem bkA_view (j : Nat) (hj : j < 198) : bkA.view j = if j = 2 then pgFA else zer 64 := by
  unfold bkA; rw [BookS.wrote_view, freshB_view _ hj]
theorem bkB_view (j : Nat) (hj : j < 198) : bkB.view j = if j = 3 then pgFB else if j = 2 then pgFA else zer 64 := by
  unfold bkB; rw [BookS.wrote_view, bkA_view j hj]
theorem bkC_view (j : Nat) (hj : j < 198) : bkC.view j = if j = 4 then pgFC else if j = 3 then pgFB else if j = 2 then pgFA else zer 64 := by
  unfold bkC; rw [BookS.wrote_view, bkB_view j hj]
theorem bkD_view (j : Nat) (hj : j < 198) : bkD.view j = if j = 4 then pgFD else if j = 3 then pgFB else if j = 2 then pgFA else zer 64 := by
  unfold bkD; rw [BookS.wrote_view, bkC_view j hj]
  by_cases h : j = 4 <;> simp [h]
theorem bkA_n : bkA.n = 198 := by unfold bkA; rw [BookS.wrote_n, freshB_n]
theorem bkB_n : bkB.n = 198 := by unfold bkB; rw [BookS.wrote_n, bkA_n]
theorem bkC_n : bkC.n = 198 := by unfold bkC; rw [BookS.wrote_n, bkB_n]
theorem bkD_n : bkD.n = 198 := by unfold bkD; rw [BookS.wrote_n, bkC_n]
theorem bkA_cnt : bkA.cnt ≤ 1 := by
  have := BookS.wrote_cnt freshB 2 pgFA (by rw [freshB_n]; decide)
  rw [freshB_cnt] at this
  exact this
theorem bkB_cnt : bkB.cnt ≤ 2 := by
  have := BookS.wrote_cnt bkA 3 pgFB (by rw [bkA_n]; decide)
  have := bkA_cnt
  unfold bkB; omega
theorem bkC_cnt : bkC.cnt ≤ 3 := by
  have := BookS.wrote_cnt bkB 4 pgFC (by rw [bkB_n]; decide)
  have := bkB_cnt
  unfold bkC; omega
theorem wrOk_of {B : BookS} {k : Nat} (h : B.cnt ≤ k) (hk : k < 60) (i : Nat) (p : List Int) : WrOk B i p := .inr (.inr (by show B.cnt ≠ 60; omega))
noncomputable def bkS : Nat → BookS
  | 0 => freshB
  | 1 => bkA
  | _ => bkB
def plZ : Nat → Nat := fun _ => 0
def plF : Nat → Nat
  | 2 => 15
  | _ => 0
theorem way_first : WayS freshB 2 9 0 0 0 (fun k => k) plZ where
  hm := by decide
  nd0 := rfl
  pl0 := rfl
  pl1 := rfl
  pl2 := rfl
  le := fun k hk => by omega
  on := fun k hk => by omega
  last := fun _ => by rw [freshB_view _ (by decide)]; exact at_facts.1
theorem set_first : SetS 2 9 0 (fun k => k) plZ bkS 5 where
  pos := fun k _ hk => by omega
  zero := fun k _ hk => by
    rcases (show k = 0 ∨ k = 1 by omega) with rfl | rfl
    · exact freshB_view _ (by decide)
    · show bkA.view 4 = _
      rw [bkA_view _ (by decide), if_neg (by decide)]
  new := fun k _ hk => by
    rcases (show k = 0 ∨ k = 1 by omega) with rfl | rfl <;> decide
  all := fun k _ hk j h1 h2 => by
    rcases (show k = 0 ∨ k = 1 by omega) with rfl | rfl
    · omega
    · rcases (show j = 1 by omega) with rfl
      exact .inr (by decide)
  may := fun k _ hk => by
    rcases (show k = 0 ∨ k = 1 by omega) with rfl | rfl
    · exact wrOk_of (k := 0) (by show freshB.cnt ≤ 0; rw [freshB_cnt]; exact Nat.le_refl _) (by decide) _ _
    · exact wrOk_of (k := 1) bkA_cnt (by decide) _ _
  next := fun k _ hk => by
    rcases (show k = 0 ∨ k = 1 by omega) with rfl | rfl
    · show bkA = freshB.wrote 2 (putNF (freshB.view 2) 0 1)
      rw [freshB_view _ (by decide)]; rfl
    · show bkB = bkA.wrote 3 (putNF (bkA.view 3) 0 2)
      rw [bkA_view _ (by decide), if_neg (by decide)]; rfl
  last := wrOk_of (k := 2) bkB_cnt (by decide) _ _
theorem last_first : (bkS 2).wrote (2 + 2) (putNF ((bkS 2).view (2 + 2)) (plZ 2) 5) = bkC := by
  show bkB.wrote 4 (putNF (bkB.view 4) 0 5) = bkC
  rw [bkB_view _ (by decide), if_neg (by decide), if_neg (by decide)]; rfl
theorem way_on {B : BookS} (h2 : B.view 2 = pgFA) (h3 : B.view 3 = pgFB) : WayS B 2 9 0 15 2 (fun k => k) plF where
  hm := by decide
  nd0 := rfl
  pl0 := rfl
  pl1 := rfl
  pl2 := rfl
  le := fun k hk => by omega
  on := fun k hk => by
    rcases (show k = 0 ∨ k = 1 by omega) with rfl | rfl
    · refine ⟨?_, by decide⟩
      show atF (B.view 2) 0 = 1
      rw [h2]; exact at_facts.2.1
    · refine ⟨?_, by decide⟩
      show atF (B.view 3) 0 = 2
      rw [h3]; exact at_facts.2.2.1
  last := fun h => by omega
theorem set_second : SetS 2 9 2 (fun k => k) plF (fun _ => bkC) 6 where
  pos := fun k _ hk => by omega
  zero := fun k _ hk => by omega
  new := fun k _ hk => by omega
  all := fun k _ hk j h1 h2 => by omega
  may := fun k _ hk => by omega
  next := fun k _ hk => by omega
  last := wrOk_of (k := 3) bkC_cnt (by decide) _ _
theorem last_second : bkC.wrote (2 + 2) (putNF (bkC.view (2 + 2)) (plF 2) 6) = bkD := by
  show bkC.wrote 4 (putNF (bkC.view 4) 15 6) = bkD
  rw [bkC_view _ (by decide), if_pos rfl]; rfl
theorem nodes_D : nodesF bkD 2 9 = 2 := by
  have v := bkD_view
  have hB := pg_facts.1
  have hD := pg_facts.2
  simp [nodesF, v, hB, hD]
set_option maxRecDepth 100000 in
set_option maxHeartbeats 4000000 in
theorem stands09_any (N : Nat → Prop) (w : World) (hN : ∀ i, N i → i < w.heap.size) :
    Calls Tryd.prog 31 #[] w fun e w' => e = .returned (.bool true) ∧ Keeps N w w' := by
  have hFR := fresh09_any 9 (by decide) N w hN
  clear hN
  go_enter Tryd.func31, Tryd.ntmps31
  go_wp2_with fail
  refine hFR.mono ?_
  clear hFR
  rintro e w1 ⟨⟨bb, tb, rfl, hT⟩, hk1⟩
  have H1 : Hid (HolI 142 w1 tb N bb 2 9 freshB ∧ Keeps N w w1) := Lib.hid ⟨hT, hk1⟩
  clear hT hk1
  have hS := rset_any tb N bb 2 9 freshB 0 0 0 (by decide) (by decide) (by rw [freshB_n]; decide) (fun k => k) plZ way_first bkS 5 (by decide) set_first rfl w1 H1.out.1
  rw [last_first] at hS
  try dsimp only
  go_wp2_with fail
  refine hS.mono ?_
  clear hS
  rintro e w2 ⟨rfl, hT, hk⟩
  have H2 : Hid (HolI 142 w2 tb N bb 2 9 bkC ∧ Keeps N w w2) := Lib.hid ⟨hT, H1.out.2.trans hk⟩
  clear hT hk H1
  have hS := rset_any tb N bb 2 9 bkC 0 15 2 (by decide) (by decide) (by rw [bkC_n]; decide) (fun k => k) plF (way_on (by rw [bkC_view _ (by decide)]; rfl) (by rw [bkC_view _ (by decide)]; rfl)) (fun _ => bkC) 6 (by decide) set_second rfl w2 H2.out.1
  rw [last_second] at hS
  try dsimp only
  go_wp2_with fail
  refine hS.mono ?_
  clear hS
  rintro e w3 ⟨rfl, hT, hk⟩
  have H3 : Hid (HolI 142 w3 tb N bb 2 9 bkD ∧ Keeps N w w3) := Lib.hid ⟨hT, H2.out.2.trans hk⟩
  clear hT hk H2
  have hG := rget_some tb N bb 2 9 bkD 0 15 (by decide) (by decide) (by rw [bkD_n]; decide) (fun k => k) plF (way_on (by rw [bkD_view _ (by decide)]; rfl) (by rw [bkD_view _ (by decide)]; rfl)) w3 H3.out.1
  rw [show atF (bkD.view (2 + 2)) (plF 2) = 6 by rw [bkD_view _ (by decide)]; exact at_facts.2.2.2] at hG
  try dsimp only
  go_wp2_with fail
  refine hG.mono ?_
  clear hG
  rintro e w4 ⟨rfl, hb4⟩
  have H4 : Hid (HolI 142 w4 tb N bb 2 9 bkD ∧ Keeps N w w4) := Lib.hid ⟨H3.out.1.below hb4, H3.out.2.trans (Keeps.of_below hb4)⟩
  clear hb4 H3
  have hM := rnodes_any tb N bb 2 9 bkD (by rw [bkD_n]; decide) w4 H4.out.1
  rw [nodes_D] at hM
  try dsimp only
  go_wp2_with fail
  refine hM.mono ?_
  clear hM
  rintro e w5 ⟨rfl, hb5⟩
  have HK := Lib.hid (H4.out.2.trans (Keeps.of_below hb5))
  clear hb5 H4
  try dsimp only
  go_wp2_with fail
  refine (num09_nil w5).mono ?_
  rintro e w6 ⟨rfl, rfl⟩
  try dsimp only
  go_wp2_with fail
  refine (num09_nil w5).mono ?_
  rintro e w6 ⟨rfl, rfl⟩
  try dsimp only
  go_wp2_with fail
  refine (num09_nil w5).mono ?_
  rintro e w6 ⟨rfl, rfl⟩
  try dsimp only
  go_wp2_with fail
  refine (num09_nil w5).mono ?_
  rintro e w6 ⟨rfl, rfl⟩
  try dsimp only
  go_wp2_with fail
  go_ret
  exact ⟨rfl, HK.out⟩
end Go.Proofs.YthaaoghbginmpaaDoor
