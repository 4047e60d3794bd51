/- Pairs at once, or one by one, in plain. -/
import Derived.Test.YtnicmfboomibjaaDoorN2p
namespace Go.Proofs.YtnicmfboomibjaaDoor
set_option linter.unusedSimpArgs false
set_option linter.unusedVariables false
open Go.RowKit
theorem pairsF_con (A : Int) (p : Pr) (l out : List Pr) (d : DealS) : pairsF A (p :: l) out d = if (pairF d p.1 p.2 A).2.1 != 0 then ((pairF d p.1 p.2 A).2.1, out, (pairF d p.1 p.2 A).2.2)
    else pairsF A l (if (pairF d p.1 p.2 A).1.toList.isEmpty then out else out ++ [(p.1, (pairF d p.1 p.2 A).1)]) (pairF d p.1 p.2 A).2.2 := rfl
theorem pairsF_app (A : Int) : ∀ (l1 l2 out : List Pr) (d : DealS), pairsF A (l1 ++ l2) out d = if (pairsF A l1 out d).1 != 0 then pairsF A l1 out d else pairsF A l2 (pairsF A l1 out d).2.1 (pairsF A l1 out d).2.2
  | [], l2, out, d => rfl
  | p :: l1, l2, out, d => by
    rw [List.cons_append, pairsF_con, pairsF_con]
    cases h : ((pairF d p.1 p.2 A).2.1 != 0)
    · simp only [Bool.false_eq_true, if_false]
      have ih := pairsF_app A l1 l2 (if (pairF d p.1 p.2 A).1.toList.isEmpty then out else out ++ [(p.1, (pairF d p.1 p.2 A).1)]) (pairF d p.1 p.2 A).2.2
      rw [ih]
    · simp only [if_true]
      rw [if_pos (by simpa using h)]
theorem pairsF_one (A : Int) (p : Pr) (out : List Pr) (d : DealS) : pairsF A [p] out d = if (pairF d p.1 p.2 A).2.1 != 0 then ((pairF d p.1 p.2 A).2.1, out, (pairF d p.1 p.2 A).2.2) else (0, out ++ (if (pairF d p.1 p.2 A).1.toList.isEmpty then [] else [(p.1, (pairF d p.1 p.2 A).1)]), (pairF d p.1 p.2 A).2.2) := by
  unfold pairsF
  split
  · rfl
  · unfold pairsF
    split <;> simp
/-- Behind i pairs: what was answered one by one is what is answered at once, the deal is alike. -/
def PartsI (ps : List Pr) (d0 : DealS) (i : Nat) (db : DealS) (some_ : List Pr) : Prop :=
  ∃ d1, pairsF 1 (ps.take i) [] d0 = (0, some_, d1) ∧ Alike d1 db ∧ 0 ≤ db.nx ∧ DealOk db
theorem parts_start (ps : List Pr) (d0 : DealS) (h : 0 ≤ d0.nx) (hk : DealOk d0) : PartsI ps d0 0 d0 [] := ⟨d0, rfl, rfl, h, hk⟩
theorem pairsF_take {ps : List Pr} {d0 d1 : DealS} {i : Nat} {o : List Pr} (hi : i < ps.length) (h : pairsF 1 (ps.take i) [] d0 = (0, o, d1)) : pairsF 1 (ps.take (i + 1)) [] d0 = pairsF 1 [ps[i]] o d1 := by
  rw [List.take_succ_eq_append_getElem hi, pairsF_app, h]
  rfl
/-- A pair that is refused: at once it is refused too, with the same status. -/
theorem parts_bad {ps : List Pr} {d0 db : DealS} {i : Nat} {o : List Pr} (hi : i < ps.length) (h : PartsI ps d0 i db o) (hb : (pairF db ps[i].1 ps[i].2 1).2.1 ≠ 0) :
    (pairsF 1 ps [] d0).1 = (pairF db ps[i].1 ps[i].2 1).2.1 := by
  obtain ⟨d1, h1, ha, _, _⟩ := h
  obtain ⟨_, a2, _⟩ := pairF_alike d1 db ps[i].1 ps[i].2 1 ha
  have hs := pairsF_take hi h1
  rw [pairsF_one, if_pos (by rw [a2]; simpa using hb), a2] at hs
  have : pairsF 1 ps [] d0 = pairsF 1 (ps.take (i + 1) ++ ps.drop (i + 1)) [] d0 := by rw [List.take_append_drop]
  rw [this, pairsF_app, hs]
  dsimp only
  rw [if_pos (by simpa using hb)]
theorem parts_step {ps : List Pr} {d0 db : DealS} {i : Nat} {o : List Pr} (hi : i < ps.length) (h : PartsI ps d0 i db o) (hb : (pairF db ps[i].1 ps[i].2 1).2.1 = 0) :
    PartsI ps d0 (i + 1) (clipF (pairF db ps[i].1 ps[i].2 1).2.2) (o ++ (if (pairF db ps[i].1 ps[i].2 1).1.toList.isEmpty then [] else [(ps[i].1, (pairF db ps[i].1 ps[i].2 1).1)])) := by
  obtain ⟨d1, h1, ha, hn, hk⟩ := h
  obtain ⟨a1, a2, a3⟩ := pairF_alike d1 db ps[i].1 ps[i].2 1 ha
  obtain ⟨k1, k2⟩ := pairF_ok db ps[i].1 ps[i].2 1 hk
  obtain ⟨q1, q2, _⟩ := clipF_ok _ k1
  refine ⟨(pairF d1 ps[i].1 ps[i].2 1).2.2, ?_, a3.trans (clip_alike _).1.symm, by rw [q2]; exact k2 hn, q1⟩
  rw [pairsF_take hi h1, pairsF_one, if_neg (by rw [a2, hb]; decide), a1]
theorem parts_end {ps : List Pr} {d0 db : DealS} {o : List Pr} (h : PartsI ps d0 ps.length db o) :
    stepF ⟨1, d0, true, false⟩ 135 ps = (135, o, 0, (stepF ⟨1, d0, true, false⟩ 135 ps).2.2.2) ∧ stepF ⟨1, db, true, false⟩ 135 [] = (135, [], 0, (stepF ⟨1, db, true, false⟩ 135 []).2.2.2) ∧
    (stepF ⟨1, d0, true, false⟩ 135 ps).2.2.2.d.bu = (stepF ⟨1, db, true, false⟩ 135 []).2.2.2.d.bu ∧ (stepF ⟨1, db, true, false⟩ 135 []).2.2.2.d.fi ≤ (stepF ⟨1, d0, true, false⟩ 135 ps).2.2.2.d.bu := by
  obtain ⟨d1, h1, ha, _, _⟩ := h
  rw [List.take_length] at h1
  have e1 : stepF ⟨1, d0, true, false⟩ 135 ps = (135, o, 0, ⟨3, clipF d1, true, false⟩) := by rw [step_out, h1]; rfl
  have e2 : stepF ⟨1, db, true, false⟩ 135 [] = (135, [], 0, ⟨3, clipF db, true, false⟩) := by rw [step_out]; rfl
  rw [e1, e2]
  obtain ⟨c1, c2⟩ := clip_alike d1
  obtain ⟨c3, c4⟩ := clip_alike db
  have hb : (clipF d1).bu = (clipF db).bu := ((c1.trans ha).trans c3.symm).all.2.2.2.2.1
  exact ⟨rfl, rfl, hb, by show (clipF db).fi ≤ (clipF d1).bu; rw [hb]; exact c4⟩
end Go.Proofs.YtnicmfboomibjaaDoor
