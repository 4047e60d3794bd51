/- What a step answers, in plain: limits are kept; what is over stays over; pairs at once or one by one. -/
import Derived.Test.YtnicmfboomibjaaDoorN1p
namespace Go.Proofs.YtnicmfboomibjaaDoor
set_option linter.unusedSimpArgs false
set_option linter.unusedVariables false
open Go.RowKit
theorem numb_least (v : ByteArray) (l m : Int) (h : (rnumberF v l m).2 = true) : l ≤ (rnumberF v l m).1 := by
  have ht : ∀ u o, (tailF u l m o).2 = true → l ≤ (tailF u l m o).1 := by
    intro u o h
    cases o with
    | none => cases h
    | some x =>
      unfold tailF at h ⊢
      dsimp only at h ⊢
      split at h
      · cases h
      · rename_i hc
        rw [if_neg hc]
        simp only [Bool.or_eq_true, decide_eq_true_eq, not_or] at hc
        show l ≤ x
        omega
  unfold rnumberF at h ⊢
  split
  · rename_i hc; rw [if_pos hc] at h; exact ht _ _ h
  · rename_i hc; rw [if_neg hc] at h; exact ht _ _ h
def DealOk (d : DealS) : Prop := (-1 ≤ d.nx ∧ d.nx ≤ 7) ∧ (64 ≤ d.sg ∧ d.sg ≤ 256) ∧ (64 ≤ d.bu ∧ d.bu ≤ 512) ∧ (64 ≤ d.fi ∧ d.fi ≤ 512)
theorem operF_ok (d : DealS) (k v : ByteArray) (h : DealOk d) : DealOk (operF d k v).2 ∧ (operF d k v).2.nx = d.nx := by
  obtain ⟨h1, h2, h3, h4⟩ := h
  have hn := numb_least v 64 16777215
  unfold operF
  split
  · exact ⟨⟨h1, h2, h3, h4⟩, rfl⟩
  split
  · exact ⟨⟨h1, h2, h3, h4⟩, rfl⟩
  split
  · split <;> exact ⟨⟨h1, h2, h3, h4⟩, rfl⟩
  split
  · split <;> exact ⟨⟨h1, h2, h3, h4⟩, rfl⟩
  split
  · split
    · rename_i q; exact ⟨⟨h1, ⟨by have := hn q; show 64 ≤ min _ _; omega, by show min _ _ ≤ (256 : Int); omega⟩, h3, h4⟩, rfl⟩
    · exact ⟨⟨h1, h2, h3, h4⟩, rfl⟩
  split
  · split
    · rename_i q; exact ⟨⟨h1, h2, ⟨by have := hn q; show 64 ≤ min _ _; omega, by show min _ _ ≤ (512 : Int); omega⟩, h4⟩, rfl⟩
    · exact ⟨⟨h1, h2, h3, h4⟩, rfl⟩
  split
  · split
    · rename_i q; exact ⟨⟨h1, h2, h3, ⟨by have := hn q; show 64 ≤ min _ _; omega, by show min _ _ ≤ (512 : Int); omega⟩⟩, rfl⟩
    · exact ⟨⟨h1, h2, h3, h4⟩, rfl⟩
  · exact ⟨⟨h1, h2, h3, h4⟩, rfl⟩
theorem nameB_n (v : ByteArray) (h : nameB v = true) : 0 ≤ nameN v ∧ nameN v ≤ 7 := by
  unfold nameB at h
  simp only [Bool.and_eq_true, decide_eq_true_eq] at h
  unfold nameN
  omega
theorem pairF_ok (d : DealS) (k v : ByteArray) (a : Int) (h : DealOk d) : DealOk (pairF d k v a).2.2 ∧ (0 ≤ d.nx → 0 ≤ (pairF d k v a).2.2.nx) := by
  unfold pairF
  split
  · split
    · rename_i q
      have := nameB_n v q
      split
      · exact ⟨h, id⟩
      · exact ⟨⟨⟨by show -1 ≤ nameN v; omega, this.2⟩, h.2⟩, fun _ => this.1⟩
    · exact ⟨h, id⟩
  split
  · split <;> exact ⟨h, id⟩
  split
  · exact ⟨h, id⟩
  split
  · exact ⟨h, id⟩
  split
  · split <;> exact ⟨h, id⟩
  split
  · exact ⟨h, id⟩
  · obtain ⟨h1, h2⟩ := operF_ok d k v h
    exact ⟨h1, fun h3 => by rw [h2]; exact h3⟩
theorem pairsF_ok (a : Int) : ∀ (ps out : List Pr) (d : DealS), DealOk d → DealOk (pairsF a ps out d).2.2 ∧ (0 ≤ d.nx → 0 ≤ (pairsF a ps out d).2.2.nx)
  | [], out, d, h => ⟨h, id⟩
  | p :: l, out, d, h => by
    obtain ⟨h1, h2⟩ := pairF_ok d p.1 p.2 a h
    unfold pairsF
    split
    · exact ⟨h1, h2⟩
    · obtain ⟨h3, h4⟩ := pairsF_ok a l (if (pairF d p.1 p.2 a).1.toList.isEmpty then out else out ++ [(p.1, (pairF d p.1 p.2 a).1)]) _ h1
      exact ⟨h3, fun h => h4 (h2 h)⟩
def LogInv (s : LogS) : Prop := DealOk s.d ∧ (0 ≤ s.st ∧ s.st ≤ 3) ∧ (s.first = true → s.over = false → 0 ≤ s.d.nx ∧ s.d.fi ≤ s.d.bu) ∧ (s.st = 3 → s.first = true)
theorem newS_inv : LogInv newS := ⟨⟨by decide, by decide, by decide, by decide⟩, by decide, by decide, by decide⟩
theorem atF_bd (f : Nat) : 0 ≤ atF f ∧ atF f ≤ 3 := by unfold atF; omega
theorem nxF_bd (f : Nat) : 0 ≤ nxF f ∧ nxF f ≤ 3 := by unfold nxF; omega
theorem clipF_ok (d : DealS) (h : DealOk d) : DealOk (clipF d) ∧ (clipF d).nx = d.nx ∧ (clipF d).fi ≤ (clipF d).bu := by
  obtain ⟨h1, h2, h3, h4⟩ := h
  unfold clipF
  split
  · exact ⟨⟨h1, h2, h3, h3⟩, rfl, Int.le_refl _⟩
  · exact ⟨⟨h1, h2, h3, h4⟩, rfl, by omega⟩
theorem badF_at (s : LogS) (f : Nat) (h : badF s f = false) : atF f ≠ 3 ∧ s.st ≤ atF f := by
  unfold badF at h
  simp only [Bool.or_eq_false_iff, decide_eq_false_iff_not, beq_eq_false_iff_ne] at h
  exact ⟨by have := h.1.1.1.1.2; exact this, by have := h.1.1.1.2; omega⟩
theorem stepF_inv (s : LogS) (f : Nat) (ps : List Pr) (h : LogInv s) : LogInv (stepF s f ps).2.2.2 := by
  obtain ⟨h1, h2, h3, h4⟩ := h
  have ha := atF_bd f
  have hn := nxF_bd f
  obtain ⟨p1, p2⟩ := pairsF_ok (atF f) ps [] s.d h1
  unfold stepF
  split
  · exact ⟨h1, h2, h3, h4⟩
  rename_i c0
  simp only [Bool.or_eq_true, not_or, Bool.not_eq_true] at c0
  split
  · exact ⟨h1, h2, fun _ h => (by cases h), h4⟩
  split
  · exact ⟨p1, ⟨ha.1, ha.2⟩, fun _ h => (by cases h), fun _ => rfl⟩
  split
  · exact ⟨p1, ⟨ha.1, ha.2⟩, fun _ h => (by cases h), fun _ => rfl⟩
  rename_i c1 c2 c3
  obtain ⟨q1, q2, q3⟩ := clipF_ok _ p1
  refine ⟨q1, ?_, fun _ _ => ⟨?_, q3⟩, fun _ => rfl⟩
  · split
    · exact hn
    · exact ha
  · rw [q2]
    cases hf : s.first
    · rw [hf] at c3
      simp at c3
      omega
    · exact p2 (h3 hf c0.1).1
theorem stepF_fine (s : LogS) (f : Nat) (ps : List Pr) (h : (stepF s f ps).2.2.1 = 0) : (stepF s f ps).2.2.2.over = false ∧ (stepF s f ps).2.2.2.first = true ∧ s.over = false ∧ s.st ≠ 3 := by
  unfold stepF at h ⊢
  split at h
  · cases h
  rename_i c0
  rw [if_neg c0]
  simp only [Bool.or_eq_true, not_or, Bool.not_eq_true, beq_iff_eq] at c0
  split at h
  · cases h
  rename_i c1
  rw [if_neg c1]
  split at h
  · rename_i c2; simp only at h; simp [h] at c2
  rename_i c2
  rw [if_neg c2]
  split at h
  · cases h
  rename_i c3
  rw [if_neg c3]
  exact ⟨rfl, rfl, c0.1, c0.2⟩
theorem stepF_end (s : LogS) (f : Nat) (ps : List Pr) (h : (s.over || s.st == 3) = true) : stepF s f ps = (0, [], 512, s) := by
  unfold stepF; rw [if_pos h]
theorem stepF_not (s : LogS) (f : Nat) (ps : List Pr) (h : (stepF s f ps).2.2.1 ≠ 0) : (stepF s f ps).1 = 0 ∧ (stepF s f ps).2.1 = [] ∧ ((stepF s f ps).2.2.2.over || (stepF s f ps).2.2.2.st == 3) = true := by
  unfold stepF at h ⊢
  split
  · rename_i c; exact ⟨rfl, rfl, c⟩
  rename_i c0
  rw [if_neg c0] at h
  split
  · exact ⟨rfl, rfl, rfl⟩
  rename_i c1
  rw [if_neg c1] at h
  split
  · exact ⟨rfl, rfl, rfl⟩
  rename_i c2
  rw [if_neg c2] at h
  split
  · exact ⟨rfl, rfl, rfl⟩
  rename_i c3
  rw [if_neg c3] at h
  exact absurd rfl h
/-- Two deals that differ in the first burst at most. -/
def Alike (d e : DealS) : Prop := { d with fi := 0 } = { e with fi := 0 }
theorem Alike.mk' {d e : DealS} (h1 : d.nx = e.nx) (h2 : d.hd = e.hd) (h3 : d.dt = e.dt) (h4 : d.sg = e.sg) (h5 : d.bu = e.bu) (h6 : d.rd = e.rd) (h7 : d.tg = e.tg) : Alike d e := by
  unfold Alike; rw [h1, h2, h3, h4, h5, h6, h7]
theorem Alike.all {d e : DealS} (h : Alike d e) : d.nx = e.nx ∧ d.hd = e.hd ∧ d.dt = e.dt ∧ d.sg = e.sg ∧ d.bu = e.bu ∧ d.rd = e.rd ∧ d.tg = e.tg := by
  unfold Alike at h
  simp only [DealS.mk.injEq] at h
  exact ⟨h.1, h.2.1, h.2.2.1, h.2.2.2.1, h.2.2.2.2.1, h.2.2.2.2.2.2.1, h.2.2.2.2.2.2.2⟩
theorem operF_alike (d e : DealS) (k v : ByteArray) (h : Alike d e) : (operF d k v).1 = (operF e k v).1 ∧ Alike (operF d k v).2 (operF e k v).2 := by
  obtain ⟨h1, h2, h3, h4, h5, h6, h7⟩ := h.all
  unfold operF
  repeat' split
  all_goals first | exact ⟨rfl, h⟩ | exact ⟨rfl, Alike.mk' h1 h2 h3 h4 h5 h6 h7⟩ | exact ⟨rfl, Alike.mk' h1 rfl h3 h4 h5 h6 h7⟩ | exact ⟨rfl, Alike.mk' h1 h2 rfl h4 h5 h6 h7⟩ | exact ⟨rfl, Alike.mk' h1 h2 h3 rfl h5 h6 h7⟩ | exact ⟨rfl, Alike.mk' h1 h2 h3 h4 rfl h6 h7⟩ | exact ⟨rfl, Alike.mk' h1 h2 h3 h4 h5 rfl h7⟩ | exact ⟨rfl, Alike.mk' h1 h2 h3 h4 h5 h6 rfl⟩
theorem pairF_alike (d e : DealS) (k v : ByteArray) (a : Int) (h : Alike d e) : (pairF d k v a).1 = (pairF e k v a).1 ∧ (pairF d k v a).2.1 = (pairF e k v a).2.1 ∧ Alike (pairF d k v a).2.2 (pairF e k v a).2.2 := by
  obtain ⟨h1, h2, h3, h4, h5, h6, h7⟩ := h.all
  obtain ⟨o1, o2⟩ := operF_alike d e k v h
  unfold pairF
  rw [h1]
  repeat' split
  all_goals first | exact ⟨rfl, rfl, h⟩ | exact ⟨o1, rfl, o2⟩ | exact ⟨rfl, rfl, Alike.mk' rfl h2 h3 h4 h5 h6 h7⟩
theorem pairsF_single (a : Int) (p : Pr) (d : DealS) : pairsF a [p] [] d = if (pairF d p.1 p.2 a).2.1 != 0 then ((pairF d p.1 p.2 a).2.1, [], (pairF d p.1 p.2 a).2.2) else (0, (if (pairF d p.1 p.2 a).1.toList.isEmpty then [] else [(p.1, (pairF d p.1 p.2 a).1)]), (pairF d p.1 p.2 a).2.2) := by
  unfold pairsF
  split
  · rfl
  · simp [pairsF]
theorem clip_alike (d : DealS) : Alike (clipF d) d ∧ (clipF d).fi ≤ (clipF d).bu := by
  unfold clipF
  split
  · exact ⟨Alike.mk' rfl rfl rfl rfl rfl rfl rfl, Int.le_refl _⟩
  · exact ⟨rfl, by omega⟩
theorem Alike.trans {a b c : DealS} (h : Alike a b) (k : Alike b c) : Alike a c := Eq.trans h k
theorem Alike.symm {a b : DealS} (h : Alike a b) : Alike b a := Eq.symm h
/-- A step within the operational stage. -/
theorem step_in (d : DealS) (p : Pr) (hnx : 0 ≤ d.nx) (hok : DealOk d) : stepF ⟨1, d, true, false⟩ 4 [p] =
    if (pairF d p.1 p.2 1).2.1 != 0 then (0, [], (pairF d p.1 p.2 1).2.1, ⟨1, (pairF d p.1 p.2 1).2.2, true, true⟩)
    else (4, (if (pairF d p.1 p.2 1).1.toList.isEmpty then [] else [(p.1, (pairF d p.1 p.2 1).1)]), 0, ⟨1, clipF (pairF d p.1 p.2 1).2.2, true, false⟩) := by
  have e1 : badF ⟨1, d, true, false⟩ 4 = false := rfl
  have e2 : atF 4 = 1 := by decide
  unfold stepF
  rw [if_neg (by simp), e1, if_neg (by simp), e2, pairsF_single]
  dsimp only
  cases hc : ((pairF d p.1 p.2 1).2.1 != 0)
  · simp; intro h; exact absurd h (by decide)
  · simp; exact fun h => absurd h (by simpa using hc)
theorem step_out (d : DealS) (ps : List Pr) : stepF ⟨1, d, true, false⟩ 135 ps =
    if (pairsF 1 ps [] d).1 != 0 then (0, [], (pairsF 1 ps [] d).1, ⟨1, (pairsF 1 ps [] d).2.2, true, true⟩)
    else (135, (pairsF 1 ps [] d).2.1, 0, ⟨3, clipF (pairsF 1 ps [] d).2.2, true, false⟩) := by
  have e1 : badF ⟨1, d, true, false⟩ 135 = false := rfl
  have e2 : atF 135 = 1 := by decide
  unfold stepF
  rw [if_neg (by simp), e1, if_neg (by simp), e2]
  split
  · rfl
  · rw [if_neg (by simp)]
    rfl
theorem nameB_eq (v u : ByteArray) (hv : nameB v = true) (hu : nameB u = true) (h : nameN v = nameN u) : v = u := by
  unfold nameB at hv hu
  simp only [Bool.and_eq_true, decide_eq_true_eq, beq_iff_eq] at hv hu
  unfold nameN at h
  obtain ⟨⟨⟨v1, v2⟩, _⟩, _⟩ := hv
  obtain ⟨⟨⟨u1, u2⟩, _⟩, _⟩ := hu
  have hb : ∀ w : ByteArray, w.size = 5 → (w.extract 0 4).toList = [105, 113, 110, 46] → w.data.toList = [105, 113, 110, 46] ++ [w.data.toList.getD 4 0] := by
    intro w hs h4
    rw [ByteArray.toList_eq] at h4
    have hl : w.data.toList.length = 5 := by simpa using hs
    have ht : w.data.toList.take 4 = [105, 113, 110, 46] := by
      rw [← h4]; simp
    generalize w.data.toList = l at hl ht
    match l, hl with
    | [a, b, c, d, e], _ => simp at ht ⊢; exact ht
  have hc : v.data.toList.getD 4 0 = u.data.toList.getD 4 0 := by
    apply UInt8.toNat_inj.1
    omega
  apply ByteArray.ext
  apply Array.toList_inj.1
  rw [hb v v1 v2, hb u u1 u2, hc]
end Go.Proofs.YtnicmfboomibjaaDoor
