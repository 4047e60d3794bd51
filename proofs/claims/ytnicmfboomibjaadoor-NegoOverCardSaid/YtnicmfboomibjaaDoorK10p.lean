/- Parse in plain: pairs of bytes, one by one; the reference's search for letters and the program's search for the equals sign find the same names. -/
import Derived.Test.YtnicmfboomibjaaDoorK8
import Derived.Test.YtnicmfboomibjaaDoorK3p
import Derived.Lib.CutLaws
import Derived.Lib.SplitLaws
namespace Go.Proofs.YtnicmfboomibjaaDoor
set_option linter.unusedSimpArgs false
set_option linter.unusedVariables false
open Go.RowKit Go.Lib
/-- What stands ahead of the first c. -/
def upto (c : UInt8) : List UInt8 → List UInt8
  | [] => []
  | b :: r => if b = c then [] else b :: upto c r
theorem upto_le (c : UInt8) : ∀ l, (upto c l).length ≤ l.length
  | [] => Nat.le_refl _
  | b :: r => by unfold upto; split <;> simp; exact upto_le c r
theorem upto_take (c : UInt8) : ∀ l, upto c l = l.take (upto c l).length
  | [] => rfl
  | b :: r => by
    unfold upto
    split
    · rfl
    · simp only [List.length_cons, List.take_succ_cons, List.cons.injEq, true_and]; exact upto_take c r
/-- The first c is where all ahead of it are no c. -/
theorem upto_len (c : UInt8) : ∀ (l : List UInt8) (t : Nat), t ≤ l.length → (∀ j (h : j < t) (h' : j < l.length), l[j] ≠ c) → (∀ h : t < l.length, l[t] = c) → (upto c l).length = t
  | [], t, h, _, _ => by simp at h; subst h; rfl
  | b :: r, 0, _, _, h3 => by
    have := h3 (by simp)
    simp at this
    simp [upto, this]
  | b :: r, t + 1, h1, h2, h3 => by
    have hb : b ≠ c := h2 0 (by omega) (by simp)
    have ih := upto_len c r t (by simpa using h1) (fun j h h' => h2 (j + 1) (by omega) (by simpa using h')) (fun h => h3 (by simpa using h))
    simp [upto, hb, ih]
theorem upto_ahead (c : UInt8) : ∀ (l : List UInt8) (j : Nat) (h : j < (upto c l).length) (h' : j < l.length), l[j] ≠ c
  | [], j, h, h' => by simp at h'
  | b :: r, j, h, h' => by
    by_cases hb : b = c
    · simp [upto, hb] at h
    · cases j with
      | zero => exact hb
      | succ j =>
        simp only [upto, hb, if_false, List.length_cons, Nat.add_lt_add_iff_right] at h
        exact upto_ahead c r j h (by simpa using h')
theorem upto_at (c : UInt8) : ∀ (l : List UInt8) (h : (upto c l).length < l.length), l[(upto c l).length] = c
  | [], h => by simp at h
  | b :: r, h => by
    by_cases hb : b = c
    · simp [upto, hb]
    · have e : (upto c (b :: r)) = b :: upto c r := by simp [upto, hb]
      have h2 : (upto c r).length < r.length := by rw [e] at h; simpa using h
      simp only [e, List.length_cons, List.getElem_cons_succ]
      exact upto_at c r h2
theorem index_upto (c : UInt8) : ∀ l, index l [c] = if (upto c l).length < l.length then ((upto c l).length : Int) else -1
  | [] => by simp [index, upto]
  | b :: r => by
    by_cases hb : b = c
    · subst hb
      rw [index]; simp [List.isPrefixOf, upto]
    · have hp : ([c] : List UInt8).isPrefixOf (b :: r) = false := by simp [List.isPrefixOf, Ne.symm hb]
      have hix : index (b :: r) [c] = if index r [c] == -1 then -1 else index r [c] + 1 := by rw [index, hp]; simp
      rw [hix, index_upto c r]
      have e : (upto c (b :: r)) = b :: upto c r := by simp [upto, hb]
      rw [e]
      simp only [List.length_cons, Nat.add_lt_add_iff_right]
      split
      · rename_i h; simp [show ¬ (((upto c r).length : Int) = -1) by omega]
      · simp
theorem cut_upto (c : UInt8) (l : List UInt8) : cut l [c] = if (upto c l).length < l.length then (upto c l, l.drop ((upto c l).length + 1), true) else (l, [], false) := by
  unfold cut
  rw [index_upto]
  split
  · rw [if_pos (by omega)]
    simp only [Int.toNat_natCast, List.length_singleton]
    rw [← upto_take]
  · rw [if_neg (by omega)]
/-- The pairs of bytes, one by one; fuel: no less than the bytes. -/
def parseGo : Nat → List (ByteArray × ByteArray) → List UInt8 → Option (List (ByteArray × ByteArray))
  | 0, acc, l => if l = [] then some acc else none
  | n + 1, acc, l => if l = [] then some acc else
    if decide ((upto 0 l).length = l.length) || decide ((upto 61 (upto 0 l)).length = (upto 0 l).length) || !nameF (upto 61 (upto 0 l)) || acc.any (fun p => p.1.toList == (bstr (upto 61 (upto 0 l))).toList) || decide (255 < (upto 0 l).length - ((upto 61 (upto 0 l)).length + 1)) then none
    else parseGo n (acc ++ [(bstr (upto 61 (upto 0 l)), bstr ((upto 0 l).drop ((upto 61 (upto 0 l)).length + 1)))]) (l.drop ((upto 0 l).length + 1))
theorem letterF_first (c : Int) (b : Bool) (h : letterF c b = true) : letterF c false = true := by
  cases b
  · exact h
  · unfold letterF at h ⊢
    simp only [Bool.not_true, Bool.false_and, Bool.or_false] at h
    rw [h]; rfl
theorem letterF_61 (b : Bool) : letterF (61 : UInt8).toNat b = false := by cases b <;> decide
/-- The reference looks for letters, the program for the equals sign and at the name ahead of it: the same. -/
theorem name_upto (one : List UInt8) (t : Nat) (h1 : t ≤ one.length) (h2 : ∀ j (h : j < t) (h' : j < one.length), letterF (one[j]).toNat (decide (j = 0)) = true) (h3 : ∀ h : t < one.length, letterF (one[t]).toNat (decide (t = 0)) = false) :
    (decide ((upto 61 one).length = one.length) || !nameF (upto 61 one)) = (decide (t = one.length) || !decide (one[t]? = some 61) || decide (t = 0) || decide (63 < t)) ∧ (one[t]? = some 61 → (upto 61 one).length = t) := by
  have hne : ∀ j (h : j < t) (h' : j < one.length), one[j] ≠ 61 := fun j h h' e => by
    have := h2 j h h'
    rw [e, letterF_61] at this
    cases this
  by_cases ht : t < one.length
  · have hget : one[t]? = some one[t] := by simp [ht]
    rw [hget]
    by_cases h61 : one[t] = 61
    · have hl : (upto 61 one).length = t := upto_len 61 one t h1 hne (fun _ => h61)
      refine ⟨?_, fun _ => hl⟩
      have htake : upto 61 one = one.take t := by rw [← hl]; exact upto_take 61 one
      rw [hl]
      have a1 : decide (t = one.length) = false := by simp; omega
      rw [a1, h61]
      simp only [Bool.false_or, decide_true, Bool.not_true]
      rw [htake]
      unfold nameF
      rw [List.length_take, Nat.min_eq_left h1]
      cases t with
      | zero => simp
      | succ t =>
        have hall : (one.take (t + 1)).all (fun c => otherF c.toNat) = true := by
          rw [List.all_eq_true]
          intro c hc
          obtain ⟨j, hj, rfl⟩ := List.getElem_of_mem hc
          rw [List.length_take] at hj
          rw [List.getElem_take]
          exact letterF_first _ _ (h2 j (by omega) (by omega))
        rw [hall]
        have h0 := h2 0 (by omega) (by omega)
        cases one with
        | nil => simp at ht
        | cons b r =>
          simp only [List.getElem_cons_zero, decide_true] at h0
          simp only [List.take_succ_cons, h0]
          rw [Bool.eq_iff_iff]
          simp only [Bool.or_eq_true, Bool.and_true, Bool.not_eq_true', decide_eq_true_eq, decide_eq_false_iff_not, List.length_cons]
          simp only [List.length_cons] at ht
          omega
    · refine ⟨?_, fun e => absurd (Option.some.inj e) h61⟩
      have a1 : decide (some one[t] = some (61 : UInt8)) = false := by simp [h61]
      rw [a1]
      simp only [Bool.not_false, Bool.or_true, Bool.true_or]
      by_cases hk : (upto 61 one).length = one.length
      · simp [hk]
      · have hlt : (upto 61 one).length < one.length := by have := upto_le 61 one; omega
        have hgt : t < (upto 61 one).length := by
          rcases Nat.lt_trichotomy t (upto 61 one).length with h | h | h
          · exact h
          · exfalso; apply h61; have := upto_at 61 one hlt; simp only [← h] at this; exact this
          · exfalso; exact hne _ h hlt (upto_at 61 one hlt)
        have hn : nameF (upto 61 one) = false := by
          have hk : (upto 61 one)[t] = one[t] := by
            have := upto_take 61 one
            rw [List.getElem_of_eq this, List.getElem_take]
          have hl3 := h3 ht
          unfold nameF
          cases t with
          | zero =>
            cases hu : upto 61 one with
            | nil => simp
            | cons b r =>
              have : b = one[0] := by rw [← hk]; simp [hu]
              simp only [decide_true] at hl3
              simp only [this, hl3, Bool.and_false, Bool.false_and]
          | succ t =>
            have : (upto 61 one).all (fun c => otherF c.toNat) = false := by
              rw [List.all_eq_false]
              refine ⟨(upto 61 one)[t + 1], List.getElem_mem _, ?_⟩
              rw [hk]
              simp only [show decide (t + 1 = 0) = false by simp] at hl3
              simp [otherF, hl3]
            rw [this, Bool.and_false]
        simp [hn]
  · have e : t = one.length := by omega
    refine ⟨?_, fun h => by rw [List.getElem?_eq_none (by omega)] at h; cases h⟩
    have hl : (upto 61 one).length = t := upto_len 61 one t h1 hne (fun h => absurd h ht)
    rw [hl]; simp [e]
end Go.Proofs.YtnicmfboomibjaaDoor
