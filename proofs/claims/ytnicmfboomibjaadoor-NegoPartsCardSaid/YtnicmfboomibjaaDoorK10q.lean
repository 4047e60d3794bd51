/- One step of Parse, as the reference finds it: where the zero and the equals sign stand. -/
import Derived.Test.YtnicmfboomibjaaDoorK10p
namespace Go.Proofs.YtnicmfboomibjaaDoor
set_option linter.unusedSimpArgs false
set_option linter.unusedVariables false
open Go.RowKit Go.Lib
theorem or4 (a b c d e : Bool) : (a || b || !c || d || e) = (a || (b || !c) || d || e) := by cases a <;> cases b <;> cases c <;> rfl
theorem parse_at (bs : List UInt8) (k j t f : Nat) (acc : List (ByteArray × ByteArray)) (hk : k < bs.length) (hkj : k ≤ j) (hj : j ≤ bs.length) (HZ : ∀ i (h : i < bs.length), k ≤ i → i < j → bs[i] ≠ 0) (hE : ∀ h : j < bs.length, bs[j] = 0)
    (hkt : k ≤ t) (htj : t ≤ j) (HT : ∀ i (h : i < bs.length), k ≤ i → i < t → letterF bs[i].toNat (decide (i = k)) = true) (hL : ∀ (_ : t < j) (h : t < bs.length), letterF bs[t].toNat (decide (t = k)) = false) :
    parseGo (f + 1) acc (bs.drop k) = if decide (j = bs.length) || decide (t = j) || !decide (bs[t]? = some 61) || decide (t = k) || decide (63 < t - k) || decide (255 < j - t - 1) || acc.any (fun p => p.1.toList == (bstr ((bs.drop k).take (t - k))).toList) then none
      else parseGo f (acc ++ [(bstr ((bs.drop k).take (t - k)), bstr ((bs.drop (t + 1)).take (j - t - 1)))]) (bs.drop (j + 1)) := by
  have hne : bs.drop k ≠ [] := by intro e; have := congrArg List.length e; simp at this; omega
  have hu : (upto 0 (bs.drop k)).length = j - k := by
    refine upto_len 0 _ _ (by simp; omega) (fun i h h' => ?_) (fun h => ?_)
    · simp only [List.getElem_drop]; simp only [List.length_drop] at h'; exact HZ (k + i) (by omega) (by omega) (by omega)
    · simp only [List.getElem_drop]; simp only [List.length_drop] at h
      have := hE (by omega)
      simpa [show k + (j - k) = j by omega] using this
  have hone : upto 0 (bs.drop k) = (bs.drop k).take (j - k) := by rw [← hu]; exact upto_take 0 _
  have hlen : ((bs.drop k).take (j - k)).length = j - k := by rw [← hone]; exact hu
  have hget : ∀ i (h : i < ((bs.drop k).take (j - k)).length), ((bs.drop k).take (j - k))[i] = bs[k + i]'(by simp only [List.length_take, List.length_drop] at h; omega) := by
    intro i h; rw [List.getElem_take, List.getElem_drop]
  obtain ⟨hA, hB⟩ := name_upto ((bs.drop k).take (j - k)) (t - k) (by rw [hlen]; omega)
    (fun i h h' => by rw [hget]; have := HT (k + i) (by rw [hlen] at h'; omega) (by omega) (by omega); simpa using this)
    (fun h => by
      rw [hget]
      rw [hlen] at h
      have := hL (by omega) (by omega)
      simpa [show k + (t - k) = t by omega, show (t - k = 0) = (t = k) by rw [eq_iff_iff]; omega] using this)
  rw [parseGo, if_neg hne, hu, hone]
  rw [or4]
  rw [hlen] at hA
  rw [hA]
  have e0 : decide (j - k = (bs.drop k).length) = decide (j = bs.length) := by rw [Bool.eq_iff_iff]; simp; omega
  have e1 : decide (t - k = j - k) = decide (t = j) := by rw [Bool.eq_iff_iff]; simp; omega
  have e2 : decide (t - k = 0) = decide (t = k) := by rw [Bool.eq_iff_iff]; simp; omega
  rw [e0, e1, e2]
  have e3 : t ≠ j → ((bs.drop k).take (j - k))[t - k]? = bs[t]? := fun h => by
    rw [List.getElem?_take, if_pos (by omega), List.getElem?_drop, show k + (t - k) = t by omega]
  have hd : (bs.drop k).drop (j - k + 1) = bs.drop (j + 1) := by rw [List.drop_drop]; congr 1; omega
  by_cases c1 : t = j
  · simp [c1]
  · rw [e3 c1]
    rw [e3 c1] at hB
    by_cases c2 : bs[t]? = some 61
    · have hk2 := hB c2
      have ht : upto 61 ((bs.drop k).take (j - k)) = (bs.drop k).take (t - k) := by
        rw [upto_take 61 ((bs.drop k).take (j - k)), hk2, List.take_take]
        congr 1; omega
      have hv : ((bs.drop k).take (j - k)).drop (t - k + 1) = (bs.drop (t + 1)).take (j - t - 1) := by
        rw [List.drop_take, List.drop_drop, show k + (t - k + 1) = t + 1 by omega, show j - k - (t - k + 1) = j - t - 1 by omega]
      have e4 : decide (255 < j - k - (t - k + 1)) = decide (255 < j - t - 1) := by congr 2; omega
      rw [ht, hd]
      have hlt : ((bs.drop k).take (t - k)).length = t - k := by rw [← ht]; exact hk2
      rw [hlt, e4, hv]
      congr 1
      generalize decide (j = bs.length) = x1
      generalize decide (t = j) = x2
      generalize decide (t = k) = x3
      generalize decide (63 < t - k) = x4
      generalize decide (255 < j - t - 1) = x5
      generalize acc.any _ = x6
      simp only [c2]
      cases x1 <;> cases x2 <;> cases x3 <;> cases x4 <;> cases x5 <;> cases x6 <;> rfl
    · simp [c2]
end Go.Proofs.YtnicmfboomibjaaDoor
