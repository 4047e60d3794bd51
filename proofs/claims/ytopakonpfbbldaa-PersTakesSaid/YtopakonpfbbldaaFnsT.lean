/- Who preempts the holder of a reservation: what comes of it. No program is named. -/
import Derived.Test.YtopakonpfbbldaaFnsD
namespace Go.Proofs.Ytopakonpfbbldaa
set_option linter.unusedSimpArgs false
set_option linter.unusedVariables false
theorem mem_of_key (l : List (Int × Int)) (m : Int) (h : (keyF l m).2 = true) : ∃ r ∈ l, r.1 = m := by
  induction l with
  | nil => cases h
  | cons r l ih =>
    obtain ⟨a, b⟩ := r
    by_cases e : a = m
    · exact ⟨(a, b), by simp, e⟩
    · simp only [keyF, e, if_false] at h
      obtain ⟨r, hr, he⟩ := ih h
      exact ⟨r, by simp [hr], he⟩
theorem key_mem (ks : List (Int × Int)) (hk : okF (-1) ks = true) (r : Int × Int) (hr : r ∈ ks) : keyF ks r.1 = (r.2, true) := by
  obtain ⟨i, hi, rfl⟩ := List.getElem_of_mem hr
  exact key_at ks (-1) i hi hk
theorem key_snoc (l : List (Int × Int)) (r : Int × Int) (n : Int) : keyF (l ++ [r]) n = if (keyF l n).2 then keyF l n else if r.1 = n then (r.2, true) else (0, false) := by
  induction l with
  | nil => obtain ⟨a, b⟩ := r; simp [keyF]
  | cons x l ih =>
    obtain ⟨a, b⟩ := x
    by_cases e : a = n
    · simp [keyF, e]
    · simp only [List.cons_append, keyF, e, if_false, ih]
theorem key_take (ks : List (Int × Int)) (hk : okF (-1) ks = true) (n : Int) (j : Nat) (hj : j < ks.length) : (keyF (ks.take (j + 1)) n).1 = if ks[j].1 = n then ks[j].2 else (keyF (ks.take j) n).1 := by
  rw [List.take_succ_eq_append_getElem hj, key_snoc]
  by_cases e : ks[j].1 = n
  · have hno : (keyF (ks.take j) n).2 = false := by
      cases h : (keyF (ks.take j) n).2
      · rfl
      · exfalso
        have hs : ∀ (l : List (Int × Int)) (last : Int) (j : Nat) (hj : j < l.length), okF last l = true → (keyF (l.take j) l[j].1).2 = false := by
          intro l
          induction l with
          | nil => intro last j hj; simp at hj
          | cons x l ih =>
            intro last j hj h
            obtain ⟨a, b⟩ := x
            simp only [okF, Bool.and_eq_true, decide_eq_true_eq] at h
            cases j with
            | zero => simp [keyF]
            | succ j =>
              have hj' : j < l.length := by simpa using hj
              have hne : a ≠ l[j].1 := by
                have hm := okF_mem l a l[j].1 h.2 (keyF_at l _ j hj' rfl)
                omega
              simp only [List.take_succ_cons, List.getElem_cons_succ, keyF, hne, if_false]
              exact ih a j hj' h.2
        have := hs ks (-1) j hj hk
        rw [e, h] at this; cases this
    simp [hno, e]
  · simp only [e, if_false]
    cases h : (keyF (ks.take j) n).2
    · simp [keyF_zero _ _ h]
    · simp
theorem takes_is (t : Tab) (hs : soundT t = true) (n typ : Int) (oap : Bool) (h0 : (t.ty == 0) = false) (h6 : decide (6 < t.ty) = false) (hr : (keyF t.ks n).2 = true) (hkn : knownF typ = true) :
    ∃ L G, actF t n 4 typ (keyF t.ks n).1 (keyF t.ks t.h).1 oap = (⟨u32 (t.g + 1), L, n, typ, t.ap⟩, 0, G) ∧ takesF t (keyF t.ks t.h).1 = true ∧ (t.ty != 0) = true ∧ forAllF t.ty = false ∧ ((keyF t.ks t.h).1 == 0) = false ∧
      (keyF L n).2 = true ∧ (∀ m ∈ G, (keyF L m).2 = false) ∧ L.length ≤ 6 ∧ G.length ≤ 6 := by
  obtain ⟨hl, hk, hh⟩ := sound_inv hs
  have hty : t.ty ≠ 0 := by simpa using h0
  rcases hh with ⟨_, h⟩ | ⟨_, h2, h3, h4⟩
  · exact absurd h hty
  have hfa : forAllF t.ty = false := by
    simp only [decide_eq_false_iff_not] at h6
    simp only [forAllF, Bool.or_eq_false_iff, beq_eq_false_iff_ne]; omega
  have hke := (okF_mem t.ks (-1) t.h hk h4).2.2.2
  have hk0 : ((keyF t.ks t.h).1 == 0) = false := by simpa using hke
  have htk : takesF t (keyF t.ks t.h).1 = true := by simp [takesF, hfa, bne, h0]
  refine ⟨t.ks.filter (fun r => !namedF true (keyF t.ks t.h).1 n r), othersF ((t.ks.filter (namedF true (keyF t.ks t.h).1 n)).map (·.1)) n, ?_, htk, by simp [bne, h0], hfa, hk0, ?_, ?_, Nat.le_trans (List.length_filter_le _ _) hl, ?_⟩
  · simp [actF, hr, preemptF, htk, hkn, hke]
  · obtain ⟨r, hrm, rfl⟩ := mem_of_key t.ks n hr
    have hin : r ∈ t.ks.filter (fun r' => !namedF true (keyF t.ks t.h).1 r.1 r') := List.mem_filter.2 ⟨hrm, by simp [namedF]⟩
    have := key_mem _ (filter_ok _ t.ks hk) r hin
    rw [this]
  · intro m hm
    have hm1 := (List.mem_filter.1 hm).1
    obtain ⟨r, hrm, rfl⟩ := List.mem_map.1 hm1
    have hr1 := List.mem_filter.1 hrm
    cases h : (keyF (t.ks.filter (fun r => !namedF true (keyF t.ks t.h).1 n r)) r.1).2
    · rfl
    · exfalso
      obtain ⟨r', hr', he⟩ := mem_of_key _ _ h
      have hr2 := List.mem_filter.1 hr'
      have e1 := key_mem t.ks hk r hr1.1
      have e2 := key_mem t.ks hk r' hr2.1
      rw [he] at e2
      have : r' = r := Prod.ext he (by have := e1.symm.trans e2; simp at this; exact this.symm)
      rw [this, hr1.2] at hr2
      simp at hr2
  · exact Nat.le_trans (List.length_filter_le _ _) (by rw [List.length_map]; exact Nat.le_trans (List.length_filter_le _ _) hl)
theorem nobody_is (t : Tab) (n typ other : Int) (oap : Bool) (hr : (keyF t.ks n).2 = false) : actF t n 4 typ 0 other oap = (t, 24, []) := by
  simp [actF, hr]
end Go.Proofs.Ytopakonpfbbldaa
