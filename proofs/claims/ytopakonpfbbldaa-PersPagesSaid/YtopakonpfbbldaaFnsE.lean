/- Keys by nexus, and registrations in their order: the two tell the same. No condition; no program is named. -/
import Derived.Test.YtopakonpfbbldaaFnsA
import Derived.Test.YtopakonpfbbldaaFnsR
namespace Go.Proofs.Ytopakonpfbbldaa
set_option linter.unusedSimpArgs false
set_option linter.unusedVariables false

/-- Keys by nexus as registrations, from a nexus on. -/
def regsF : Nat → List Int → List (Int × Int)
  | _, [] => []
  | i, k :: l => if k == 0 then regsF (i + 1) l else (((i : Nat) : Int), k) :: regsF (i + 1) l
theorem regsF_snoc (l : List Int) (k : Int) : ∀ i, regsF i (l ++ [k]) = regsF i l ++ (if k == 0 then [] else [(((i + l.length : Nat) : Int), k)]) := by
  induction l with
  | nil => intro i; simp [regsF]
  | cons x l ih =>
    intro i
    simp only [List.cons_append, regsF, ih, List.length_cons, show i + 1 + l.length = i + (l.length + 1) by omega]
    split <;> rfl
theorem regsF_le (l : List Int) : ∀ i, (regsF i l).length ≤ l.length := by
  induction l with
  | nil => intro i; simp [regsF]
  | cons x l ih => intro i; have := ih (i + 1); simp only [regsF]; split <;> simp <;> omega

/-- Nobody below a nexus is there. -/
theorem okF_no (ks : List (Int × Int)) : ∀ (last n : Int), okF last ks = true → n ≤ last → (keyF ks n) = (0, false) := by
  induction ks with
  | nil => intro last n _ _; rfl
  | cons r l ih =>
    intro last n h hn
    obtain ⟨a, b⟩ := r
    simp only [okF, Bool.and_eq_true, decide_eq_true_eq] at h
    simp only [keyF, show ¬ a = n by omega, if_false]
    exact ih a n h.2 (by omega)
theorem okF_mem (ks : List (Int × Int)) : ∀ (last n : Int), okF last ks = true → (keyF ks n).2 = true → last < n ∧ 0 ≤ n ∧ n < 8 ∧ (keyF ks n).1 ≠ 0 := by
  induction ks with
  | nil => intro last n _ h; cases h
  | cons r l ih =>
    intro last n h hn
    obtain ⟨a, b⟩ := r
    simp only [okF, Bool.and_eq_true, decide_eq_true_eq, bne_iff_ne] at h
    by_cases e : a = n
    · simp only [keyF, e, if_true]; subst e; exact ⟨by omega, by omega, by omega, h.1.1.2⟩
    · simp only [keyF, e, if_false] at hn ⊢
      have := ih a n h.2 hn
      exact ⟨by omega, this.2⟩
theorem keyF_zero (ks : List (Int × Int)) (n : Int) (h : (keyF ks n).2 = false) : (keyF ks n).1 = 0 := by
  induction ks with
  | nil => rfl
  | cons r l ih =>
    obtain ⟨a, b⟩ := r
    by_cases e : a = n
    · simp only [keyF, e, if_true] at h; cases h
    · simp only [keyF, e, if_false] at h ⊢; exact ih h
theorem foldl_get (ks : List (Int × Int)) : ∀ (last : Int) (acc : List Int) (j : Nat), okF last ks = true → acc.length = 8 → j < 8 → (ks.foldl keyPut acc).getD j 0 = if (keyF ks j).2 then (keyF ks j).1 else acc.getD j 0 := by
  induction ks with
  | nil => intro last acc j _ _ _; rfl
  | cons r l ih =>
    intro last acc j h ha hj
    obtain ⟨a, b⟩ := r
    simp only [okF, Bool.and_eq_true, decide_eq_true_eq, bne_iff_ne] at h
    have hp : keyPut acc (a, b) = acc.set a.toNat b := by simp [keyPut, h.1.1.1.1, h.1.1.1.2]
    rw [List.foldl_cons, ih a _ j h.2 (by rw [keyPut_length]; exact ha) hj, hp]
    by_cases e : a = (j : Int)
    · have hno : keyF l j = (0, false) := okF_no l a j h.2 (by omega)
      subst e
      simp [keyF, hno, ha, hj]
    · have ht : a.toNat ≠ j := by omega
      simp only [keyF, e, if_false]
      split
      · rfl
      · simp [ht]
/-- The key of each nexus. -/
theorem keysF_get (ks : List (Int × Int)) (h : okF (-1) ks = true) (j : Nat) (hj : j < 8) : (keysF ks).getD j 0 = (keyF ks j).1 := by
  unfold keysF
  rw [foldl_get ks (-1) _ j h (by simp) hj]
  split
  · rfl
  · rename_i hn
    rw [keyF_zero ks j (by simpa using hn)]
    have : j = 0 ∨ j = 1 ∨ j = 2 ∨ j = 3 ∨ j = 4 ∨ j = 5 ∨ j = 6 ∨ j = 7 := by omega
    rcases this with rfl | rfl | rfl | rfl | rfl | rfl | rfl | rfl <;> rfl
theorem keysF_eq (ks : List (Int × Int)) (h : okF (-1) ks = true) : keysF ks = (List.range' 0 8).map fun j => (keyF ks (j : Nat)).1 := by
  apply List.ext_getElem
  · simp [keysF_length]
  · intro j h1 h2
    have hj : j < 8 := by rw [keysF_length] at h1; exact h1
    have := keysF_get ks h j hj
    rw [List.getD_eq_getElem?_getD, List.getElem?_eq_getElem h1] at this
    simpa using this
theorem regs_back (m : Nat) : ∀ (i : Nat) (ks : List (Int × Int)), i + m = 8 → okF ((i : Int) - 1) ks = true → regsF i ((List.range' i m).map fun j => (keyF ks (j : Nat)).1) = ks := by
  induction m with
  | zero =>
    intro i ks hi h
    cases ks with
    | nil => rfl
    | cons r l =>
      obtain ⟨a, b⟩ := r
      simp only [okF, Bool.and_eq_true, decide_eq_true_eq, bne_iff_ne] at h
      omega
  | succ m ih =>
    intro i ks hi h
    rw [List.range'_succ, List.map_cons]
    cases ks with
    | nil => simp only [keyF, regsF]; have := ih (i + 1) [] (by omega) rfl; simpa [keyF] using this
    | cons r l =>
      obtain ⟨a, b⟩ := r
      have h' := h
      simp only [okF, Bool.and_eq_true, decide_eq_true_eq, bne_iff_ne] at h
      by_cases e : a = (i : Int)
      · have hrest : ((List.range' (i + 1) m).map fun j => (keyF ((a, b) :: l) (j : Nat)).1) = (List.range' (i + 1) m).map fun j => (keyF l (j : Nat)).1 := by
          apply List.map_congr_left
          intro j hj
          rw [List.mem_range'_1] at hj
          simp only [keyF, show ¬ a = (j : Int) by omega, if_false]
        rw [hrest]
        have hk : (keyF ((a, b) :: l) (i : Nat)).1 = b := by simp [keyF, e]
        rw [hk]
        simp only [regsF, beq_iff_eq, h.1.1.2, if_false]
        rw [ih (i + 1) l (by omega) (by rw [show ((i + 1 : Nat) : Int) - 1 = a by omega]; exact h.2), e]
      · have hk : (keyF ((a, b) :: l) (i : Nat)).1 = 0 := by
          have : keyF l (i : Nat) = (0, false) := okF_no l a i h.2 (by omega)
          simp [keyF, e, this]
        rw [hk]
        simp only [regsF, beq_self_eq_true, if_true]
        apply ih (i + 1) _ (by omega)
        simp only [okF, Bool.and_eq_true, decide_eq_true_eq, bne_iff_ne]
        exact ⟨⟨h.1.1, by omega⟩, h.2⟩
/-- Registrations in their order are those of their keys by nexus. -/
theorem regs_keys (ks : List (Int × Int)) (h : okF (-1) ks = true) : regsF 0 (keysF ks) = ks := by
  rw [keysF_eq ks h]; exact regs_back 8 0 ks rfl (by simpa using h)

theorem regsF_ok (K : List Int) : ∀ (i : Nat) (last : Int), i + K.length ≤ 8 → last < i → okF last (regsF i K) = true := by
  induction K with
  | nil => intro i last _ _; rfl
  | cons k l ih =>
    intro i last h hl
    simp only [List.length_cons] at h
    simp only [regsF]
    split
    · exact ih (i + 1) last (by omega) (by omega)
    · rename_i hk
      simp only [okF, Bool.and_eq_true, decide_eq_true_eq, bne_iff_ne]
      exact ⟨⟨⟨⟨by omega, by omega⟩, by simpa using hk⟩, hl⟩, ih (i + 1) i (by omega) (by omega)⟩
theorem regsF_key (K : List Int) : ∀ (i j : Nat), i ≤ j → keyF (regsF i K) (j : Nat) = (K.getD (j - i) 0, K.getD (j - i) 0 != 0) := by
  induction K with
  | nil => intro i j h; simp [regsF, keyF]
  | cons k l ih =>
    intro i j h
    by_cases e : j = i
    · subst e
      simp only [regsF, Nat.sub_self, List.getD_cons_zero]
      split
      · rename_i hk
        have hk0 : k = 0 := by simpa using hk
        have hno : keyF (regsF (j + 1) l) (j : Nat) = (0, false) := by
          apply keyF_none
          intro r hr
          have := regsF_mem l (j + 1) r hr
          omega
        rw [hno, hk0]; rfl
      · rename_i hk
        simp only [keyF, if_true]
        rw [show (k != 0) = true by simpa using hk]
    · have e1 : j - i = (j - (i + 1)) + 1 := by omega
      rw [e1, List.getD_cons_succ, ← ih (i + 1) j (by omega)]
      simp only [regsF]
      split
      · rfl
      · simp only [keyF, show ¬ ((i : Nat) : Int) = (j : Int) by omega, if_false]
where
  regsF_mem : ∀ (K : List Int) (i : Nat) (r : Int × Int), r ∈ regsF i K → (i : Int) ≤ r.1 := by
    intro K
    induction K with
    | nil => intro i r h; simp [regsF] at h
    | cons k l ih =>
      intro i r h
      simp only [regsF] at h
      split at h
      · have := ih (i + 1) r h; omega
      · rcases List.mem_cons.1 h with rfl | h
        · exact Int.le_refl _
        · have := ih (i + 1) r h; omega
  keyF_none {ks : List (Int × Int)} {n : Int} (h : ∀ r ∈ ks, r.1 ≠ n) : keyF ks n = (0, false) := by
    induction ks with
    | nil => rfl
    | cons r l ih =>
      obtain ⟨a, b⟩ := r
      have h0 := h (a, b) (by simp)
      simp only [ne_eq] at h0
      simp only [keyF, h0, if_false]
      exact ih fun r hr => h r (by simp [hr])
/-- Keys by nexus, as their registrations say them. -/
theorem regs_key (K : List Int) (n : Int) (h0 : 0 ≤ n) : keyF (regsF 0 K) n = (K.getD n.toNat 0, K.getD n.toNat 0 != 0) := by
  have := regsF_key K 0 n.toNat (Nat.zero_le _)
  rw [show ((n.toNat : Nat) : Int) = n by omega] at this
  simpa using this
theorem keys_regs (K : List Int) (h : K.length = 8) : keysF (regsF 0 K) = K := by
  have hok := regsF_ok K 0 (-1) (by omega) (by omega)
  apply List.ext_getElem
  · rw [keysF_length, h]
  · intro j h1 h2
    have hj : j < 8 := by omega
    have := keysF_get _ hok j hj
    rw [regs_key K j (by omega)] at this
    rw [List.getD_eq_getElem?_getD, List.getElem?_eq_getElem h1] at this
    simpa [h2] using this
end Go.Proofs.Ytopakonpfbbldaa
