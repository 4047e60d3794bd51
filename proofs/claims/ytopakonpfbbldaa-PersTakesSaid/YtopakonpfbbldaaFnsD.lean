/- Clear, and who registers and unregisters: what they make of a table that can be. No program is named. -/
import Derived.Test.YtopakonpfbbldaaFnsC
namespace Go.Proofs.Ytopakonpfbbldaa
set_option linter.unusedSimpArgs false
set_option linter.unusedVariables false
theorem others_none (ks : List (Int × Int)) : ∀ (last n : Int), okF last ks = true → n ≤ last → othersF (ks.map (·.1)) n = ks.map (·.1) := by
  induction ks with
  | nil => intro last n _ _; rfl
  | cons r l ih =>
    intro last n h hn
    obtain ⟨a, b⟩ := r
    simp only [okF, Bool.and_eq_true, decide_eq_true_eq] at h
    have := ih a n h.2 (by omega)
    unfold othersF at this ⊢
    rw [List.map_cons, List.filter_cons, if_pos (by simp; omega), this]
theorem others_len (ks : List (Int × Int)) : ∀ (last : Int) (i : Nat) (hi : i < ks.length), okF last ks = true → (othersF (ks.map (·.1)) ks[i].1).length + 1 = ks.length := by
  induction ks with
  | nil => intro last i hi; simp at hi
  | cons r l ih =>
    intro last i hi h
    obtain ⟨a, b⟩ := r
    simp only [okF, Bool.and_eq_true, decide_eq_true_eq] at h
    cases i with
    | zero =>
      have := others_none l a a h.2 (Int.le_refl _)
      unfold othersF at this ⊢
      rw [List.map_cons, List.filter_cons, if_neg (by simp)]
      simp only [List.getElem_cons_zero]
      rw [this]; simp
    | succ i =>
      have hi' : i < l.length := by simpa using hi
      have hne : a ≠ l[i].1 := by
        have hm := okF_mem l a l[i].1 h.2 (keyF_at l _ i hi' rfl)
        omega
      have := ih a i hi' h.2
      unfold othersF at this ⊢
      rw [List.map_cons, List.filter_cons, List.getElem_cons_succ, if_pos (by simpa using hne)]
      simpa using this
theorem key_at (ks : List (Int × Int)) : ∀ (last : Int) (i : Nat) (hi : i < ks.length), okF last ks = true → keyF ks ks[i].1 = (ks[i].2, true) := by
  induction ks with
  | nil => intro last i hi; simp at hi
  | cons r l ih =>
    intro last i hi h
    obtain ⟨a, b⟩ := r
    simp only [okF, Bool.and_eq_true, decide_eq_true_eq] at h
    cases i with
    | zero => simp [keyF]
    | succ i =>
      have hi' : i < l.length := by simpa using hi
      have hne : a ≠ l[i].1 := by
        have hm := okF_mem l a l[i].1 h.2 (keyF_at l _ i hi' rfl)
        omega
      simp only [List.getElem_cons_succ, keyF, hne, if_false]
      exact ih a i hi' h.2
theorem clear_is (t : Tab) (hs : soundT t = true) (i : Nat) (hi : i < t.ks.length) (oty other : Int) (oap : Bool) : actF t t.ks[i].1 3 oty t.ks[i].2 other oap = ({ g := u32 (t.g + 1), ks := [], h := -1, ty := 0, ap := t.ap }, 0, othersF (t.ks.map (·.1)) t.ks[i].1) := by
  obtain ⟨_, hk, hh⟩ := sound_inv hs
  have hw : withF [] t.h t.ty = (-1, 0) := by
    unfold withF
    rcases hh with ⟨h1, h2⟩ | ⟨_, _, h3, _⟩
    · simp [h1, h2]
    · simp [h3, keyF]
  simp [actF, key_at t.ks (-1) i hi hk, hw]
theorem clear_no (t : Tab) (hs : soundT t = true) (i : Nat) (hi : i < t.ks.length) (oty other key : Int) (oap : Bool) (hne : key ≠ t.ks[i].2) : actF t t.ks[i].1 3 oty key other oap = (t, 24, []) := by
  obtain ⟨_, hk, _⟩ := sound_inv hs
  simp [actF, key_at t.ks (-1) i hi hk, hne]
/-- Who registers, not being registered, and unregisters: all is as it was, but the generation. -/
theorem join_is (t : Tab) (hs : soundT t = true) (n k : Int) (hn : (keyF t.ks n).2 = false) (hk0 : k ≠ 0) (hl : t.ks.length ≠ 6) :
    actF t n 0 0 0 k t.ap = ({ t with g := u32 (t.g + 1), ks := insF t.ks n k }, 0, []) ∧ (insF t.ks n k).length = t.ks.length + 1 ∧
    keyF (insF t.ks n k) n = (k, true) ∧ actF { t with g := u32 (t.g + 1), ks := insF t.ks n k } n 0 0 k 0 t.ap = ({ t with g := u32 (t.g + 2) }, 0, []) := by
  obtain ⟨_, hk, hh⟩ := sound_inv hs
  have hlen : ∀ (l : List (Int × Int)), (insF l n k).length = l.length + 1 := by
    intro l; induction l with
    | nil => rfl
    | cons r l ih => obtain ⟨a, b⟩ := r; simp only [insF]; split <;> simp [ih]
  have hkey : ∀ (l : List (Int × Int)), (keyF l n).2 = false → keyF (insF l n k) n = (k, true) := by
    intro l; induction l with
    | nil => intro _; simp [insF, keyF]
    | cons r l ih =>
      intro h
      obtain ⟨a, b⟩ := r
      by_cases e : a = n
      · simp [keyF, e] at h
      · simp only [keyF, e, if_false] at h
        simp only [insF]
        split
        · simp only [keyF, e, if_false]; exact ih h
        · simp [keyF]
  have hfil : ∀ (l : List (Int × Int)), (keyF l n).2 = false → (insF l n k).filter (fun r => !(r.1 == n)) = l := by
    intro l
    have hall : ∀ (l : List (Int × Int)), (keyF l n).2 = false → l.filter (fun r => !(r.1 == n)) = l := by
      intro l; induction l with
      | nil => intro _; rfl
      | cons r l ih =>
        intro h
        obtain ⟨a, b⟩ := r
        by_cases e : a = n
        · simp [keyF, e] at h
        · simp only [keyF, e, if_false] at h
          simp [e, ih h]
    induction l with
    | nil => intro _; simp [insF]
    | cons r l ih =>
      intro h
      obtain ⟨a, b⟩ := r
      have h' := h
      by_cases e : a = n
      · simp [keyF, e] at h
      · simp only [keyF, e, if_false] at h
        simp only [insF]
        split
        · simp [e, ih h]
        · rw [List.filter_cons]; simp only [beq_self_eq_true, Bool.not_true, Bool.false_eq_true, if_false]; exact hall _ h'
  have hw : withF t.ks t.h t.ty = (t.h, t.ty) := by
    unfold withF
    rcases hh with ⟨h1, _⟩ | ⟨_, _, _, h4⟩
    · simp [h1]
    · simp [h4]
  have hp : putF t.ks n k = (insF t.ks n k, true) := by simp [putF, hn, hl]
  have hu : u32 (u32 (t.g + 1) + 1) = u32 (t.g + 2) := by unfold u32; omega
  refine ⟨?_, hlen _, hkey _ hn, ?_⟩
  · simp [actF, hn, hp, hk0, keyF_zero]
  · simp [actF, hkey _ hn, hfil _ hn, hw, hu]
end Go.Proofs.Ytopakonpfbbldaa
