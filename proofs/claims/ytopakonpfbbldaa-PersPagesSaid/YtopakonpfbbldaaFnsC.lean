/- What Act makes of a table that can be is what the reference makes of it; it can be, too. No program is named. -/
import Derived.Test.YtopakonpfbbldaaFnsB
namespace Go.Proofs.Ytopakonpfbbldaa
set_option linter.unusedSimpArgs false
set_option linter.unusedVariables false

def soundT (t : Tab) : Bool := rsoundF t.ks t.h t.ty
theorem soundT_ok {t : Tab} (h : soundT t = true) : okF (-1) t.ks = true := by simp only [soundT, rsoundF, Bool.and_eq_true] at h; exact h.1.2
theorem oneB_get (n : Int) (h0 : 0 ≤ n) (h8 : n < 8) (j : Nat) (hj : j < 8) (h' : j < (oneB n).length) : (oneB n)[j] = ((j : Int) == n) := by
  have : n = 0 ∨ n = 1 ∨ n = 2 ∨ n = 3 ∨ n = 4 ∨ n = 5 ∨ n = 6 ∨ n = 7 := by omega
  have hj' : j = 0 ∨ j = 1 ∨ j = 2 ∨ j = 3 ∨ j = 4 ∨ j = 5 ∨ j = 6 ∨ j = 7 := by omega
  rcases this with rfl | rfl | rfl | rfl | rfl | rfl | rfl | rfl <;> rcases hj' with rfl | rfl | rfl | rfl | rfl | rfl | rfl | rfl <;> rfl
theorem oneB_length (n : Int) : (oneB n).length = 8 := by simp [oneB]
/-- Without some: both ways. -/
theorem remove_same (t : Tab) (S : List Bool) (p : Int × Int → Bool) (hk : okF (-1) t.ks = true) (hl : S.length = 8) (hs : ∀ j (h : j < (keysF t.ks).length) (h' : j < S.length), (keysF t.ks)[j] ≠ 0 → S[j] = p ((j : Nat), (keysF t.ks)[j])) (but : Int) :
    rremoveF t S but = ({ t with ks := t.ks.filter (fun r => !p r), h := (withF (t.ks.filter (fun r => !p r)) t.h t.ty).1, ty := (withF (t.ks.filter (fun r => !p r)) t.h t.ty).2 }, othersF ((t.ks.filter p).map (·.1)) but) := by
  have hK := keysF_length t.ks
  have e1 : t.ks.filter (fun r => !p r) = regsF 0 (rmvK S (keysF t.ks)) := by
    conv => lhs; rw [← regs_keys t.ks hk]
    rw [filter_regs, rmv_keep (fun r => !p r) S (keysF t.ks) 0 (by omega) (fun j h h' hn => by simpa using hs j h h' hn)]
  have e2 : othersF ((t.ks.filter p).map (·.1)) but = goneK 0 S (keysF t.ks) but := by
    conv => lhs; rw [← regs_keys t.ks hk]
    exact gone_regs p but S (keysF t.ks) 0 (by omega) (fun j h h' hn => by simpa using hs j h h' hn)
  rw [e2, e1, with_regs]
  rfl

theorem pre_same (t : Tab) (n oty other : Int) (hs : soundT t = true) : preemptF t n oty other = rpreF t n oty other := by
  have hk := soundT_ok hs
  have htk : takesF t other = rtakesF t other := by
    unfold takesF rtakesF
    cases h0 : (t.ty == 0)
    · have hh : 0 ≤ t.h := by
        simp only [soundT, rsoundF, Bool.and_eq_true] at hs
        have := hs.2
        rw [h0] at this
        simp only [Bool.false_eq_true, if_false, Bool.and_eq_true, decide_eq_true_eq] at this
        exact this.1.1.2
      have hke := key_get t.ks t.h hk hh
      have hc : (other == (keysF t.ks).getD t.h.toNat 0) = ((keysF t.ks).getD t.h.toNat 0 == other) := by rw [Bool.eq_iff_iff, beq_iff_eq, beq_iff_eq]; exact eq_comm
      rw [hke]
      simp only [forAllF, rallF, hc]
    · simp [bne, h0]
  unfold preemptF rpreF
  simp only [htk]
  have hany : t.ks.any (namedF (rtakesF t other) other n) = (rsome (rtakesF t other) n other 0 (keysF t.ks)).any id := by
    conv => lhs; rw [← regs_keys t.ks hk]
    exact any_regs _ _ _ 0 (rsome_length _ _ _ _ _) (fun j h h' => rsome_get _ _ _ _ 0 j h h')
  rw [hany, remove_same t (rsome (rtakesF t other) n other 0 (keysF t.ks)) (namedF (rtakesF t other) other n) hk (by rw [rsome_length, keysF_length]) (fun j h h' hn => by
    rw [rsome_get _ _ _ _ 0 j h h', Nat.zero_add, show ((keysF t.ks)[j] != 0) = true by rw [bne_iff_ne]; exact hn, Bool.true_and]) n]

theorem act_same (t : Tab) (n ac oty key other : Int) (oap : Bool) (h0 : 0 ≤ n) (h8 : n < 8) (hs : soundT t = true) : actF t n ac oty key other oap = ractF t n ac oty key other oap := by
  have hk := soundT_ok hs
  have hke := key_get t.ks n hk h0
  have hho := holds_same t.ks t.h t.ty n hk
  unfold actF ractF
  simp only [hke, hho]
  by_cases hac : 0 ≤ ac ∧ ac ≤ 6
  · have e0 : (decide (ac < 0) || decide (6 < ac)) = false := by simp; omega
    simp only [e0, Bool.false_eq_true, if_false]
    by_cases h06 : (ac == 0 || ac == 6) = true
    · rw [if_pos h06, if_pos h06]
      unfold rregF
      simp only
      have hp := put_regs (keysF t.ks) n other h0 h8 (keysF_length _)
      rw [regs_keys t.ks hk] at hp
      have hrm := remove_same { t with g := u32 (t.g + 1), ap := oap } (oneB n) (fun r => r.1 == n) hk (oneB_length n) (fun j h h' _ => by
        rw [oneB_get n h0 h8 j (by rw [oneB_length] at h'; exact h') h']) n
      rw [hrm]
      generalize hm : (keysF t.ks).getD n.toNat 0 = m at *
      by_cases hm0 : m = 0
      · subst hm0
        by_cases hox : other = 0
        · subst hox
          by_cases a0 : ac = 0
          · subst a0
            by_cases hkk : key = 0
            · simp [hkk]
            · simp [hkk]
          · simp [a0]
        · rw [hp hox]
          by_cases hl6 : t.ks.length = 6
          · by_cases a0 : ac = 0
            · subst a0
              by_cases hkk : key = 0
              · simp [hkk, hox, hl6]
              · simp [hkk, hox, hl6]
            · simp [a0, hox, hl6]
          · by_cases a0 : ac = 0
            · subst a0
              by_cases hkk : key = 0
              · simp [hkk, hox, hl6]
              · simp [hkk, hox, hl6]
            · simp [a0, hox, hl6]
      · by_cases hox : other = 0
        · subst hox
          by_cases a0 : ac = 0
          · subst a0
            by_cases hkk : key = m
            · simp [hkk, hm0]
            · simp [hkk, hm0]
          · simp [a0, hm0]
        · rw [hp hox]
          by_cases a0 : ac = 0
          · subst a0
            by_cases hkk : key = m
            · simp [hkk, hox, hm0]
            · simp [hkk, hox, hm0]
          · simp [a0, hox, hm0]
    · rw [if_neg h06, if_neg h06]
      have h15 : (ac == 1 || ac == 2 || ac == 3 || ac == 4 || ac == 5) = true := by simp at h06 ⊢; omega
      rw [if_pos h15]
      have hrm := remove_same { t with g := u32 (t.g + 1) } (List.replicate 8 true) (fun _ => true) hk (by simp) (fun j h h' _ => List.getElem_replicate h') n
      have f1 : t.ks.filter (fun _ => false) = [] := by simp
      have f2 : t.ks.filter (fun _ => true) = t.ks := by simp
      rw [hrm, pre_same t n oty other hs]
      simp only [bne, Bool.not_not]
      by_cases hb : ((keysF t.ks).getD n.toNat 0 == 0 || !(key == (keysF t.ks).getD n.toNat 0)) = true
      · rw [if_pos hb, if_pos hb]
      · rw [if_neg hb, if_neg hb]
        have hm : ¬ ((keysF t.ks).getD n.toNat 0 == 0) = true := fun h => hb (by rw [h]; rfl)
        by_cases a1 : (ac == 1) = true
        · rw [if_pos a1, if_pos a1]
          cases hq : rholdsF t.ks t.h t.ty n <;> by_cases hz : t.ty = oty <;> simp [hz]
        · rw [if_neg a1, if_neg a1]
          by_cases a2 : (ac == 2) = true
          · rw [if_pos a2, if_pos a2]
            have : (t.ty == 0) = true → rholdsF t.ks t.h t.ty n = false := fun h => by simp [rholdsF, h]
            cases hq : rholdsF t.ks t.h t.ty n <;> cases hz : (t.ty == 0) <;> simp [hq, hz] at this ⊢
          · rw [if_neg a2, if_neg a2]
            simp only [Bool.not_true, f1, f2]
  · have e0 : (decide (ac < 0) || decide (6 < ac)) = true := by simp; omega
    have e1 : (ac == 0 || ac == 6) = false := by simp; omega
    have e2 : (ac == 1 || ac == 2 || ac == 3 || ac == 4 || ac == 5) = false := by simp; omega
    simp only [e0, e1, e2, Bool.false_eq_true, if_false, if_true]

/- What comes of an order can be. -/
theorem keepK_get (p : Int × Int → Bool) (K : List Int) : ∀ i j (_ : j < K.length), (keepK p i K).getD j 0 = if p (((i + j : Nat) : Int), K.getD j 0) then K.getD j 0 else 0 := by
  induction K with
  | nil => intro i j h; simp at h
  | cons k l ih =>
    intro i j h
    cases j with
    | zero => simp [keepK]
    | succ j =>
      have := ih (i + 1) j (by simpa using h)
      simp only [keepK, List.getD_cons_succ, this, show i + 1 + j = i + (j + 1) by omega]
theorem sound_mk (g h ty : Int) (ks : List (Int × Int)) (ap : Bool) (hl : ks.length ≤ 6) (hk : okF (-1) ks = true) (hh : (h = -1 ∧ ty = 0) ∨ (ty ≠ 0 ∧ knownF ty = true ∧ 0 ≤ h ∧ (keyF ks h).2 = true)) : soundT { g := g, ks := ks, h := h, ty := ty, ap := ap } = true := by
  simp only [soundT, ← sound_same, soundF, headF]
  rcases hh with ⟨rfl, rfl⟩ | ⟨h1, h2, h3, h4⟩
  · simp [hk]; omega
  · have := okF_mem ks (-1) h hk h4
    have e1 : (h == -1) = false := by simp; omega
    have e2 : (ty == 0) = false := by simpa using h1
    simp only [hk, h2, h4, e1, e2, bne]
    simp; omega
theorem sound_inv {t : Tab} (hs : soundT t = true) : t.ks.length ≤ 6 ∧ okF (-1) t.ks = true ∧ ((t.h = -1 ∧ t.ty = 0) ∨ (t.ty ≠ 0 ∧ knownF t.ty = true ∧ 0 ≤ t.h ∧ (keyF t.ks t.h).2 = true)) := by
  have hk := soundT_ok hs
  simp only [soundT, rsoundF, Bool.and_eq_true, decide_eq_true_eq] at hs
  refine ⟨hs.1.1, hk, ?_⟩
  have := hs.2
  split at this
  · rename_i h; left; simp at h this; exact ⟨this, h⟩
  · rename_i h
    right
    simp only [Bool.and_eq_true, decide_eq_true_eq] at this
    refine ⟨by simpa using h, this.1.1.1, this.1.1.2, ?_⟩
    rw [key_get t.ks t.h hk this.1.1.2]; exact this.2
theorem filter_ok (p : Int × Int → Bool) (ks : List (Int × Int)) (hk : okF (-1) ks = true) : okF (-1) (ks.filter p) = true := by
  rw [← regs_keys ks hk, filter_regs]
  exact regsF_ok _ 0 (-1) (by rw [keepK_length, keysF_length]; omega) (by omega)
theorem head_key (ks : List (Int × Int)) (h : ks ≠ []) : (keyF ks (ks.headD (0, 0)).1).2 = true := by
  cases ks with
  | nil => exact absurd rfl h
  | cons r l => obtain ⟨a, b⟩ := r; simp [keyF]
theorem head_pos (ks : List (Int × Int)) (hk : okF (-1) ks = true) (h : ks ≠ []) : 0 ≤ (ks.headD (0, 0)).1 := by
  have := okF_mem ks (-1) _ hk (head_key ks h); omega
theorem with_sound (g h ty : Int) (ap : Bool) (l : List (Int × Int)) (hl : l.length ≤ 6) (hk : okF (-1) l = true) (hh : (h = -1 ∧ ty = 0) ∨ (ty ≠ 0 ∧ knownF ty = true ∧ 0 ≤ h)) : soundT { g := g, ks := l, h := (withF l h ty).1, ty := (withF l h ty).2, ap := ap } = true := by
  apply sound_mk _ _ _ _ _ hl hk
  unfold withF
  rcases hh with ⟨rfl, rfl⟩ | ⟨h1, h2, h3⟩
  · left; simp
  · cases hkey : (keyF l h).2
    · by_cases hc : (forAllF ty && !l.isEmpty) = true
      · right
        have hne : l ≠ [] := by rintro rfl; simp at hc
        simp only [h3, decide_true, Bool.not_false, Bool.and_self, if_true, hc]
        exact ⟨h1, h2, head_pos l hk hne, head_key l hne⟩
      · left
        simp [h3, hc]
    · right
      simp only [Bool.not_true, Bool.and_false, Bool.false_eq_true, if_false]
      exact ⟨h1, h2, h3, hkey⟩
theorem put_ok (ks : List (Int × Int)) (n x : Int) (h0 : 0 ≤ n) (h8 : n < 8) (hx : x ≠ 0) (hk : okF (-1) ks = true) (hl : ks.length ≤ 6) (hp : (putF ks n x).2 = true) :
    okF (-1) (putF ks n x).1 = true ∧ (putF ks n x).1.length ≤ 6 ∧ ∀ m, (keyF ks m).2 = true → (keyF (putF ks n x).1 m).2 = true := by
  have hput := put_regs (keysF ks) n x h0 h8 (keysF_length _) hx
  rw [regs_keys ks hk] at hput
  have hset : okF (-1) (regsF 0 ((keysF ks).set n.toNat x)) = true := regsF_ok _ 0 (-1) (by simp [keysF_length]) (by omega)
  have hm : ∀ m, (keyF ks m).2 = true → (keyF (regsF 0 ((keysF ks).set n.toNat x)) m).2 = true := by
    intro m hm
    have hb := okF_mem ks (-1) m hk hm
    rw [regs_key _ m hb.2.1]
    rw [key_get ks m hk hb.2.1] at hm
    by_cases e : n.toNat = m.toNat
    · simp [e, keysF_length, show m.toNat < 8 by omega, hx]
    · simpa [e] using hm
  have hfst : (putF ks n x).1 = regsF 0 ((keysF ks).set n.toNat x) := by
    rw [hput] at hp ⊢
    split
    · split
      · rename_i a b; simp [b] at hp; simp_all
      · rfl
    · rfl
  rw [hfst]
  refine ⟨hset, ?_, hm⟩
  rw [← hfst]
  unfold putF at hp ⊢
  split
  · have : ∀ (l : List (Int × Int)), (setF l n x).length = l.length := by
      intro l; induction l with
      | nil => rfl
      | cons r l ih => obtain ⟨a, b⟩ := r; simp only [setF]; split <;> simp [ih]
    simp only [this]; exact hl
  · rename_i hno
    split
    · exact hl
    · rename_i h6
      have : ∀ (l : List (Int × Int)), (insF l n x).length = l.length + 1 := by
        intro l; induction l with
        | nil => rfl
        | cons r l ih => obtain ⟨a, b⟩ := r; simp only [insF]; split <;> simp [ih]
      simp only [this]; omega
theorem act_sound (t : Tab) (n ac oty key other : Int) (oap : Bool) (h0 : 0 ≤ n) (h8 : n < 8) (hs : soundT t = true) : soundT (actF t n ac oty key other oap).1 = true := by
  obtain ⟨hl, hk, hh⟩ := sound_inv hs
  have hh' : (t.h = -1 ∧ t.ty = 0) ∨ (t.ty ≠ 0 ∧ knownF t.ty = true ∧ 0 ≤ t.h) := by
    rcases hh with h | h
    · exact .inl h
    · exact .inr ⟨h.1, h.2.1, h.2.2.1⟩
  have hfl : ∀ p, (t.ks.filter p).length ≤ 6 := fun p => Nat.le_trans (List.length_filter_le _ _) hl
  unfold actF
  simp only
  split
  · split
    · exact hs
    · split
      · exact hs
      · split
        · exact with_sound _ _ _ _ _ (hfl _) (filter_ok _ _ hk) hh'
        · rename_i hx
          split
          · exact hs
          · rename_i hp
            have hp' : (putF t.ks n other).2 = true := by simpa using hp
            obtain ⟨p1, p2, p3⟩ := put_ok t.ks n other h0 h8 (by simpa using hx) hk hl hp'
            apply sound_mk _ _ _ _ _ p2 p1
            rcases hh with h | h
            · exact .inl h
            · exact .inr ⟨h.1, h.2.1, h.2.2.1, p3 _ h.2.2.2⟩
  · split
    · split
      · exact hs
      · rename_i hreg
        have hr : (keyF t.ks n).2 = true := by
          cases h : (keyF t.ks n).2
          · rw [h] at hreg; simp at hreg
          · rfl
        split
        · split
          · exact hs
          · rename_i hkn
            split
            · exact sound_mk _ _ _ _ _ hl hk (.inr ⟨by rintro rfl; simp [knownF] at hkn, by simpa using hkn, h0, hr⟩)
            · split
              · exact hs
              · exact hs
        · split
          · split
            · exact hs
            · split
              · exact hs
              · exact sound_mk _ _ _ _ _ hl hk (.inl ⟨rfl, rfl⟩)
          · split
            · exact with_sound _ _ _ _ [] (by simp) rfl hh'
            · unfold preemptF
              simp only
              split
              · exact hs
              · rename_i hbad
                split
                · exact hs
                · cases htk : takesF t other
                  · simp only [Bool.false_eq_true, if_false]
                    exact with_sound _ _ _ _ _ (hfl _) (filter_ok _ _ hk) hh'
                  · simp only [if_true]
                    rw [htk] at hbad
                    have hkn : knownF oty = true := by simp at hbad; exact hbad
                    apply sound_mk _ _ _ _ _ (hfl _) (filter_ok _ _ hk)
                    refine .inr ⟨by rintro rfl; simp [knownF] at hkn, hkn, h0, ?_⟩
                    have hkf := filter_ok (fun r => !namedF true other n r) t.ks hk
                    have hK := keysF_length t.ks
                    conv => lhs; rw [← regs_keys t.ks hk, filter_regs]
                    rw [regs_key _ n h0, keepK_get _ _ 0 n.toNat (by omega), Nat.zero_add, show ((n.toNat : Nat) : Int) = n by omega]
                    rw [key_get t.ks n hk h0] at hr
                    have hnn : namedF true other n (n, (keysF t.ks).getD n.toNat 0) = false := by simp [namedF]
                    simp only [hnn, Bool.not_false, if_true]
                    exact hr
    · exact hs
end Go.Proofs.Ytopakonpfbbldaa
