/- A page says the table of which it was made; what a page says can be. No condition; no program is named. -/
import Derived.Test.YtopakonpfbbldaaFnsQ
namespace Go.Proofs.Ytopakonpfbbldaa
set_option linter.unusedSimpArgs false
set_option linter.unusedVariables false
theorem getD_set (l : List Int) (i j : Nat) (x : Int) (hj : j < l.length) : (l.set i x).getD j 0 = if i = j then x else l.getD j 0 := by
  by_cases h : i = j
  · subst h; simp [hj]
  · simp [h, hj]
theorem setB_at (l : List Int) (o : Nat) (x : Int) (j : Nat) (hj : j < l.length) : ∀ k, (setB l o x k).getD j 0 = if o ≤ j ∧ j < o + k then b8 x (j - o) else l.getD j 0
  | 0 => by simp [setB]; omega
  | k + 1 => by
    unfold setB
    rw [getD_set _ _ _ _ (by rw [setB_length]; exact hj), setB_at l o x j hj k]
    by_cases h : o + k = j
    · subst h; simp
    · by_cases h2 : o ≤ j ∧ j < o + k
      · rw [if_neg h, if_pos h2, if_pos (by omega)]
      · rw [if_neg h, if_neg h2, if_neg (by omega)]
theorem pgK_low (l : List Int) (ks : List (Int × Int)) (j : Nat) (hj : j < l.length) (hj8 : j < 8) : ∀ k, (pgK l ks k).getD j 0 = l.getD j 0
  | 0 => rfl
  | k + 1 => by
    unfold pgK
    rw [setB_at _ _ _ _ (by simp [pgK_length]; exact hj), if_neg (by omega), getD_set _ _ _ _ (by rw [pgK_length]; exact hj), if_neg (by omega)]
    exact pgK_low l ks j hj hj8 k
theorem pgK_hi (l : List Int) (ks : List (Int × Int)) (i j : Nat) (hj : j < 9) (hl : 8 + 9 * i + j < l.length) : ∀ k, i < k → (pgK l ks k).getD (8 + 9 * i + j) 0 = if j = 0 then (ks.getD i (0, 0)).1 else b8 (ks.getD i (0, 0)).2 (j - 1)
  | 0, h => by omega
  | k + 1, h => by
    unfold pgK
    rw [setB_at _ _ _ _ (by simp [pgK_length]; exact hl), getD_set _ _ _ _ (by rw [pgK_length]; exact hl)]
    by_cases hik : i = k
    · subst hik
      by_cases h0 : j = 0
      · subst h0; simp
      · rw [if_pos (by omega), if_neg h0]
        congr 1
        omega
    · rw [if_neg (by omega), if_neg (by omega)]
      exact pgK_hi l ks i j hj hl k (by omega)
theorem orB_b8 (p : List Int) (o : Nat) (x : Int) (h0 : 0 ≤ x) : ∀ k, (∀ j, j < k → p.getD (o + j) 0 = b8 x j) → orB p o k = x % 2 ^ (8 * k)
  | 0, _ => by simp [orB]
  | k + 1, h => by
    unfold orB
    rw [orB_b8 p o x h0 k (fun j hj => h j (by omega)), h k (by omega)]
    unfold b8
    obtain ⟨n, rfl⟩ := Int.eq_ofNat_of_zero_le h0
    have e2 : (2 : Int) ^ (8 * k) = ((2 ^ (8 * k) : Nat) : Int) := by rw [Int.natCast_pow]; rfl
    have e : (2 : Int) ^ (8 * (k + 1)) = ((2 ^ (8 * k) * 256 : Nat) : Int) := by rw [show 8 * (k + 1) = 8 * k + 8 by omega, Int.pow_add, e2, Int.natCast_mul]; rfl
    rw [e, e2]
    generalize 2 ^ (8 * k) = P
    have h3 := Nat.mod_mul (a := P) (b := 256) (x := n)
    rw [Nat.mul_comm P (n / P % 256)] at h3
    show (n : Int) % (P : Int) + (n : Int) / (P : Int) % 256 * (P : Int) = (n : Int) % ((P * 256 : Nat) : Int)
    rw [← Int.natCast_emod n (P * 256), h3, Int.natCast_add, Int.natCast_mul, Int.natCast_emod, Int.natCast_emod, Int.natCast_ediv]
    rfl
theorem pageF_low (t : Tab) (j : Nat) (hj : j < 4) : (pageF t).getD j 0 = (pg4 t).getD j 0 := by
  unfold pageF
  rw [pgK_low _ _ j (by rw [setB_length, pg4_length]; omega) (by omega), setB_at _ _ _ _ (by rw [pg4_length]; omega), if_neg (by omega)]
theorem pageF_gen (t : Tab) (j : Nat) (hj : j < 4) : (pageF t).getD (4 + j) 0 = b8 t.g j := by
  unfold pageF
  rw [pgK_low _ _ _ (by rw [setB_length, pg4_length]; omega) (by omega), setB_at _ _ _ _ (by rw [pg4_length]; omega), if_pos (by omega)]
  congr 1; omega
theorem page_parse (t : Tab) (hs : soundT t = true) (hh : -1 ≤ t.h) (hg0 : 0 ≤ t.g) (hg1 : t.g < 4294967296) (hk : ∀ r ∈ t.ks, 0 ≤ r.2 ∧ r.2 < 18446744073709551616) : readF (pageF t) = { t with ap := true } := by
  have hl := (sound_inv hs).1
  have p0 : (pageF t).getD 0 0 = 82 := by rw [pageF_low t 0 (by omega)]; simp [pg4]
  have p1 : (pageF t).getD 1 0 = t.h + 1 := by rw [pageF_low t 1 (by omega)]; simp [pg4]
  have p2 : (pageF t).getD 2 0 = t.ty := by rw [pageF_low t 2 (by omega)]; simp [pg4]
  have p3 : (pageF t).getD 3 0 = (t.ks.length : Int) := by rw [pageF_low t 3 (by omega)]; simp [pg4]
  have hn : nR (pageF t) = t.ks.length := by unfold nR; rw [p3]; split <;> omega
  have hgg : orB (pageF t) 4 4 = t.g := by
    rw [orB_b8 _ _ t.g hg0 4 (fun j hj => pageF_gen t j hj)]
    exact Int.emod_eq_of_lt hg0 (by simpa using hg1)
  have hks : ksR (pageF t) t.ks.length = t.ks := by
    apply List.ext_getElem (by simp [ksR])
    intro i h1 h2
    have hq : ∀ j, j < 9 → (pageF t).getD (8 + 9 * i + j) 0 = if j = 0 then t.ks[i].1 else b8 t.ks[i].2 (j - 1) := fun j hj => by
      unfold pageF
      rw [pgK_hi _ _ i j hj (by rw [setB_length, pg4_length]; omega) _ h2, show t.ks.getD i (0, 0) = t.ks[i] by simp [h2]]
    obtain ⟨k0, k1⟩ := hk t.ks[i] (List.getElem_mem h2)
    simp only [ksR, List.getElem_map, List.getElem_range]
    apply Prod.ext
    · simpa using hq 0 (by omega)
    · show orB (pageF t) (9 + 9 * i) 8 = t.ks[i].2
      rw [orB_b8 _ _ t.ks[i].2 k0 8 (fun j hj => by
        have := hq (j + 1) (by omega)
        rw [show 8 + 9 * i + (j + 1) = 9 + 9 * i + j by omega] at this
        simpa using this)]
      exact Int.emod_eq_of_lt k0 (by simpa using k1)
  have hp : parseT (pageF t) = { t with ap := true } := by
    unfold parseT
    rw [hgg, hn, hks, p1, p2, show t.h + 1 - 1 = t.h by omega]
  have hs2 : soundT { t with ap := true } = true := hs
  have hpg : pageF { t with ap := true } = pageF t := rfl
  unfold readF
  rw [hp, p0, hs2, hpg]
  simp
theorem read_zero : readF (List.replicate 64 0) = ⟨0, [], -1, 0, false⟩ := by unfold readF; simp
theorem read_sound (p : List Int) : soundT (readF p) = true := by
  unfold readF
  split
  · rfl
  · rename_i h
    simp only [Bool.or_eq_true, not_or, Bool.not_eq_true, Bool.not_eq_false'] at h
    exact h.1.2
theorem read_ap (p : List Int) : (readF p).ap = true ∨ readF p = ⟨0, [], -1, 0, false⟩ := by
  unfold readF
  split
  · exact .inr rfl
  · exact .inl rfl
def Bytes (l : List Int) : Prop := ∀ x ∈ l, 0 ≤ x ∧ x < 256
theorem Bytes.set {l : List Int} (h : Bytes l) (i : Nat) {x : Int} (h0 : 0 ≤ x) (h1 : x < 256) : Bytes (l.set i x) := fun y hy => by
  rcases List.mem_or_eq_of_mem_set hy with e | e
  · exact h y e
  · subst e; exact ⟨h0, h1⟩
theorem Bytes.setB {l : List Int} (h : Bytes l) (o : Nat) (x : Int) : ∀ k, Bytes (setB l o x k)
  | 0 => h
  | k + 1 => (Bytes.setB h o x k).set _ (Int.emod_nonneg _ (by decide)) (Int.emod_lt_of_pos _ (by decide))
theorem pageF_bytes (t : Tab) (hl : t.ks.length ≤ 6) (h0 : -1 ≤ t.h) (h1 : t.h < 8) (t0 : 0 ≤ t.ty) (t1 : t.ty ≤ 8) (hk : ∀ r ∈ t.ks, 0 ≤ r.1 ∧ r.1 < 8) : Bytes (pageF t) := by
  have hz : Bytes (List.replicate 64 0) := fun x hx => by rw [List.mem_replicate] at hx; omega
  have h4 : Bytes (pg4 t) := (((hz.set 0 (x := 82) (by decide) (by decide)).set 1 (x := t.h + 1) (by omega) (by omega)).set 2 (x := t.ty) t0 (by omega)).set 3 (x := (t.ks.length : Int)) (by omega) (by omega)
  have hK : ∀ k, Bytes (pgK (setB (pg4 t) 4 t.g 4) t.ks k) := fun k => by
    induction k with
    | zero => exact h4.setB _ _ _
    | succ k ih =>
      have hk2 : 0 ≤ (t.ks.getD k (0, 0)).1 ∧ (t.ks.getD k (0, 0)).1 < 8 := by
        by_cases h : k < t.ks.length
        · rw [show t.ks.getD k (0, 0) = t.ks[k] by simp [h]]; exact hk _ (List.getElem_mem h)
        · rw [show t.ks.getD k (0, 0) = (0, 0) by simp [h]]; decide
      exact (ih.set _ hk2.1 (by omega)).setB _ _ _
  exact hK _
theorem okF_pos : ∀ (ks : List (Int × Int)) (last : Int), okF last ks = true → ∀ r ∈ ks, 0 ≤ r.1
  | [], _, _ => by simp
  | r :: l, last, h => by
    simp only [okF, Bool.and_eq_true, decide_eq_true_eq] at h
    intro x hx
    simp only [List.mem_cons] at hx
    rcases hx with rfl | hx
    · exact h.1.1.1.1
    · exact okF_pos l r.1 h.2 x hx
theorem th_h {t : Tab} (hs : soundT t = true) : -1 ≤ t.h := by
  rcases (sound_inv hs).2.2 with e | e <;> omega
theorem th_t0 {t : Tab} (hs : soundT t = true) : 0 ≤ t.ty := by
  rcases (sound_inv hs).2.2 with e | e
  · omega
  · have := e.2.1
    simp [knownF] at this
    omega
end Go.Proofs.Ytopakonpfbbldaa
