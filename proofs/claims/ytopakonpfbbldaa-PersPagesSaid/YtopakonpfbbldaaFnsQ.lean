/- A table as a page. No condition; no program is named. -/
import Derived.Test.YtopakonpfbbldaaFnsC
namespace Go.Proofs.Ytopakonpfbbldaa
set_option linter.unusedSimpArgs false
set_option linter.unusedVariables false
def b8 (x : Int) (j : Nat) : Int := x / 2 ^ (8 * j) % 256
def setB (l : List Int) (o : Nat) (x : Int) : Nat → List Int
  | 0 => l
  | k + 1 => (setB l o x k).set (o + k) (b8 x k)
def pgK (l : List Int) (ks : List (Int × Int)) : Nat → List Int
  | 0 => l
  | k + 1 => setB ((pgK l ks k).set (8 + 9 * k) (ks.getD k (0, 0)).1) (9 + 9 * k) (ks.getD k (0, 0)).2 8
def pg4 (t : Tab) : List Int := ((((List.replicate 64 0).set 0 82).set 1 (t.h + 1)).set 2 t.ty).set 3 (t.ks.length : Int)
def pageF (t : Tab) : List Int := pgK (setB (pg4 t) 4 t.g 4) t.ks t.ks.length
theorem setB_length (l : List Int) (o : Nat) (x : Int) : ∀ k, (setB l o x k).length = l.length
  | 0 => rfl
  | k + 1 => by simp [setB, setB_length l o x k]
theorem pgK_length (l : List Int) (ks : List (Int × Int)) : ∀ k, (pgK l ks k).length = l.length
  | 0 => rfl
  | k + 1 => by simp [pgK, setB_length, pgK_length l ks k]
theorem pg4_length (t : Tab) : (pg4 t).length = 64 := by simp [pg4]
theorem pageF_length (t : Tab) : (pageF t).length = 64 := by simp [pageF, pgK_length, setB_length, pg4_length]
/-- Bytes as a number, low ones first. -/
def orB (p : List Int) (o : Nat) : Nat → Int
  | 0 => 0
  | k + 1 => orB p o k + p.getD (o + k) 0 * 2 ^ (8 * k)
theorem orB_lt (p : List Int) (hb : ∀ i, 0 ≤ p.getD i 0 ∧ p.getD i 0 < 256) (o : Nat) : ∀ k, 0 ≤ orB p o k ∧ orB p o k < 2 ^ (8 * k)
  | 0 => by simp [orB]
  | k + 1 => by
    obtain ⟨h0, h1⟩ := orB_lt p hb o k
    obtain ⟨b0, b1⟩ := hb (o + k)
    have hp : (0 : Int) < 2 ^ (8 * k) := Int.pow_pos (by decide)
    have e : (2 : Int) ^ (8 * (k + 1)) = 256 * 2 ^ (8 * k) := by rw [show 8 * (k + 1) = 8 * k + 8 by omega, Int.pow_add]; rw [Int.mul_comm]; rfl
    unfold orB
    generalize p.getD (o + k) 0 = x at b0 b1
    generalize (2 : Int) ^ (8 * k) = P at h1 hp e
    rw [e]
    have h2 : 0 ≤ x * P := Int.mul_nonneg b0 (by omega)
    have h3 : x * P ≤ 255 * P := Int.mul_le_mul_of_nonneg_right (by omega) (by omega)
    omega
/-- The registrations of a page. -/
def ksR (p : List Int) (n : Nat) : List (Int × Int) := (List.range n).map fun i => (p.getD (8 + 9 * i) 0, orB p (9 + 9 * i) 8)
theorem ksR_succ (p : List Int) (n : Nat) : ksR p (n + 1) = ksR p n ++ [(p.getD (8 + 9 * n) 0, orB p (9 + 9 * n) 8)] := by simp [ksR, List.range_succ]
theorem ksR_length (p : List Int) (n : Nat) : (ksR p n).length = n := by simp [ksR]
/-- What a page says. -/
def nR (p : List Int) : Nat := (if 6 < p.getD 3 0 then 6 else p.getD 3 0).toNat
def parseT (p : List Int) : Tab := ⟨orB p 4 4, ksR p (nR p), p.getD 1 0 - 1, p.getD 2 0, true⟩
def readF (p : List Int) : Tab := if (p.getD 0 0 != 82) || !soundT (parseT p) || pageF (parseT p) != p then ⟨0, [], -1, 0, false⟩ else parseT p
theorem th_lt {t : Tab} (hs : soundT t = true) : t.h < 8 := by
  simp only [soundT, rsoundF, Bool.and_eq_true] at hs
  have h2 := hs.2
  split at h2
  · simp at h2; omega
  · simp only [Bool.and_eq_true, decide_eq_true_eq] at h2; exact h2.1.2
theorem th_ty {t : Tab} (hs : soundT t = true) : t.ty ≤ 8 := by
  simp only [soundT, rsoundF, Bool.and_eq_true] at hs
  have h2 := hs.2
  split at h2
  · rename_i h; simp at h; omega
  · simp only [Bool.and_eq_true, decide_eq_true_eq] at h2
    have := h2.1.1.1
    simp [knownF] at this
    omega
theorem okF_all : ∀ (ks : List (Int × Int)) (last : Int), okF last ks = true → ∀ r ∈ ks, r.1 < 8
  | [], _, _ => by simp
  | r :: l, last, h => by
    simp only [okF, Bool.and_eq_true] at h
    intro x hx
    simp only [List.mem_cons] at hx
    rcases hx with rfl | hx
    · have h' := h
      simp at h'
      omega
    · exact okF_all l r.1 h.2 x hx
theorem ksR_ok (p : List Int) (hb : ∀ i, 0 ≤ p.getD i 0 ∧ p.getD i 0 < 256) (m : Nat) (hok : okF (-1) (ksR p m) = true) : ∀ r ∈ ksR p m, 0 ≤ r.1 ∧ r.1 < 8 ∧ 0 ≤ r.2 ∧ r.2 < 18446744073709551616 := by
  intro r hr
  have h8 := okF_all _ _ hok r hr
  simp only [ksR, List.mem_map] at hr
  obtain ⟨i, _, rfl⟩ := hr
  have h2 := orB_lt p hb (9 + 9 * i) 8
  exact ⟨(hb _).1, h8, h2.1, by have := h2.2; simpa using this⟩
end Go.Proofs.Ytopakonpfbbldaa
