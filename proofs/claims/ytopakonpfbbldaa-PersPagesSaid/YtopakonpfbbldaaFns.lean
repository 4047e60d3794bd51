/- The plain functions of layer 10 (pers), as its Go text has them. No condition; no program is named. -/
import Derived.Lib.Hide
namespace Go.Proofs.Ytopakonpfbbldaa
set_option linter.unusedSimpArgs false
set_option linter.unusedVariables false

def keyF : List (Int × Int) → Int → Int × Bool
  | [], _ => (0, false)
  | (n, k) :: l, m => if n = m then (k, true) else keyF l m
theorem keyF_hit (ks : List (Int × Int)) (k : Nat) (h : k < ks.length) (n : Int) (he : ks[k].1 = n) : keyF (ks.drop k) n = (ks[k].2, true) := by
  rw [List.drop_eq_getElem_cons h]; unfold keyF; simp [he]
theorem keyF_miss (ks : List (Int × Int)) (k : Nat) (h : k < ks.length) (n : Int) (he : ¬ ks[k].1 = n) : keyF (ks.drop k) n = keyF (ks.drop (k + 1)) n := by
  rw [List.drop_eq_getElem_cons h]; rw [keyF]; simp [he]

def forAllF (t : Int) : Bool := t == 7 || t == 8
def knownF (t : Int) : Bool := t == 1 || t == 3 || (decide (5 ≤ t) && decide (t ≤ 8))
theorem rknownF_eq (t : Int) : (t == 1 || t == 3 || t == 5 || t == 6 || t == 7 || t == 8) = knownF t := by
  unfold knownF; rw [Bool.eq_iff_iff]; simp; omega
def holdsF (ks : List (Int × Int)) (h ty n : Int) : Bool := ty != 0 && (keyF ks n).2 && (h == n || forAllF ty)

/-- Is the list in order, from a nexus on? -/
def okF : Int → List (Int × Int) → Bool
  | _, [] => true
  | last, (n, k) :: l => decide (0 ≤ n) && decide (n < 8) && k != 0 && decide (last < n) && okF n l
def lastF (ks : List (Int × Int)) : Nat → Int
  | 0 => -1
  | k + 1 => (ks.getD k (0, 0)).1
theorem okF_step (ks : List (Int × Int)) (k : Nat) (h : k < ks.length) :
    okF (lastF ks k) (ks.drop k) = (decide (0 ≤ ks[k].1) && decide (ks[k].1 < 8) && ks[k].2 != 0 && decide (lastF ks k < ks[k].1) && okF (lastF ks (k + 1)) (ks.drop (k + 1))) := by
  rw [List.drop_eq_getElem_cons h]; simp [okF, lastF, h]
theorem okF_go (ks : List (Int × Int)) (k : Nat) (h : k < ks.length) (a : 0 ≤ ks[k].1) (b : ks[k].1 < 8) (c : ¬ ks[k].2 = 0) (d : 0 < k → lastF ks k < ks[k].1) :
    okF (lastF ks k) (ks.drop k) = okF (lastF ks (k + 1)) (ks.drop (k + 1)) := by
  have d' : lastF ks k < ks[k].1 := by
    rcases Nat.eq_zero_or_pos k with rfl | h0
    · show (-1 : Int) < _; omega
    · exact d h0
  rw [okF_step ks k h]; simp [a, b, c, d']
def headF (len : Nat) (h ty : Int) : Bool := decide (6 < len) || decide (h < -1) || decide (8 ≤ h) || ((h == -1) != (ty == 0)) || (ty != 0 && !knownF ty)
def soundF (ks : List (Int × Int)) (h ty : Int) : Bool := !headF ks.length h ty && okF (-1) ks && (h == -1 || (keyF ks h).2)

def barsF (ks : List (Int × Int)) (h ty n d : Int) : Bool :=
  if ty == 0 || holdsF ks h ty n then false
  else if d == 6 then ty == 3 || (decide (6 ≤ ty) && ty != 7 && !(keyF ks n).2)
  else if d == 7 || d == 8 || d == 9 || d == 10 || d == 11 then ty == 1 || ty == 3 || !(keyF ks n).2
  else false

/-- Who holds, and by which type, when those are left. -/
def withF (l : List (Int × Int)) (h ty : Int) : Int × Int :=
  if decide (0 ≤ h) && !(keyF l h).2 then (if forAllF ty && !l.isEmpty then ((l.headD (0, 0)).1, ty) else (-1, 0)) else (h, ty)

/-- The first registration of a nexus has that key. -/
def setF : List (Int × Int) → Int → Int → List (Int × Int)
  | [], _, _ => []
  | (m, x) :: l, n, k => if m = n then (m, k) :: l else (m, x) :: setF l n k
/-- A registration, ahead of the first that isn't below it. -/
def insF : List (Int × Int) → Int → Int → List (Int × Int)
  | [], n, k => [(n, k)]
  | (m, x) :: l, n, k => if m < n then (m, x) :: insF l n k else (n, k) :: (m, x) :: l
def putF (ks : List (Int × Int)) (n k : Int) : List (Int × Int) × Bool :=
  if (keyF ks n).2 then (setF ks n k, true) else if ks.length = 6 then (ks, false) else (insF ks n k, true)
theorem keyF_at (ks : List (Int × Int)) (n : Int) : ∀ (i : Nat) (h : i < ks.length), ks[i].1 = n → (keyF ks n).2 = true := by
  induction ks with
  | nil => intro i h; simp at h
  | cons r l ih =>
    intro i h he
    by_cases hr : r.1 = n
    · simp [keyF, hr]
    · cases i with
      | zero => simp only [List.getElem_cons_zero] at he; exact absurd he hr
      | succ i => simp only [keyF, hr, if_false]; exact ih i (by simpa using h) (by simpa using he)
theorem keyF_no (ks : List (Int × Int)) (n : Int) (h : ∀ i (hi : i < ks.length), ks[i].1 ≠ n) : (keyF ks n).2 = false := by
  induction ks with
  | nil => rfl
  | cons r l ih =>
    have h0 := h 0 (by simp)
    simp only [List.getElem_cons_zero] at h0
    simp only [keyF, h0, if_false]
    exact ih fun i hi => by have := h (i + 1) (by simpa using hi); simpa using this
theorem setF_at (ks : List (Int × Int)) (n k : Int) : ∀ (i : Nat) (h : i < ks.length), (∀ j (hj : j < ks.length), j < i → ks[j].1 ≠ n) → ks[i].1 = n → setF ks n k = ks.set i (ks[i].1, k) := by
  induction ks with
  | nil => intro i h; simp at h
  | cons r l ih =>
    intro i h hn he
    cases i with
    | zero => simp only [List.getElem_cons_zero] at he ⊢; simp [setF, he]
    | succ i =>
      have h0 := hn 0 (by simp) (by omega)
      simp only [List.getElem_cons_zero] at h0
      have h' : i < l.length := by simpa using h
      simp only [setF, h0, if_false, List.set_cons_succ, List.getElem_cons_succ]
      congr 1
      exact ih i h' (fun j hj hji => by have := hn (j + 1) (by simpa using hj) (by omega); simpa using this) (by simpa using he)
theorem insF_at (ks : List (Int × Int)) (n k : Int) : ∀ (i : Nat), i ≤ ks.length → (∀ j (hj : j < ks.length), j < i → ks[j].1 < n) → (∀ (h : i < ks.length), ¬ ks[i].1 < n) → insF ks n k = ks.take i ++ (n, k) :: ks.drop i := by
  induction ks with
  | nil => intro i h _ _; simp [insF]
  | cons r l ih =>
    intro i h hn he
    cases i with
    | zero =>
      have h0 := he (by simp)
      simp only [List.getElem_cons_zero] at h0
      simp [insF, h0]
    | succ i =>
      have h0 := hn 0 (by simp) (by omega)
      simp only [List.getElem_cons_zero] at h0
      simp only [insF, h0, if_true, List.take_succ_cons, List.drop_succ_cons, List.cons_append]
      congr 1
      exact ih i (by simpa using h) (fun j hj hji => by have := hn (j + 1) (by simpa using hj) (by omega); simpa using this) (fun h' => by have := he (by simpa using h'); simpa using this)

/-- A table. -/
structure Tab where
  g : Int
  ks : List (Int × Int)
  h : Int
  ty : Int
  ap : Bool

/-- Which registrations a preempting nexus names. -/
def namedF (takes : Bool) (other n : Int) (r : Int × Int) : Bool := if takes && other == 0 then r.1 != n else r.2 == other && (r.1 != n || !takes)
def othersF (l : List Int) (n : Int) : List Int := l.filter (· != n)
def u32 (n : Int) : Int := n % 4294967296

def takesF (t : Tab) (other : Int) : Bool := t.ty != 0 && (forAllF t.ty && other == 0 || !forAllF t.ty && other == (keyF t.ks t.h).1)
def preemptF (t : Tab) (n oty other : Int) : Tab × Int × List Int :=
  let takes := takesF t other
  if (other == 0 && !takes) || (takes && !knownF oty) then (t, 2, [])
  else if !(t.ks.any (namedF takes other n)) && !takes then (t, 24, [])
  else
    let l := t.ks.filter (fun r => !namedF takes other n r)
    ({ t with g := u32 (t.g + 1), ks := l, h := if takes then n else (withF l t.h t.ty).1, ty := if takes then oty else (withF l t.h t.ty).2 }, 0, othersF ((t.ks.filter (namedF takes other n)).map (·.1)) n)

end Go.Proofs.Ytopakonpfbbldaa
