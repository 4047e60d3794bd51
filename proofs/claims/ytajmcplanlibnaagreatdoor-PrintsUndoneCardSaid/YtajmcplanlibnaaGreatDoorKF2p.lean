/- A table that is filled: plain. -/
import Derived.Test.YtajmcplanlibnaaGreatDoorKF1
set_option linter.unusedSimpArgs false
set_option linter.unusedVariables false
set_option linter.unnecessarySimpa false
namespace Go.Proofs.YtajmcplanlibnaaGreatDoor
open Go.RowKit Go.Maps
def digF (seed : Int) (alike : Bool) (i : Nat) : List Int := if alike then seed :: 9 :: (zer 28 ++ [(i : Int), (i : Int)]) else seed :: (i : Int) :: zer 30
theorem digF_ok (seed : Int) (hs : 0 ≤ seed ∧ seed < 256) (alike : Bool) (i : Nat) (hi : i < 256) : (digF seed alike i).length = 32 ∧ U8s (digF seed alike i) := by
  cases alike
  · refine ⟨rfl, fun x hx => ?_⟩
    simp only [digF, Bool.false_eq_true, if_false, List.mem_cons] at hx
    rcases hx with rfl | rfl | hx
    · exact hs
    · omega
    · exact zer_u8 30 x hx
  · refine ⟨rfl, fun x hx => ?_⟩
    simp only [digF, if_true, List.mem_cons, List.mem_append, List.not_mem_nil, or_false] at hx
    rcases hx with rfl | rfl | hx | rfl | rfl
    · exact hs
    · decide
    · exact zer_u8 28 x hx
    · omega
    · omega
theorem digF_inj {seed : Int} {alike : Bool} {i j : Nat} (h : digF seed alike i = digF seed alike j) : i = j := by
  cases alike
  · simp only [digF, Bool.false_eq_true, if_false, List.cons.injEq] at h
    omega
  · simp only [digF, if_true, List.cons.injEq, List.append_cancel_left_eq] at h
    omega
structure FillX (B : BookS) (n : Nat) (dig : Nat → List Int) (i : Nat) (g : Nat → Option Nat) : Prop where
  pages : ∀ p, p < n → B.view (3 + p) = match g p with
    | none => zer 64
    | some j => setP (dig j) j 1
  lt : ∀ p j, p < n → g p = some j → j < i
  has : ∀ j, j < i → ∃ p, p < n ∧ g p = some j
  inj : ∀ p q j, p < n → q < n → g p = some j → g q = some j → p = q
  free : ((List.range n).filter (fun p => (g p).isNone)).length = n - i
  le : i ≤ n
theorem FillX.start (n : Nat) (hn : n ≤ 195) (dig : Nat → List Int) : FillX freshB n dig 0 (fun _ => none) :=
  ⟨fun p hp => freshB_view _ (by omega), fun p j _ h => (by cases h), fun j hj => by omega, fun p q j _ _ h => (by cases h), by rw [List.filter_eq_self.2 (by simp)]; simp, by omega⟩
theorem filter_turn {n k : Nat} {P : Nat → Bool} (hk : k < n) (hP : P k = true) : ((List.range n).filter fun p => P p && !decide (p = k)).length + 1 = ((List.range n).filter P).length := by
  have key : ∀ m, ((List.range m).filter P).length = ((List.range m).filter fun p => P p && !decide (p = k)).length + (if k < m then 1 else 0) := by
    intro m
    induction m with
    | zero => simp
    | succ m ih =>
      rw [List.range_succ, List.filter_append, List.filter_append, List.length_append, List.length_append, ih]
      by_cases e : m = k
      · subst e
        simp [hP]
      · have h2 : (k < m + 1) ↔ k < m := by omega
        cases hq : P m <;> simp [hq, e, h2] <;> omega
  rw [key n, if_pos hk]
theorem FillX.step {B : BookS} {n : Nat} {dig : Nat → List Int} {i k : Nat} {g : Nat → Option Nat} (h : FillX B n dig i g) (hi : i < n) (hk : k < n) (hg : g k = none) :
    FillX (B.wrote (3 + k) (setP (dig i) i 1)) n dig (i + 1) (fun p => if p = k then some i else g p) := by
  refine ⟨fun p hp => ?_, fun p j hp hj => ?_, fun j hj => ?_, fun p q j hp hq h1 h2 => ?_, ?_, by omega⟩
  · rw [BookS.wrote_view]
    by_cases e : p = k
    · subst e; simp
    · rw [if_neg (by omega), if_neg e]; exact h.pages p hp
  · by_cases e : p = k
    · rw [if_pos e] at hj; cases hj; omega
    · rw [if_neg e] at hj; have := h.lt p j hp hj; omega
  · by_cases e : j = i
    · exact ⟨k, hk, by rw [if_pos rfl, e]⟩
    · obtain ⟨p, hp, hq⟩ := h.has j (by omega)
      refine ⟨p, hp, ?_⟩
      rw [if_neg (fun e' => by rw [e', hg] at hq; cases hq)]; exact hq
  · by_cases e1 : p = k
    · by_cases e2 : q = k
      · omega
      · rw [if_pos e1] at h1; rw [if_neg e2] at h2
        cases h1
        have := h.lt q i hq h2; omega
    · by_cases e2 : q = k
      · rw [if_neg e1] at h1; rw [if_pos e2] at h2
        cases h2
        have := h.lt p i hp h1; omega
      · rw [if_neg e1] at h1; rw [if_neg e2] at h2
        exact h.inj p q j hp hq h1 h2
  · have h1 := filter_turn (P := fun p => (g p).isNone) hk (by simp [hg])
    rw [h.free] at h1
    have e : (fun p => (if p = k then some i else g p).isNone) = fun p => (g p).isNone && !decide (p = k) := by
      funext p
      by_cases e : p = k <;> simp [e]
    rw [e]
    omega
theorem FillX.freeQ {B : BookS} {n : Nat} {dig : Nat → List Int} {i : Nat} {g : Nat → Option Nat} (h : FillX B n dig i g) (hd : ∀ j, j < i → (dig j).length = 32) (p : Nat) (hp : p < n) : freeQ B 3 p = (g p).isNone := by
  unfold YtajmcplanlibnaaGreatDoor.freeQ
  rw [h.pages p hp]
  cases hg : g p with
  | none => rfl
  | some j => simp only [Option.isNone_some]; rw [setP_is _ _ _ (hd j (h.lt p j hp hg))]; rfl
theorem FillX.free_some {B : BookS} {n : Nat} {dig : Nat → List Int} {i : Nat} {g : Nat → Option Nat} (h : FillX B n dig i g) (hd : ∀ j, j < i → (dig j).length = 32) (hi : i < n) (s : Nat) : ∃ k, seekO s n (YtajmcplanlibnaaGreatDoor.freeQ B 3) = some k ∧ k < n ∧ g k = none := by
  cases hs : seekO s n (YtajmcplanlibnaaGreatDoor.freeQ B 3) with
  | some k =>
    obtain ⟨h1, h2⟩ := seekO_spec hs
    rw [h.freeQ hd k h1] at h2
    exact ⟨k, rfl, h1, by simpa using h2⟩
  | none =>
    exfalso
    have hf := h.free
    have : ((List.range n).filter fun p => (g p).isNone) = [] := by
      rw [List.filter_eq_nil_iff]
      intro p hp
      have h1 := seekO_no hs p (List.mem_range.1 hp)
      rw [h.freeQ hd p (List.mem_range.1 hp)] at h1
      simp [h1]
    rw [this] at hf
    simp at hf; omega
theorem FillX.free_none {B : BookS} {n : Nat} {dig : Nat → List Int} {g : Nat → Option Nat} (h : FillX B n dig n g) (hd : ∀ j, j < n → (dig j).length = 32) (s : Nat) : seekO s n (YtajmcplanlibnaaGreatDoor.freeQ B 3) = none := by
  cases hs : seekO s n (YtajmcplanlibnaaGreatDoor.freeQ B 3) with
  | none => rfl
  | some k =>
    exfalso
    obtain ⟨h1, h2⟩ := seekO_spec hs
    rw [h.freeQ hd k h1] at h2
    have hf := h.free
    rw [Nat.sub_self] at hf
    have hm : k ∈ (List.range n).filter fun p => (g p).isNone := List.mem_filter.2 ⟨List.mem_range.2 h1, h2⟩
    rw [List.eq_nil_of_length_eq_zero hf] at hm
    cases hm
/-- What is found of an entry that is there: its place, its slot. -/
theorem FillX.find {B : BookS} {n : Nat} {dig : Nat → List Int} {i : Nat} {g : Nat → Option Nat} (h : FillX B n dig i g) (hd : ∀ j, j < i → (dig j).length = 32) (hinj : ∀ j k, dig j = dig k → j = k) (hib : i ≤ 256) (j : Nat) (hj : j < i) (s : Nat) :
    ∃ k, seekO s n (findQ B 3 (dig j)) = some k ∧ k < n ∧ g k = some j ∧ B.view (3 + k) = setP (dig j) j 1 := by
  have hq : ∀ p, p < n → findQ B 3 (dig j) p = decide (g p = some j) := fun p hp => by
    unfold findQ
    rw [h.pages p hp]
    cases hg : g p with
    | none => rfl
    | some m =>
      have hl := hd m (h.lt p m hp hg)
      simp only
      rw [setP_is _ _ _ hl, setP_dg _ _ _ hl (by decide), setP_refs _ _ _ hl (by decide) (by decide)]
      by_cases e : m = j
      · subst e; simp
      · have : dig m ≠ dig j := fun e' => e (hinj _ _ e')
        simp [this, e]
  cases hs : seekO s n (findQ B 3 (dig j)) with
  | some k =>
    obtain ⟨h1, h2⟩ := seekO_spec hs
    rw [hq k h1, decide_eq_true_iff] at h2
    refine ⟨k, rfl, h1, h2, ?_⟩
    rw [h.pages k h1, h2]
  | none =>
    exfalso
    obtain ⟨p, hp, hg⟩ := h.has j hj
    have := seekO_no hs p hp
    rw [hq p hp, hg] at this
    simp at this
theorem FillX.slot {B : BookS} {n : Nat} {dig : Nat → List Int} {i : Nat} {g : Nat → Option Nat} (h : FillX B n dig i g) (hd : ∀ j, j < i → (dig j).length = 32) (hib : i ≤ 256) (j : Nat) (hj : j < i) (s : Nat) :
    ∃ k, seekO s n (slotQ B 3 (j : Int)) = some k ∧ k < n ∧ g k = some j := by
  have hq : ∀ p, p < n → slotQ B 3 (j : Int) p = decide (g p = some j) := fun p hp => by
    unfold slotQ
    rw [h.pages p hp]
    cases hg : g p with
    | none => rfl
    | some m =>
      have hl := hd m (h.lt p m hp hg)
      have hm := h.lt p m hp hg
      simp only
      rw [setP_is _ _ _ hl, setP_slot _ _ _ hl (by decide) (by omega)]
      by_cases e : m = j
      · subst e; simp
      · have : (m : Int) ≠ j := by omega
        simp [this, e]
  cases hs : seekO s n (slotQ B 3 (j : Int)) with
  | some k =>
    obtain ⟨h1, h2⟩ := seekO_spec hs
    rw [hq k h1, decide_eq_true_iff] at h2
    exact ⟨k, rfl, h1, h2⟩
  | none =>
    exfalso
    obtain ⟨p, hp, hg⟩ := h.has j hj
    have := seekO_no hs p hp
    rw [hq p hp, hg] at this
    simp at this
end Go.Proofs.YtajmcplanlibnaaGreatDoor
