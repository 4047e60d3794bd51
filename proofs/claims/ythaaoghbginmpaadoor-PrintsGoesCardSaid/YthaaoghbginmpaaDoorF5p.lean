/- A table out of which entries go: plain. -/
import Derived.Test.YthaaoghbginmpaaDoorF2p
import Derived.Test.YthaaoghbginmpaaDoorE7
set_option linter.unusedSimpArgs false
set_option linter.unusedVariables false
set_option linter.unnecessarySimpa false
namespace Go.Proofs.YthaaoghbginmpaaDoor
set_option linter.unusedSimpArgs false
set_option linter.unusedVariables false
open Go.RowKit Go.Maps Go.MapKept
def digG (i : Nat) : List Int := 9 :: 9 :: (i : Int) :: zer 29
theorem digG_ok (i : Nat) (hi : i < 256) : (digG i).length = 32 ∧ U8s (digG i) := by
  refine ⟨rfl, fun x hx => ?_⟩
  simp only [digG, List.mem_cons] at hx
  rcases hx with rfl | rfl | rfl | hx
  · decide
  · decide
  · omega
  · exact zer_u8 29 x hx
theorem digG_inj {i j : Nat} (h : digG i = digG j) : i = j := by
  simp only [digG, List.cons.injEq] at h
  omega
theorem filt2 (l : List Nat) (p : Nat → Bool) : (l.filter p).length + (l.filter fun x => !p x).length = l.length := by
  induction l with
  | nil => rfl
  | cons x l ih => cases h : p x <;> simp [h] <;> omega
/-- The table has these entries, so many, at these places. -/
structure GoX (B : BookS) (n : Nat) (S : Nat → Bool) (c : Nat) (g : Nat → Option Nat) : Prop where
  pages : ∀ p, p < n → B.view (3 + p) = match g p with
    | none => zer 64
    | some j => setP (digG j) j 2
  mem : ∀ p j, p < n → g p = some j → j < n ∧ S j = true
  has : ∀ j, j < n → S j = true → ∃ p, p < n ∧ g p = some j
  inj : ∀ p q j, p < n → q < n → g p = some j → g q = some j → p = q
  free : ((List.range n).filter (fun p => (g p).isNone)).length + c = n
theorem GoX.start (n : Nat) (hn : n ≤ 195) : GoX freshB n (fun _ => false) 0 (fun _ => none) :=
  ⟨fun p hp => freshB_view _ (by omega), fun p j _ h => (by cases h), fun j hj h => (by cases h), fun p q j _ _ h => (by cases h), by rw [List.filter_eq_self.2 (by simp)]; simp⟩
section
variable {B : BookS} {n c : Nat} {S S' : Nat → Bool} {g : Nat → Option Nat}
theorem GoX.congr (h : GoX B n S c g) (e : ∀ j, S j = S' j) : GoX B n S' c g := by
  have : S = S' := funext e
  subst this; exact h
theorem GoX.put (h : GoX B n S c g) {i k : Nat} (hi : i < n) (hS : S i = false) (hk : k < n) (hg : g k = none) :
    GoX (B.wrote (3 + k) (setP (digG i) i 2)) n (fun j => S j || decide (j = i)) (c + 1) (fun p => if p = k then some i else g p) := by
  refine ⟨fun p hp => ?_, fun p j hp hj => ?_, fun j hj hs => ?_, fun p q j hp hq h1 h2 => ?_, ?_⟩
  · rw [BookS.wrote_view]
    by_cases e : p = k
    · subst e; simp
    · rw [if_neg (by omega), if_neg e]; exact h.pages p hp
  · by_cases e : p = k
    · rw [if_pos e] at hj; cases hj; exact ⟨hi, by simp⟩
    · rw [if_neg e] at hj; have := h.mem p j hp hj; exact ⟨this.1, by simp [this.2]⟩
  · by_cases e : j = i
    · exact ⟨k, hk, by rw [if_pos rfl, e]⟩
    · obtain ⟨p, hp, hq⟩ := h.has j hj (by simpa [e] using hs)
      refine ⟨p, hp, ?_⟩
      rw [if_neg (fun e' => by rw [e', hg] at hq; cases hq)]; exact hq
  · have key : ∀ p, p < n → g p ≠ some i := fun p hp e => by have := (h.mem p i hp e).2; rw [hS] at this; cases this
    by_cases e1 : p = k
    · by_cases e2 : q = k
      · omega
      · rw [if_pos e1] at h1; rw [if_neg e2] at h2
        cases h1
        exact absurd h2 (key q hq)
    · by_cases e2 : q = k
      · rw [if_neg e1] at h1; rw [if_pos e2] at h2
        cases h2
        exact absurd h1 (key p hp)
      · rw [if_neg e1] at h1; rw [if_neg e2] at h2
        exact h.inj p q j hp hq h1 h2
  · have h1 := filter_turn (P := fun p => (g p).isNone) hk (by simp [hg])
    have h2 := h.free
    have e : (fun p => (if p = k then some i else g p).isNone) = fun p => (g p).isNone && !decide (p = k) := by
      funext p
      by_cases e : p = k <;> simp [e]
    rw [e]
    omega
theorem GoX.drop (h : GoX B n S (c + 1) g) {i k : Nat} (hk : k < n) (hg : g k = some i) :
    GoX (B.wrote (3 + k) (zer 64)) n (fun j => S j && !decide (j = i)) c (fun p => if p = k then none else g p) := by
  refine ⟨fun p hp => ?_, fun p j hp hj => ?_, fun j hj hs => ?_, fun p q j hp hq h1 h2 => ?_, ?_⟩
  · rw [BookS.wrote_view]
    by_cases e : p = k
    · subst e; simp
    · rw [if_neg (by omega), if_neg e]; exact h.pages p hp
  · by_cases e : p = k
    · rw [if_pos e] at hj; cases hj
    · rw [if_neg e] at hj
      have h1 := h.mem p j hp hj
      have h2 : j ≠ i := fun e' => e (h.inj p k i hp hk (e' ▸ hj) hg)
      exact ⟨h1.1, by simp [h1.2, h2]⟩
  · simp only [Bool.and_eq_true, Bool.not_eq_true', decide_eq_false_iff_not] at hs
    obtain ⟨p, hp, hq⟩ := h.has j hj hs.1
    refine ⟨p, hp, ?_⟩
    rw [if_neg (fun e' => by rw [e', hg] at hq; cases hq; exact hs.2 rfl)]; exact hq
  · by_cases e1 : p = k
    · rw [if_pos e1] at h1; cases h1
    · by_cases e2 : q = k
      · rw [if_pos e2] at h2; cases h2
      · rw [if_neg e1] at h1; rw [if_neg e2] at h2
        exact h.inj p q j hp hq h1 h2
  · have h1 := filter_turn (P := fun p => ((if p = k then none else g p) : Option Nat).isNone) hk (by simp)
    have h2 := h.free
    have e : (fun p => ((if p = k then none else g p) : Option Nat).isNone && !decide (p = k)) = fun p => (g p).isNone := by
      funext p
      by_cases e : p = k <;> simp [e, hg]
    rw [e] at h1
    omega
theorem GoX.ent (h : GoX B n S c g) (hn : n ≤ 256) (p : Nat) (hp : p < n) : isEnt (B.view (3 + p)) = (g p).isSome := by
  rw [h.pages p hp]
  cases hg : g p with
  | none => rfl
  | some j => have := (h.mem p j hp hg).1; simp only [Option.isSome_some]; rw [setP_is _ _ _ (digG_ok j (by omega)).1]; rfl
theorem GoX.freeQ (h : GoX B n S c g) (hn : n ≤ 256) (p : Nat) (hp : p < n) : freeQ B 3 p = (g p).isNone := by
  unfold YthaaoghbginmpaaDoor.freeQ
  rw [h.ent hn p hp]
  cases g p <;> rfl
theorem GoX.free_some (h : GoX B n S c g) (hn : n ≤ 256) (hc : c < n) (s : Nat) : ∃ k, seekO s n (YthaaoghbginmpaaDoor.freeQ B 3) = some k ∧ k < n ∧ g k = none := by
  cases hs : seekO s n (YthaaoghbginmpaaDoor.freeQ B 3) with
  | some k =>
    obtain ⟨h1, h2⟩ := seekO_spec hs
    rw [h.freeQ hn k h1] at h2
    exact ⟨k, rfl, h1, by simpa using h2⟩
  | none =>
    exfalso
    have hf := h.free
    have : ((List.range n).filter fun p => (g p).isNone) = [] := by
      rw [List.filter_eq_nil_iff]
      intro p hp
      have h1 := seekO_no hs p (List.mem_range.1 hp)
      rw [h.freeQ hn p (List.mem_range.1 hp)] at h1
      simp [h1]
    rw [this] at hf
    simp at hf; omega
theorem GoX.free_none (h : GoX B n S n g) (hn : n ≤ 256) (s : Nat) : seekO s n (YthaaoghbginmpaaDoor.freeQ B 3) = none := by
  cases hs : seekO s n (YthaaoghbginmpaaDoor.freeQ B 3) with
  | none => rfl
  | some k =>
    exfalso
    obtain ⟨h1, h2⟩ := seekO_spec hs
    rw [h.freeQ hn k h1] at h2
    have hf := h.free
    have hm : k ∈ (List.range n).filter fun p => (g p).isNone := List.mem_filter.2 ⟨List.mem_range.2 h1, h2⟩
    rw [List.eq_nil_of_length_eq_zero (show ((List.range n).filter fun p => (g p).isNone).length = 0 by omega)] at hm
    cases hm
theorem GoX.findQ (h : GoX B n S c g) (hn : n ≤ 256) (j : Nat) (p : Nat) (hp : p < n) : findQ B 3 (digG j) p = decide (g p = some j) := by
  unfold YthaaoghbginmpaaDoor.findQ
  rw [h.pages p hp]
  cases hg : g p with
  | none => rfl
  | some m =>
    have hl := (digG_ok m (by have := (h.mem p m hp hg).1; omega)).1
    simp only
    rw [setP_is _ _ _ hl, setP_dg _ _ _ hl (by decide), setP_refs _ _ _ hl (by decide) (by decide)]
    by_cases e : m = j
    · subst e; simp
    · have : digG m ≠ digG j := fun e' => e (digG_inj e')
      simp [this, e]
theorem GoX.slotQ (h : GoX B n S c g) (hn : n ≤ 256) (j : Nat) (p : Nat) (hp : p < n) : slotQ B 3 (j : Int) p = decide (g p = some j) := by
  unfold YthaaoghbginmpaaDoor.slotQ
  rw [h.pages p hp]
  cases hg : g p with
  | none => rfl
  | some m =>
    have hm := (h.mem p m hp hg).1
    have hl := (digG_ok m (by omega)).1
    simp only
    rw [setP_is _ _ _ hl, setP_slot _ _ _ hl (by decide) (by omega)]
    by_cases e : m = j
    · subst e; simp
    · have : (m : Int) ≠ j := by omega
      simp [this, e]
theorem GoX.seek_some (h : GoX B n S c g) (Q : Nat → Bool) (j : Nat) (hQ : ∀ p, p < n → Q p = decide (g p = some j)) (k : Nat) (hk : k < n) (hg : g k = some j) (s : Nat) : seekO s n Q = some k := by
  cases hs : seekO s n Q with
  | some q =>
    obtain ⟨h1, h2⟩ := seekO_spec hs
    rw [hQ q h1, decide_eq_true_iff] at h2
    rw [h.inj q k j h1 hk h2 hg]
  | none =>
    have := seekO_no hs k hk
    rw [hQ k hk, hg] at this
    simp at this
theorem GoX.seek_none (h : GoX B n S c g) (Q : Nat → Bool) (j : Nat) (hQ : ∀ p, p < n → Q p = decide (g p = some j)) (hj : S j = false) (s : Nat) : seekO s n Q = none := by
  cases hs : seekO s n Q with
  | none => rfl
  | some q =>
    obtain ⟨h1, h2⟩ := seekO_spec hs
    rw [hQ q h1, decide_eq_true_iff] at h2
    have := (h.mem q j h1 h2).2
    rw [hj] at this; cases this
theorem GoX.ents (h : GoX B n S c g) (hn : n ≤ 256) : (entN B 3 n).length = c := by
  have e : entN B 3 n = (List.range n).filter fun p => !(g p).isNone := by
    unfold entN
    refine List.filter_congr (fun p hp => ?_)
    rw [h.ent hn p (List.mem_range.1 hp)]
    cases g p <;> rfl
  have h1 := h.free
  have h2 : ((List.range n).filter fun p => (g p).isNone).length + ((List.range n).filter fun p => !(g p).isNone).length = n := by
    have := filt2 (List.range n) (fun p => (g p).isNone)
    rwa [List.length_range] at this
  rw [e]; omega
end
/-- Which place each index took. -/
def atL (a : Nat → Nat) (i : Nat) : Lit → Option Value := fun l => match l with
  | .int .i64 x => if 0 ≤ x ∧ x < i then some (.int .i64 (a x.toNat : Int)) else none
  | _ => none
theorem atL_zero (a : Nat → Nat) : atL a 0 = fun _ => none := by
  funext l; unfold atL; split
  · rw [if_neg (by omega)]
  · rfl
theorem atL_at (a : Nat → Nat) (i j : Nat) (h : j < i) : atL a i (.int .i64 (j : Int)) = some (.int .i64 (a j : Int)) := by
  unfold atL
  simp only
  rw [if_pos (by omega)]
  simp
theorem atL_new (a : Nat → Nat) (i : Nat) : atL a i (.int .i64 (i : Int)) = none := by
  unfold atL
  simp only
  rw [if_neg (by omega)]
theorem atL_put (a : Nat → Nat) (i k : Nat) : upd (atL a i) (.int .i64 (i : Int)) (some (.int .i64 (k : Int))) = atL (fun j => if j = i then k else a j) (i + 1) := by
  funext l
  by_cases h : l = .int .i64 (i : Int)
  · subst h
    rw [upd_same, atL_at _ (i + 1) i (by omega), if_pos rfl]
  · rw [upd_other _ h]
    unfold atL
    split
    · rename_i x
      by_cases h1 : 0 ≤ x ∧ x < i
      · rw [if_pos h1, if_pos (by omega)]
        simp only
        rw [if_neg (by omega)]
      · rw [if_neg h1, if_neg (fun h2 => h (by congr 1; omega))]
    · rfl
end Go.Proofs.YthaaoghbginmpaaDoor
