/- A depot: plain. The states of slots behind a put, and behind a drop; which slot is taken. (The first ones of these lemmas stand in the text of DepotMoves, too: no text imports both.) -/
import Derived.Test.YtjikpodghmfjcaaGreatDoorKM20
import Derived.Test.YtjikpodghmfjcaaGreatDoorKQ8
import Derived.Test.YtjikpodghmfjcaaGreatDoorKN1
set_option linter.unusedSimpArgs false
set_option linter.unusedVariables false
set_option linter.unnecessarySimpa false
namespace Go.Proofs.YtjikpodghmfjcaaGreatDoor
open Go.RowKit Go.Maps
theorem tmod_rng (n m : Int) (hm : 0 < m) : -m < n.tmod m ∧ n.tmod m < m := by
  rcases Int.le_total 0 n with h | h
  · rw [Int.tmod_eq_emod_of_nonneg h]
    have h1 := Int.emod_nonneg n (show m ≠ 0 by omega)
    have h2 := Int.emod_lt_of_pos n hm
    omega
  · have e : n.tmod m = -((-n).tmod m) := by rw [Int.neg_tmod]; simp
    rw [e, Int.tmod_eq_emod_of_nonneg (show 0 ≤ -n by omega)]
    have h1 := Int.emod_nonneg (-n) (show m ≠ 0 by omega)
    have h2 := Int.emod_lt_of_pos (-n) hm
    omega
/-- The state of a slot; its page. -/
def stD (B : BookS) (s : Nat) : Int := (B.view (3 + s / 4 * 5)).getD (s % 4) 0
def pgS (s : Nat) : Nat := 3 + s / 4 * 5 + 1 + s % 4
theorem four {g : List Int} (h : g.length = 64) : ∃ a b c d t, g = a :: b :: c :: d :: t ∧ t.length = 60 := by
  match g, h with
  | a :: b :: c :: d :: t, h => exact ⟨a, b, c, d, t, rfl, by simpa using h⟩
theorem dead_iff {g : List Int} (h : g.length = 64) : deadF g = true ↔ ∀ j, j < 4 → g.getD j 0 ≠ 1 := by
  obtain ⟨a, b, c, d, t, rfl, _⟩ := four h
  simp only [deadF, List.take_succ_cons, List.take_zero, List.all_cons, List.all_nil, Bool.and_true, Bool.and_eq_true, decide_eq_true_eq]
  constructor
  · rintro ⟨h0, h1, h2, h3⟩ j hj
    rcases (show j = 0 ∨ j = 1 ∨ j = 2 ∨ j = 3 by omega) with rfl | rfl | rfl | rfl <;> simpa
  · intro h
    exact ⟨by simpa using h 0 (by omega), by simpa using h 1 (by omega), by simpa using h 2 (by omega), by simpa using h 3 (by omega)⟩
theorem set_at (h : List Int) (j : Nat) (s : Int) (i : Nat) (hj : j < h.length) : (h.set j s).getD i 0 = if i = j then s else h.getD i 0 := by
  by_cases e : i = j
  · subst e
    simp [List.getD, List.getElem?_set_self hj]
  · rw [if_neg e]
    simp [List.getD, List.getElem?_set_ne (fun e' => e e'.symm)]
theorem setDF_length {h : List Int} (hl : h.length = 64) (j : Nat) (s : Int) : (setDF h j s).length = 64 := by
  unfold setDF
  split <;> simp [hl]
/-- A slot is taken. -/
theorem setDF_one {h : List Int} (hl : h.length = 64) (j : Nat) (hj : j < 4) (i : Nat) : (setDF h j 1).getD i 0 = if i = j then 1 else h.getD i 0 := by
  have hd : ¬ deadF (h.set j 1) = true := fun hd => by
    have := (dead_iff (by simp [hl])).1 hd j hj
    rw [set_at _ _ _ _ (by omega), if_pos rfl] at this
    exact this rfl
  unfold setDF
  rw [if_neg hd, set_at _ _ _ _ (by omega)]
/-- A block is dropped. -/
theorem setDF_two {h : List Int} (hl : h.length = 64) (j : Nat) (hj : j < 4) (hst : ∀ i, i < 4 → h.getD i 0 = 0 ∨ h.getD i 0 = 1 ∨ h.getD i 0 = 2) (i : Nat) (hi : i < 4) :
    ((setDF h j 2).getD i 0 = 0 ∨ (setDF h j 2).getD i 0 = 1 ∨ (setDF h j 2).getD i 0 = 2) ∧ ((setDF h j 2).getD i 0 = 1 ↔ i ≠ j ∧ h.getD i 0 = 1) := by
  have hs : ∀ i, (h.set j 2).getD i 0 = if i = j then 2 else h.getD i 0 := fun i => set_at _ _ _ _ (by omega)
  unfold setDF
  by_cases hd : deadF (h.set j 2) = true
  · rw [if_pos hd]
    have h0 : (List.replicate 4 (0 : Int) ++ (h.set j 2).drop 4).getD i 0 = 0 := by
      rcases (show i = 0 ∨ i = 1 ∨ i = 2 ∨ i = 3 by omega) with rfl | rfl | rfl | rfl <;> rfl
    rw [h0]
    refine ⟨.inl rfl, ⟨fun h => by omega, fun ⟨h1, h2⟩ => ?_⟩⟩
    have := (dead_iff (by simp [hl])).1 hd i hi
    rw [hs, if_neg h1] at this
    exact absurd h2 this
  · rw [if_neg hd, hs]
    by_cases e : i = j
    · rw [if_pos e]; exact ⟨by omega, ⟨fun h => by omega, fun h => absurd e h.1⟩⟩
    · rw [if_neg e]; exact ⟨hst i hi, ⟨fun h => ⟨e, h⟩, fun h => h.2⟩⟩
theorem pgS_inj {s t : Nat} (h : pgS s = pgS t) : s = t := by unfold pgS at h; omega
/-- Behind a put. -/
noncomputable def putB (B : BookS) (k : Nat) (p : List Int) : BookS := (B.wrote (3 + k / 4 * 5) (setDF (B.view (3 + k / 4 * 5)) (k % 4) 1)).wrote (3 + k / 4 * 5 + 1 + k % 4) p
noncomputable def dropB (B : BookS) (k : Nat) : BookS := B.wrote (3 + k / 4 * 5) (setDF (B.view (3 + k / 4 * 5)) (k % 4) 2)
theorem putB_head (B : BookS) (k : Nat) (p : List Int) (b : Nat) : (putB B k p).view (3 + b * 5) = if b = k / 4 then setDF (B.view (3 + k / 4 * 5)) (k % 4) 1 else B.view (3 + b * 5) := by
  unfold putB
  rw [BookS.wrote_view, if_neg (by omega), BookS.wrote_view]
  by_cases h : b = k / 4
  · rw [if_pos (by omega), if_pos h]
  · rw [if_neg (by omega), if_neg h]
theorem putB_page (B : BookS) (k : Nat) (p : List Int) (s : Nat) : (putB B k p).view (pgS s) = if s = k then p else B.view (pgS s) := by
  unfold putB
  rw [BookS.wrote_view]
  by_cases h : s = k
  · rw [if_pos (show pgS s = 3 + k / 4 * 5 + 1 + k % 4 by rw [h]; rfl), if_pos h]
  · rw [if_neg (show ¬ pgS s = 3 + k / 4 * 5 + 1 + k % 4 from fun e => h (pgS_inj e)), if_neg h, BookS.wrote_view, if_neg (by unfold pgS; omega)]
theorem putB_st {B : BookS} {k : Nat} (hl : (B.view (3 + k / 4 * 5)).length = 64) (p : List Int) (s : Nat) : stD (putB B k p) s = if s = k then 1 else stD B s := by
  unfold stD
  rw [putB_head]
  by_cases h : s / 4 = k / 4
  · rw [if_pos h, setDF_one hl _ (by omega), h]
    by_cases e : s = k
    · rw [if_pos (by omega), if_pos e]
    · rw [if_neg (by omega), if_neg e]
  · rw [if_neg h, if_neg (fun e => h (by rw [e]))]
theorem putB_n (B : BookS) (k : Nat) (p : List Int) : (putB B k p).n = B.n := by unfold putB; rw [BookS.wrote_n, BookS.wrote_n]
theorem dropB_n (B : BookS) (k : Nat) : (dropB B k).n = B.n := by unfold dropB; rw [BookS.wrote_n]
theorem dropB_head (B : BookS) (k : Nat) (b : Nat) : (dropB B k).view (3 + b * 5) = if b = k / 4 then setDF (B.view (3 + k / 4 * 5)) (k % 4) 2 else B.view (3 + b * 5) := by
  unfold dropB
  rw [BookS.wrote_view]
  by_cases h : b = k / 4
  · rw [if_pos (by omega), if_pos h]
  · rw [if_neg (by omega), if_neg h]
theorem dropB_page (B : BookS) (k : Nat) (s : Nat) : (dropB B k).view (pgS s) = B.view (pgS s) := by
  unfold dropB
  rw [BookS.wrote_view, if_neg (by unfold pgS; omega)]
theorem frR_spec (h : List Int) : ∀ (r t : Nat), frR h r = some t → t < 4 ∧ h.getD t 0 = 0
  | 0, t, e => by cases e
  | r + 1, t, e => by
    unfold frR at e
    split at e
    · rename_i h0
      simp only [Option.some.injEq] at e
      subst e
      exact ⟨by omega, h0⟩
    · exact frR_spec h r t e
/-- The slot that is taken is free, and in another container. -/
theorem best_spec (B : BookS) (but : Int) : ∀ (n k : Nat), (bestF B 3 but n).1 = (k : Int) → k < n * 4 ∧ stD B k = 0 ∧ ((k / 4 : Nat) : Int) ≠ but
  | 0, k, e => by
    exfalso
    have : (-1 : Int) = k := e
    omega
  | b + 1, k, e => by
    unfold bestF at e
    split at e
    · rename_i hc
      obtain ⟨h1, h2, _⟩ := hc
      cases hf : frR (B.view (3 + b * 5)) 4 with
      | none => rw [hf] at h2; exact absurd (show (0 : Int) ≤ -1 from h2) (by decide)
      | some t =>
        rw [hf] at e
        have e' : ((b * 4 + t : Nat) : Int) = k := e
        obtain ⟨t4, t0⟩ := frR_spec _ _ _ hf
        obtain rfl : k = b * 4 + t := by omega
        refine ⟨by omega, ?_, ?_⟩
        · unfold stD
          rw [show (b * 4 + t) / 4 = b by omega, show (b * 4 + t) % 4 = t by omega]
          exact t0
        · rw [show (b * 4 + t) / 4 = b by omega]; exact h1
    · have ih := best_spec B but b k e
      exact ⟨by omega, ih.2⟩
theorem frR_none (h : List Int) : ∀ r, r ≤ 4 → frR h r = none → ∀ t, 4 - r ≤ t → t < 4 → h.getD t 0 ≠ 0
  | 0, _, _, t, a, b => by omega
  | r + 1, hr, e, t, a, b => by
    unfold frR at e
    split at e
    · cases e
    · rename_i h0
      by_cases et : t = 3 - r
      · rw [et]; exact h0
      · exact frR_none h r (by omega) e t (by omega) b
theorem smR_iff (h : List Int) : ∀ r, r ≤ 4 → (smR h r = true ↔ ∃ t, 4 - r ≤ t ∧ t < 4 ∧ h.getD t 0 ≠ 0)
  | 0, _ => ⟨fun h => (by cases h), fun ⟨t, a, b, _⟩ => (by omega)⟩
  | r + 1, hr => by
    have ih := smR_iff h r (by omega)
    unfold smR
    rw [Bool.or_eq_true, ih, decide_eq_true_eq]
    constructor
    · rintro (⟨t, a, b, c⟩ | h1)
      · exact ⟨t, by omega, b, c⟩
      · exact ⟨3 - r, by omega, by omega, h1⟩
    · rintro ⟨t, a, b, c⟩
      by_cases et : t = 3 - r
      · right; rw [← et]; exact c
      · left; exact ⟨t, by omega, b, c⟩
theorem stD_box (B : BookS) (b t : Nat) (ht : t < 4) : stD B (b * 4 + t) = (B.view (3 + b * 5)).getD t 0 := by
  unfold stD
  rw [show (b * 4 + t) / 4 = b by omega, show (b * 4 + t) % 4 = t by omega]
/-- Where no slot is taken none is free, but of the container that is barred. -/
theorem best_none (B : BookS) (but : Int) : ∀ n, (bestF B 3 but n).1 < 0 → ∀ s, s < n * 4 → stD B s = 0 → ((s / 4 : Nat) : Int) = but
  | 0, _, s, hs, _ => by omega
  | b + 1, e, s, hs, h0 => by
    unfold bestF at e
    split at e
    · rename_i hc
      exact absurd hc.2.1 (by show ¬ 0 ≤ _; omega)
    · rename_i hc
      have ih := best_none B but b e
      by_cases hb : s / 4 = b
      · apply Classical.byContradiction
        intro hne
        refine hc ⟨by rw [← hb]; exact hne, ?_, .inl e⟩
        cases hf : frR (B.view (3 + b * 5)) 4 with
        | none =>
          have := frR_none _ 4 (by decide) hf (s % 4) (by omega) (by omega)
          rw [← stD_box B b (s % 4) (by omega), show b * 4 + s % 4 = s by omega] at this
          exact absurd h0 this
        | some t => show (0 : Int) ≤ ((b * 4 + t : Nat) : Int); omega
      · exact ih s (by omega) h0
/-- A container that is begun is taken first. -/
theorem best_begun (B : BookS) (but : Int) : ∀ n k, (bestF B 3 but n).1 = ((k : Nat) : Int) → ((bestF B 3 but n).2 = true ↔ ∃ t, t < 4 ∧ stD B (k / 4 * 4 + t) ≠ 0) ∧
    ((bestF B 3 but n).2 = false → ∀ b, b < n → (b : Int) ≠ but → (∃ t, t < 4 ∧ stD B (b * 4 + t) = 0) → ∀ t, t < 4 → stD B (b * 4 + t) = 0)
  | 0, k, e => by
    exfalso
    have : (-1 : Int) = k := e
    omega
  | b + 1, k, e => by
    have sm : ∀ b, smR (B.view (3 + b * 5)) 4 = true ↔ ∃ t, t < 4 ∧ stD B (b * 4 + t) ≠ 0 := fun b => by
      rw [smR_iff _ 4 (by decide)]
      constructor
      · rintro ⟨t, _, a, c⟩; exact ⟨t, a, by rw [stD_box B b t a]; exact c⟩
      · rintro ⟨t, a, c⟩; exact ⟨t, by omega, a, by rw [← stD_box B b t a]; exact c⟩
    have fre : ∀ b, (∃ t, t < 4 ∧ stD B (b * 4 + t) = 0) → 0 ≤ atV b (frR (B.view (3 + b * 5)) 4) := fun b ⟨t, ht, h0⟩ => by
      cases hf : frR (B.view (3 + b * 5)) 4 with
      | none =>
        have := frR_none _ 4 (by decide) hf t (by omega) ht
        rw [← stD_box B b t ht] at this
        exact absurd h0 this
      | some t => show (0 : Int) ≤ ((b * 4 + t : Nat) : Int); omega
    unfold bestF at e ⊢
    split at e
    · rename_i hc
      rw [if_pos hc]
      obtain ⟨h1, h2, h3⟩ := hc
      cases hf : frR (B.view (3 + b * 5)) 4 with
      | none => rw [hf] at h2; exact absurd (show (0 : Int) ≤ -1 from h2) (by decide)
      | some t =>
        rw [hf] at e
        have e' : ((b * 4 + t : Nat) : Int) = k := e
        obtain ⟨t4, t0⟩ := frR_spec _ _ _ hf
        obtain rfl : k = b * 4 + t := by omega
        rw [show (b * 4 + t) / 4 = b by omega]
        refine ⟨sm b, fun hs b' hb' hne hfr => ?_⟩
        have hs' : smR (B.view (3 + b * 5)) 4 = false := hs
        by_cases eb : b' = b
        · subst eb
          intro t' ht'
          apply Classical.byContradiction
          intro hn
          have := (sm b').2 ⟨t', ht', hn⟩
          rw [hs'] at this; cases this
        · rcases h3 with h3 | h3
          · obtain ⟨t', ht', h0⟩ := hfr
            have := best_none B but b h3 (b' * 4 + t') (by omega) h0
            rw [show (b' * 4 + t') / 4 = b' by omega] at this
            exact absurd this hne
          · rw [hs'] at h3; cases h3.1
    · rename_i hc
      rw [if_neg hc]
      have ih := best_begun B but b k e
      refine ⟨ih.1, fun hs b' hb' hne hfr => ?_⟩
      by_cases eb : b' = b
      · subst eb
        intro t' ht'
        apply Classical.byContradiction
        intro hn
        exact hc ⟨hne, fre b' hfr, .inr ⟨(sm b').2 ⟨t', ht', hn⟩, hs⟩⟩
      · exact ih.2 hs b' (by omega) hne hfr
/-- Has the container of a slot another one that is live? -/
def othB (st : Nat → Int) (k : Nat) : Bool := (List.range 4).any fun t => decide (t ≠ k % 4) && decide (st (k / 4 * 4 + t) = 1)
theorem othB_iff (st : Nat → Int) (k : Nat) : othB st k = true ↔ ∃ t, t < 4 ∧ t ≠ k % 4 ∧ st (k / 4 * 4 + t) = 1 := by
  unfold othB
  rw [List.any_eq_true]
  constructor
  · rintro ⟨t, ht, h⟩
    rw [Bool.and_eq_true, decide_eq_true_eq, decide_eq_true_eq] at h
    exact ⟨t, List.mem_range.1 ht, h.1, h.2⟩
  · rintro ⟨t, ht, h1, h2⟩
    exact ⟨t, List.mem_range.2 ht, by rw [Bool.and_eq_true, decide_eq_true_eq, decide_eq_true_eq]; exact ⟨h1, h2⟩⟩
/-- The states behind a drop. -/
def dropT (st : Nat → Int) (k : Nat) : Nat → Int := fun s => if s / 4 = k / 4 then (if othB st k = true then (if s = k then 2 else st s) else 0) else st s
theorem dropB_st {B : BookS} {k : Nat} (hl : (B.view (3 + k / 4 * 5)).length = 64) (st : Nat → Int) (hst : ∀ t, t < 4 → stD B (k / 4 * 4 + t) = st (k / 4 * 4 + t)) (s : Nat) (hs : s / 4 ≠ k / 4 → stD B s = st s) : stD (dropB B k) s = dropT st k s := by
  have e : stD (dropB B k) s = if s / 4 = k / 4 then (setDF (B.view (3 + k / 4 * 5)) (k % 4) 2).getD (s % 4) 0 else stD B s := by
    unfold stD
    rw [dropB_head]
    split <;> rfl
  rw [e]
  unfold dropT
  by_cases h : s / 4 = k / 4
  · rw [if_pos h, if_pos h]
    have hb : ∀ t, t < 4 → (B.view (3 + k / 4 * 5)).getD t 0 = st (k / 4 * 4 + t) := fun t ht => by rw [← stD_box B _ t ht, hst t ht]
    have hs2 : ∀ i, ((B.view (3 + k / 4 * 5)).set (k % 4) 2).getD i 0 = if i = k % 4 then 2 else (B.view (3 + k / 4 * 5)).getD i 0 := fun i => set_at _ _ _ _ (by omega)
    have hd : deadF ((B.view (3 + k / 4 * 5)).set (k % 4) 2) = true ↔ ¬ othB st k = true := by
      rw [dead_iff (by simp [hl]), othB_iff]
      constructor
      · rintro hd ⟨t, ht, h1, h2⟩
        have := hd t ht
        rw [hs2, if_neg h1, hb t ht] at this
        exact this h2
      · intro hn t ht
        rw [hs2]
        by_cases et : t = k % 4
        · rw [if_pos et]; decide
        · rw [if_neg et, hb t ht]; exact fun h2 => hn ⟨t, ht, et, h2⟩
    unfold setDF
    by_cases ho : othB st k = true
    · rw [if_neg (fun h => (hd.1 h) ho), if_pos ho, hs2]
      by_cases es : s = k
      · rw [if_pos (by rw [es]), if_pos es]
      · rw [if_neg (by omega), if_neg es, hb _ (by omega), show k / 4 * 4 + s % 4 = s by omega]
    · rw [if_pos (hd.2 ho), if_neg ho]
      rcases (show s % 4 = 0 ∨ s % 4 = 1 ∨ s % 4 = 2 ∨ s % 4 = 3 by omega) with q | q | q | q <;> rw [q] <;> rfl
  · rw [if_neg h, if_neg h]; exact hs h
theorem cntD_states (B : BookS) (v : Int) : ∀ n, cntD B 3 v n = ((List.range n).filter fun s => decide (stD B s % 3 = v)).length
  | 0 => rfl
  | n + 1 => by
    rw [cntD, cntD_states B v n, List.range_succ, List.filter_append, List.length_append]
    show _ + (if stD B n % 3 = v then 1 else 0) = _
    by_cases h : stD B n % 3 = v
    · rw [if_pos h]; simp [h]
    · rw [if_neg h]; simp [h]
/-- A depot on a new book: the states of its slots, the blocks of those that are live. -/
structure DpI (B : BookS) (n : Nat) (st : Nat → Int) (blk : Nat → List Int) : Prop where
  hst : ∀ s, s < n * 4 → stD B s = st s
  pg : ∀ s, s < n * 4 → st s = 1 → B.view (pgS s) = blk s
  rng : ∀ s, s < n * 4 → st s = 0 ∨ st s = 1 ∨ st s = 2
  live : ∀ s, s < n * 4 → st s = 2 → ∃ t, t / 4 = s / 4 ∧ st t = 1
theorem DpI.put {B : BookS} {n : Nat} {st : Nat → Int} {blk : Nat → List Int} (h : DpI B n st blk) (hok : B.ok) (hn : 3 + n * 5 ≤ B.n) {k : Nat} (hk : k < n * 4) (p : List Int) :
    DpI (putB B k p) n (fun s => if s = k then 1 else st s) (fun s => if s = k then p else blk s) := by
  have hl : (B.view (3 + k / 4 * 5)).length = 64 := (BookS.view_ok hok _ (by omega)).1
  refine ⟨fun s hs => ?_, fun s hs h1 => ?_, fun s hs => ?_, fun s hs h2 => ?_⟩
  · rw [putB_st hl p s]
    by_cases e : s = k
    · rw [if_pos e, if_pos e]
    · rw [if_neg e, if_neg e, h.hst s hs]
  · rw [putB_page]
    by_cases e : s = k
    · rw [if_pos e, if_pos e]
    · rw [if_neg e] at h1
      rw [if_neg e, if_neg e, h.pg s hs h1]
  · show (if s = k then (1 : Int) else st s) = 0 ∨ _
    by_cases e : s = k
    · simp [e]
    · simp only [e, if_false]; exact h.rng s hs
  · by_cases e : s = k
    · rw [if_pos e] at h2; omega
    · rw [if_neg e] at h2
      obtain ⟨t, h3, h4⟩ := h.live s hs h2
      refine ⟨t, h3, ?_⟩
      show (if t = k then (1 : Int) else st t) = 1
      by_cases et : t = k
      · rw [if_pos et]
      · rw [if_neg et]; exact h4
theorem DpI.drop {B : BookS} {n : Nat} {st : Nat → Int} {blk : Nat → List Int} (h : DpI B n st blk) (hok : B.ok) (hn : 3 + n * 5 ≤ B.n) {k : Nat} (hk : k < n * 4) : DpI (dropB B k) n (dropT st k) blk := by
  have hl : (B.view (3 + k / 4 * 5)).length = 64 := (BookS.view_ok hok _ (by omega)).1
  have hst : ∀ s, s < n * 4 → stD (dropB B k) s = dropT st k s := fun s hs => dropB_st hl st (fun t ht => h.hst _ (by omega)) s (fun _ => h.hst s hs)
  refine ⟨hst, fun s hs h1 => ?_, fun s hs => ?_, fun s hs h2 => ?_⟩
  · rw [dropB_page]
    refine h.pg s hs ?_
    unfold dropT at h1
    split at h1
    · split at h1
      · split at h1
        · omega
        · exact h1
      · omega
    · exact h1
  · unfold dropT
    split
    · split
      · split
        · exact .inr (.inr rfl)
        · exact h.rng s hs
      · exact .inl rfl
    · exact h.rng s hs
  · unfold dropT at h2
    by_cases hb : s / 4 = k / 4
    · rw [if_pos hb] at h2
      by_cases ho : othB st k = true
      · obtain ⟨t, ht, h3, h4⟩ := (othB_iff st k).1 ho
        refine ⟨k / 4 * 4 + t, by omega, ?_⟩
        unfold dropT
        rw [if_pos (by omega), if_pos ho, if_neg (by omega)]
        exact h4
      · rw [if_neg ho] at h2; omega
    · rw [if_neg hb] at h2
      obtain ⟨t, h3, h4⟩ := h.live s hs h2
      refine ⟨t, h3, ?_⟩
      unfold dropT
      rw [if_neg (by omega)]
      exact h4
theorem DpI.congr {B B' : BookS} {n : Nat} {st : Nat → Int} {blk : Nat → List Int} (h : DpI B n st blk) (he : ∀ i, i < 3 + n * 5 → B'.view i = B.view i) : DpI B' n st blk := by
  refine ⟨fun s hs => ?_, fun s hs h1 => ?_, h.rng, h.live⟩
  · have := h.hst s hs
    unfold stD at this ⊢
    rw [he _ (by omega)]; exact this
  · rw [he _ (by unfold pgS; omega)]; exact h.pg s hs h1
theorem DpI.start (B : BookS) (n : Nat) (hz : ∀ i, i < 3 + n * 5 → B.view i = zer 64) (blk : Nat → List Int) : DpI B n (fun _ => 0) blk := by
  refine ⟨fun s hs => ?_, fun s _ h => ?_, fun _ _ => Or.inl rfl, fun s _ h => ?_⟩
  · unfold stD
    rw [hz _ (by omega)]
    unfold zer List.getD
    rw [List.getElem?_replicate]
    split <;> rfl
  · exact absurd h (by decide)
  · exact absurd h (by decide)
/-- How many slots are of a state. -/
def cntS (st : Nat → Int) (v : Int) (m : Nat) : Nat := ((List.range m).filter fun s => decide (st s = v)).length
theorem DpI.count {B : BookS} {n : Nat} {st : Nat → Int} {blk : Nat → List Int} (h : DpI B n st blk) (v : Int) (hv : v = 0 ∨ v = 1 ∨ v = 2) : cntD B 3 v (n * 4) = cntS st v (n * 4) := by
  rw [cntD_states]
  unfold cntS
  congr 1
  refine List.filter_congr (fun s hs => ?_)
  have hs' := List.mem_range.1 hs
  rw [h.hst s hs', decide_eq_decide]
  rcases h.rng s hs' with q | q | q <;> rw [q] <;> omega
end Go.Proofs.YtjikpodghmfjcaaGreatDoor
set_option linter.unnecessarySimpa false
namespace Go.Proofs.YtjikpodghmfjcaaGreatDoor
open Go.RowKit Go.Maps
def bestL (hs : Nat → List Int) (but : Int) : Nat → Int × Bool
  | 0 => (-1, false)
  | b + 1 => if (b : Int) ≠ but ∧ 0 ≤ atV b (frR (hs b) 4) ∧ ((bestL hs but b).1 < 0 ∨ smR (hs b) 4 = true ∧ (bestL hs but b).2 = false) then (atV b (frR (hs b) 4), smR (hs b) 4) else bestL hs but b
theorem bestF_eq (B : BookS) (first : Nat) (but : Int) (hs : Nat → List Int) : ∀ n, (∀ i, i < n → B.view (first + i * 5) = hs i) → bestF B first but n = bestL hs but n
  | 0, _ => rfl
  | n + 1, h => by
    rw [bestF, bestL, bestF_eq B first but hs n (fun i hi => h i (by omega)), h n (by omega)]
def cntL (hs : Nat → List Int) (s : Int) : Nat → Nat
  | 0 => 0
  | i + 1 => cntL hs s i + (if (hs (i / 4)).getD (i % 4) 0 % 3 = s then 1 else 0)
theorem cntD_eq (B : BookS) (first : Nat) (s : Int) (hs : Nat → List Int) : ∀ n, (∀ i, i < n → B.view (first + i / 4 * 5) = hs (i / 4)) → cntD B first s n = cntL hs s n
  | 0, _ => rfl
  | n + 1, h => by
    rw [cntD, cntL, cntD_eq B first s hs n (fun i hi => h i (by omega)), h n (by omega)]
def pgOne (x : Int) : List Int := x :: zer 63
theorem pgOne_ok (x : Int) (h : 0 ≤ x ∧ x < 256) : PgOk (pgOne x) := ⟨rfl, fun y hy => by
  rcases List.mem_cons.1 hy with rfl | hy
  · exact h
  · exact zer_u8 63 y hy⟩
def hdA : List Int := setDF (zer 64) 0 1
def hdB : List Int := setDF hdA 1 1
def hdC : List Int := setDF hdB 0 2
noncomputable def dkA : BookS := freshB6.wrote 3 hdA
noncomputable def dkB : BookS := dkA.wrote 4 (pgOne 1)
noncomputable def dkC : BookS := dkB.wrote 3 hdB
noncomputable def dkD : BookS := dkC.wrote 5 (pgOne 2)
noncomputable def dkE : BookS := dkD.wrote 3 hdC
theorem dkA_view (j : Nat) (hj : j < 498) : dkA.view j = if j = 3 then hdA else zer 64 := by
  unfold dkA; rw [BookS.wrote_view, freshB6_view _ hj]
theorem dkB_view (j : Nat) (hj : j < 498) : dkB.view j = if j = 4 then pgOne 1 else if j = 3 then hdA else zer 64 := by
  unfold dkB; rw [BookS.wrote_view, dkA_view j hj]
theorem dkC_view (j : Nat) (hj : j < 498) : dkC.view j = if j = 3 then hdB else if j = 4 then pgOne 1 else zer 64 := by
  unfold dkC; rw [BookS.wrote_view, dkB_view j hj]
  by_cases h : j = 3 <;> simp [h]
theorem dkD_view (j : Nat) (hj : j < 498) : dkD.view j = if j = 5 then pgOne 2 else if j = 3 then hdB else if j = 4 then pgOne 1 else zer 64 := by
  unfold dkD; rw [BookS.wrote_view, dkC_view j hj]
theorem dkE_view (j : Nat) (hj : j < 498) : dkE.view j = if j = 3 then hdC else if j = 5 then pgOne 2 else if j = 4 then pgOne 1 else zer 64 := by
  unfold dkE; rw [BookS.wrote_view, dkD_view j hj]
  by_cases h : j = 3 <;> simp [h]
theorem dkA_n : dkA.n = 498 := by unfold dkA; rw [BookS.wrote_n, freshB6_n]
theorem dkB_n : dkB.n = 498 := by unfold dkB; rw [BookS.wrote_n, dkA_n]
theorem dkC_n : dkC.n = 498 := by unfold dkC; rw [BookS.wrote_n, dkB_n]
theorem dkD_n : dkD.n = 498 := by unfold dkD; rw [BookS.wrote_n, dkC_n]
theorem dkE_n : dkE.n = 498 := by unfold dkE; rw [BookS.wrote_n, dkD_n]
theorem dkA_cnt : dkA.cnt ≤ 1 := by
  have := BookS.wrote_cnt freshB6 3 hdA (by rw [freshB6_n]; decide)
  rw [freshB6_cnt] at this
  exact this
theorem dkB_cnt : dkB.cnt ≤ 2 := by
  have := BookS.wrote_cnt dkA 4 (pgOne 1) (by rw [dkA_n]; decide)
  have := dkA_cnt
  unfold dkB; omega
theorem dkC_cnt : dkC.cnt ≤ 3 := by
  have := BookS.wrote_cnt dkB 3 hdB (by rw [dkB_n]; decide)
  have := dkB_cnt
  unfold dkC; omega
theorem dkD_cnt : dkD.cnt ≤ 4 := by
  have := BookS.wrote_cnt dkC 5 (pgOne 2) (by rw [dkC_n]; decide)
  have := dkC_cnt
  unfold dkD; omega
theorem wrOk_cnt {B : BookS} {k : Nat} (h : B.cnt ≤ k) (hk : k < 60) (i : Nat) (p : List Int) : WrOk B i p := .inr (.inr (by show B.cnt ≠ 60; omega))
theorem best_first : (bestF freshB6 3 (-1) 2).1 = ((0 : Nat) : Int) := by
  rw [bestF_eq freshB6 3 (-1) (fun _ => zer 64) 2 (fun i hi => freshB6_view _ (by omega))]
  decide +kernel
theorem best_second : (bestF dkB 3 (-1) 2).1 = ((1 : Nat) : Int) := by
  rw [bestF_eq dkB 3 (-1) (fun i => if i = 0 then hdA else zer 64) 2 (fun i hi => by
    rw [dkB_view _ (by omega)]
    rcases (show i = 0 ∨ i = 1 by omega) with rfl | rfl <;> rfl)]
  decide +kernel
theorem hd_facts : hdB.getD 0 0 = 1 ∧ hdC.getD 1 0 = 1 := by decide +kernel
theorem cnt_E (s : Int) : cntD dkE 3 s 8 = cntL (fun i => if i = 0 then hdC else zer 64) s 8 := by
  refine cntD_eq dkE 3 s _ 8 (fun i hi => ?_)
  rw [dkE_view _ (by omega)]
  rcases (show i / 4 = 0 ∨ i / 4 = 1 by omega) with h | h <;> rw [h] <;> rfl
theorem cnt_facts : cntD dkE 3 1 8 = 1 ∧ cntD dkE 3 2 8 = 1 ∧ cntD dkE 3 0 8 = 6 := by
  rw [cnt_E, cnt_E, cnt_E]
  decide +kernel
theorem built_pg1 (x : Int) : Tryz.prog.built 32 [(0, .int .u8 x)] = some (v8a (pgOne x)) := by kernel_rfl
theorem page_load_g {ops : Array Oper} {rest : List Oper} {o : Oper} {a : Act} {w : World} {Q : Exit → Act → World → Prop} (hw : Region.wanted o (yielded ops a.tmps) = true) (x : Operand) (ho : o.op = .load 32 x) (g : Nat) (p : List Int) (hx : a.eval x = .pointer (some ⟨g, 0, none⟩)) (hg : w.heap[g]? = some (.cells (v8a p) 32)) (hp : p.length = 64)
    (h : wpList Tryz.prog ops Q rest (a.put o.dst (.agg (v8a p))) w) : wpList Tryz.prog ops Q (o :: rest) a w := by
  refine wpList_step fun K hK => ?_
  rw [if_pos hw]
  exact wp_load_mid _ x ho g 0 hx (v8 p) _ (row_range hg) Tryz.underlying32 rfl (by rw [v8_length, hp]; exact info_pgs) (hK _ _ h)
theorem build_g1 {P : Program} {ops : Array Oper} {rest : List Oper} {o : Oper} {a : Act} {w : World} {Q : Exit → Act → World → Prop} (hw : Region.wanted o (yielded ops a.tmps) = true) (t : TypeId) (parts : Array (Nat × Operand)) (ho : o.op = .build t parts)
    (cs : Array Value) (hb : P.built t (parts.map fun (i, x) => (i, a.eval x)).toList = some cs) (h : wpList P ops Q rest (a.put o.dst (.agg cs)) w) : wpList P ops Q (o :: rest) a w := by
  refine wpList_step fun K hK => ?_
  rw [if_pos hw]
  unfold Oper.wp execOp
  simp only [ho, Sem.run_bind, run_build w t _ cs hb, Result.andThen_ok]
  exact hK _ _ h
theorem page_eql_g {ops : Array Oper} {rest : List Oper} {o : Oper} {a : Act} {w : World} {Q : Exit → Act → World → Prop} (hw : Region.wanted o (yielded ops a.tmps) = true) (x y : Operand) (t2 : TypeId) (ho : o.op = .binOp .eql 32 x y t2) (p q : List Int) (hx : a.eval x = .agg (v8a p)) (hy : a.eval y = .agg (v8a q)) (hp : p.length = 64) (hq : q.length = 64)
    (h : wpList Tryz.prog ops Q rest (a.put o.dst (.bool (decide (p = q)))) w) : wpList Tryz.prog ops Q (o :: rest) a w := by
  refine wpList_step fun K hK => ?_
  rw [if_pos hw]
  unfold Oper.wp execOp
  simp only [ho, hx, hy, Sem.run_bind, run_eqGuard_agg w .eql _ x y (v8a p) (v8a q) guard_pg, pg_eql w p q hp hq, Result.andThen_ok]
  exact hK _ _ h
set_option maxRecDepth 100000 in
set_option maxHeartbeats 4000000 in
theorem stands07_any (N : Nat → Prop) (w : World) (hN : ∀ i, N i → i < w.heap.size) :
    Calls Tryz.prog 10 #[] w fun e w' => e = .returned (.bool true) ∧ Keeps N w w' := by
  have hFR := fresh07_any 2 (by decide) N w hN
  clear hN
  go_enter Tryz.func10, Tryz.ntmps10
  go_wp2_with fail
  refine hFR.mono ?_
  clear hFR
  rintro e w1 ⟨⟨bb, tb, rfl, hT⟩, hk1⟩
  have H1 : Hid (HolI 103 w1 tb N bb 3 2 freshB6 ∧ Keeps N w w1) := Lib.hid ⟨hT, hk1⟩
  clear hT hk1
  have hS := dPut_any tb N bb 3 2 freshB6 (by rw [freshB6_n]; decide) (pgOne 1) (pgOne_ok 1 (by decide)) 0 best_first (wrOk_cnt (k := 0) (by rw [freshB6_cnt]; exact Nat.le_refl _) (by decide) _ _) (by
    show WrOk (freshB6.wrote 3 (setDF (freshB6.view 3) 0 1)) _ _
    rw [freshB6_view _ (by decide)]
    exact wrOk_cnt (k := 1) dkA_cnt (by decide) _ _) w1 H1.out.1
  rw [show (freshB6.wrote (3 + 0 / 4 * 5) (setDF (freshB6.view (3 + 0 / 4 * 5)) (0 % 4) 1)).wrote (3 + 0 / 4 * 5 + 1 + 0 % 4) (pgOne 1) = dkB by
    show (freshB6.wrote 3 (setDF (freshB6.view 3) 0 1)).wrote 4 (pgOne 1) = dkB
    rw [freshB6_view _ (by decide)]; rfl] at hS
  try dsimp only
  go_wp2_with (refine wpList_build_to rfl 32 _ rfl (v8a (pgOne 1)) (built_pg1 1) ?_)
  refine hS.mono ?_
  clear hS
  rintro e w2 ⟨rfl, hT, hk⟩
  have H2 : Hid (HolI 103 w2 tb N bb 3 2 dkB ∧ Keeps N w w2) := Lib.hid ⟨hT, H1.out.2.trans hk⟩
  clear hT hk H1
  have hS := dPut_any tb N bb 3 2 dkB (by rw [dkB_n]; decide) (pgOne 2) (pgOne_ok 2 (by decide)) 1 best_second (wrOk_cnt (k := 2) dkB_cnt (by decide) _ _) (by
    show WrOk (dkB.wrote 3 (setDF (dkB.view 3) 1 1)) _ _
    rw [dkB_view _ (by decide)]
    exact wrOk_cnt (k := 3) dkC_cnt (by decide) _ _) w2 H2.out.1
  rw [show (dkB.wrote (3 + 1 / 4 * 5) (setDF (dkB.view (3 + 1 / 4 * 5)) (1 % 4) 1)).wrote (3 + 1 / 4 * 5 + 1 + 1 % 4) (pgOne 2) = dkD by
    show (dkB.wrote 3 (setDF (dkB.view 3) 1 1)).wrote 5 (pgOne 2) = dkD
    rw [dkB_view _ (by decide)]; rfl] at hS
  try dsimp only
  go_wp2_with (refine wpList_build_to rfl 32 _ rfl (v8a (pgOne 2)) (built_pg1 2) ?_)
  refine hS.mono ?_
  clear hS
  rintro e w3 ⟨rfl, hT, hk⟩
  have H3 : Hid (HolI 103 w3 tb N bb 3 2 dkD ∧ Keeps N w w3) := Lib.hid ⟨hT, H2.out.2.trans hk⟩
  clear hT hk H2
  have hS := ddrop_any tb N bb 3 2 dkD 0 (by decide) (by rw [dkD_n]; decide) (by
    show (dkD.view 3).getD 0 0 = 1
    rw [dkD_view _ (by decide)]; exact hd_facts.1) (wrOk_cnt (k := 4) dkD_cnt (by decide) _ _) w3 H3.out.1
  rw [show dkD.wrote (3 + 0 / 4 * 5) (setDF (dkD.view (3 + 0 / 4 * 5)) (0 % 4) 2) = dkE by
    show dkD.wrote 3 (setDF (dkD.view 3) 0 2) = dkE
    rw [dkD_view _ (by decide)]; rfl] at hS
  try dsimp only
  go_wp2_with fail
  refine hS.mono ?_
  clear hS
  rintro e w4 ⟨rfl, hT, hk⟩
  have H4 : Hid (HolI 103 w4 tb N bb 3 2 dkE ∧ Keeps N w w4) := Lib.hid ⟨hT, H3.out.2.trans hk⟩
  clear hT hk H3
  have hS := dget_any tb N bb 3 2 dkE 1 (by decide) (by rw [dkE_n]; decide) (by
    show (dkE.view 3).getD 1 0 = 1
    rw [dkE_view _ (by decide)]; exact hd_facts.2) w4 H4.out.1
  rw [show dkE.view (3 + 1 / 4 * 5 + 1 + 1 % 4) = pgOne 2 by
    show dkE.view 5 = _
    rw [dkE_view _ (by decide)]; rfl] at hS
  try dsimp only
  go_wp2_with fail
  refine hS.mono ?_
  clear hS
  rintro e w5 ⟨rfl, hb5⟩
  have H5 : Hid (HolI 103 w5 tb N bb 3 2 dkE ∧ Keeps N w w5) := Lib.hid ⟨H4.out.1.below hb5, H4.out.2.trans (Keeps.of_below hb5)⟩
  clear hb5 H4
  try dsimp only
  repeat ((fail_if_success (with_reducible refine stop_at 40 rfl ?_)); (first | (refine page_store rfl (.tmp 8) (.tmp 37) rfl w5.heap.size (pgOne 2) (zer 64) rfl rfl (heap_alloc_new w5 _) rfl rfl ?_) | go_values | go_skip | go_guarded | go_step | go_upon))
  have hbx : ∀ o : Obj, Below w5.heap.size w5 ((w5.alloc o).setRow w5.heap.size (v8a (pgOne 2))) := fun o => below_setRow ((Below.refl _ _).alloc (Nat.le_refl _) _) (Nat.le_refl _) _
  refine gen_world (fun wx => Hid (HolI 103 wx tb N bb 3 2 dkE ∧ Keeps N w wx ∧ wx.heap[w5.heap.size]? = some (.cells (v8a (pgOne 2)) 32))) (Lib.hid ⟨H5.out.1.below (hbx _), H5.out.2.trans (Keeps.of_below (hbx _)), setRow_heap _ _ _ _ _ (0, 0) (heap_alloc_new w5 _)⟩) ?_
  clear hbx H5
  generalize w5.heap.size = b8
  intro w6 H6
  have hS := dcount_any tb N bb 3 2 dkE (by rw [dkE_n]; decide) w6 H6.out.1
  rw [show 2 * 4 = 8 from rfl, cnt_facts.1, cnt_facts.2.1, cnt_facts.2.2] at hS
  go_wp2_with fail
  refine hS.mono ?_
  clear hS
  rintro e w7 ⟨rfl, hb7⟩
  have H7 : Hid (Keeps N w w7 ∧ w7.heap[b8]? = some (.cells (v8a (pgOne 2)) 32)) := Lib.hid ⟨H6.out.2.1.trans (Keeps.of_below hb7), (hb7.block _ (lt_of_blk H6.out.2.2)).trans H6.out.2.2⟩
  clear hb7 H6
  try dsimp only
  go_wp2_with fail
  refine (num07_nil w7).mono ?_
  rintro e w8 ⟨rfl, rfl⟩
  try dsimp only
  go_wp2_with fail
  refine (num07_nil w7).mono ?_
  rintro e w8 ⟨rfl, rfl⟩
  try dsimp only
  go_wp2_with fail
  refine (num07_nil w7).mono ?_
  rintro e w8 ⟨rfl, rfl⟩
  try dsimp only
  go_wp2_with fail
  refine (num07_nil w7).mono ?_
  rintro e w8 ⟨rfl, rfl⟩
  try dsimp only
  go_wp2_with fail
  refine (num07_nil w7).mono ?_
  rintro e w8 ⟨rfl, rfl⟩
  try dsimp only
  have hd2 : decide (pgOne 2 = pgOne 2) = true := decide_eq_true rfl
  go_wp2_with (first | (refine page_eql_g rfl (.tmp 67) (.tmp 68) _ rfl (pgOne 2) (pgOne 2) rfl rfl rfl rfl ?_; rw [hd2]) | (refine page_load_g rfl (.tmp 8) rfl b8 (pgOne 2) rfl H7.out.2 rfl ?_) | (refine build_g1 rfl 32 _ rfl (v8a (pgOne 2)) (built_pg1 2) ?_))
  refine (depotPages_any 2 (by decide) w7).mono ?_
  rintro e w8 ⟨rfl, rfl⟩
  try dsimp only
  go_wp2_with fail
  go_ret
  exact ⟨rfl, H7.out.1⟩
end Go.Proofs.YtjikpodghmfjcaaGreatDoor
set_option linter.unnecessarySimpa false
namespace Go.Proofs.YtjikpodghmfjcaaGreatDoor
open Go.RowKit Go.Maps
theorem wrOk_le {B : BookS} {k : Nat} (h : B.cnt ≤ k) (hk : k < 60) (i : Nat) (p : List Int) : WrOk B i p := .inr (.inr (by show B.cnt ≠ 60; omega))
set_option maxRecDepth 100000 in
theorem dPut_full (tb : Nat) (N : Nat → Prop) (bb first n : Nat) (B : BookS) (hn : first + n * 5 ≤ B.n) (p : List Int) (hp : PgOk p) (hk : (bestF B first (-1) n).1 < 0) (w : World) (h : HolI 103 w tb N bb first n B) :
    Calls Tryz.prog 12 #[.pointer (some ⟨tb, 0, none⟩), .agg (v8a p)] w fun e w' => (∃ t x, e = .returned (.tuple #[.int .i64 0, .iface t x]) ∧ ErrV w' (.iface t x) 20) ∧ Below w.heap.size w w' := by
  have HP := Lib.hid (fun wx hh => dput_full tb N bb first n B hn p hp (-1) hk wx hh)
  have HT := Lib.hid h
  have hp64 := hp.1
  clear h hk
  have hb0 : ∀ o : Obj, Below w.heap.size w (w.alloc o) := fun o => (Below.refl _ _).alloc (Nat.le_refl _) _
  go_enter Tryz.func12, Tryz.ntmps12
  repeat ((fail_if_success (with_reducible refine stop_at 6 rfl ?_)); (first | go_values | go_skip | go_guarded | go_step | go_upon))
  refine gen_world (fun wx => Hid (wx.heap[w.heap.size]? = some (.cells (v8a p) 32) ∧ Below w.heap.size w wx)) (Lib.hid ⟨heap_alloc_new w (.cells (v8a p) 32), hb0 _⟩) ?_
  intro w1 H1
  clear hb0
  go_wp2_with (refine page_load rfl (.tmp 3) rfl w.heap.size p rfl H1.out.1 hp64 ?_)
  refine (HP.out w1 (HT.out.below H1.out.2)).mono ?_
  rintro e w2 ⟨⟨t, x, rfl, he⟩, hb⟩
  have H2 := Lib.hid (And.intro he (H1.out.2.trans (hb.mono H1.out.2.size)))
  clear he hb
  try dsimp only
  go_wp2_with fail
  go_ret2
  exact ⟨⟨t, x, rfl, H2.out.1⟩, H2.out.2⟩
/-- A depot on a new book, after so many commits, with at most so many pages under way. -/
def DepS (N : Nat → Prop) (tb bb n k c : Nat) (st : Nat → Int) (blk : Nat → List Int) (wx : World) : Prop :=
  ∃ B, HolI 103 wx tb N bb 3 n B ∧ DpI B n st blk ∧ B.cnt ≤ c ∧ B.lim k ∧ B.n = 498
section
variable {N : Nat → Prop} {tb bb n k c : Nat} {st : Nat → Int} {blk : Nat → List Int} {wx wy : World}
theorem DepS.below (h : DepS N tb bb n k c st blk wx) (hb : Below wx.heap.size wx wy) : DepS N tb bb n k c st blk wy := by
  obtain ⟨B, h1, h2⟩ := h
  exact ⟨B, h1.below hb, h2⟩
theorem DepS.keep {N' : Nat → Prop} (h : DepS N tb bb n k c st blk wx) (hb : Below wx.heap.size wx wy) (hn : ∀ i, N' i → i < wy.heap.size ∧ (N i ∨ wx.heap.size ≤ i)) : DepS N' tb bb n k c st blk wy := by
  obtain ⟨B, h1, h2⟩ := h
  exact ⟨B, h1.keep hb hn, h2⟩
theorem DepS.grow {N' : Nat → Prop} (h : DepS N tb bb n k c st blk wx) (hk : Keeps (fun k => ¬ N k) wx wy) (hn : ∀ i, N' i → i < wy.heap.size ∧ (N i ∨ wx.heap.size ≤ i)) : DepS N' tb bb n k c st blk wy := by
  obtain ⟨B, h1, h2⟩ := h
  exact ⟨B, h1.grow hk hn, h2⟩
theorem DepS.N_lt (h : DepS N tb bb n k c st blk wx) : ∀ i, N i → i < wx.heap.size := by
  obtain ⟨B, h1, _⟩ := h
  exact h1.N_lt
theorem DepS.more {c' : Nat} (h : DepS N tb bb n k c st blk wx) (hc : c ≤ c') : DepS N tb bb n k c' st blk wx := by
  obtain ⟨B, h1, h2, h3, h4⟩ := h
  exact ⟨B, h1, h2, Nat.le_trans h3 hc, h4⟩
theorem DepS.rng (h : DepS N tb bb n k c st blk wx) : ∀ s, s < n * 4 → st s = 0 ∨ st s = 1 ∨ st s = 2 := by
  obtain ⟨B, _, h2, _⟩ := h
  exact h2.rng
theorem DepS.live (h : DepS N tb bb n k c st blk wx) : ∀ s, s < n * 4 → st s = 2 → ∃ t, t / 4 = s / 4 ∧ st t = 1 := by
  obtain ⟨B, _, h2, _⟩ := h
  exact h2.live
/-- The slot of a put: free, and of a container that is begun, if there is one. -/
def MayS (st : Nat → Int) (n : Nat) (but : Int) (s : Nat) : Prop :=
  s < n * 4 ∧ st s = 0 ∧ ((s / 4 : Nat) : Int) ≠ but ∧ ((∃ t, t < 4 ∧ st (s / 4 * 4 + t) ≠ 0) ∨ ∀ b, b < n → (b : Int) ≠ but → (∃ t, t < 4 ∧ st (b * 4 + t) = 0) → ∀ t, t < 4 → st (b * 4 + t) = 0)
theorem best_may {B : BookS} (h : DpI B n st blk) (but : Int) {s : Nat} (hs : (bestF B 3 but n).1 = (s : Int)) : MayS st n but s := by
  obtain ⟨h1, h2, h3⟩ := best_spec B but n s hs
  have hst : ∀ b t, b < n → t < 4 → stD B (b * 4 + t) = st (b * 4 + t) := fun b t hb ht => h.hst _ (by omega)
  obtain ⟨b1, b2⟩ := best_begun B but n s hs
  refine ⟨h1, by rw [← h.hst s h1]; exact h2, h3, ?_⟩
  cases hf : (bestF B 3 but n).2 with
  | true =>
    obtain ⟨t, ht, hne⟩ := b1.1 hf
    exact .inl ⟨t, ht, by rw [← hst _ t (by omega) ht]; exact hne⟩
  | false =>
    right
    intro b hb hbut ⟨t, ht, h0⟩ t' ht'
    rw [← hst b t' hb ht']
    exact b2 hf b hb hbut ⟨t, ht, by rw [hst b t hb ht]; exact h0⟩ t' ht'
theorem dep_put (hn : n ≤ 99) (hc : c ≤ 50) (p : List Int) (hp : PgOk p) (hfree : ∃ s, s < n * 4 ∧ st s = 0) (h : DepS N tb bb n k c st blk wx) :
    Calls Tryz.prog 12 #[.pointer (some ⟨tb, 0, none⟩), .agg (v8a p)] wx fun e wy => (∃ s : Nat, e = .returned (.tuple #[.int .i64 (s : Int), .nilIface]) ∧ MayS st n (-1) s ∧ DepS N tb bb n k (c + 2) (fun t => if t = s then 1 else st t) (fun t => if t = s then p else blk t) wy) ∧ Keeps N wx wy := by
  obtain ⟨B, h1, h2, h3, h4, h5⟩ := h
  have hr := bestF_range B 3 (-1) n
  obtain ⟨s, hs⟩ : ∃ s : Nat, (bestF B 3 (-1) n).1 = (s : Int) := by
    by_cases h0 : (bestF B 3 (-1) n).1 < 0
    · obtain ⟨s, hs, hz⟩ := hfree
      have := best_none B (-1) n h0 s hs (by rw [h2.hst s hs]; exact hz)
      omega
    · exact ⟨(bestF B 3 (-1) n).1.toNat, by omega⟩
  have hm := best_may h2 (-1) hs
  have hs4 := hm.1
  have c1 := BookS.wrote_cnt B (3 + s / 4 * 5) (setDF (B.view (3 + s / 4 * 5)) (s % 4) 1) (by omega)
  refine (dPut_any tb N bb 3 n B (by omega) p hp s hs (wrOk_le h3 (by omega) _ _) (wrOk_le (k := c + 1) (by omega) (by omega) _ _) wx h1).mono ?_
  rintro e wy ⟨rfl, hH, hk⟩
  refine ⟨⟨s, rfl, hm, ⟨putB B s p, hH, h2.put h1.2.1.isOk (by omega) hs4 p, ?_, ?_, by rw [putB_n]; exact h5⟩⟩, hk⟩
  · have c2 := BookS.wrote_cnt (B.wrote (3 + s / 4 * 5) (setDF (B.view (3 + s / 4 * 5)) (s % 4) 1)) (3 + s / 4 * 5 + 1 + s % 4) p (by rw [BookS.wrote_n]; omega)
    show (putB B s p).cnt ≤ _
    unfold putB
    omega
  · exact h4.same (by unfold putB; rw [BookS.wrote_shut, BookS.wrote_shut])
theorem dep_full (hn : n ≤ 99) (p : List Int) (hp : PgOk p) (hno : ∀ s, s < n * 4 → st s ≠ 0) (h : DepS N tb bb n k c st blk wx) :
    Calls Tryz.prog 12 #[.pointer (some ⟨tb, 0, none⟩), .agg (v8a p)] wx fun e wy => (∃ t x, e = .returned (.tuple #[.int .i64 0, .iface t x]) ∧ ErrV wy (.iface t x) 20) ∧ Below wx.heap.size wx wy := by
  obtain ⟨B, h1, h2, h3, h4, h5⟩ := h
  have hr := bestF_range B 3 (-1) n
  refine dPut_full tb N bb 3 n B (by omega) p hp ?_ wx h1
  apply Classical.byContradiction
  intro h0
  obtain ⟨s, hs⟩ : ∃ s : Nat, (bestF B 3 (-1) n).1 = (s : Int) := ⟨(bestF B 3 (-1) n).1.toNat, by omega⟩
  have hm := best_may h2 (-1) hs
  exact hno s hm.1 hm.2.1
theorem dep_get (hn : n ≤ 99) {s : Nat} (hs : s < n * 4) (hl : st s = 1) (h : DepS N tb bb n k c st blk wx) :
    Calls Tryz.prog 16 #[.pointer (some ⟨tb, 0, none⟩), .int .i64 (s : Int)] wx fun e wy => e = .returned (.tuple #[.agg (v8a (blk s)), .nilIface]) ∧ Below wx.heap.size wx wy := by
  obtain ⟨B, h1, h2, h3, h4, h5⟩ := h
  rw [← h2.pg s hs hl]
  exact dget_any tb N bb 3 n B s hs (by omega) (by have := h2.hst s hs; unfold stD at this; rw [this]; exact hl) wx h1
theorem dep_drop (hn : n ≤ 99) (hc : c ≤ 55) {s : Nat} (hs : s < n * 4) (hl : st s = 1) (h : DepS N tb bb n k c st blk wx) :
    Calls Tryz.prog 17 #[.pointer (some ⟨tb, 0, none⟩), .int .i64 (s : Int)] wx fun e wy => e = .returned .nilIface ∧ DepS N tb bb n k (c + 1) (dropT st s) blk wy ∧ Keeps N wx wy := by
  obtain ⟨B, h1, h2, h3, h4, h5⟩ := h
  have c1 := BookS.wrote_cnt B (3 + s / 4 * 5) (setDF (B.view (3 + s / 4 * 5)) (s % 4) 2) (by omega)
  refine (ddrop_any tb N bb 3 n B s hs (by omega) (by have := h2.hst s hs; unfold stD at this; rw [this]; exact hl) (wrOk_le h3 (by omega) _ _) wx h1).mono ?_
  rintro e wy ⟨rfl, hH, hk⟩
  refine ⟨rfl, ⟨dropB B s, hH, h2.drop h1.2.1.isOk (by omega) hs, ?_, h4.same (by unfold dropB; rw [BookS.wrote_shut]), by rw [dropB_n]; exact h5⟩, hk⟩
  show (dropB B s).cnt ≤ _
  unfold dropB
  omega
theorem dep_count (hn : n ≤ 99) (h : DepS N tb bb n k c st blk wx) :
    Calls Tryz.prog 18 #[.pointer (some ⟨tb, 0, none⟩)] wx fun e wy => e = .returned (.tuple #[.int .i64 (cntS st 1 (n * 4) : Nat), .int .i64 (cntS st 2 (n * 4) : Nat), .int .i64 (cntS st 0 (n * 4) : Nat), .nilIface]) ∧ Below wx.heap.size wx wy := by
  obtain ⟨B, h1, h2, h3, h4, h5⟩ := h
  rw [← h2.count 1 (by omega), ← h2.count 2 (by omega), ← h2.count 0 (by omega)]
  exact dcount_any tb N bb 3 n B (by omega) wx h1
theorem dep_commit (hn : n ≤ 99) (hk : k ≤ 9000) (hc : c ≤ 60) (h : DepS N tb bb n k c st blk wx) :
    Calls Tryz.prog 15 #[.pointer (some ⟨bb, 0, none⟩)] wx fun e wy => e = .returned .nilIface ∧ DepS N tb bb n (k + 1) 0 st blk wy ∧ Keeps N wx wy := by
  obtain ⟨B, h1, h2, h3, h4, h5⟩ := h
  refine (hcommit_any 103 tb N bb 3 n B k h4 (by omega) (by omega) wx h1).mono ?_
  rintro e wz ⟨rfl, hD, hkz⟩
  exact ⟨rfl, ⟨B.done, hD, h2.congr (fun i hi => BookS.done_view_lim h1.2.1.isOk h4 (by omega) i (by omega)), by rw [BookS.done_cnt]; exact Nat.le_refl _, h4.done (by omega), by rw [BookS.done_n, h5]⟩, hkz⟩
theorem dep_undo (hn : n ≤ 99) (h : DepS N tb bb n k 0 st blk wx) :
    Calls Tryz.prog 14 #[.pointer (some ⟨bb, 0, none⟩)] wx fun e wy => e = .returned (.tuple #[]) ∧ DepS N tb bb n k 0 st blk wy ∧ Keeps N wx wy := by
  obtain ⟨B, h1, h2, h3, h4, h5⟩ := h
  refine (hundo_any 103 tb N bb 3 n B wx h1).mono ?_
  rintro e wz ⟨rfl, hD, hkz⟩
  refine ⟨rfl, ⟨B.shut, hD, h2.congr (fun i hi => ?_), by rw [BookS.shut_cnt]; exact Nat.le_refl _, h4.shut, h5⟩, hkz⟩
  rw [BookS.shut_view, BookS.view_f, BookS.f_none h1.2.1.isOk (by omega)]
end
theorem freshB6_lim : freshB6.lim 0 := ⟨by show ([] : List (Nat × List Int)).length ≤ _; simp, by show (0 : Int) + 1 ≤ _; omega, by show (0 : Int) ≤ _; omega⟩
theorem dep_fresh (n : Nat) (hn : 1 ≤ n ∧ n ≤ 64) (N : Nat → Prop) (w : World) (hN : ∀ i, N i → i < w.heap.size) (blk : Nat → List Int) :
    Calls Tryz.prog 11 #[.int .i64 (n : Int)] w fun e w' => (∃ bb tb, e = .returned (.tuple #[.pointer (some ⟨bb, 0, none⟩), .pointer (some ⟨tb, 0, none⟩)]) ∧ DepS N tb bb n 0 0 (fun _ => 0) blk w') ∧ Keeps N w w' := by
  refine (fresh07_any n hn N w hN).mono ?_
  rintro e w' ⟨⟨bb, tb, rfl, hH⟩, hk⟩
  exact ⟨⟨bb, tb, rfl, ⟨freshB6, hH, DpI.start _ _ (fun i hi => freshB6_view i (by omega)) blk, by rw [freshB6_cnt]; exact Nat.le_refl _, freshB6_lim, freshB6_n⟩⟩, hk⟩
end Go.Proofs.YtjikpodghmfjcaaGreatDoor
set_option linter.unnecessarySimpa false
namespace Go.Proofs.YtjikpodghmfjcaaGreatDoor
open Go.RowKit Go.Maps
/-- How many of four are of a state. -/
def cnt4 (g : Nat → Int) (v : Int) : Nat := (if g 0 = v then 1 else 0) + (if g 1 = v then 1 else 0) + (if g 2 = v then 1 else 0) + (if g 3 = v then 1 else 0)
/-- The states of a container. -/
def boxS (st : Nat → Int) (b : Nat) : Nat → Int := fun t => st (b * 4 + t)
theorem four_lt {t : Nat} (h : t < 4) : t = 0 ∨ t = 1 ∨ t = 2 ∨ t = 3 := by omega
theorem cnt4_le (g : Nat → Int) (v : Int) : cnt4 g v ≤ 4 := by
  unfold cnt4
  split <;> split <;> split <;> split <;> omega
theorem cnt4_zero (g : Nat → Int) (v : Int) : cnt4 g v = 0 ↔ ∀ t, t < 4 → g t ≠ v := by
  unfold cnt4
  constructor
  · intro h t ht
    rcases four_lt ht with rfl | rfl | rfl | rfl
    all_goals (intro e; simp only [e, if_true] at h; omega)
  · intro h
    rw [if_neg (h 0 (by omega)), if_neg (h 1 (by omega)), if_neg (h 2 (by omega)), if_neg (h 3 (by omega))]
theorem cnt4_four (g : Nat → Int) (v : Int) (h : ∀ t, t < 4 → g t = v) : cnt4 g v = 4 := by
  unfold cnt4
  rw [if_pos (h 0 (by omega)), if_pos (h 1 (by omega)), if_pos (h 2 (by omega)), if_pos (h 3 (by omega))]
theorem cnt4_lt (g : Nat → Int) (v : Int) (t : Nat) (ht : t < 4) (h : g t ≠ v) : cnt4 g v < 4 := by
  unfold cnt4
  rcases four_lt ht with rfl | rfl | rfl | rfl
  all_goals
    rw [if_neg h]
    repeat' split
    all_goals omega
theorem cnt4_congr {g g' : Nat → Int} (h : ∀ t, t < 4 → g t = g' t) (v : Int) : cnt4 g v = cnt4 g' v := by
  unfold cnt4
  rw [h 0 (by omega), h 1 (by omega), h 2 (by omega), h 3 (by omega)]
/-- The document's count: of a container, or (below 0) of all, among the first slots. -/
def cntR (st : Nat → Int) (box v : Int) : Nat → Nat
  | 0 => 0
  | m + 1 => cntR st box v m + (if (box < 0 ∨ ((m / 4 : Nat) : Int) = box) ∧ st m = v then 1 else 0)
theorem cntR_le (st : Nat → Int) (box v : Int) : ∀ m, cntR st box v m ≤ m
  | 0 => Nat.le_refl _
  | m + 1 => by
    have := cntR_le st box v m
    unfold cntR
    split <;> omega
theorem cntR_all (st : Nat → Int) (box v : Int) (hb : box < 0) : ∀ m, cntR st box v m = cntS st v m
  | 0 => rfl
  | m + 1 => by
    rw [cntR, cntR_all st box v hb m]
    unfold cntS
    rw [List.range_succ, List.filter_append, List.length_append]
    by_cases h : st m = v
    · rw [if_pos ⟨.inl hb, h⟩]; simp [h]
    · rw [if_neg (fun q => h q.2)]; simp [h]
theorem cntR_box (st : Nat → Int) (b : Nat) (v : Int) : ∀ n, cntR st (b : Int) v (n * 4) = if b < n then cnt4 (boxS st b) v else 0
  | 0 => by rw [if_neg (by omega)]; rfl
  | n + 1 => by
    rw [show (n + 1) * 4 = n * 4 + 1 + 1 + 1 + 1 by omega]
    unfold cntR cntR cntR cntR
    rw [cntR_box st b v n]
    simp only [show (n * 4) / 4 = n by omega, show (n * 4 + 1) / 4 = n by omega, show (n * 4 + 1 + 1) / 4 = n by omega, show (n * 4 + 1 + 1 + 1) / 4 = n by omega]
    have hb0 : ¬ ((b : Int) < 0) := by omega
    simp only [hb0, false_or]
    by_cases h : n = b
    · subst h
      simp only [true_and, if_neg (Nat.lt_irrefl n), if_pos (Nat.lt_succ_self n), Nat.zero_add]
      rfl
    · have h' : ¬ ((n : Int) = b) := by omega
      simp only [h', false_and, if_false, Nat.add_zero]
      by_cases hl : b < n
      · rw [if_pos hl, if_pos (by omega)]
      · rw [if_neg hl, if_neg (by omega)]
theorem cntS_box (st : Nat → Int) (v : Int) : ∀ n, (cntS st v (n * 4) = 0 ↔ ∀ b, b < n → cnt4 (boxS st b) v = 0) := by
  intro n
  constructor
  · intro h b hb
    rw [cnt4_zero]
    intro t ht e
    unfold cntS at h
    rw [List.length_eq_zero_iff, List.filter_eq_nil_iff] at h
    exact h (b * 4 + t) (List.mem_range.2 (by omega)) (by rw [decide_eq_true_eq]; exact e)
  · intro h
    refine count_none' st v _ (fun s hs e => ?_)
    refine (cnt4_zero _ _).1 (h (s / 4) (by omega)) (s % 4) (by omega) ?_
    unfold boxS
    rw [show s / 4 * 4 + s % 4 = s by omega]; exact e
where
  count_none' (st : Nat → Int) (v : Int) (m : Nat) (h : ∀ s, s < m → st s ≠ v) : cntS st v m = 0 := by
    unfold cntS
    rw [List.length_eq_zero_iff, List.filter_eq_nil_iff]
    intro s hs h'
    exact h s (List.mem_range.1 hs) (of_decide_eq_true h')
theorem cntS_three (st : Nat → Int) : ∀ m, (∀ s, s < m → st s = 0 ∨ st s = 1 ∨ st s = 2) → cntS st 1 m + cntS st 2 m + cntS st 0 m = m
  | 0, _ => rfl
  | m + 1, h => by
    have ih := cntS_three st m (fun s hs => h s (by omega))
    have e : ∀ v, cntS st v (m + 1) = cntS st v m + (if st m = v then 1 else 0) := fun v => by
      unfold cntS
      rw [List.range_succ, List.filter_append, List.length_append]
      by_cases h : st m = v
      · rw [if_pos h]; simp [h]
      · rw [if_neg h]; simp [h]
    rw [e 1, e 2, e 0]
    rcases h m (by omega) with q | q | q <;> rw [q] <;> simp <;> omega
/-- The worst container: that, and how many of its slots are dead. -/
def worstR (g : Nat → Nat → Int) : Nat → Nat × Nat
  | 0 => (0, 0)
  | b + 1 => if (worstR g b).2 < cnt4 (g b) 2 then (b, cnt4 (g b) 2) else worstR g b
theorem worstR_le (g : Nat → Nat → Int) : ∀ n, (worstR g n).2 ≤ 4 ∧ (worstR g n).1 ≤ n
  | 0 => ⟨by show 0 ≤ 4; omega, Nat.le_refl _⟩
  | b + 1 => by
    have ih := worstR_le g b
    have h4 := cnt4_le (g b) 2
    unfold worstR
    split
    · exact ⟨h4, by show b ≤ b + 1; omega⟩
    · exact ⟨ih.1, by omega⟩
theorem worstR_lt (g : Nat → Nat → Int) : ∀ n, 1 ≤ n → (worstR g n).1 < n
  | 0, h => by omega
  | b + 1, _ => by
    unfold worstR
    split
    · show b < b + 1; omega
    · have := (worstR_le g b).2; omega
theorem worstR_is (g : Nat → Nat → Int) : ∀ n, 0 < (worstR g n).2 → cnt4 (g (worstR g n).1) 2 = (worstR g n).2
  | 0, h => absurd (show 0 < 0 from h) (Nat.lt_irrefl 0)
  | b + 1, h => by
    unfold worstR at h ⊢
    split at h
    · rename_i q; rw [if_pos q]
    · rename_i q; rw [if_neg q]; exact worstR_is g b h
theorem worstR_zero (g : Nat → Nat → Int) : ∀ n, ((worstR g n).2 = 0 ↔ ∀ b, b < n → cnt4 (g b) 2 = 0)
  | 0 => ⟨fun _ b hb => by omega, fun _ => rfl⟩
  | n + 1 => by
    have ih := worstR_zero g n
    unfold worstR
    split
    · rename_i q
      constructor
      · intro h
        have h' : cnt4 (g n) 2 = 0 := h
        omega
      · intro h
        show cnt4 (g n) 2 = 0
        exact h n (by omega)
    · rename_i q
      rw [ih]
      constructor
      · intro h b hb
        by_cases e : b = n
        · subst e
          have := ih.2 h; omega
        · exact h b (by omega)
      · intro h b hb; exact h b (by omega)
theorem worstR_congr {g g' : Nat → Nat → Int} : ∀ n, (∀ b t, b < n → t < 4 → g b t = g' b t) → worstR g n = worstR g' n
  | 0, _ => rfl
  | n + 1, h => by
    unfold worstR
    rw [worstR_congr n (fun b t hb ht => h b t (by omega) ht), cnt4_congr (fun t ht => h n t (by omega) ht)]
/-- The live slots of a container, among its first k. -/
def slots4 (g : Nat → Int) (b k : Nat) : List Nat := ((List.range k).filter fun t => decide (g t = 1)).map (b * 4 + ·)
theorem slots4_succ (g : Nat → Int) (b k : Nat) : slots4 g b (k + 1) = if g k = 1 then slots4 g b k ++ [b * 4 + k] else slots4 g b k := by
  unfold slots4
  rw [List.range_succ, List.filter_append, List.map_append]
  by_cases h : g k = 1
  · rw [if_pos h]; simp [h]
  · rw [if_neg h]; simp [h]
theorem slots4_le (g : Nat → Int) (b k : Nat) : (slots4 g b k).length ≤ k := by
  unfold slots4
  rw [List.length_map]
  exact Nat.le_trans (List.length_filter_le _ _) (by simp)
theorem slots4_congr {g g' : Nat → Int} (b : Nat) : ∀ k, (∀ t, t < k → g t = g' t) → slots4 g b k = slots4 g' b k
  | 0, _ => rfl
  | k + 1, h => by rw [slots4_succ, slots4_succ, slots4_congr b k (fun t ht => h t (by omega)), h k (by omega)]
theorem slots4_pos (g : Nat → Int) (b : Nat) (t : Nat) (ht : t < 4) (h : g t = 1) : 0 < (slots4 g b 4).length := by
  unfold slots4
  rw [List.length_map]
  exact List.length_pos_of_mem (List.mem_filter.2 ⟨List.mem_range.2 ht, by rw [decide_eq_true_eq]; exact h⟩)
theorem slots4_rng (g : Nat → Int) (b k : Nat) : ∀ x ∈ slots4 g b k, x < b * 4 + k := fun x hx => by
  unfold slots4 at hx
  obtain ⟨t, h1, rfl⟩ := List.mem_map.1 hx
  have := List.mem_range.1 (List.mem_filter.1 h1).1
  omega
/-- Numbers, as values. -/
def intsN (l : List Nat) : List Value := l.map fun i : Nat => .int .i64 (i : Int)
/-- Is a slot free, but for a container? -/
def roomR (st : Nat → Int) (but : Int) (m : Nat) : Bool := (List.range m).any fun s => decide (st s = 0) && decide (((s / 4 : Nat) : Int) ≠ but)
theorem roomR_iff (st : Nat → Int) (but : Int) (m : Nat) : roomR st but m = true ↔ ∃ s, s < m ∧ st s = 0 ∧ ((s / 4 : Nat) : Int) ≠ but := by
  unfold roomR
  rw [List.any_eq_true]
  constructor
  · rintro ⟨s, hs, h⟩
    rw [Bool.and_eq_true, decide_eq_true_eq, decide_eq_true_eq] at h
    exact ⟨s, List.mem_range.1 hs, h⟩
  · rintro ⟨s, hs, h⟩
    exact ⟨s, List.mem_range.2 hs, by rw [Bool.and_eq_true, decide_eq_true_eq, decide_eq_true_eq]; exact h⟩
theorem roomR_none (st : Nat → Int) (but : Int) (m : Nat) (h : roomR st but m = false) (s : Nat) (hs : s < m) (h0 : st s = 0) : ((s / 4 : Nat) : Int) = but := by
  apply Classical.byContradiction
  intro hne
  have := (roomR_iff st but m).2 ⟨s, hs, h0, hne⟩
  rw [h] at this; cases this
theorem roomR_succ (st : Nat → Int) (but : Int) (m : Nat) : roomR st but (m + 1) = (roomR st but m || (decide (st m = 0) && decide (((m / 4 : Nat) : Int) ≠ but))) := by
  unfold roomR
  rw [List.range_succ, List.any_append]
  simp
/-- One slot set; the first ones of a container free. -/
def stSet (st : Nat → Int) (k : Nat) (v : Int) : Nat → Int := fun s => if s = k then v else st s
def stClr (st : Nat → Int) (k i : Nat) : Nat → Int := fun s => if s / 4 = k / 4 ∧ s % 4 < i then 0 else st s
theorem stClr_zero (st : Nat → Int) (k : Nat) : stClr st k 0 = st := by
  funext s
  unfold stClr
  rw [if_neg (by omega)]
theorem stClr_succ (st : Nat → Int) (k i : Nat) (hi : i < 4) : stSet (stClr st k i) (k / 4 * 4 + i) 0 = stClr st k (i + 1) := by
  funext s
  unfold stSet stClr
  by_cases h : s = k / 4 * 4 + i
  · rw [if_pos h, if_pos (by omega)]
  · rw [if_neg h]
    by_cases h2 : s / 4 = k / 4 ∧ s % 4 < i
    · rw [if_pos h2, if_pos (by omega)]
    · rw [if_neg h2, if_neg (by omega)]
theorem cnt4_drop (st : Nat → Int) (k : Nat) : cnt4 (boxS (stSet st k 2) (k / 4)) 1 = 0 ↔ othB st k = false := by
  rw [cnt4_zero]
  constructor
  · intro h
    cases ho : othB st k with
    | false => rfl
    | true =>
      exfalso
      obtain ⟨t, ht, h1, h2⟩ := (othB_iff st k).1 ho
      refine h t ht ?_
      unfold boxS stSet
      rw [if_neg (by omega)]; exact h2
  · intro h t ht e
    unfold boxS stSet at e
    split at e
    · omega
    · rename_i hne
      have := (othB_iff st k).2 ⟨t, ht, by omega, e⟩
      rw [h] at this; cases this
theorem dropT_stay (st : Nat → Int) (k : Nat) (h : othB st k = true) : dropT st k = stSet st k 2 := by
  funext s
  unfold dropT stSet
  rw [if_pos h]
  by_cases e : s = k
  · rw [if_pos (by rw [e]), if_pos e]
  · rw [if_neg e]
    split <;> rfl
theorem dropT_free (st : Nat → Int) (k : Nat) (h : othB st k = false) : dropT st k = stClr (stSet st k 2) k 4 := by
  funext s
  unfold dropT stClr stSet
  rw [h]
  by_cases e : s / 4 = k / 4
  · rw [if_pos e, if_neg (by decide), if_pos (And.intro e (by omega))]
  · rw [if_neg e, if_neg (fun q => e q.1), if_neg (fun q => e (by rw [q]))]
end Go.Proofs.YtjikpodghmfjcaaGreatDoor
set_option linter.unnecessarySimpa false
namespace Go.Proofs.YtjikpodghmfjcaaGreatDoor
open Go.RowKit Go.Maps
/-- The states of a container, as its head has them. -/
def boxV (B : BookS) (first b : Nat) : Nat → Int := fun t => (B.view (first + b * 5)).getD t 0
/-- How many of the first k of four are of a state. -/
def cntK (g : Nat → Int) (v : Int) : Nat → Nat
  | 0 => 0
  | k + 1 => cntK g v k + (if g k = v then 1 else 0)
theorem cntK_le (g : Nat → Int) (v : Int) : ∀ k, cntK g v k ≤ k
  | 0 => Nat.le_refl _
  | k + 1 => by
    have := cntK_le g v k
    unfold cntK
    split <;> omega
theorem cntK_four (g : Nat → Int) (v : Int) : cntK g v 4 = cnt4 g v := by
  unfold cnt4 cntK cntK cntK cntK cntK
  omega
set_option maxRecDepth 100000 in
set_option maxHeartbeats 4000000 in
theorem dworst_any (tb : Nat) (N : Nat → Prop) (bb first n : Nat) (B : BookS) (hn : first + n * 5 ≤ B.n) (w : World) (h : HolI 103 w tb N bb first n B) :
    Calls Tryz.prog 32 #[.pointer (some ⟨tb, 0, none⟩)] w fun e w' => e = .returned (.tuple #[.int .i64 ((worstR (boxV B first) n).1 : Nat), .int .i64 ((worstR (boxV B first) n).2 : Nat), .nilIface]) ∧ Below w.heap.size w w' := by
  have HT := Lib.hid h
  have hok := h.2.1.isOk
  have hn2 := hok.n.2
  have HV : Hid (∀ i, i < n → PgOk (B.view (first + i * 5))) := Lib.hid (fun i hi => BookS.view_ok hok _ (by omega))
  have hrp := Lib.hid (fun wx (hb : Below w.heap.size w wx) (i : Nat) (hi : i < n) => dhead_any tb N bb first n B i (by omega) wx (HT.out.below hb))
  obtain ⟨z0, z1, z2⟩ := blk3 h.1
  clear h hok
  have hn0 : (0 : Int) ≤ n := by omega
  have hn3 : (n : Int) ≤ 2048 := by omega
  go_enter Tryz.func32, Tryz.ntmps32
  go_wp2_with fail
  clear z0 z1 z2
  go_loopw [5, 6, 21] (fun bv mv iv wr => ∃ (i x y : Nat), iv = .int .i64 (i : Int) ∧ i ≤ n ∧ bv = .int .i64 (x : Int) ∧ mv = .int .i64 (y : Int) ∧ Hid (worstR (boxV B first) i = (x, y)) ∧ Hid (Below w.heap.size w wr)) (fun _ _ iv _ => n + 1 - (intOf iv).toNat)
  case atStart => exact ⟨0, 0, 0, rfl, by omega, rfl, rfl, Lib.hid rfl, Lib.hid (Below.refl _ _)⟩
  case round =>
    obtain ⟨i, x, y, rfl, hi, rfl, rfl, HXY, HB⟩ := hrel
    by_cases hlt : i < n
    · have hi1 : (i : Int) < n := by omega
      have hi0 : (0 : Int) ≤ i := by omega
      have hxl : x ≤ 2048 := by have h := (worstR_le (boxV B first) i).2; rw [HXY.out] at h; have h' : x ≤ i := h; omega
      have hyl : y ≤ 4 := by have h := (worstR_le (boxV B first) i).1; rw [HXY.out] at h; exact h
      have HNX : Hid (worstR (boxV B first) (i + 1) = if y < cntK (boxV B first i) 2 4 then (i, cntK (boxV B first i) 2 4) else (x, y)) := Lib.hid (by rw [worstR, HXY.out, cntK_four])
      have hp := hrp.out wr HB.out i hlt
      have HPK := Lib.hid (HV.out i hlt)
      have HG : Hid (∀ t, boxV B first i t = (B.view (first + i * 5)).getD t 0) := Lib.hid (fun t => rfl)
      generalize boxV B first i = g at HNX HG
      generalize B.view (first + i * 5) = pg at hp HPK HG
      have hq64 := HPK.out.1
      clear HXY
      go_wp2_with fail
      refine hp.mono ?_
      clear hp
      rintro e w2 ⟨rfl, hb2⟩
      have H2 := Lib.hid (HB.out.trans (hb2.mono HB.out.size))
      clear hb2 HB
      try dsimp only
      repeat ((fail_if_success (with_reducible refine stop_at 30 rfl ?_)); (first | (refine page_store rfl (.tmp 8) (.tmp 28) rfl w2.heap.size pg (zer 64) rfl rfl (heap_alloc_new w2 _) hq64 rfl ?_) | go_values | go_skip | go_guarded | go_step | go_upon))
      have hbx : ∀ o : Obj, Below w2.heap.size w2 ((w2.alloc o).setRow w2.heap.size (v8a pg)) := fun o => below_setRow ((Below.refl _ _).alloc (Nat.le_refl _) _) (Nat.le_refl _) _
      refine gen_world (fun wx => Hid (wx.heap[w2.heap.size]? = some (.cells (v8a pg) 32) ∧ Below w.heap.size w wx)) (Lib.hid ⟨setRow_heap _ _ _ _ _ (0, 0) (heap_alloc_new w2 _), H2.out.trans ((hbx _).mono H2.out.size)⟩) ?_
      clear hbx H2
      generalize w2.heap.size = b8
      intro w3 H3
      go_wp2_with fail
      go_loopw [10, 36] (fun cv jv wr' => ∃ j c : Nat, jv = .int .i64 (j : Int) ∧ j ≤ 4 ∧ cv = .int .i64 (c : Int) ∧ Hid (cntK g 2 j = c) ∧ wr' = w3) (fun _ jv _ => 5 - (intOf jv).toNat)
      case atStart => exact ⟨0, 0, rfl, by omega, rfl, Lib.hid rfl, rfl⟩
      case round =>
        obtain ⟨j, c, rfl, hj, rfl, HC, rfl⟩ := hrel
        have hc4 : c ≤ 4 := by have h := cntK_le g 2 j; rw [HC.out] at h; omega
        by_cases hjt : j < 4
        · have hj1 : (j : Int) < 4 := by omega
          have hj0 : (0 : Int) ≤ j := by omega
          obtain ⟨c0, f0⟩ := v8_cell H3.out.1 j (by omega)
          rw [← HG.out j] at c0
          have HS : Hid (cntK g 2 (j + 1) = c + (if g j = 2 then 1 else 0)) := Lib.hid (by rw [cntK, HC.out])
          generalize g j = b at c0 HS
          by_cases q : b = 2
          · subst q
            rw [if_pos rfl] at HS
            go_wp2_with fail
            exact ⟨⟨j + 1, c + 1, by push_cast; rfl, by omega, by push_cast; rfl, HS, (by first | trivial | rfl)⟩, by simp [intOf]; omega⟩
          · rw [if_neg q] at HS
            go_wp2_with fail
            exact ⟨⟨j + 1, c, by push_cast; rfl, by omega, rfl, HS, (by first | trivial | rfl)⟩, by simp [intOf]; omega⟩
        · have hj1 : ¬ ((j : Int) < 4) := by omega
          obtain rfl : j = 4 := by omega
          have hC := HC.out
          rw [hC] at HNX
          have H4 := Lib.hid H3.out.2
          clear hC HC HG H3 hjt hj
          by_cases q : y < c
          · rw [if_pos q] at HNX
            have q1 : (y : Int) < c := by omega
            go_wp2_with fail
            exact ⟨⟨i + 1, i, c, by push_cast; rfl, by omega, rfl, rfl, HNX, H4⟩, by simp [intOf]; omega⟩
          · rw [if_neg q] at HNX
            have q1 : ¬ ((y : Int) < c) := by omega
            go_wp2_with fail
            exact ⟨⟨i + 1, x, y, by push_cast; rfl, by omega, rfl, rfl, HNX, H4⟩, by simp [intOf]; omega⟩
    · have hi1 : ¬ ((i : Int) < n) := by omega
      have HIN : Hid (i = n) := Lib.hid (by omega)
      clear hlt hi
      go_wp2_with fail
      have h := HXY.out
      rw [HIN.out] at h
      rw [h]
      refine bodyPost_ret (v := .tuple #[.int .i64 (x : Nat), .int .i64 (y : Nat), .nilIface]) ?_ rfl ⟨rfl, HB.out⟩
      simp [results, Tryz.results32]
set_option maxRecDepth 100000 in
set_option maxHeartbeats 4000000 in
theorem dslots_any (tb : Nat) (N : Nat → Prop) (bb first n : Nat) (B : BookS) (box : Nat) (hbx : box < n) (hn : first + n * 5 ≤ B.n) (w : World) (h : HolI 103 w tb N bb first n B) :
    Calls Tryz.prog 33 #[.pointer (some ⟨tb, 0, none⟩), .int .i64 (box : Int)] w fun e w' => (∃ a c, e = .returned (.tuple #[.slice a (slots4 (boxV B first box) box 4).length c, .nilIface]) ∧ w'.ownsRow w.heap.size 3 1 (.slice a (slots4 (boxV B first box) box 4).length c) (slots4 (boxV B first box) box 4).length (intsN (slots4 (boxV B first box) box 4))) ∧ Below w.heap.size w w' := by
  have hok := h.2.1.isOk
  have hn2 := hok.n.2
  have HPK : Hid (PgOk (B.view (first + box * 5))) := Lib.hid (BookS.view_ok hok _ (by omega))
  have hp := dhead_any tb N bb first n B box (by omega) w h
  obtain ⟨z0, z1, z2⟩ := blk3 h.1
  obtain ⟨i0, hi0', hz0, hz1, hz2⟩ := info_parts info_int
  have HI := Lib.hid (And.intro hi0' (And.intro hz0 (And.intro hz1 hz2)))
  have HG : Hid (∀ t, boxV B first box t = (B.view (first + box * 5)).getD t 0) := Lib.hid (fun t => rfl)
  generalize boxV B first box = g at HG ⊢
  generalize B.view (first + box * 5) = pg at hp HPK HG
  have hq64 := HPK.out.1
  have hx0 : (0 : Int) ≤ box := by omega
  have hx1 : (box : Int) < n := by omega
  have hx2 : (box : Int) < 2048 := by omega
  clear h hok hi0' hz0 hz1 hz2 hbx hn hn2
  go_enter Tryz.func33, Tryz.ntmps33
  go_wp2_with fail
  refine hp.mono ?_
  clear hp z0 z1 z2
  rintro e w2 ⟨rfl, hb2⟩
  try dsimp only
  repeat ((fail_if_success (with_reducible refine stop_at 33 rfl ?_)); (first | (refine page_store rfl (.tmp 6) (.tmp 31) rfl w2.heap.size pg (zer 64) rfl rfl (heap_alloc_new w2 _) hq64 rfl ?_) | go_values | go_skip | go_guarded | go_step | go_upon))
  have hbx : ∀ o : Obj, Below w2.heap.size w2 ((w2.alloc o).setRow w2.heap.size (v8a pg)) := fun o => below_setRow ((Below.refl _ _).alloc (Nat.le_refl _) _) (Nat.le_refl _) _
  have hge : w.heap.size ≤ w2.heap.size := hb2.size
  refine gen_world (fun wx => Hid (wx.heap[w2.heap.size]? = some (.cells (v8a pg) 32) ∧ Below w.heap.size w wx)) (Lib.hid ⟨setRow_heap _ _ _ _ _ (0, 0) (heap_alloc_new w2 _), hb2.trans ((hbx _).mono hb2.size)⟩) ?_
  clear hbx hb2
  generalize w2.heap.size = b6 at hge ⊢
  intro w3 H3
  have hge2 := Lib.hid hge
  clear hge
  go_wp2_with fail
  go_loopw [8, 39] (fun lv jv wr => ∃ (j : Nat) (a : Option Addr) (c : Nat) (l : List Nat), jv = .int .i64 (j : Int) ∧ j ≤ 4 ∧ lv = .slice a l.length c ∧ Hid (l = slots4 g box j) ∧ Hid (wr.heap[b6]? = some (.cells (v8a pg) 32) ∧ wr.ownsRow (b6 + 1) 3 1 (.slice a l.length c) l.length (intsN l) ∧ Below w.heap.size w wr)) (fun _ jv _ => 5 - (intOf jv).toNat)
  case atStart => exact ⟨0, none, 0, [], rfl, by omega, rfl, Lib.hid rfl, Lib.hid ⟨H3.out.1, World.ownsRow_nil _ _ _ _, H3.out.2⟩⟩
  case round =>
    clear H3
    obtain ⟨j, a, c, l, rfl, hj, rfl, HL, HO⟩ := hrel
    have hll : l.length ≤ 4 := by have := slots4_le g box j; rw [HL.out]; omega
    by_cases hjt : j < 4
    · have hj1 : (j : Int) < 4 := by omega
      have hj0 : (0 : Int) ≤ j := by omega
      obtain ⟨c0, f0⟩ := v8_cell HO.out.1 j (by omega)
      rw [← HG.out j] at c0
      have HNX := Lib.hid (slots4_succ g box j)
      rw [← HL.out] at HNX
      generalize g j = b at c0 HNX
      by_cases q : b = 1
      · subst q
        rw [if_pos rfl] at HNX
        repeat ((fail_if_success (with_reducible refine stop_at 52 rfl ?_)); (first | go_values | go_skip | go_guarded | go_step | go_upon))
        refine step_append_list rfl (.tmp 46) (.tmp 51) 27 rfl (b6 + 1) 3 i0 (.int .i64 0) 1 8 Tryz.underlying27 HI.out.1 HI.out.2.1 HI.out.2.2.1 HI.out.2.2.2 rfl (by decide) (.slice a l.length c) l.length (intsN l) rfl ?c0 (.slice (some ⟨wr.heap.size, 0, none⟩) 1 1) 1 [.int .i64 ((box : Int) * 4 + (j : Int))] rfl (one_srcN wr [.int .i64 ((box : Int) * 4 + (j : Int))] 3 1 rfl (by intro u hu; rw [List.mem_singleton] at hu; subst hu; rfl)) ?c1 ?c2 ?c3 ?_
        case c0 => exact own_below HO.out.2.1 ((Below.refl _ _).alloc (Nat.le_refl _) _)
        case c1 => unfold maxLen; omega
        case c2 => omega
        case c3 => have := lt_of_blk HO.out.1; simp; omega
        intro v4 w4 ho4 hg4
        obtain ⟨a4, c4, rfl⟩ := own_slice ho4
        have hlen : (l ++ [box * 4 + j]).length = l.length + 1 := by simp
        have H4 : Hid (w4.heap[b6]? = some (.cells (v8a pg) 32) ∧ w4.ownsRow (b6 + 1) 3 1 (.slice a4 (l ++ [box * 4 + j]).length c4) (l ++ [box * 4 + j]).length (intsN (l ++ [box * 4 + j])) ∧ Below w.heap.size w w4) := Lib.hid ⟨by
          have hlt := lt_of_blk HO.out.1
          rw [hg4.block b6 (by simp; omega) (fun he => by have := (HO.out.2.1.lt b6 he.symm).1; omega)]
          exact (((Below.refl _ _).alloc (Nat.le_refl _) _).block b6 hlt).trans HO.out.1, by rw [hlen]; simpa [intsN] using ho4, (HO.out.2.2.trans (((Below.refl _ _).alloc (Nat.le_refl _) _).mono HO.out.2.2.size)).grown hg4 (by have := HO.out.2.2.size; simp; omega) (fun q hq => by have := (HO.out.2.1.lt q hq).1; have := hge2.out; omega)⟩
        clear ho4 hg4 HO
        simp only [Act.put, List.setIfInBounds_toArray, List.set_cons_zero, List.set_cons_succ]
        go_wp2_with fail
        exact ⟨⟨j + 1, a4, c4, l ++ [box * 4 + j], by push_cast; rfl, by omega, by rw [hlen], Lib.hid HNX.out.symm, H4⟩, by simp [intOf]; omega⟩
      · rw [if_neg q] at HNX
        go_wp2_with fail
        exact ⟨⟨j + 1, a, c, l, by push_cast; rfl, by omega, rfl, Lib.hid HNX.out.symm, HO⟩, by simp [intOf]; omega⟩
    · have hj1 : ¬ ((j : Int) < 4) := by omega
      have HJ : Hid (j = 4) := Lib.hid (by omega)
      clear hjt hj
      go_wp2_with fail
      go_ret2
      have hl := HL.out
      rw [HJ.out] at hl
      rw [← hl]
      refine ⟨⟨a, c, rfl, ?_⟩, HO.out.2.2⟩
      exact own_mono HO.out.2.1 (by have := hge2.out; omega)
end Go.Proofs.YtjikpodghmfjcaaGreatDoor
set_option linter.unnecessarySimpa false
namespace Go.Proofs.YtjikpodghmfjcaaGreatDoor
open Go.RowKit Go.Maps
def refC (sb qb n : Nat) : Array Value := #[.slice (some ⟨sb, 0, none⟩) (n * 4) (n * 4), .slice (some ⟨qb, 0, none⟩) (n * 4) (n * 4)]
def stRow (st : Nat → Int) (n : Nat) : Array Value := .mk ((List.range (n * 4)).map fun s => .int .i64 (st s))
def pgRows (blk : Nat → List Int) (n : Nat) : List (List Int) := (List.range (n * 4)).map blk
/-- The document's depot: block mb; the states, the pages. -/
structure RefI (mb sb qb n : Nat) (st : Nat → Int) (blk : Nat → List Int) (w : World) : Prop where
  cells : w.heap[mb]? = some (.cells (refC sb qb n) 68)
  st : w.heap[sb]? = some (.cells (stRow st n) 3)
  pg : w.heap[qb]? = some (.cells (v8a (pgRows blk n).flatten) 32)
  ok : ∀ s, s < n * 4 → PgOk (blk s)
  lt : n ≤ 64
theorem RefI.below {mb sb qb n : Nat} {st : Nat → Int} {blk : Nat → List Int} {w w' : World} (h : RefI mb sb qb n st blk w) (hb : Below w.heap.size w w') : RefI mb sb qb n st blk w' :=
  ⟨(hb.block _ (lt_of_blk h.cells)).trans h.cells, (hb.block _ (lt_of_blk h.st)).trans h.st, (hb.block _ (lt_of_blk h.pg)).trans h.pg, h.ok, h.lt⟩
theorem RefI.keeps {N : Nat → Prop} {mb sb qb n : Nat} {st : Nat → Int} {blk : Nat → List Int} {w w' : World} (h : RefI mb sb qb n st blk w) (hk : Keeps N w w') (h1 : N mb) (h2 : N sb) (h3 : N qb) : RefI mb sb qb n st blk w' :=
  ⟨(hk.block _ (lt_of_blk h.cells) h1).trans h.cells, (hk.block _ (lt_of_blk h.st) h2).trans h.st, (hk.block _ (lt_of_blk h.pg) h3).trans h.pg, h.ok, h.lt⟩
theorem stRow_get (st : Nat → Int) (n s : Nat) (hs : s < n * 4) : (stRow st n)[s]? = some (.int .i64 (st s)) := by
  unfold stRow
  simp [hs]
theorem st_cell {w : World} {sb n T : Nat} {st : Nat → Int} (h : w.heap[sb]? = some (.cells (stRow st n) T)) (s : Nat) (hs : s < n * 4) : w.cell? ⟨sb, s, none⟩ = some (.int .i64 (st s)) ∧ w.frozen? ⟨sb, s, none⟩ = false := by
  refine ⟨by rw [cell_of_row w sb s _ T (0, 0) h]; exact stRow_get st n s hs, ?_⟩
  simp [World.frozen?, h]
theorem st_set {w : World} {sb n T : Nat} {st : Nat → Int} (h : w.heap[sb]? = some (.cells (stRow st n) T)) (s : Nat) (v : Int) : (w.setCell ⟨sb, s, none⟩ (.int .i64 v)).heap[sb]? = some (.cells (stRow (stSet st s v) n) T) := by
  rw [set_blk h]
  congr 2
  unfold stRow stSet
  simp only [List.setIfInBounds_toArray]
  congr 1
  refine List.ext_getElem? (fun i => ?_)
  rw [List.getElem?_set]
  simp only [List.getElem?_map, List.length_map, List.length_range]
  by_cases e : s = i
  · subst e
    rw [if_pos rfl]
    split
    · rename_i hl
      simp [hl]
    · rename_i hl
      rw [List.getElem?_eq_none (by simpa using hl)]; rfl
  · rw [if_neg e]
    cases hg : (List.range (n * 4))[i]? with
    | none => rfl
    | some j =>
      have : j = i := by
        have h2 := List.getElem?_eq_some_iff.1 hg
        obtain ⟨h3, h4⟩ := h2
        rw [List.getElem_range] at h4; exact h4.symm
      subst this
      simp only [Option.map_some]
      rw [if_neg (fun h => e h.symm)]
theorem ref_cells {w : World} {mb sb qb n T : Nat} (h : w.heap[mb]? = some (.cells (refC sb qb n) T)) : w.cell? ⟨mb, 0, none⟩ = some (.slice (some ⟨sb, 0, none⟩) (n * 4) (n * 4)) ∧ w.cell? ⟨mb, 1, none⟩ = some (.slice (some ⟨qb, 0, none⟩) (n * 4) (n * 4)) := by
  simp [World.cell?, h, refC]
section
variable {mb sb qb n : Nat} {st : Nat → Int} {blk : Nat → List Int}
set_option maxRecDepth 100000 in
set_option maxHeartbeats 2000000 in
theorem refCount_any (box v : Int) (w : World) (h : RefI mb sb qb n st blk w) :
    Calls Tryz.prog 64 #[.pointer (some ⟨mb, 0, none⟩), .int .i64 box, .int .i64 v] w fun e w' => e = .returned (.int .i64 (cntR st box v (n * 4) : Nat)) ∧ w = w' := by
  obtain ⟨z0, z1⟩ := ref_cells h.cells
  have hST := Lib.hid (fun s hs => st_cell h.st s hs)
  have hn := h.lt
  clear h
  go_enter Tryz.func64, Tryz.ntmps64
  go_wp2_with fail
  go_loopw [7, 8] (fun cv iv wr => ∃ i c : Nat, iv = .int .i64 (i : Int) ∧ i ≤ n * 4 ∧ cv = .int .i64 (c : Int) ∧ Hid (cntR st box v i = c) ∧ wr = w) (fun _ iv _ => n * 4 + 1 - (intOf iv).toNat)
  case atStart => exact ⟨0, 0, rfl, by omega, rfl, Lib.hid rfl, rfl⟩
  case round =>
    obtain ⟨i, c, rfl, hi, rfl, HC, rfl⟩ := hrel
    have hcl : c ≤ 256 := by have h := cntR_le st box v i; rw [HC.out] at h; omega
    by_cases hlt : i < n * 4
    · have hi1 : (i : Int) < n * 4 := by omega
      have hi0 : (0 : Int) ≤ i := by omega
      obtain ⟨c0, f0⟩ := hST.out i hlt
      have HS : Hid (cntR st box v (i + 1) = c + if (box < 0 ∨ (i : Int) / 4 = box) ∧ st i = v then 1 else 0) := Lib.hid (by rw [cntR, HC.out]; rfl)
      generalize st i = s at c0 HS
      by_cases q1 : box < 0
      · by_cases q2 : s = v
        · rw [if_pos ⟨.inl q1, q2⟩] at HS
          have q2' : (s == v) = true := by simp [q2]
          clear q2
          go_wp2_with fail
          exact ⟨⟨i + 1, c + 1, by push_cast; rfl, by omega, by push_cast; rfl, HS, (by first | trivial | rfl)⟩, by simp [intOf]; omega⟩
        · rw [if_neg (fun h => q2 h.2)] at HS
          go_wp2_with fail
          exact ⟨⟨i + 1, c, by push_cast; rfl, by omega, rfl, HS, (by first | trivial | rfl)⟩, by simp [intOf]; omega⟩
      · by_cases q3 : (i : Int) / 4 = box
        · have q3' : ((i : Int) / 4 == box) = true := by simp [q3]
          by_cases q2 : s = v
          · rw [if_pos ⟨.inr q3, q2⟩] at HS
            have q2' : (s == v) = true := by simp [q2]
            clear q2 q3
            go_wp2_with fail
            exact ⟨⟨i + 1, c + 1, by push_cast; rfl, by omega, by push_cast; rfl, HS, (by first | trivial | rfl)⟩, by simp [intOf]; omega⟩
          · rw [if_neg (fun h => q2 h.2)] at HS
            clear q3
            go_wp2_with fail
            exact ⟨⟨i + 1, c, by push_cast; rfl, by omega, rfl, HS, (by first | trivial | rfl)⟩, by simp [intOf]; omega⟩
        · rw [if_neg (fun h => h.1.elim q1 q3)] at HS
          go_wp2_with fail
          exact ⟨⟨i + 1, c, by push_cast; rfl, by omega, rfl, HS, (by first | trivial | rfl)⟩, by simp [intOf]; omega⟩
    · have hi1 : ¬ ((i : Int) < n * 4) := by omega
      have HIN : Hid (i = n * 4) := Lib.hid (by omega)
      clear hlt hi
      go_wp2_with fail
      go_ret
      have h := HC.out
      rw [HIN.out] at h
      rw [h]
      exact ⟨rfl, by first | trivial | rfl⟩
set_option maxRecDepth 100000 in
set_option maxHeartbeats 2000000 in
theorem refRoom_any (but : Int) (w : World) (h : RefI mb sb qb n st blk w) :
    Calls Tryz.prog 58 #[.pointer (some ⟨mb, 0, none⟩), .int .i64 but] w fun e w' => e = .returned (.bool (roomR st but (n * 4))) ∧ w = w' := by
  obtain ⟨z0, z1⟩ := ref_cells h.cells
  have hST := Lib.hid (fun s hs => st_cell h.st s hs)
  have hn := h.lt
  clear h
  go_enter Tryz.func58, Tryz.ntmps58
  go_wp2_with fail
  go_loopw [5] (fun iv wr => ∃ i : Nat, iv = .int .i64 (i : Int) ∧ i ≤ n * 4 ∧ Hid (roomR st but i = false) ∧ wr = w) (fun iv _ => n * 4 + 1 - (intOf iv).toNat)
  case atStart => exact ⟨0, rfl, by omega, Lib.hid rfl, rfl⟩
  case round =>
    obtain ⟨i, rfl, hi, HC, rfl⟩ := hrel
    by_cases hlt : i < n * 4
    · have hi1 : (i : Int) < n * 4 := by omega
      have hi0 : (0 : Int) ≤ i := by omega
      obtain ⟨c0, f0⟩ := hST.out i hlt
      have HS : Hid (roomR st but (i + 1) = (decide (st i = 0) && decide ((i : Int) / 4 ≠ but))) := Lib.hid (by rw [roomR_succ, HC.out]; rfl)
      have HR : Hid (st i = 0 → (i : Int) / 4 ≠ but → roomR st but (n * 4) = true) := Lib.hid (fun h1 h2 => (roomR_iff _ _ _).2 ⟨i, hlt, h1, h2⟩)
      generalize st i = s at c0 HS HR
      by_cases q1 : s = 0
      · subst q1
        by_cases q3 : (i : Int) / 4 = but
        · have hs := HS.out
          have q3' : ((i : Int) / 4 != but) = false := by simp [q3]
          have hs2 : Hid (roomR st but (i + 1) = false) := Lib.hid (by rw [hs]; simp [q3])
          clear q3 hs
          go_wp2_with fail
          exact ⟨⟨i + 1, by push_cast; rfl, by omega, hs2, (by first | trivial | rfl)⟩, by simp [intOf]; omega⟩
        · have hr := HR.out rfl q3
          have HRR := Lib.hid hr
          clear hr
          go_wp2_with fail
          go_ret
          rw [HRR.out]
          exact ⟨rfl, by first | trivial | rfl⟩
      · have hs2 : Hid (roomR st but (i + 1) = false) := Lib.hid (by rw [HS.out]; simp [q1])
        go_wp2_with fail
        exact ⟨⟨i + 1, by push_cast; rfl, by omega, hs2, (by first | trivial | rfl)⟩, by simp [intOf]; omega⟩
    · have hi1 : ¬ ((i : Int) < n * 4) := by omega
      have HIN : Hid (i = n * 4) := Lib.hid (by omega)
      clear hlt hi
      go_wp2_with fail
      go_ret
      have h := HC.out
      rw [HIN.out] at h
      rw [h]
      exact ⟨rfl, by first | trivial | rfl⟩
set_option maxRecDepth 100000 in
set_option maxHeartbeats 2000000 in
theorem refWorst_any (w : World) (h : RefI mb sb qb n st blk w) :
    Calls Tryz.prog 63 #[.pointer (some ⟨mb, 0, none⟩)] w fun e w' => e = .returned (.tuple #[.int .i64 ((worstR (boxS st) n).1 : Nat), .int .i64 ((worstR (boxS st) n).2 : Nat)]) ∧ w = w' := by
  obtain ⟨z0, z1⟩ := ref_cells h.cells
  have hCT := Lib.hid (fun (b : Nat) => refCount_any (b : Int) 2 w h)
  have hn := h.lt
  clear h
  go_enter Tryz.func63, Tryz.ntmps63
  go_wp2_with fail
  go_loopw [4, 5, 6] (fun bv mv iv wr => ∃ (i x y : Nat), iv = .int .i64 (i : Int) ∧ i ≤ n ∧ bv = .int .i64 (x : Int) ∧ mv = .int .i64 (y : Int) ∧ Hid (worstR (boxS st) i = (x, y)) ∧ wr = w) (fun _ _ iv _ => n + 1 - (intOf iv).toNat)
  case atStart => exact ⟨0, 0, 0, rfl, by omega, rfl, rfl, Lib.hid rfl, rfl⟩
  case round =>
    obtain ⟨i, x, y, rfl, hi, rfl, rfl, HXY, rfl⟩ := hrel
    by_cases hlt : i < n
    · have hi1 : (i : Int) < n := by omega
      have hi0 : (0 : Int) ≤ i := by omega
      have hC := hCT.out i
      rw [cntR_box st i 2 n, if_pos hlt] at hC
      have HNX : Hid (worstR (boxS st) (i + 1) = if y < cnt4 (boxS st i) 2 then (i, cnt4 (boxS st i) 2) else (x, y)) := Lib.hid (by rw [worstR, HXY.out])
      generalize cnt4 (boxS st i) 2 = c at hC HNX
      clear HXY
      go_wp2_with fail
      refine hC.mono ?_
      clear hC
      rintro e w2 ⟨rfl, rfl⟩
      try dsimp only
      by_cases q : y < c
      · rw [if_pos q] at HNX
        have q1 : (y : Int) < c := by omega
        go_wp2_with fail
        exact ⟨⟨i + 1, i, c, by push_cast; rfl, by omega, rfl, rfl, HNX, (by first | trivial | rfl)⟩, by simp [intOf]; omega⟩
      · rw [if_neg q] at HNX
        have q1 : ¬ ((y : Int) < c) := by omega
        go_wp2_with fail
        exact ⟨⟨i + 1, x, y, by push_cast; rfl, by omega, rfl, rfl, HNX, (by first | trivial | rfl)⟩, by simp [intOf]; omega⟩
    · have hi1 : ¬ ((i : Int) < n) := by omega
      have HIN : Hid (i = n) := Lib.hid (by omega)
      clear hlt hi
      go_wp2_with fail
      go_ret2
      have h := HXY.out
      rw [HIN.out] at h
      rw [h]
      exact ⟨rfl, by first | trivial | rfl⟩
/-- The number of an error, of a slot. -/
def hasR (st : Nat → Int) (n : Nat) (slot : Int) : Int := if slot < 0 ∨ (n : Int) * 4 ≤ slot then 1 else if st slot.toNat = 1 then 0 else 23
set_option maxRecDepth 100000 in
set_option maxHeartbeats 2000000 in
theorem refHas_any (slot : Int) (w : World) (h : RefI mb sb qb n st blk w) :
    Calls Tryz.prog 62 #[.pointer (some ⟨mb, 0, none⟩), .int .i64 slot] w fun e w' => e = .returned (.int .i64 (hasR st n slot)) ∧ w = w' := by
  obtain ⟨z0, z1⟩ := ref_cells h.cells
  have hST := Lib.hid (fun s hs => st_cell h.st s hs)
  have hn := h.lt
  clear h
  by_cases q1 : slot < 0
  · have HR : Hid (hasR st n slot = 1) := Lib.hid (by unfold hasR; rw [if_pos (.inl q1)])
    go_enter Tryz.func62, Tryz.ntmps62
    go_wp2_with fail
    go_ret
    rw [HR.out]
    exact ⟨rfl, by first | trivial | rfl⟩
  · by_cases q2 : (n : Int) * 4 ≤ slot
    · have HR : Hid (hasR st n slot = 1) := Lib.hid (by unfold hasR; rw [if_pos (.inr q2)])
      go_enter Tryz.func62, Tryz.ntmps62
      go_wp2_with fail
      go_ret
      rw [HR.out]
      exact ⟨rfl, by first | trivial | rfl⟩
    · obtain ⟨s, rfl⟩ := Int.eq_ofNat_of_zero_le (show 0 ≤ slot by omega)
      have hs : s < n * 4 := by omega
      have hs0 : (0 : Int) ≤ s := by omega
      have hs1 : (s : Int) < n * 4 := by omega
      obtain ⟨c0, f0⟩ := hST.out s hs
      have HR : Hid (hasR st n (s : Int) = if st s = 1 then 0 else 23) := Lib.hid (by unfold hasR; rw [if_neg (fun h => h.elim q1 q2)]; rfl)
      generalize st s = x at c0 HR
      clear q1 q2 hs
      by_cases q : x = 1
      · subst q
        rw [if_pos rfl] at HR
        go_enter Tryz.func62, Tryz.ntmps62
        go_wp2_with fail
        go_ret
        rw [HR.out]
        exact ⟨rfl, by first | trivial | rfl⟩
      · rw [if_neg q] at HR
        go_enter Tryz.func62, Tryz.ntmps62
        go_wp2_with fail
        go_ret
        rw [HR.out]
        exact ⟨rfl, by first | trivial | rfl⟩
set_option maxRecDepth 100000 in
set_option maxHeartbeats 2000000 in
theorem refMay_any (s : Nat) (but : Int) (hm : MayS st n but s) (w : World) (h : RefI mb sb qb n st blk w) :
    Calls Tryz.prog 59 #[.pointer (some ⟨mb, 0, none⟩), .int .i64 (s : Int), .int .i64 but] w fun e w' => e = .returned (.bool true) ∧ w = w' := by
  obtain ⟨z0, z1⟩ := ref_cells h.cells
  obtain ⟨hs, hs00, hbt, hmm⟩ := hm
  obtain ⟨c0, f0⟩ := st_cell h.st s hs
  rw [hs00] at c0
  have hCT := Lib.hid (fun (b : Nat) => refCount_any (b : Int) 0 w h)
  have hC0 := hCT.out (s / 4)
  rw [cntR_box st (s / 4) 0 n, if_pos (by omega)] at hC0
  have HMM : Hid (4 ≤ cnt4 (boxS st (s / 4)) 0 → ∀ b, b < n → (b : Int) ≠ but → 0 < cnt4 (boxS st b) 0 → cnt4 (boxS st b) 0 = 4) := Lib.hid (by
    intro h4 b hb hne hpos
    have hall : ∀ t, t < 4 → boxS st (s / 4) t = 0 := fun t ht => by
      apply Classical.byContradiction
      intro hn
      have := cnt4_lt _ _ t ht hn
      omega
    refine cnt4_four _ _ (fun t ht => ?_)
    have hex : ∃ t, t < 4 ∧ st (b * 4 + t) = 0 := by
      apply Classical.byContradiction
      intro hn
      have := (cnt4_zero (boxS st b) 0).2 (fun t ht e => hn ⟨t, ht, e⟩)
      omega
    rcases hmm with ⟨t', ht', hne'⟩ | hmm
    · exact absurd (hall t' ht') hne'
    · exact hmm b hb hne hex t ht)
  have hn := h.lt
  rw [show ((s / 4 : Nat) : Int) = (s : Int) / 4 by omega] at hC0 hbt
  have hs0 : (0 : Int) ≤ s := by omega
  have hs1 : (s : Int) < n * 4 := by omega
  obtain ⟨c, hc⟩ : ∃ c, cnt4 (boxS st (s / 4)) 0 = c := ⟨_, rfl⟩
  rw [hc] at hC0 HMM
  clear h hs hs00 hmm hc
  have hbt' : ((s : Int) / 4 == but) = false := by simp [hbt]
  clear hbt
  go_enter Tryz.func59, Tryz.ntmps59
  go_wp2_with fail
  refine hC0.mono ?_
  clear hC0
  rintro e w2 ⟨rfl, rfl⟩
  try dsimp only
  by_cases q : c < 4
  · have q1 : (c : Int) < 4 := by omega
    go_wp2_with fail
    go_ret
    exact ⟨rfl, by first | trivial | rfl⟩
  · have q1 : ¬ ((c : Int) < 4) := by omega
    have HM := Lib.hid (HMM.out (by omega))
    clear q HMM
    go_wp2_with fail
    go_loopw [7] (fun iv wr => ∃ i : Nat, iv = .int .i64 (i : Int) ∧ i ≤ n ∧ wr = w) (fun iv _ => n + 1 - (intOf iv).toNat)
    case atStart => exact ⟨0, rfl, by omega, rfl⟩
    case round =>
      obtain ⟨i, rfl, hi, rfl⟩ := hrel
      by_cases hlt : i < n
      · have hi1 : (i : Int) < n := by omega
        have hi0 : (0 : Int) ≤ i := by omega
        have hC := hCT.out i
        rw [cntR_box st i 0 n, if_pos hlt] at hC
        have hM := HM.out i hlt
        generalize cnt4 (boxS st i) 0 = d at hC hM
        have hd : (i : Int) = but ∨ d = 0 ∨ d = 4 := by
          by_cases q1 : (i : Int) = but
          · exact .inl q1
          · by_cases q2 : d = 0
            · exact .inr (.inl q2)
            · exact .inr (.inr (hM q1 (by omega)))
        clear hM
        go_wp2_with fail
        refine hC.mono ?_
        clear hC
        rintro e w3 ⟨rfl, rfl⟩
        try dsimp only
        by_cases q1 : (i : Int) = but
        · have q1' : ((i : Int) != but) = false := by simp [q1]
          clear q1 hd
          go_wp2_with fail
          exact ⟨⟨i + 1, by push_cast; rfl, by omega, (by first | trivial | rfl)⟩, by simp [intOf]; omega⟩
        · rcases hd with hd | rfl | rfl
          · exact absurd hd q1
          · go_wp2_with fail
            exact ⟨⟨i + 1, by push_cast; rfl, by omega, (by first | trivial | rfl)⟩, by simp [intOf]; omega⟩
          · go_wp2_with fail
            exact ⟨⟨i + 1, by push_cast; rfl, by omega, (by first | trivial | rfl)⟩, by simp [intOf]; omega⟩
      · have hi1 : ¬ ((i : Int) < n) := by omega
        clear hlt hi
        go_wp2_with fail
        go_ret
        exact ⟨rfl, by first | trivial | rfl⟩
end
end Go.Proofs.YtjikpodghmfjcaaGreatDoor
set_option linter.unnecessarySimpa false
namespace Go.Proofs.YtjikpodghmfjcaaGreatDoor
open Go.RowKit Go.Maps
def pgSet (blk : Nat → List Int) (k : Nat) (p : List Int) : Nat → List Int := fun s => if s = k then p else blk s
theorem pgRows_set (blk : Nat → List Int) (n k : Nat) (p : List Int) : (pgRows blk n).set k p = pgRows (pgSet blk k p) n := by
  unfold pgRows pgSet
  refine List.ext_getElem? (fun i => ?_)
  rw [List.getElem?_set]
  simp only [List.getElem?_map, List.length_map, List.length_range]
  by_cases e : k = i
  · subst e
    rw [if_pos rfl]
    split
    · rename_i hl
      simp [hl]
    · rename_i hl
      rw [List.getElem?_eq_none (by simpa using hl)]; rfl
  · rw [if_neg e]
    cases hg : (List.range (n * 4))[i]? with
    | none => rfl
    | some j =>
      have : j = i := by
        obtain ⟨h3, h4⟩ := List.getElem?_eq_some_iff.1 hg
        rw [List.getElem_range] at h4; exact h4.symm
      subst this
      simp only [Option.map_some]
      rw [if_neg (fun h => e h.symm)]
theorem pgRows_length (blk : Nat → List Int) (n : Nat) : (pgRows blk n).length = n * 4 := by unfold pgRows; simp
theorem pgRows_get (blk : Nat → List Int) (n s : Nat) (hs : s < n * 4) : (pgRows blk n).getD s [] = blk s := by
  unfold pgRows
  simp [List.getD, hs]
theorem pgRows_ok {blk : Nat → List Int} {n : Nat} (h : ∀ s, s < n * 4 → PgOk (blk s)) : ∀ p ∈ pgRows blk n, PgOk p := fun p hp => by
  unfold pgRows at hp
  obtain ⟨s, hs, rfl⟩ := List.mem_map.1 hp
  exact h s (List.mem_range.1 hs)
theorem RefI.page {mb sb qb n : Nat} {st : Nat → Int} {blk : Nat → List Int} {w : World} (h : RefI mb sb qb n st blk w) (s : Nat) (hs : s < n * 4) : w.rangeAt qb (s * 64) (v8 (blk s)) := by
  have := firm_range h.pg (pgRows_ok h.ok) s (by rw [pgRows_length]; exact hs)
  rwa [pgRows_get blk n s hs] at this
theorem blk_ne_of {w : World} {i j T U : Nat} {cs ds : Array Value} (hi : w.heap[i]? = some (.cells cs T)) (hj : w.heap[j]? = some (.cells ds U)) (h : T ≠ U) : i ≠ j := fun e => by
  subst e
  rw [hi] at hj
  simp only [Option.some.injEq, Obj.cells.injEq] at hj
  exact h hj.2.1
theorem RefI.ne {mb sb qb n : Nat} {st : Nat → Int} {blk : Nat → List Int} {w : World} (h : RefI mb sb qb n st blk w) : mb ≠ sb ∧ mb ≠ qb ∧ sb ≠ qb :=
  ⟨blk_ne_of h.cells h.st (by decide), blk_ne_of h.cells h.pg (by decide), blk_ne_of h.st h.pg (by decide)⟩
/-- What a write to the document's depot leaves as it was. -/
def NRf (sb qb : Nat) : Nat → Prop := fun k => k ≠ sb ∧ k ≠ qb
theorem RefI.stored {mb sb qb n : Nat} {st : Nat → Int} {blk : Nat → List Int} {w : World} (h : RefI mb sb qb n st blk w) (s : Nat) (v : Int) : RefI mb sb qb n (stSet st s v) blk (w.setCell ⟨sb, s, none⟩ (.int .i64 v)) := by
  obtain ⟨h1, h2, h3⟩ := h.ne
  exact ⟨heap_set_ne h1.symm h.cells, st_set h.st s v, heap_set_ne h3 h.pg, h.ok, h.lt⟩
theorem Keeps.stored (sb qb s : Nat) (v : Value) (w : World) : Keeps (NRf sb qb) w (w.setCell ⟨sb, s, none⟩ v) := Keeps.set w sb s v (fun h => h.1 rfl)
theorem made_ints (n : Nat) : madeCells #[Value.int .i64 0] (n * 4) = stRow (fun _ => 0) n := by
  apply Array.ext'
  simp only [madeCells, stRow, Array.toList_map, Array.toList_range]
  apply List.ext_getElem
  · simp
  · intro i h1 h2
    simp [Nat.mod_one]
theorem pgRows_zer (n : Nat) : (pgRows (fun _ => zer 64) n).flatten = zer (n * 4 * 64) := by
  unfold pgRows
  rw [List.map_const', List.length_range, flat_zer]
def NwS (w : World) (n s q : Nat) (wx : World) : Prop := wx.heap[s]? = some (.cells (stRow (fun _ => 0) n) 3) ∧ wx.heap[q]? = some (.cells (v8a (pgRows (fun _ => zer 64) n).flatten) 32) ∧ w.heap.size ≤ s ∧ w.heap.size ≤ q ∧ Below w.heap.size w wx
set_option maxRecDepth 100000 in
set_option maxHeartbeats 1000000 in
theorem refNew_any (n : Nat) (hn : 1 ≤ n ∧ n ≤ 64) (w : World) :
    Calls Tryz.prog 28 #[.int .i64 (n : Int)] w fun e w' => (∃ mb sb qb, e = .returned (.pointer (some ⟨mb, 0, none⟩)) ∧ w.heap.size ≤ mb ∧ w.heap.size ≤ sb ∧ w.heap.size ≤ qb ∧ RefI mb sb qb n (fun _ => 0) (fun _ => zer 64) w') ∧ Below w.heap.size w w' := by
  obtain ⟨i0, hi0', hz0, hz1, hz2⟩ := info_parts info_pg
  obtain ⟨i1, hi1', hy0, hy1, hy2⟩ := info_parts info_int
  have hmk : ∀ wx : World, (Instr.makeSlice 66 (.int .i64 (4 * (n : Int))) (.int .i64 (4 * (n : Int)))).run Tryz.prog wx = .ok (.slice (some ⟨wx.heap.size, 0, none⟩) (n * 4) (n * 4)) (wx.alloc (.cells (v8a (pgRows (fun _ => zer 64) n).flatten) 32)) := fun wx => by
    have h := run_make (P := Tryz.prog) wx 66 32 i0 (.agg (v8a (zer 64))) Tryz.underlying66 hi0' hz0 .i64 .i64 ((n * 4 : Nat) : Int) ((n * 4 : Nat) : Int) (by omega) (Int.le_refl _) (by rw [hz2]; omega) (by omega)
    simp only [Int.toNat_natCast, hz1] at h
    rw [show 4 * (n : Int) = ((n * 4 : Nat) : Int) by omega, h, show (Value.agg (v8a (zer 64))).cells = v8a (zer 64) from rfl, made_zer, pgRows_zer]
  have hms : ∀ wx : World, (Instr.makeSlice 27 (.int .i64 (4 * (n : Int))) (.int .i64 (4 * (n : Int)))).run Tryz.prog wx = .ok (.slice (some ⟨wx.heap.size, 0, none⟩) (n * 4) (n * 4)) (wx.alloc (.cells (stRow (fun _ => 0) n) 3)) := fun wx => by
    have h := run_make (P := Tryz.prog) wx 27 3 i1 (.int .i64 0) Tryz.underlying27 hi1' hy0 .i64 .i64 ((n * 4 : Nat) : Int) ((n * 4 : Nat) : Int) (by omega) (Int.le_refl _) (by rw [hy2]; omega) (by omega)
    simp only [Int.toNat_natCast, hy1] at h
    rw [show 4 * (n : Int) = ((n * 4 : Nat) : Int) by omega, h, show (Value.int .i64 0).cells = #[Value.int .i64 0] from rfl, Nat.mul_one, made_ints]
  obtain ⟨hn1, hn2⟩ := hn
  have hj1 : (1 : Int) ≤ n := by omega
  have hj2 : (n : Int) ≤ 64 := by omega
  clear hi0' hz0 hz1 hz2 hi1' hy0 hy1 hy2
  go_enter Tryz.func28, Tryz.ntmps28
  go_wp2_with fail
  refine wp_region_plan (.quiet 0 (.quiet 1 (.quiet 3 (.quiet 4 (.two 2 5 (.one 5 (.quiet 6 (.one 7 (.quiet 8 .nil)))) (.one 2 (.quiet 6 (.one 7 (.quiet 8 .nil))))))))) (fun w' => ∃ p : Regrown, w' = Go.Sort.grow (redrawn w p.d) p.os) (by kernel_rfl) (by kernel_rfl) (fun _ _ d _ _ h => by cases d <;> exact h) (grows_drew _) ?_
  (repeat (with_reducible refine plan_q ?_; simp only [List.drop_succ_cons, List.drop_zero, List.take_succ_cons, List.take_zero]; go_big_quiet_step (fail); with_reducible refine wpQuiet_nil ?_))
  have hbd : Below w.heap.size w w.drew := (Below.refl _ _).drew
  have hbo : ∀ o o' : Obj, Below w.heap.size w ((w.alloc o).alloc o').drew := fun o o' => (((Below.refl _ _).alloc (Nat.le_refl _) o).alloc (by simp) o').drew
  have hbo1 : ∀ o : Obj, Below w.heap.size w (w.alloc o).drew := fun o => ((Below.refl _ _).alloc (Nat.le_refl _) o).drew
  have hle : w.heap.size ≤ w.heap.size + 1 := Nat.le_succ _
  have hnew : ∀ o o' : Obj, ((w.alloc o).alloc o').drew.heap[w.heap.size]? = some o := fun o o' => by
    show ((w.alloc o).alloc o').heap[_]? = _
    rw [heap_alloc_old _ _ (by simp)]
    exact heap_alloc_new w o
  have hnew1 : ∀ o o' : Obj, ((w.alloc o).alloc o').drew.heap[w.heap.size + 1]? = some o' := fun o o' => by
    show ((w.alloc o).alloc o').heap[_]? = _
    have h := heap_alloc_new (w.alloc o) o'
    rwa [World.size_alloc] at h
  apply tail_cut
  · intro TAIL
    with_reducible refine plan_two ?_ ?_
    · simp only [List.drop_succ_cons, List.drop_zero, List.take_succ_cons, List.take_zero]
      go_wp2_with fail
      (try with_reducible refine wpList_nil ?_); with_reducible refine mixQ_normal ?_
      refine ⟨grows_of_below (hbo1 _), ?_⟩
      with_reducible refine plan_a ?_; simp only [List.drop_succ_cons, List.drop_zero, List.take_succ_cons, List.take_zero]
      go_wp2_with fail
      (try with_reducible refine wpList_nil ?_); with_reducible refine mixQ_normal ?_
      refine ⟨grows_of_below (hbo _ _), ?_⟩
      refine gen_plan (fun wx => Hid (NwS w n w.heap.size (w.heap.size + 1) wx)) (Lib.hid ⟨hnew _ _, hnew1 _ _, Nat.le_refl _, hle, hbo _ _⟩) ?_
      generalize w.heap.size + 1 = q
      generalize w.heap.size = s
      intro wx HN
      revert q s wx
      exact TAIL
    · simp only [List.drop_succ_cons, List.drop_zero, List.take_succ_cons, List.take_zero]
      go_wp2_with fail
      (try with_reducible refine wpList_nil ?_); with_reducible refine mixQ_normal ?_
      refine ⟨grows_of_below (hbo1 _), ?_⟩
      with_reducible refine plan_a ?_; simp only [List.drop_succ_cons, List.drop_zero, List.take_succ_cons, List.take_zero]
      go_wp2_with fail
      (try with_reducible refine wpList_nil ?_); with_reducible refine mixQ_normal ?_
      refine ⟨grows_of_below (hbo _ _), ?_⟩
      refine gen_plan (fun wx => Hid (NwS w n (w.heap.size + 1) w.heap.size wx)) (Lib.hid ⟨hnew1 _ _, hnew _ _, hle, Nat.le_refl _, hbo _ _⟩) ?_
      intro wx HN
      exact TAIL _ _ wx HN
  · intro q s wx HN
    (repeat (with_reducible refine plan_q ?_; simp only [List.drop_succ_cons, List.drop_zero, List.take_succ_cons, List.take_zero]; go_big_quiet_step (fail); with_reducible refine wpQuiet_nil ?_))
    with_reducible refine plan_a ?_; simp only [List.drop_succ_cons, List.drop_zero, List.take_succ_cons, List.take_zero]
    go_wp2_with fail
    (try with_reducible refine wpList_nil ?_); with_reducible refine mixQ_normal ?_
    have hbz : ∀ o : Obj, Below w.heap.size w (wx.alloc o) := fun o => HN.out.2.2.2.2.alloc HN.out.2.2.2.2.size o
    refine ⟨grows_of_below (hbz _), ?_⟩
    (repeat (with_reducible refine plan_q ?_; simp only [List.drop_succ_cons, List.drop_zero, List.take_succ_cons, List.take_zero]; go_big_quiet_step (fail); with_reducible refine wpQuiet_nil ?_))
    with_reducible refine plan_nil ?_
    go_wp2_with fail
    go_ret
    refine ⟨⟨wx.heap.size, s, q, rfl, HN.out.2.2.2.2.size, HN.out.2.2.1, HN.out.2.2.2.1, ⟨heap_alloc_new wx _, ?_, ?_, fun _ _ => zer_pg, hn2⟩⟩, hbz _⟩
    · rw [heap_alloc_old _ _ (lt_of_blk HN.out.1)]; exact HN.out.1
    · rw [heap_alloc_old _ _ (lt_of_blk HN.out.2.1)]; exact HN.out.2.1
section
variable {mb sb qb n : Nat} {st : Nat → Int} {blk : Nat → List Int}
set_option maxRecDepth 100000 in
set_option maxHeartbeats 2000000 in
theorem refPut_any (s : Nat) (hs : s < n * 4) (p : List Int) (hp : PgOk p) (w : World) (h : RefI mb sb qb n st blk w) :
    Calls Tryz.prog 60 #[.pointer (some ⟨mb, 0, none⟩), .int .i64 (s : Int), .agg (v8a p)] w fun e w' => e = .returned (.tuple #[]) ∧ RefI mb sb qb n (stSet st s 1) (pgSet blk s p) w' ∧ Keeps (NRf sb qb) w w' := by
  have H := Lib.hid h
  obtain ⟨z0, z1⟩ := ref_cells h.cells
  obtain ⟨c0, f0⟩ := st_cell h.st s hs
  have hn := h.lt
  have hp64 := hp.1
  have HPG := Lib.hid hp
  have hs0 : (0 : Int) ≤ s := by omega
  have hs1 : (s : Int) < n * 4 := by omega
  have HS := Lib.hid hs
  have hb0 : ∀ o : Obj, Below w.heap.size w (w.alloc o) := fun o => (Below.refl _ _).alloc (Nat.le_refl _) _
  clear h hs hp
  go_enter Tryz.func60, Tryz.ntmps60
  repeat ((fail_if_success (with_reducible refine stop_at 6 rfl ?_)); (first | go_values | go_skip | go_guarded | go_step | go_upon))
  refine gen_world (fun wx => Hid (wx.heap[w.heap.size]? = some (.cells (v8a p) 32) ∧ w.heap.size ≠ qb ∧ RefI mb sb qb n st blk wx ∧ Keeps (NRf sb qb) w wx)) (Lib.hid ⟨heap_alloc_new w (.cells (v8a p) 32), by have := lt_of_blk H.out.pg; omega, H.out.below (hb0 _), Keeps.of_below (hb0 _)⟩) ?_
  clear hb0 z0 z1 c0 f0
  generalize w.heap.size = b5
  intro w1 H1
  obtain ⟨z0, z1⟩ := ref_cells H1.out.2.2.1.cells
  obtain ⟨c0, f0⟩ := st_cell H1.out.2.2.1.st s HS.out
  go_wp2_with fail
  refine gen_code (fun wx => Hid (wx.heap[b5]? = some (.cells (v8a p) 32) ∧ RefI mb sb qb n (stSet st s 1) blk wx ∧ Keeps (NRf sb qb) w wx)) (Lib.hid ⟨heap_set_ne (blk_ne_of H1.out.1 H1.out.2.2.1.st (by decide)).symm H1.out.1, H1.out.2.2.1.stored s 1, H1.out.2.2.2.trans (Keeps.stored sb qb s _ _)⟩) ?_
  clear z0 z1 c0 f0 H1
  intro w2 H2
  try simp only [Act.put]
  obtain ⟨z0, z1⟩ := ref_cells H2.out.2.1.cells
  have r1 := cell_regrown z1
  have HB := Lib.hid (blk_regrown H2.out.1)
  clear z0
  refine wp_region_qlast 7 (fun w' => ∃ p : Regrown, w' = Go.Sort.grow (redrawn w2 p.d) p.os) (by kernel_rfl) (by kernel_rfl) (fun _ _ d _ _ h => by cases d <;> exact h) (grows_drew _) ?_
  simp only [List.take_succ_cons, List.take_zero]
  repeat (first | go_big_quiet_step (fail) | (go_big_quiet_want; refine quiet_page (.tmp 5) rfl b5 p rfl HB.out hp64 ?_; simp only [Act.put, List.setIfInBounds_toArray, List.set_cons_zero, List.set_cons_succ]; go_big_quiet_on))
  with_reducible refine wpQuiet_nil ?_
  with_reducible refine mix_a ?_
  simp only [List.drop_succ_cons, List.drop_zero, List.take_succ_cons, List.take_zero]
  have hlv : (v8 p).toArray.size = 64 := by simp [v8, hp64]
  refine wpList_store_mid rfl 32 (.tmp 18) (.tmp 17) rfl qb (s * 64) (v8 p).toArray rfl rfl ?u1 ?u2 ?u3 ?_
  case u1 =>
    rw [hlv]
    refine blk_there (w := w2.drew) (H2.out.2.1.pg) ?_
    have hl := flat64 _ (pgRows_ok H2.out.2.1.ok)
    rw [pgRows_length] at hl
    have := HS.out
    unfold v8a
    rw [List.size_toArray, v8_length, hl]
    omega
  case u2 => rw [hlv]; exact info_pgs
  case u3 => exact all_oneCell_toArray (v8_one p)
  simp only [Act.put]
  have hne := H2.out.2.1.ne
  have HF2 : Hid (RefI mb sb qb n (stSet st s 1) (pgSet blk s p) (w2.drew.setCells qb (s * 64) (v8 p).toArray.toList) ∧ Keeps (NRf sb qb) w (w2.drew.setCells qb (s * 64) (v8 p).toArray.toList)) := Lib.hid (by
    have hg := setCells_grown qb (v8 p).toArray.toList (s * 64) w2.drew
    have hkq : Keeps (fun k => k ≠ qb) w2 (w2.drew.setCells qb (s * 64) (v8 p).toArray.toList) := (Keeps.drew _ w2).trans (Keeps.of_grown hg (fun k hk => by cases hk; simp))
    have hR := H2.out.2.1
    refine ⟨⟨hkq.blk hne.2.1 hR.cells, hkq.blk hne.2.2 hR.st, ?_, fun t ht => ?_, hn⟩, H2.out.2.2.trans (hkq.mono (fun k _ hk => hk.2))⟩
    · rw [← pgRows_set]
      exact page_stored (w := w2.drew) hR.pg (pgRows_ok hR.ok) (by rw [pgRows_length]; exact HS.out) HPG.out
    · unfold pgSet
      split
      · exact HPG.out
      · exact hR.ok t ht)
  generalize (w2.drew.setCells qb (s * 64) (v8 p).toArray.toList) = wy at HF2 ⊢
  with_reducible refine wpList_nil ?_
  refine mixQ_normal ⟨fun h => absurd h (by simp), mix_nil ?_⟩
  go_wp2_with fail
  go_end0
  exact ⟨rfl, HF2.out.1, HF2.out.2⟩
set_option maxRecDepth 100000 in
set_option maxHeartbeats 2000000 in
theorem refDrop_any (s : Nat) (hs : s < n * 4) (hl : st s = 1) (w : World) (h : RefI mb sb qb n st blk w) :
    Calls Tryz.prog 61 #[.pointer (some ⟨mb, 0, none⟩), .int .i64 (s : Int)] w fun e w' => e = .returned (.int .i64 0) ∧ RefI mb sb qb n (dropT st s) blk w' ∧ Keeps (NRf sb qb) w w' := by
  have H := Lib.hid h
  have hH := refHas_any (s : Int) w h
  have e0 : hasR st n (s : Int) = 0 := by
    unfold hasR
    rw [if_neg (by omega), Int.toNat_natCast, if_pos hl]
  rw [e0] at hH
  have hn := h.lt
  have hs0 : (0 : Int) ≤ s := by omega
  have hs1 : (s : Int) < n * 4 := by omega
  have HS := Lib.hid hs
  have HO := Lib.hid (cnt4_drop st s)
  clear h hs hl e0
  go_enter Tryz.func61, Tryz.ntmps61
  go_wp2_with fail
  refine hH.mono ?_
  clear hH
  rintro e w0 ⟨rfl, rfl⟩
  obtain ⟨z0, z1⟩ := ref_cells H.out.cells
  obtain ⟨c0, f0⟩ := st_cell H.out.st s HS.out
  try dsimp only
  repeat ((fail_if_success (with_reducible refine stop_at 19 rfl ?_)); (first | go_values | go_skip | go_guarded | go_step | go_upon))
  refine gen_world (fun wx => Hid (RefI mb sb qb n (stSet st s 2) blk wx ∧ Keeps (NRf sb qb) w wx)) (Lib.hid ⟨H.out.stored s 2, Keeps.stored sb qb s _ _⟩) ?_
  clear z0 z1 c0 f0
  intro w1 H1
  have hC := refCount_any ((s / 4 : Nat) : Int) 1 w1 H1.out.1
  rw [cntR_box _ _ _ _, if_pos (by have := HS.out; omega), show ((s / 4 : Nat) : Int) = (s : Int) / 4 by omega] at hC
  obtain ⟨c, hc⟩ : ∃ c, cnt4 (boxS (stSet st s 2) (s / 4)) 1 = c := ⟨_, rfl⟩
  rw [hc] at hC HO
  clear hc
  go_wp2_with fail
  refine hC.mono ?_
  clear hC
  rintro e w2 ⟨rfl, rfl⟩
  try dsimp only
  by_cases q : c = 0
  · subst q
    have HD := Lib.hid (dropT_free st s (HO.out.1 rfl))
    have H2 : Hid (RefI mb sb qb n (stClr (stSet st s 2) s 0) blk w1 ∧ Keeps (NRf sb qb) w w1) := Lib.hid ⟨by rw [stClr_zero]; exact H1.out.1, H1.out.2⟩
    clear H1 HO H
    go_wp2_with fail
    go_loopw [6] (fun iv wr => ∃ i : Nat, iv = .int .i64 (i : Int) ∧ i ≤ 4 ∧ Hid (RefI mb sb qb n (stClr (stSet st s 2) s i) blk wr ∧ Keeps (NRf sb qb) w wr)) (fun iv _ => 5 - (intOf iv).toNat)
    case atStart => exact ⟨0, rfl, by omega, H2⟩
    case round =>
      clear H2
      obtain ⟨i, rfl, hi, HR⟩ := hrel
      have hi0 : (0 : Int) ≤ i := by omega
      by_cases hlt : i < 4
      · have hi1 : (i : Int) < 4 := by omega
        obtain ⟨z0, z1⟩ := ref_cells HR.out.1.cells
        obtain ⟨c0, f0⟩ := st_cell HR.out.1.st (s / 4 * 4 + i) (by have := HS.out; omega)
        have hx0 : (0 : Int) ≤ (s : Int) / 4 * 4 + i := by omega
        have hx1 : (s : Int) / 4 * 4 + i < n * 4 := by have := HS.out; omega
        have HZ : Hid (RefI mb sb qb n (stClr (stSet st s 2) s (i + 1)) blk (wr.setCell ⟨sb, s / 4 * 4 + i, none⟩ (.int .i64 0)) ∧ Keeps (NRf sb qb) w (wr.setCell ⟨sb, s / 4 * 4 + i, none⟩ (.int .i64 0))) := Lib.hid ⟨by rw [← stClr_succ _ _ _ hlt]; exact HR.out.1.stored _ 0, HR.out.2.trans (Keeps.stored sb qb _ _ _)⟩
        clear HR
        go_wp2_with fail
        exact ⟨⟨i + 1, by push_cast; rfl, by omega, HZ⟩, by simp [intOf]; omega⟩
      · have hi1 : ¬ ((i : Int) < 4) := by omega
        have HI : Hid (i = 4) := Lib.hid (by omega)
        clear hlt hi
        go_wp2_with fail
        go_ret
        have h := HR.out
        rw [HI.out] at h
        rw [HD.out]
        exact ⟨rfl, h.1, h.2⟩
  · have HD := Lib.hid (dropT_stay st s (by
      cases ho : othB st s with
      | true => rfl
      | false => exact absurd (HO.out.2 ho) q))
    have q1 : ¬ ((c : Int) = 0) := by omega
    clear q HO H
    go_wp2_with fail
    go_ret
    rw [HD.out]
    exact ⟨rfl, H1.out.1, H1.out.2⟩
set_option maxRecDepth 100000 in
set_option maxHeartbeats 2000000 in
theorem refDrop_err (slot : Int) (k : Int) (hk : hasR st n slot = k) (h0 : k ≠ 0) (w : World) (h : RefI mb sb qb n st blk w) :
    Calls Tryz.prog 61 #[.pointer (some ⟨mb, 0, none⟩), .int .i64 slot] w fun e w' => e = .returned (.int .i64 k) ∧ w = w' := by
  have hH := refHas_any slot w h
  rw [hk] at hH
  clear h hk
  go_enter Tryz.func61, Tryz.ntmps61
  go_wp2_with fail
  refine hH.mono ?_
  clear hH
  rintro e w0 ⟨rfl, rfl⟩
  try dsimp only
  go_wp2_with fail
  go_ret
  exact ⟨rfl, by first | trivial | rfl⟩
set_option maxRecDepth 100000 in
set_option maxHeartbeats 4000000 in
theorem refSlots_any (box : Nat) (hbx : box < n) (w : World) (h : RefI mb sb qb n st blk w) :
    Calls Tryz.prog 66 #[.pointer (some ⟨mb, 0, none⟩), .int .i64 (box : Int)] w fun e w' => (∃ a c, e = .returned (.slice a (slots4 (boxS st box) box 4).length c) ∧ w'.ownsRow w.heap.size 3 1 (.slice a (slots4 (boxS st box) box 4).length c) (slots4 (boxS st box) box 4).length (intsN (slots4 (boxS st box) box 4))) ∧ Below w.heap.size w w' := by
  have HR := Lib.hid (fun wx (hb : Below w.heap.size w wx) => h.below hb)
  obtain ⟨i0, hi0', hz0, hz1, hz2⟩ := info_parts info_int
  have HI := Lib.hid (And.intro hi0' (And.intro hz0 (And.intro hz1 hz2)))
  have HG : Hid (∀ t, boxS st box t = st (box * 4 + t)) := Lib.hid (fun t => rfl)
  generalize boxS st box = g at HG ⊢
  have hn := h.lt
  have hx0 : (0 : Int) ≤ box := by omega
  have hx1 : (box : Int) < n := by omega
  have hbx' := Lib.hid hbx
  clear h hi0' hz0 hz1 hz2 hbx
  go_enter Tryz.func66, Tryz.ntmps66
  go_wp2_with fail
  go_loopw [5, 6] (fun lv jv wr => ∃ (j : Nat) (a : Option Addr) (c : Nat) (l : List Nat), jv = .int .i64 (j : Int) ∧ j ≤ 4 ∧ lv = .slice a l.length c ∧ Hid (l = slots4 g box j) ∧ Hid (wr.ownsRow w.heap.size 3 1 (.slice a l.length c) l.length (intsN l) ∧ Below w.heap.size w wr)) (fun _ jv _ => 5 - (intOf jv).toNat)
  case atStart => exact ⟨0, none, 0, [], rfl, by omega, rfl, Lib.hid rfl, Lib.hid ⟨World.ownsRow_nil _ _ _ _, Below.refl _ _⟩⟩
  case round =>
    obtain ⟨j, a, c, l, rfl, hj, rfl, HL, HO⟩ := hrel
    have hll : l.length ≤ 4 := by have := slots4_le g box j; rw [HL.out]; omega
    by_cases hjt : j < 4
    · have hj1 : (j : Int) < 4 := by omega
      have hj0 : (0 : Int) ≤ j := by omega
      have hR := HR.out wr HO.out.2
      obtain ⟨z0, z1⟩ := ref_cells hR.cells
      obtain ⟨c0, f0⟩ := st_cell hR.st (box * 4 + j) (by have := hbx'.out; omega)
      rw [← HG.out j] at c0
      clear hR
      have HNX := Lib.hid (slots4_succ g box j)
      rw [← HL.out] at HNX
      generalize g j = b at c0 HNX
      rw [show box * 4 + j = 4 * box + j by omega] at c0 f0
      have hy0 : (0 : Int) ≤ 4 * (box : Int) + j := by omega
      have hy1 : 4 * (box : Int) + j < n * 4 := by omega
      by_cases q : b = 1
      · subst q
        rw [if_pos rfl] at HNX
        repeat ((fail_if_success (with_reducible refine stop_at 28 rfl ?_)); (first | go_values | go_skip | go_guarded | go_step | go_upon))
        refine step_append_list rfl (.tmp 22) (.tmp 27) 27 rfl w.heap.size 3 i0 (.int .i64 0) 1 8 Tryz.underlying27 HI.out.1 HI.out.2.1 HI.out.2.2.1 HI.out.2.2.2 rfl (by decide) (.slice a l.length c) l.length (intsN l) rfl ?c0 (.slice (some ⟨wr.heap.size, 0, none⟩) 1 1) 1 [.int .i64 (4 * (box : Int) + (j : Int))] rfl (one_srcN wr [.int .i64 (4 * (box : Int) + (j : Int))] 3 1 rfl (by intro u hu; rw [List.mem_singleton] at hu; subst hu; rfl)) ?c1 ?c2 ?c3 ?_
        case c0 => exact own_below HO.out.1 ((Below.refl _ _).alloc (Nat.le_refl _) _)
        case c1 => unfold maxLen; omega
        case c2 => omega
        case c3 => have := HO.out.2.size; simp; omega
        intro v4 w4 ho4 hg4
        obtain ⟨a4, c4, rfl⟩ := own_slice ho4
        have hlen : (l ++ [box * 4 + j]).length = l.length + 1 := by simp
        rw [show (4 * (box : Int) + (j : Int)) = ((box * 4 + j : Nat) : Int) by push_cast; omega] at ho4
        have H4 : Hid (w4.ownsRow w.heap.size 3 1 (.slice a4 (l ++ [box * 4 + j]).length c4) (l ++ [box * 4 + j]).length (intsN (l ++ [box * 4 + j])) ∧ Below w.heap.size w w4) := Lib.hid ⟨by rw [hlen]; simpa [intsN] using ho4, (HO.out.2.trans (((Below.refl _ _).alloc (Nat.le_refl _) _).mono HO.out.2.size)).grown hg4 (by have := HO.out.2.size; simp; omega) (fun q hq => (HO.out.1.lt q hq).1)⟩
        clear ho4 hg4 HO
        simp only [Act.put, List.setIfInBounds_toArray, List.set_cons_zero, List.set_cons_succ]
        go_wp2_with fail
        exact ⟨⟨j + 1, a4, c4, l ++ [box * 4 + j], by push_cast; rfl, by omega, by rw [hlen], Lib.hid HNX.out.symm, H4⟩, by simp [intOf]; omega⟩
      · rw [if_neg q] at HNX
        go_wp2_with fail
        exact ⟨⟨j + 1, a, c, l, by push_cast; rfl, by omega, rfl, Lib.hid HNX.out.symm, HO⟩, by simp [intOf]; omega⟩
    · have hj1 : ¬ ((j : Int) < 4) := by omega
      have HJ : Hid (j = 4) := Lib.hid (by omega)
      clear hjt hj
      go_wp2_with fail
      go_ret
      have hl := HL.out
      rw [HJ.out] at hl
      rw [← hl]
      exact ⟨⟨a, c, rfl, HO.out.1⟩, HO.out.2⟩
end
end Go.Proofs.YtjikpodghmfjcaaGreatDoor
set_option linter.unnecessarySimpa false
namespace Go.Proofs.YtjikpodghmfjcaaGreatDoor
open Go.RowKit Go.Maps
set_option maxRecDepth 100000 in
set_option maxHeartbeats 1000000 in
theorem dstate_bad (tb : Nat) (N : Nat → Prop) (bb first n : Nat) (B : BookS) (slot : Int) (hs : slot < 0 ∨ (n : Int) * 4 ≤ slot) (hn : n ≤ 2048) (w : World) (h : HolI 103 w tb N bb first n B) :
    Calls Tryz.prog 46 #[.pointer (some ⟨tb, 0, none⟩), .int .i64 slot] w fun e w' => (∃ t x, e = .returned (.tuple #[.int .u8 0, .iface t x]) ∧ ErrV w' (.iface t x) 1) ∧ Below w.heap.size w w' := by
  obtain ⟨z0, z1, z2⟩ := blk3 h.1
  clear h
  have hn1 : (n : Int) ≤ 2048 := by omega
  have hn0 : (0 : Int) ≤ n := by omega
  by_cases q : slot < 0
  · clear hs
    go_enter Tryz.func46, Tryz.ntmps46
    go_wp2_with fail
    refine (woe_num _ 1 _).mono ?_
    rintro e w2 ⟨⟨t, x, rfl, he⟩, hb2⟩
    have HE := Lib.hid he
    clear he
    try dsimp only
    go_wp2_with fail
    go_ret2
    exact ⟨⟨t, x, rfl, HE.out⟩, hb2⟩
  · have q1 : (n : Int) * 4 ≤ slot := by omega
    clear hs
    go_enter Tryz.func46, Tryz.ntmps46
    go_wp2_with fail
    refine (woe_num _ 1 _).mono ?_
    rintro e w2 ⟨⟨t, x, rfl, he⟩, hb2⟩
    have HE := Lib.hid he
    clear he
    try dsimp only
    go_wp2_with fail
    go_ret2
    exact ⟨⟨t, x, rfl, HE.out⟩, hb2⟩
set_option maxRecDepth 100000 in
set_option maxHeartbeats 1000000 in
theorem ddrop_bad (tb : Nat) (N : Nat → Prop) (bb first n : Nat) (B : BookS) (slot : Int) (hs : slot < 0 ∨ (n : Int) * 4 ≤ slot) (hn : n ≤ 2048) (w : World) (h : HolI 103 w tb N bb first n B) :
    Calls Tryz.prog 17 #[.pointer (some ⟨tb, 0, none⟩), .int .i64 slot] w fun e w' => (∃ t x, e = .returned (.iface t x) ∧ ErrV w' (.iface t x) 1) ∧ Below w.heap.size w w' := by
  have hS := dstate_bad tb N bb first n B slot hs hn w h
  clear h hs
  go_enter Tryz.func17, Tryz.ntmps17
  go_wp2_with fail
  refine hS.mono ?_
  clear hS
  rintro e w2 ⟨⟨t, x, rfl, he⟩, hb2⟩
  have HE := Lib.hid he
  clear he
  try dsimp only
  go_wp2_with fail
  go_ret
  exact ⟨⟨t, x, rfl, HE.out⟩, hb2⟩
set_option maxRecDepth 100000 in
set_option maxHeartbeats 1000000 in
theorem ddrop_none (tb : Nat) (N : Nat → Prop) (bb first n : Nat) (B : BookS) (slot : Nat) (hs : slot < n * 4) (hn : first + n * 5 ≤ B.n) (hl : (B.view (first + slot / 4 * 5)).getD (slot % 4) 0 ≠ 1) (w : World) (h : HolI 103 w tb N bb first n B) :
    Calls Tryz.prog 17 #[.pointer (some ⟨tb, 0, none⟩), .int .i64 (slot : Int)] w fun e w' => (∃ t x, e = .returned (.iface t x) ∧ ErrV w' (.iface t x) 23) ∧ Below w.heap.size w w' := by
  have hS := dstate_any tb N bb first n B slot hs hn w h
  generalize (B.view (first + slot / 4 * 5)).getD (slot % 4) 0 = s at hS hl
  clear h hs
  go_enter Tryz.func17, Tryz.ntmps17
  go_wp2_with fail
  refine hS.mono ?_
  clear hS
  rintro e w2 ⟨rfl, hb2⟩
  try dsimp only
  go_wp2_with fail
  refine (woe_num _ 23 w2).mono ?_
  rintro e w3 ⟨⟨t, x, rfl, he⟩, hb3⟩
  have HE := Lib.hid he
  have HB := Lib.hid (hb2.trans (hb3.mono hb2.size))
  clear he hb3 hb2
  try dsimp only
  go_wp2_with fail
  go_ret
  exact ⟨⟨t, x, rfl, HE.out⟩, HB.out⟩
set_option maxRecDepth 100000 in
set_option maxHeartbeats 1000000 in
theorem dget_bad (tb : Nat) (N : Nat → Prop) (bb first n : Nat) (B : BookS) (slot : Int) (hs : slot < 0 ∨ (n : Int) * 4 ≤ slot) (hn : n ≤ 2048) (w : World) (h : HolI 103 w tb N bb first n B) :
    Calls Tryz.prog 16 #[.pointer (some ⟨tb, 0, none⟩), .int .i64 slot] w fun e w' => (∃ t x, e = .returned (.tuple #[.agg (v8a (zer 64)), .iface t x]) ∧ ErrV w' (.iface t x) 1) ∧ Below w.heap.size w w' := by
  have HT := Lib.hid h
  have hS := Lib.hid (fun wx (hb : Below w.heap.size w wx) => dstate_bad tb N bb first n B slot hs hn wx (HT.out.below hb))
  have hb0 : ∀ o : Obj, Below w.heap.size w (w.alloc o) := fun o => (Below.refl _ _).alloc (Nat.le_refl _) _
  clear h hs
  go_enter Tryz.func16, Tryz.ntmps16
  repeat ((fail_if_success (with_reducible refine stop_pos "depot.go:110" rfl ?_)); (first | go_values | go_skip | go_guarded | go_step | go_upon))
  refine gen_world (fun wx => Hid (wx.heap[w.heap.size]? = some (.cells (v8a (zer 64)) 32) ∧ Below w.heap.size w wx)) (Lib.hid ⟨heap_alloc_new w (.cells (v8a (zer 64)) 32), hb0 _⟩) ?_
  clear hb0
  intro w1 H1
  go_wp2_with fail
  refine (hS.out w1 H1.out.2).mono ?_
  rintro e w3 ⟨⟨t, x, rfl, he⟩, hb3⟩
  have HE := Lib.hid he
  have H3 : Hid (w3.heap[w.heap.size]? = some (.cells (v8a (zer 64)) 32) ∧ Below w.heap.size w w3) := Lib.hid ⟨(hb3.block _ (lt_of_blk H1.out.1)).trans H1.out.1, H1.out.2.trans (hb3.mono H1.out.2.size)⟩
  clear hb3 H1 hS he
  have hpe := built_pg0
  try dsimp only
  go_wp2_with (first | (refine wpList_build_to rfl 32 _ rfl (v8a (zer 64)) hpe ?_) | (refine page_store rfl (.tmp 4) (.tmp 17) rfl w.heap.size (zer 64) (zer 64) rfl rfl H3.out.1 rfl rfl ?_))
  refine bodyPost_ret (results_cell_slot Tryz.results16 _ _ w.heap.size 32 (v8a (zer 64)) (0, 0) _ rfl (.iface t x) rfl (setRow_heap _ _ _ _ _ (0, 0) H3.out.1) Tryz.underlying32 rfl (by rw [show (v8a (zer 64)).size = 64 from rfl]; exact info_pgs)) rfl ⟨⟨t, x, rfl, ?_⟩, below_setRow H3.out.2 (Nat.le_refl _) _⟩
  exact HE.out.setRow H3.out.1 (by decide) _
set_option maxRecDepth 100000 in
set_option maxHeartbeats 1000000 in
theorem dmove_err (tb : Nat) (slot k : Int) (w : World) (hG : Calls Tryz.prog 16 #[.pointer (some ⟨tb, 0, none⟩), .int .i64 slot] w fun e w' => (∃ t x, e = .returned (.tuple #[.agg (v8a (zer 64)), .iface t x]) ∧ ErrV w' (.iface t x) k) ∧ Below w.heap.size w w') :
    Calls Tryz.prog 31 #[.pointer (some ⟨tb, 0, none⟩), .int .i64 slot] w fun e w' => (∃ t x, e = .returned (.tuple #[.int .i64 0, .iface t x]) ∧ ErrV w' (.iface t x) k) ∧ Below w.heap.size w w' := by
  go_enter Tryz.func31, Tryz.ntmps31
  go_wp2_with fail
  refine hG.mono ?_
  clear hG
  rintro e w3 ⟨⟨t, x, rfl, he⟩, hb3⟩
  have HE := Lib.hid he
  clear he
  try dsimp only
  repeat ((fail_if_success (with_reducible refine stop_at 15 rfl ?_)); (first | (refine page_store rfl (.tmp 6) (.tmp 13) rfl w3.heap.size (zer 64) (zer 64) rfl rfl (heap_alloc_new w3 _) rfl rfl ?_) | go_values | go_skip | go_guarded | go_step | go_upon))
  have hbx : ∀ o : Obj, Below w3.heap.size w3 ((w3.alloc o).setRow w3.heap.size (v8a (zer 64))) := fun o => below_setRow ((Below.refl _ _).alloc (Nat.le_refl _) _) (Nat.le_refl _) _
  refine gen_world (fun wx => Hid (ErrV wx (.iface t x) k ∧ Below w.heap.size w wx)) (Lib.hid ⟨HE.out.below (hbx _), hb3.trans ((hbx _).mono hb3.size)⟩) ?_
  clear hbx hb3
  generalize w3.heap.size = b6
  intro w4 H4
  go_wp2_with fail
  go_ret2
  exact ⟨⟨t, x, rfl, H4.out.1⟩, H4.out.2⟩
theorem BookS.wrote_ok {B : BookS} (h : B.ok) {i : Nat} (hi : i < B.n) {p : List Int} (hp : PgOk p) : (B.wrote i p).ok := by
  unfold BookS.wrote
  split
  · exact ⟨h.size, h.n, h.room, h.gen, h.news, fun f hf => by cases hf; exact (BookS.f_map h).put hi hp, h.pl, h.num, h.last, h.used, h.disk⟩
  · exact ⟨h.size, h.n, h.room, h.gen, h.news, fun f hf => by cases hf; exact BookS.f_map h, h.pl, h.num, h.last, h.used, h.disk⟩
theorem putB_ok {B : BookS} (h : B.ok) {k : Nat} (hk : 3 + k / 4 * 5 + 1 + k % 4 < B.n) {p : List Int} (hp : PgOk p) : (putB B k p).ok := by
  unfold putB
  refine BookS.wrote_ok (BookS.wrote_ok h (by omega) (setDF_ok (BookS.view_ok h _ (by omega)) _ _ (by decide))) ?_ hp
  rw [BookS.wrote_n]; exact hk
theorem hasR_cases {st : Nat → Int} {n : Nat} {slot k : Int} (hk : hasR st n slot = k) (h0 : k ≠ 0) : (k = 1 ∧ (slot < 0 ∨ (n : Int) * 4 ≤ slot)) ∨ (k = 23 ∧ ∃ s : Nat, slot = (s : Int) ∧ s < n * 4 ∧ st s ≠ 1) := by
  unfold hasR at hk
  split at hk
  · rename_i h; exact .inl ⟨hk.symm, h⟩
  · rename_i h
    split at hk
    · exact absurd hk.symm h0
    · rename_i hne
      exact .inr ⟨hk.symm, slot.toNat, by omega, by omega, hne⟩
theorem hasR_zero {st : Nat → Int} {n : Nat} {slot : Int} (hk : hasR st n slot = 0) : ∃ s : Nat, slot = (s : Int) ∧ s < n * 4 ∧ st s = 1 := by
  unfold hasR at hk
  split at hk
  · cases hk
  · rename_i h
    split at hk
    · rename_i he
      exact ⟨slot.toNat, by omega, by omega, he⟩
    · cases hk
theorem hasR_of {st : Nat → Int} {n s : Nat} (hs : s < n * 4) (h : st s = 1) : hasR st n (s : Int) = 0 := by
  unfold hasR
  rw [if_neg (by omega), Int.toNat_natCast, if_pos h]
section
variable {N : Nat → Prop} {tb bb n k c : Nat} {st : Nat → Int} {blk : Nat → List Int} {wx : World}
theorem dep_get_err (hn : n ≤ 99) {slot r : Int} (hk : hasR st n slot = r) (h0 : r ≠ 0) (h : DepS N tb bb n k c st blk wx) :
    Calls Tryz.prog 16 #[.pointer (some ⟨tb, 0, none⟩), .int .i64 slot] wx fun e wy => (∃ t x, e = .returned (.tuple #[.agg (v8a (zer 64)), .iface t x]) ∧ ErrV wy (.iface t x) r) ∧ Below wx.heap.size wx wy := by
  obtain ⟨B, h1, h2, h3, h4, h5⟩ := h
  rcases hasR_cases hk h0 with ⟨rfl, hs⟩ | ⟨rfl, s, rfl, hs, hne⟩
  · exact dget_bad tb N bb 3 n B slot hs (by omega) wx h1
  · exact dget_none tb N bb 3 n B s hs (by omega) (by have := h2.hst s hs; unfold stD at this; rw [this]; exact hne) wx h1
theorem dep_move_err (hn : n ≤ 99) {slot r : Int} (hk : hasR st n slot = r) (h0 : r ≠ 0) (h : DepS N tb bb n k c st blk wx) :
    Calls Tryz.prog 31 #[.pointer (some ⟨tb, 0, none⟩), .int .i64 slot] wx fun e wy => (∃ t x, e = .returned (.tuple #[.int .i64 0, .iface t x]) ∧ ErrV wy (.iface t x) r) ∧ Below wx.heap.size wx wy :=
  dmove_err tb slot r wx (dep_get_err hn hk h0 h)
theorem dep_drop_err (hn : n ≤ 99) {slot r : Int} (hk : hasR st n slot = r) (h0 : r ≠ 0) (h : DepS N tb bb n k c st blk wx) :
    Calls Tryz.prog 17 #[.pointer (some ⟨tb, 0, none⟩), .int .i64 slot] wx fun e wy => (∃ t x, e = .returned (.iface t x) ∧ ErrV wy (.iface t x) r) ∧ Below wx.heap.size wx wy := by
  obtain ⟨B, h1, h2, h3, h4, h5⟩ := h
  rcases hasR_cases hk h0 with ⟨rfl, hs⟩ | ⟨rfl, s, rfl, hs, hne⟩
  · exact ddrop_bad tb N bb 3 n B slot hs (by omega) wx h1
  · exact ddrop_none tb N bb 3 n B s hs (by omega) (by have := h2.hst s hs; unfold stD at this; rw [this]; exact hne) wx h1
theorem dep_move (hn : n ≤ 99) (hc : c ≤ 50) {s : Nat} (hs : s < n * 4) (hl : st s = 1) (hroom : roomR st ((s : Int) / 4) (n * 4) = true) (h : DepS N tb bb n k c st blk wx) :
    Calls Tryz.prog 31 #[.pointer (some ⟨tb, 0, none⟩), .int .i64 (s : Int)] wx fun e wy => (∃ t : Nat, e = .returned (.tuple #[.int .i64 (t : Int), .nilIface]) ∧ MayS st n ((s : Int) / 4) t ∧ DepS N tb bb n k (c + 3) (dropT (stSet st t 1) s) (pgSet blk t (blk s)) wy) ∧ Keeps N wx wy := by
  obtain ⟨B, h1, h2, h3, h4, h5⟩ := h
  have hok := h1.2.1.isOk
  rw [show (s : Int) / 4 = ((s / 4 : Nat) : Int) by omega] at hroom ⊢
  have hr := bestF_range B 3 ((s / 4 : Nat) : Int) n
  obtain ⟨t, ht⟩ : ∃ t : Nat, (bestF B 3 ((s / 4 : Nat) : Int) n).1 = (t : Int) := by
    by_cases h0 : (bestF B 3 ((s / 4 : Nat) : Int) n).1 < 0
    · obtain ⟨u, hu, hz, hne⟩ := (roomR_iff _ _ _).1 hroom
      exact absurd (best_none B _ n h0 u hu (by rw [h2.hst u hu]; exact hz)) hne
    · exact ⟨(bestF B 3 ((s / 4 : Nat) : Int) n).1.toNat, by omega⟩
  have hm := best_may h2 _ ht
  have ht4 := hm.1
  have hP := h2.put hok (by omega) ht4 (B.view (3 + s / 4 * 5 + 1 + s % 4))
  have hpg : B.view (3 + s / 4 * 5 + 1 + s % 4) = blk s := h2.pg s hs hl
  have hne : t ≠ s := fun e => hm.2.2.1 (by rw [e])
  have c1 := BookS.wrote_cnt B (3 + t / 4 * 5) (setDF (B.view (3 + t / 4 * 5)) (t % 4) 1) (by omega)
  have c2 : (putB B t (B.view (3 + s / 4 * 5 + 1 + s % 4))).cnt ≤ c + 2 := by
    have c2 := BookS.wrote_cnt (B.wrote (3 + t / 4 * 5) (setDF (B.view (3 + t / 4 * 5)) (t % 4) 1)) (3 + t / 4 * 5 + 1 + t % 4) (B.view (3 + s / 4 * 5 + 1 + s % 4)) (by rw [BookS.wrote_n]; omega)
    unfold putB
    omega
  have hB2n : (putB B t (B.view (3 + s / 4 * 5 + 1 + s % 4))).n = 498 := by rw [putB_n]; exact h5
  have hst2 : stD (putB B t (B.view (3 + s / 4 * 5 + 1 + s % 4))) s = 1 := by rw [hP.hst s hs, if_neg (fun e => hne e.symm)]; exact hl
  refine (dmove_any tb N bb 3 n B s hs (by omega) (by have := h2.hst s hs; unfold stD at this; rw [this]; exact hl) t ht (putB B t (B.view (3 + s / 4 * 5 + 1 + s % 4))) rfl (wrOk_le h3 (by omega) _ _) (wrOk_le (k := c + 1) (by omega) (by omega) _ _) hst2 (wrOk_le c2 (by omega) _ _) wx h1).mono ?_
  rintro e wy ⟨rfl, hH, hk⟩
  refine ⟨⟨t, rfl, hm, ⟨dropB (putB B t (B.view (3 + s / 4 * 5 + 1 + s % 4))) s, hH, ?_, ?_, ?_, ?_⟩⟩, hk⟩
  · have hD := hP.drop (k := s) (putB_ok hok (by omega) (BookS.view_ok hok _ (by omega))) (by omega) hs
    rw [hpg] at hD ⊢
    exact hD
  · have c3 := BookS.wrote_cnt (putB B t (B.view (3 + s / 4 * 5 + 1 + s % 4))) (3 + s / 4 * 5) (setDF ((putB B t (B.view (3 + s / 4 * 5 + 1 + s % 4))).view (3 + s / 4 * 5)) (s % 4) 2) (by omega)
    show (dropB _ s).cnt ≤ _
    unfold dropB
    omega
  · refine h4.same ?_
    unfold dropB putB
    rw [BookS.wrote_shut, BookS.wrote_shut, BookS.wrote_shut]
  · rw [dropB_n]; exact hB2n
theorem dep_move_full (hn : n ≤ 99) {s : Nat} (hs : s < n * 4) (hl : st s = 1) (hroom : roomR st ((s : Int) / 4) (n * 4) = false) (h : DepS N tb bb n k c st blk wx) :
    Calls Tryz.prog 31 #[.pointer (some ⟨tb, 0, none⟩), .int .i64 (s : Int)] wx fun e wy => (∃ t x, e = .returned (.tuple #[.int .i64 0, .iface t x]) ∧ ErrV wy (.iface t x) 20) ∧ Below wx.heap.size wx wy := by
  obtain ⟨B, h1, h2, h3, h4, h5⟩ := h
  rw [show (s : Int) / 4 = ((s / 4 : Nat) : Int) by omega] at hroom
  have hr := bestF_range B 3 ((s / 4 : Nat) : Int) n
  refine dmove_full tb N bb 3 n B s hs (by omega) (by have := h2.hst s hs; unfold stD at this; rw [this]; exact hl) ?_ wx h1
  apply Classical.byContradiction
  intro h0
  obtain ⟨t, ht⟩ : ∃ t : Nat, (bestF B 3 ((s / 4 : Nat) : Int) n).1 = (t : Int) := ⟨(bestF B 3 ((s / 4 : Nat) : Int) n).1.toNat, by omega⟩
  have hm := best_may h2 _ ht
  exact hm.2.2.1 (roomR_none _ _ _ hroom t hm.1 hm.2.1)
theorem dep_worst (hn : n ≤ 99) (h : DepS N tb bb n k c st blk wx) :
    Calls Tryz.prog 32 #[.pointer (some ⟨tb, 0, none⟩)] wx fun e wy => e = .returned (.tuple #[.int .i64 ((worstR (boxS st) n).1 : Nat), .int .i64 ((worstR (boxS st) n).2 : Nat), .nilIface]) ∧ Below wx.heap.size wx wy := by
  obtain ⟨B, h1, h2, h3, h4, h5⟩ := h
  have e : worstR (boxS st) n = worstR (boxV B 3) n := worstR_congr n (fun b t hb ht => by
    unfold boxS boxV
    rw [← h2.hst _ (by omega), stD_box B b t ht])
  rw [e]
  exact dworst_any tb N bb 3 n B (by omega) wx h1
theorem dep_slots (hn : n ≤ 99) {box : Nat} (hb : box < n) (h : DepS N tb bb n k c st blk wx) :
    Calls Tryz.prog 33 #[.pointer (some ⟨tb, 0, none⟩), .int .i64 (box : Int)] wx fun e wy => (∃ a c, e = .returned (.tuple #[.slice a (slots4 (boxS st box) box 4).length c, .nilIface]) ∧ wy.ownsRow wx.heap.size 3 1 (.slice a (slots4 (boxS st box) box 4).length c) (slots4 (boxS st box) box 4).length (intsN (slots4 (boxS st box) box 4))) ∧ Below wx.heap.size wx wy := by
  obtain ⟨B, h1, h2, h3, h4, h5⟩ := h
  have e : slots4 (boxS st box) box 4 = slots4 (boxV B 3 box) box 4 := slots4_congr box 4 (fun t ht => by
    unfold boxS boxV
    rw [← h2.hst _ (by omega), stD_box B box t ht])
  rw [e]
  exact dslots_any tb N bb 3 n B box hb (by omega) wx h1
end
end Go.Proofs.YtjikpodghmfjcaaGreatDoor
set_option linter.unnecessarySimpa false
namespace Go.Proofs.YtjikpodghmfjcaaGreatDoor
open Go.RowKit Go.Maps
/-- A list of numbers that came out of a call. -/
def NatsIn (w : World) (a : Option Addr) (l : List Nat) : Prop := IntsIn w a (l.map fun i : Nat => (i : Int))
theorem NatsIn.of_own {w : World} {base : Nat} {a : Option Addr} {cap : Nat} {l : List Nat} (h : w.ownsRow base 3 1 (.slice a l.length cap) l.length (intsN l)) : NatsIn w a l := by
  unfold NatsIn
  have e : intsN l = (l.map fun i : Nat => (i : Int)).map (Value.int .i64) := by unfold intsN; rw [List.map_map]; rfl
  rw [e] at h
  exact IntsIn.of_own (cap := cap) (by rw [List.length_map]; exact h)
set_option maxRecDepth 100000 in
set_option maxHeartbeats 4000000 in
theorem ints_same (a b : Option Addr) (l : List Nat) (c d : Nat) (w : World) (hl : l.length ≤ 4) (ha : NatsIn w a l) (hb : NatsIn w b l) :
    Calls Tryz.prog 65 #[.slice a l.length c, .slice b l.length d] w fun e w' => e = .returned (.bool true) ∧ Below w.heap.size w w' := by
  have HA := Lib.hid ha; clear ha
  have HB := Lib.hid hb; clear hb
  have hll : (l.length : Int) ≤ 4 := by omega
  go_enter Tryz.func65, Tryz.ntmps65
  go_wp2_with fail
  go_loopw [5] (fun i wr => ∃ k : Nat, k ≤ l.length ∧ i = .int .i64 (k : Int) ∧ Hid (Below w.heap.size w wr)) (fun i _ => l.length + 1 - (intOf i).toNat)
  case atStart => exact ⟨0, Nat.zero_le _, rfl, Lib.hid (Below.refl _ _)⟩
  case round =>
    obtain ⟨k, hk, rfl, hbel⟩ := hrel
    have hi0 : (0 : Int) ≤ k := by omega
    by_cases hlt : k < l.length
    · have hlm : k < (l.map fun i : Nat => (i : Int)).length := by rw [List.length_map]; exact hlt
      obtain ⟨b1, off, rfl, hb1, c1, cur1, _⟩ := HA.out k hlm
      obtain ⟨b2, off2, rfl, hb2, c2, cur2, _⟩ := HB.out k hlm
      have d1 := (hbel.out.cell (p := ⟨b1, off + k, none⟩) hb1).trans c1
      have d2 := (hbel.out.cell (p := ⟨b2, off2 + k, none⟩) hb2).trans c2
      generalize (l.map fun i : Nat => (i : Int))[k] = x at d1 d2
      have hi1 : (k : Int) < l.length := by omega
      have hxx : (x != x) = false := by simp
      clear c1 c2 hlm
      have HB1 := hbel.out
      go_wp2_with fail
      go_quiet (fail)
      go_wp2_with fail
      exact ⟨⟨k + 1, by omega, by push_cast; rfl, Lib.hid (below_dN HB1 nq)⟩, by simp [intOf]; omega⟩
    · have hi1 : ¬ ((k : Int) < l.length) := by omega
      go_wp2_with fail
      go_ret
      exact ⟨rfl, hbel.out⟩
/-- The law's state of both: the program's depot and the document's. -/
def BoI (N : Nat → Prop) (tb bb mb sb qb n k c : Nat) (st : Nat → Int) (blk : Nat → List Int) (w : World) : Prop :=
  DepS N tb bb n k c st blk w ∧ RefI mb sb qb n st blk w ∧ N mb ∧ N sb ∧ N qb
section
variable {N : Nat → Prop} {tb bb mb sb qb n k c : Nat} {st : Nat → Int} {blk : Nat → List Int} {w : World}
theorem BoI.below {w' : World} (h : BoI N tb bb mb sb qb n k c st blk w) (hb : Below w.heap.size w w') : BoI N tb bb mb sb qb n k c st blk w' :=
  ⟨h.1.below hb, h.2.1.below hb, h.2.2⟩
theorem BoI.turn {w' : World} {k' c' : Nat} (h : BoI N tb bb mb sb qb n k c st blk w) (hd : DepS N tb bb n k' c' st blk w') (hk : Keeps N w w') : BoI N tb bb mb sb qb n k' c' st blk w' :=
  ⟨hd, h.2.1.keeps hk h.2.2.1 h.2.2.2.1 h.2.2.2.2, h.2.2⟩
/-- The depot's turn is done; the document's is next. -/
theorem RefI.next {w' : World} (h : RefI mb sb qb n st blk w) (hk : Keeps N w w') (hm : N mb) (hs : N sb) (hq : N qb) : RefI mb sb qb n st blk w' := h.keeps hk hm hs hq
/-- What the document's depot changes is none of the depot's. -/
theorem DepS.ref {w' : World} (h : DepS N tb bb n k c st blk w) (hk : Keeps (NRf sb qb) w w') (hs : N sb) (hq : N qb) : DepS N tb bb n k c st blk w' :=
  h.grow (hk.mono (fun i _ hi => ⟨fun e => hi (e ▸ hs), fun e => hi (e ▸ hq)⟩)) (fun i hi => ⟨Nat.lt_of_lt_of_le (h.N_lt i hi) hk.size, .inl hi⟩)
end
set_option maxRecDepth 100000 in
set_option maxHeartbeats 4000000 in
theorem alike_any (N : Nat → Prop) (tb bb mb sb qb n k c : Nat) (st : Nat → Int) (blk : Nat → List Int) (w : World) (h : BoI N tb bb mb sb qb n k c st blk w) :
    Calls Tryz.prog 30 #[.pointer (some ⟨tb, 0, none⟩), .pointer (some ⟨mb, 0, none⟩)] w fun e w' => e = .returned (.bool true) ∧ Below w.heap.size w w' := by
  have HB := Lib.hid (fun wx (hb : Below w.heap.size w wx) => h.below hb)
  have hn := h.2.1.lt
  have hCn := dep_count (by omega) h.1
  have HW := Lib.hid (fun wx (hb : Below w.heap.size w wx) => dep_worst (by omega) (h.below hb).1)
  have HRW := Lib.hid (fun wx (hb : Below w.heap.size w wx) => refWorst_any wx (h.below hb).2.1)
  have HC1 := Lib.hid (fun wx (hb : Below w.heap.size w wx) => refCount_any (-1) 1 wx (h.below hb).2.1)
  have HC2 := Lib.hid (fun wx (hb : Below w.heap.size w wx) => refCount_any (-1) 2 wx (h.below hb).2.1)
  have HC0 := Lib.hid (fun wx (hb : Below w.heap.size w wx) => refCount_any (-1) 0 wx (h.below hb).2.1)
  rw [cntR_all st (-1) 1 (by decide)] at HC1
  rw [cntR_all st (-1) 2 (by decide)] at HC2
  rw [cntR_all st (-1) 0 (by decide)] at HC0
  have HSL := Lib.hid (fun wx (hb : Below w.heap.size w wx) (b : Nat) (hb' : b < n) => dep_slots (by omega) hb' (h.below hb).1)
  have HRS := Lib.hid (fun wx (hb : Below w.heap.size w wx) (b : Nat) (hb' : b < n) => refSlots_any b hb' wx (h.below hb).2.1)
  generalize cntS st 1 (n * 4) = x1 at hCn HC1
  generalize cntS st 2 (n * 4) = x2 at hCn HC2
  generalize cntS st 0 (n * 4) = x0 at hCn HC0
  generalize (worstR (boxS st) n).1 = y1 at HW HRW
  generalize (worstR (boxS st) n).2 = y2 at HW HRW
  clear h
  go_enter Tryz.func30, Tryz.ntmps30
  go_wp2_with fail
  refine hCn.mono ?_
  clear hCn
  rintro e w1 ⟨rfl, hb1⟩
  have H1 := Lib.hid hb1
  clear hb1
  try dsimp only
  go_wp2_with fail
  refine (HW.out w1 H1.out).mono ?_
  rintro e w2 ⟨rfl, hb2⟩
  have H2 := Lib.hid (H1.out.trans (hb2.mono H1.out.size))
  clear hb2 HW H1
  try dsimp only
  go_wp2_with fail
  refine (HRW.out w2 H2.out).mono ?_
  rintro e w3 ⟨rfl, rfl⟩
  clear HRW
  try dsimp only
  go_wp2_with fail
  refine (HC1.out w2 H2.out).mono ?_
  rintro e w3 ⟨rfl, rfl⟩
  try dsimp only
  have e1 : ((x1 : Int) != (x1 : Int)) = false := by simp
  have e2 : ((x2 : Int) != (x2 : Int)) = false := by simp
  have e0 : ((x0 : Int) != (x0 : Int)) = false := by simp
  have e3 : ((y1 : Int) != (y1 : Int)) = false := by simp
  have e4 : ((y2 : Int) != (y2 : Int)) = false := by simp
  go_wp2_with fail
  refine (HC2.out w2 H2.out).mono ?_
  rintro e w3 ⟨rfl, rfl⟩
  try dsimp only
  go_wp2_with fail
  refine (HC0.out w2 H2.out).mono ?_
  rintro e w3 ⟨rfl, rfl⟩
  clear HC0 HC1 HC2
  obtain ⟨z0, z1⟩ := ref_cells (HB.out w2 H2.out).2.1.cells
  try dsimp only
  go_wp2_with fail
  clear z0 z1 e1 e2 e0 e3 e4
  go_loopw [75] (fun iv wr => ∃ i : Nat, iv = .int .i64 (i : Int) ∧ i ≤ n ∧ Hid (Below w.heap.size w wr)) (fun iv _ => n + 1 - (intOf iv).toNat)
  case atStart => exact ⟨0, rfl, by omega, H2⟩
  case round =>
    clear H2
    obtain ⟨i, rfl, hi, HX⟩ := hrel
    have hi0 : (0 : Int) ≤ i := by omega
    by_cases hlt : i < n
    · have hi1 : (i : Int) < n := by omega
      have hSi := HSL.out wr HX.out i hlt
      have HRi := Lib.hid (fun wx (hb : Below w.heap.size w wx) => HRS.out wx hb i hlt)
      have HL4 := Lib.hid (slots4_le (boxS st i) i 4)
      generalize slots4 (boxS st i) i 4 = l at hSi HRi HL4
      go_wp2_with fail
      refine hSi.mono ?_
      clear hSi
      rintro e w3 ⟨⟨a, c, rfl, ho⟩, hb3⟩
      have H3 : Hid (NatsIn w3 a l ∧ Below w.heap.size w w3) := Lib.hid ⟨NatsIn.of_own ho, HX.out.trans (hb3.mono HX.out.size)⟩
      clear ho hb3 HX
      try dsimp only
      go_wp2_with fail
      refine (HRi.out w3 H3.out.2).mono ?_
      rintro e w4 ⟨⟨a', c', rfl, ho⟩, hb4⟩
      have H4 : Hid (NatsIn w4 a l ∧ NatsIn w4 a' l ∧ Below w.heap.size w w4) := Lib.hid ⟨IntsIn.below H3.out.1 hb4, NatsIn.of_own ho, H3.out.2.trans (hb4.mono H3.out.2.size)⟩
      clear ho hb4 H3 HRi
      try dsimp only
      go_wp2_with fail
      refine (ints_same a a' l c c' w4 HL4.out H4.out.1 H4.out.2.1).mono ?_
      rintro e w5 ⟨rfl, hb5⟩
      have H5 := Lib.hid (H4.out.2.2.trans (hb5.mono H4.out.2.2.size))
      clear hb5 H4 HL4
      try dsimp only
      go_wp2_with fail
      exact ⟨⟨i + 1, by push_cast; rfl, by omega, H5⟩, by simp [intOf]; omega⟩
    · have hi1 : ¬ ((i : Int) < n) := by omega
      clear hlt hi
      go_wp2_with fail
      go_ret
      exact ⟨rfl, HX.out⟩
end Go.Proofs.YtjikpodghmfjcaaGreatDoor
set_option linter.unnecessarySimpa false
namespace Go.Proofs.YtjikpodghmfjcaaGreatDoor
open Go.RowKit Go.Maps
/-- Block i is an error's. -/
def WoeB (w : World) (i : Nat) : Prop := ∃ cs, w.heap[i]? = some (.cells cs 156)
theorem WoeB.lt {w : World} {i : Nat} (h : WoeB w i) : i < w.heap.size := by
  obtain ⟨cs, h⟩ := h
  exact lt_of_blk h
theorem WoeB.not {w : World} {i T : Nat} {cs : Array Value} (h : w.heap[i]? = some (.cells cs T)) (hT : T ≠ 156) : ¬ WoeB w i := by
  rintro ⟨cs', e⟩
  rw [h] at e
  simp only [Option.some.injEq, Obj.cells.injEq] at e
  exact hT e.2.1
theorem WoeB.not_map {P : Program} {w : World} {k b c : Nat} {f : Lit → Option Value} (h : MapIs P k w b c f) : ¬ WoeB w b := by
  rintro ⟨cs', e⟩
  obtain ⟨D, ⟨es, clock, hb, _⟩, _⟩ := h
  rw [hb] at e
  simp at e
theorem WoeB.not_row {w : World} {base e s n : Nat} {v : Value} {xs : List Value} (h : w.ownsRow base e s v n xs) (he : e ≠ 156) (k : Nat) (hk : v.ownBlock = some k) : ¬ WoeB w k := by
  rcases h.2 with ⟨rfl, _⟩ | ⟨g, cap, cur, rfl, _, hg, _⟩
  · simp [Value.ownBlock] at hk
  · simp [Value.ownBlock] at hk
    subst hk
    exact WoeB.not hg he
theorem DiskI.wide {w : World} {db : Nat} {N : Nat → Prop} {d : DiskS} (h : DiskI w db N d) : DiskI w db (fun i => N i ∨ WoeB w i) d := by
  obtain ⟨fb, cv, lb, c, h1, h2, h3, h4, h5, n1, n2, n3, n4, n5, h6⟩ := h
  exact ⟨fb, cv, lb, c, h1, h2, h3, h4, h5, fun q => q.elim n1 (WoeB.not h1 (by decide)), fun q => q.elim n2 (WoeB.not h2 (by decide)), fun q => q.elim n3 (WoeB.not_map h4), fun k hk q => q.elim (n4 k hk) (WoeB.not_row h3 (by decide) k hk), fun i hi => hi.elim (n5 i) WoeB.lt, h6⟩
theorem BookI.wide {w : World} {bb : Nat} {N : Nat → Prop} {B : BookS} (h : BookI w bb N B) : BookI w bb (fun i => N i ∨ WoeB w i) B := by
  obtain ⟨db, rb, nb, ov, hX⟩ := h
  have ho : ∀ k, ovB ov k → ¬ WoeB w k := fun k hk => by
    have h1 := hX.opn
    unfold ovB at hk
    subst hk
    cases hq : B.opn with
    | none => rw [hq] at h1; simp [OpenI] at h1
    | some f =>
      rw [hq] at h1
      obtain ⟨ob, e, hm⟩ := h1
      simp at e
      subst e
      exact WoeB.not_map hm
  have hd := hX.disk.wide
  refine ⟨db, rb, nb, ov, hX.cells, hX.ring, hd.keep (Below.refl _ _) (fun i hi => ⟨?_, .inl ?_⟩), hX.news, hX.opn, hX.ne, ⟨fun q => q.elim hX.nots.1 (WoeB.not hX.cells (by decide)), fun q => q.elim hX.nots.2.1 (WoeB.not hX.ring (by decide)), fun q => q.elim hX.nots.2.2.1 (WoeB.not_map hX.news), fun k hk q => q.elim (hX.nots.2.2.2 k hk) (ho k hk)⟩, hX.ok⟩
  · refine hd.N_lt i ?_
    rcases hi with (hi | hi) | hi
    · exact .inl (.inl hi)
    · exact .inr hi
    · exact .inl (.inr hi)
  · rcases hi with (hi | hi) | hi
    · exact .inl (.inl hi)
    · exact .inr hi
    · exact .inl (.inr hi)
theorem HolI.wide {T : Nat} (hT : T ≠ 156) {w : World} {tb bb first n : Nat} {N : Nat → Prop} {B : BookS} (h : HolI T w tb N bb first n B) : HolI T w tb (fun i => N i ∨ WoeB w i) bb first n B := by
  obtain ⟨h1, h2, h3⟩ := h
  have hl : ∀ i, N i → i < w.heap.size := fun i hi => h2.N_lt i (.inl hi)
  refine ⟨h1, h2.wide.keep (Below.refl _ _) (fun i hi => ⟨?_, .inl ?_⟩), fun q => q.elim h3 (WoeB.not h1 hT)⟩
  · rcases hi with (hi | hi) | hi
    · exact hl i hi
    · exact hi.lt
    · rw [hi]; exact lt_of_blk h1
  · rcases hi with (hi | hi) | hi
    · exact .inl (.inl hi)
    · exact .inr hi
    · exact .inl (.inr hi)
/-- An error stays where its blocks stay. -/
theorem ErrAt.stays {w w' : World} (hk : Keeps (WoeB w) w w') : ∀ {k : Nat} {v : Value} {n : Int}, ErrAt w k v n → ErrAt w' k v n
  | 0, _, _, h => h
  | k + 1, _, _, ⟨b, s, e, h1, h2, h3⟩ => ⟨b, s, e, h1, hk.blk ⟨_, h2⟩ h2, ErrAt.stays hk h3⟩
theorem ErrV.stays {w w' : World} (hk : Keeps (WoeB w) w w') {v : Value} {n : Int} (h : ErrV w v n) : ErrV w' v n := by
  obtain ⟨k, h⟩ := h
  exact ⟨k, h.stays hk⟩
theorem DepS.wide {N : Nat → Prop} {tb bb n k c : Nat} {st : Nat → Int} {blk : Nat → List Int} {wx : World} (h : DepS N tb bb n k c st blk wx) : DepS (fun i => N i ∨ WoeB wx i) tb bb n k c st blk wx := by
  obtain ⟨B, h1, h2⟩ := h
  exact ⟨B, h1.wide (by decide), h2⟩
theorem DepS.thin {N M : Nat → Prop} {tb bb n k c : Nat} {st : Nat → Int} {blk : Nat → List Int} {wx : World} (h : DepS (fun i => N i ∨ M i) tb bb n k c st blk wx) : DepS N tb bb n k c st blk wx :=
  h.keep (Below.refl _ _) (fun i hi => ⟨h.N_lt i (.inl hi), .inl (.inl hi)⟩)
end Go.Proofs.YtjikpodghmfjcaaGreatDoor
set_option linter.unnecessarySimpa false
namespace Go.Proofs.YtjikpodghmfjcaaGreatDoor
open Go.RowKit Go.Maps
def pg5 (x : Int) : List Int := x :: 5 :: zer 62
theorem pg5_ok (x : Int) (h : 0 ≤ x ∧ x < 256) : PgOk (pg5 x) := by
  refine ⟨by simp [pg5, zer], fun y hy => ?_⟩
  rcases List.mem_cons.1 hy with rfl | hy
  · exact h
  · rcases List.mem_cons.1 hy with rfl | hy
    · decide
    · exact zer_u8 62 y hy
theorem built_pg5 (x : Int) : Tryz.prog.built 32 [(0, .int .u8 x), (1, .int .u8 5)] = some (v8a (x :: 5 :: zer 62)) := by kernel_rfl
def callC (kind slot what : Int) : Array Value := #[.int .i64 kind, .int .i64 slot, .int .u8 what]
def NB (N : Nat → Prop) (cb : Nat) : Nat → Prop := fun q => N q ∨ q = cb
/-- What a run of both keeps: the caller's, but for the document's states and pages. -/
def NKp (N : Nat → Prop) (sb qb : Nat) : Nat → Prop := fun q => N q ∧ q ≠ sb ∧ q ≠ qb
/-- The law's state between two calls. -/
def BoS (N : Nat → Prop) (tb bb mb sb qb n k c : Nat) (st : Nat → Int) (blk : Nat → List Int) (w : World) : Prop :=
  BoI N tb bb mb sb qb n k c st blk w ∧ N 0 ∧ 0 ≠ sb ∧ 0 ≠ qb ∧ EtAt w
theorem BoS.below {N : Nat → Prop} {tb bb mb sb qb n k c : Nat} {st : Nat → Int} {blk : Nat → List Int} {w w' : World} (h : BoS N tb bb mb sb qb n k c st blk w) (hb : Below w.heap.size w w') : BoS N tb bb mb sb qb n k c st blk w' :=
  ⟨h.1.below hb, h.2.1, h.2.2.1, h.2.2.2.1, h.2.2.2.2.below hb h.2.2.2.2.pos⟩
/-- The law's state within a call: block cb is the call. -/
structure BbI (w : World) (N : Nat → Prop) (cb tb bb mb sb qb n k c : Nat) (kind slot what : Int) (st : Nat → Int) (blk : Nat → List Int) (st' : Nat → Int) (blk' : Nat → List Int) (wx : World) : Prop where
  call : wx.heap[cb]? = some (.cells (callC kind slot what) 63)
  dep : DepS (NB N cb) tb bb n k c st blk wx
  ref : RefI mb sb qb n st' blk' wx
  nots : N mb ∧ N sb ∧ N qb ∧ N 0 ∧ 0 ≠ sb ∧ 0 ≠ qb
  et : EtAt wx
  kept : Keeps (NKp N sb qb) w wx
section
variable {w wx wy : World} {N : Nat → Prop} {cb tb bb mb sb qb n k c : Nat} {kind slot what : Int} {st st' : Nat → Int} {blk blk' : Nat → List Int}
theorem BbI.start {o : Obj} (h : BoS N tb bb mb sb qb n k c st blk w) (hb : Below w.heap.size w (w.alloc o)) (hc : (w.alloc o).heap[w.heap.size]? = some (.cells (callC kind slot what) 63)) : BbI w N w.heap.size tb bb mb sb qb n k c kind slot what st blk st blk (w.alloc o) :=
  ⟨hc, h.1.1.keep hb (fun i hi => by
    rcases hi with hi | rfl
    · exact ⟨Nat.lt_of_lt_of_le (h.1.1.N_lt i hi) hb.size, .inl hi⟩
    · exact ⟨lt_of_blk hc, .inr (Nat.le_refl _)⟩), h.1.2.1.below hb, ⟨h.1.2.2.1, h.1.2.2.2.1, h.1.2.2.2.2, h.2.1, h.2.2.1, h.2.2.2.1⟩, h.2.2.2.2.below hb h.2.2.2.2.pos, Keeps.of_below hb⟩
theorem BbI.below (h : BbI w N cb tb bb mb sb qb n k c kind slot what st blk st' blk' wx) (hb : Below wx.heap.size wx wy) : BbI w N cb tb bb mb sb qb n k c kind slot what st blk st' blk' wy :=
  ⟨(hb.block _ (lt_of_blk h.call)).trans h.call, h.dep.below hb, h.ref.below hb, h.nots, h.et.below hb h.et.pos, h.kept.trans (Keeps.of_below hb)⟩
theorem BbI.deps {k1 c1 : Nat} {st1 : Nat → Int} {blk1 : Nat → List Int} (h : BbI w N cb tb bb mb sb qb n k c kind slot what st blk st' blk' wx) (hk : Keeps (NB N cb) wx wy) (hd : DepS (NB N cb) tb bb n k1 c1 st1 blk1 wy) : BbI w N cb tb bb mb sb qb n k1 c1 kind slot what st1 blk1 st' blk' wy :=
  ⟨hk.blk (.inr rfl) h.call, hd, h.ref.keeps hk (.inl h.nots.1) (.inl h.nots.2.1) (.inl h.nots.2.2.1), h.nots, h.et.keeps hk (.inl h.nots.2.2.2.1), h.kept.trans (hk.mono (fun i _ hi => .inl hi.1))⟩
theorem BbI.refs {st1 : Nat → Int} {blk1 : Nat → List Int} (h : BbI w N cb tb bb mb sb qb n k c kind slot what st blk st' blk' wx) (hk : Keeps (NRf sb qb) wx wy) (hr : RefI mb sb qb n st1 blk1 wy) : BbI w N cb tb bb mb sb qb n k c kind slot what st blk st1 blk1 wy :=
  ⟨hk.blk ⟨blk_ne_of h.call h.ref.st (by decide), blk_ne_of h.call h.ref.pg (by decide)⟩ h.call, h.dep.ref hk (.inl h.nots.2.1) (.inl h.nots.2.2.1), hr, h.nots, h.et.keeps hk ⟨h.nots.2.2.2.2.1, h.nots.2.2.2.2.2⟩, h.kept.trans (hk.mono (fun i _ hi => hi.2))⟩
theorem BbI.fin (h : BbI w N cb tb bb mb sb qb n k c kind slot what st blk st blk wx) : BoS N tb bb mb sb qb n k c st blk wx ∧ Keeps (NKp N sb qb) w wx :=
  ⟨⟨⟨h.dep.keep (Below.refl _ _) (fun i hi => ⟨h.dep.N_lt i (.inl hi), .inl (.inl hi)⟩), h.ref, h.nots.1, h.nots.2.1, h.nots.2.2.1⟩, h.nots.2.2.2.1, h.nots.2.2.2.2.1, h.nots.2.2.2.2.2, h.et⟩, h.kept⟩
theorem call_at (h : BbI w N cb tb bb mb sb qb n k c kind slot what st blk st' blk' wx) : wx.cell? ⟨cb, 0, none⟩ = some (.int .i64 kind) ∧ wx.cell? ⟨cb, 1, none⟩ = some (.int .i64 slot) ∧ wx.cell? ⟨cb, 2, none⟩ = some (.int .u8 what) := blk3 h.call
end
/-- The call's block, whatever the world. -/
def CbS (cb : Nat) (kind slot what : Int) (wx : World) : Prop := wx.heap[cb]? = some (.cells (callC kind slot what) 63)
/-- What a call of both comes to. -/
def BoP (N : Nat → Prop) (tb bb mb sb qb n k : Nat) (w : World) (e : Ending) (w' : World) : Prop :=
  e = .returned (.bool true) ∧ ∃ k' c' st' blk', k' ≤ k + 1 ∧ c' ≤ 3 ∧ BoS N tb bb mb sb qb n k' c' st' blk' w' ∧ Keeps (NKp N sb qb) w w'
section
variable {N : Nat → Prop} {tb bb mb sb qb n k : Nat} {what : Int} {st : Nat → Int} {blk : Nat → List Int} {w : World}
set_option maxRecDepth 100000 in
set_option maxHeartbeats 4000000 in
theorem both0_room (hkb : k ≤ 9000) (hw : 0 ≤ what ∧ what < 256) (kind slot : Int) (hkd : kind = 0) (hroom : roomR st (-1) (n * 4) = true) (h : BoS N tb bb mb sb qb n k 0 st blk w) :
    Calls Tryz.prog 29 #[.pointer (some ⟨bb, 0, none⟩), .pointer (some ⟨tb, 0, none⟩), .pointer (some ⟨mb, 0, none⟩), .agg (callC kind slot what)] w (BoP N tb bb mb sb qb n k w) := by
  have HFR : Hid (∃ s, s < n * 4 ∧ st s = 0) := Lib.hid (by obtain ⟨s, h1, h2, _⟩ := (roomR_iff _ _ _).1 hroom; exact ⟨s, h1, h2⟩)
  have HRO := Lib.hid hroom
  have HPK := Lib.hid (pg5_ok what hw)
  have HB5 : Hid (Tryz.prog.built 32 [(0, .int .u8 what), (1, .int .u8 5)] = some (v8a (pg5 what))) := Lib.hid (built_pg5 what)
  generalize pg5 what = pg at HPK HB5
  obtain ⟨hw0, hw1⟩ := hw
  clear hroom
  subst hkd
  have H := Lib.hid h
  have hn64 := h.1.2.1.lt
  have hb0 : ∀ o : Obj, Below w.heap.size w (w.alloc o) := fun o => (Below.refl _ _).alloc (Nat.le_refl _) _
  unfold callC
  clear h
  go_enter Tryz.func29, Tryz.ntmps29
  repeat ((fail_if_success (with_reducible refine stop_at 21 rfl ?_)); (first | go_values | go_skip | go_guarded | go_step | go_upon))
  refine gen_world (fun wx => Hid (BbI w N w.heap.size tb bb mb sb qb n k 0 0 slot what st blk st blk wx)) (Lib.hid (BbI.start H.out (hb0 _) (heap_alloc_new w _))) ?_
  clear hb0 H
  generalize w.heap.size = cb
  intro w1 H1
  obtain ⟨z0, z1, z2⟩ := call_at H1.out
  have hR := refRoom_any (-1) w1 H1.out.ref
  rw [HRO.out] at hR
  have hP := dep_put (by omega) (by decide) pg HPK.out HFR.out H1.out.dep
  clear HRO HFR
  go_wp2_with fail
  refine hR.mono ?_
  clear hR
  rintro e w2 ⟨rfl, rfl⟩
  try dsimp only
  go_wp2_with (refine wpList_build_to rfl 32 _ rfl (v8a pg) (by simp only [List.map_toArray, List.map_cons, List.map_nil]; exact HB5.out) ?_)
  refine hP.mono ?_
  clear hP
  rintro e w2 ⟨⟨s, rfl, hm, hd⟩, hk2⟩
  have H2 := Lib.hid (H1.out.deps hk2 hd)
  have HM := Lib.hid hm
  clear hd hk2 hm H1 z0 z1 z2
  obtain ⟨z0, z1, z2⟩ := call_at H2.out
  have hMay := refMay_any s (-1) HM.out w2 H2.out.ref
  have hPut := refPut_any s HM.out.1 pg HPK.out w2 H2.out.ref
  try dsimp only
  go_wp2_with fail
  refine hMay.mono ?_
  clear hMay
  rintro e w3 ⟨rfl, rfl⟩
  try dsimp only
  go_wp2_with (refine wpList_build_to rfl 32 _ rfl (v8a pg) (by simp only [List.map_toArray, List.map_cons, List.map_nil]; exact HB5.out) ?_)
  refine hPut.mono ?_
  clear hPut
  rintro e w3 ⟨rfl, hr, hk3⟩
  have H3 : Hid (BbI w N cb tb bb mb sb qb n k 2 0 slot what (stSet st s 1) (pgSet blk s pg) (stSet st s 1) (pgSet blk s pg) w3) := Lib.hid (H2.out.refs hk3 hr)
  clear hr hk3 H2 HM z0 z1 z2 HPK HB5
  try dsimp only
  go_wp2_with fail
  go_ret
  obtain ⟨hb, hk⟩ := H3.out.fin
  exact ⟨rfl, _, 2, _, _, by omega, by omega, hb, hk⟩
set_option maxRecDepth 100000 in
set_option maxHeartbeats 4000000 in
theorem both0_full (hkb : k ≤ 9000) (hw : 0 ≤ what ∧ what < 256) (kind slot : Int) (hkd : kind = 0) (hroom : roomR st (-1) (n * 4) = false) (h : BoS N tb bb mb sb qb n k 0 st blk w) :
    Calls Tryz.prog 29 #[.pointer (some ⟨bb, 0, none⟩), .pointer (some ⟨tb, 0, none⟩), .pointer (some ⟨mb, 0, none⟩), .agg (callC kind slot what)] w (BoP N tb bb mb sb qb n k w) := by
  have HFR : Hid (∀ s, s < n * 4 → st s ≠ 0) := Lib.hid (fun s hs h0 => by have := roomR_none _ _ _ hroom s hs h0; omega)
  have HRO := Lib.hid hroom
  have HPK := Lib.hid (pg5_ok what hw)
  have HB5 : Hid (Tryz.prog.built 32 [(0, .int .u8 what), (1, .int .u8 5)] = some (v8a (pg5 what))) := Lib.hid (built_pg5 what)
  generalize pg5 what = pg at HPK HB5
  obtain ⟨hw0, hw1⟩ := hw
  clear hroom
  subst hkd
  have H := Lib.hid h
  have hn64 := h.1.2.1.lt
  have hb0 : ∀ o : Obj, Below w.heap.size w (w.alloc o) := fun o => (Below.refl _ _).alloc (Nat.le_refl _) _
  unfold callC
  clear h
  go_enter Tryz.func29, Tryz.ntmps29
  repeat ((fail_if_success (with_reducible refine stop_at 21 rfl ?_)); (first | go_values | go_skip | go_guarded | go_step | go_upon))
  refine gen_world (fun wx => Hid (BbI w N w.heap.size tb bb mb sb qb n k 0 0 slot what st blk st blk wx)) (Lib.hid (BbI.start H.out (hb0 _) (heap_alloc_new w _))) ?_
  clear hb0 H
  generalize w.heap.size = cb
  intro w1 H1
  obtain ⟨z0, z1, z2⟩ := call_at H1.out
  have hR := refRoom_any (-1) w1 H1.out.ref
  rw [HRO.out] at hR
  have hP := dep_full (by omega) pg HPK.out HFR.out H1.out.dep
  clear HRO HFR
  go_wp2_with fail
  refine hR.mono ?_
  clear hR
  rintro e w2 ⟨rfl, rfl⟩
  try dsimp only
  go_wp2_with (refine wpList_build_to rfl 32 _ rfl (v8a pg) (by simp only [List.map_toArray, List.map_cons, List.map_nil]; exact HB5.out) ?_)
  refine hP.mono ?_
  clear hP
  rintro e w2 ⟨⟨t, x, rfl, hev⟩, hb2⟩
  have H2 := Lib.hid (H1.out.below hb2)
  have HE := Lib.hid hev
  clear hev hb2 H1 z0 z1 z2 HPK HB5
  have hU := dep_undo (by omega) H2.out.dep.wide
  try dsimp only
  go_wp2_with fail
  refine hU.mono ?_
  clear hU
  rintro e w3 ⟨rfl, hd, hk3⟩
  have H3 := Lib.hid (H2.out.deps (hk3.mono (fun i _ hi => .inl hi)) hd.thin)
  have HE3 := Lib.hid (HE.out.stays (hk3.mono (fun i _ hi => .inr hi)))
  clear hd hk3 H2 HE
  have hNU := num07_err (.iface t x) 20 w3 HE3.out H3.out.et
  try dsimp only
  go_wp2_with fail
  refine hNU.mono ?_
  clear hNU
  rintro e w4 ⟨rfl, hb4⟩
  have H4 := Lib.hid (H3.out.below hb4)
  clear hb4 H3 HE3
  try dsimp only
  go_wp2_with fail
  go_ret
  obtain ⟨hb, hk⟩ := H4.out.fin
  exact ⟨rfl, _, 0, _, _, by omega, by omega, hb, hk⟩
set_option maxRecDepth 100000 in
set_option maxHeartbeats 4000000 in
theorem both1_ok (hkb : k ≤ 9000) (kind slot what : Int) (hkd : kind = 1) (hok : hasR st n slot = 0) (h : BoS N tb bb mb sb qb n k 0 st blk w) :
    Calls Tryz.prog 29 #[.pointer (some ⟨bb, 0, none⟩), .pointer (some ⟨tb, 0, none⟩), .pointer (some ⟨mb, 0, none⟩), .agg (callC kind slot what)] w (BoP N tb bb mb sb qb n k w) := by
  obtain ⟨s, rfl, hs, hl⟩ := hasR_zero hok
  have HS := Lib.hid (And.intro hs hl)
  clear hs hl hok
  subst hkd
  have H := Lib.hid h
  have hn64 := h.1.2.1.lt
  have hb0 : ∀ o : Obj, Below w.heap.size w (w.alloc o) := fun o => (Below.refl _ _).alloc (Nat.le_refl _) _
  unfold callC
  clear h
  go_enter Tryz.func29, Tryz.ntmps29
  repeat ((fail_if_success (with_reducible refine stop_at 21 rfl ?_)); (first | go_values | go_skip | go_guarded | go_step | go_upon))
  refine gen_world (fun wx => Hid (BbI w N w.heap.size tb bb mb sb qb n k 0 1 (s : Int) what st blk st blk wx)) (Lib.hid (BbI.start H.out (hb0 _) (heap_alloc_new w _))) ?_
  clear hb0 H
  generalize w.heap.size = cb
  intro w1 H1
  obtain ⟨z0, z1, z2⟩ := call_at H1.out
  have hD := dep_drop (by omega) (by decide) HS.out.1 HS.out.2 (H1.out.below (Below.refl _ _).drew).dep
  have H1d := Lib.hid (H1.out.below (Below.refl _ _).drew)
  have r1 : ∀ q : SatW (CbS cb 1 (s : Int) what), q.w.cell? ⟨cb, 1, none⟩ = some (.int .i64 (s : Int)) := fun q => (blk3 q.h).2.1
  go_wp2_with fail
  clear z0 z1 z2
  have hne : Nonempty (SatW (CbS cb 1 (s : Int) what)) := ⟨⟨_, (show CbS cb 1 (s : Int) what w1.drew from H1.out.call)⟩⟩
  refine wp_region_mix [(0, true), (1, true), (2, true), (5, true), (6, true), (7, true), (3, false), (4, false), (8, false), (9, true), (10, true)] 10 (fun w' => ∃ p : SatW (CbS cb 1 (s : Int) what), w' = p.w) (by kernel_rfl) (by kernel_rfl) (fun _ _ d _ _ h => by cases d <;> exact h) (sat_of (show CbS cb 1 (s : Int) what w1.drew from H1.out.call)) ?_
  (repeat (with_reducible refine mix_q ?_; simp only [List.drop_succ_cons, List.drop_zero, List.take_succ_cons, List.take_zero]; go_big_quiet_step (fail); with_reducible refine wpQuiet_nil ?_))
  with_reducible refine mix_a ?_; simp only [List.drop_succ_cons, List.drop_zero, List.take_succ_cons, List.take_zero]
  go_wp2_with fail
  refine hD.mono ?_
  clear hD
  rintro e w2 ⟨rfl, hd, hk2⟩
  have H2 := Lib.hid (H1d.out.deps hk2 hd)
  clear hd hk2 H1 H1d
  try dsimp only
  go_wp2_with fail
  try with_reducible refine wpList_nil ?_
  with_reducible refine mixQ_normal ?_
  refine ⟨fun _ => sat_of (F := CbS cb 1 (s : Int) what) H2.out.call, ?_⟩
  with_reducible refine mix_a ?_; simp only [List.drop_succ_cons, List.drop_zero, List.take_succ_cons, List.take_zero]
  go_wp2_with fail
  refine (num07_nil w2).mono ?_
  rintro e w3 ⟨rfl, rfl⟩
  try dsimp only
  go_wp2_with fail
  try with_reducible refine wpList_nil ?_
  with_reducible refine mixQ_normal ?_
  refine ⟨fun _ => sat_of (F := CbS cb 1 (s : Int) what) H2.out.call, ?_⟩
  with_reducible refine mix_a ?_; simp only [List.drop_succ_cons, List.drop_zero, List.take_succ_cons, List.take_zero]
  have hM := refDrop_any s HS.out.1 HS.out.2 w2 H2.out.ref
  go_wp2_with fail
  refine hM.mono ?_
  clear hM
  rintro e w3 ⟨rfl, hr, hk3⟩
  have H3 := Lib.hid (H2.out.refs hk3 hr)
  clear hr hk3 H2 HS
  try dsimp only
  go_wp2_with fail
  try with_reducible refine wpList_nil ?_
  with_reducible refine mixQ_normal ?_
  refine ⟨fun _ => sat_of (F := CbS cb 1 (s : Int) what) H3.out.call, ?_⟩
  (repeat (with_reducible refine mix_q ?_; simp only [List.drop_succ_cons, List.drop_zero, List.take_succ_cons, List.take_zero]; go_big_quiet_step (fail); with_reducible refine wpQuiet_nil ?_))
  with_reducible refine mix_nil ?_
  go_wp2_with fail
  go_ret
  obtain ⟨hb, hk⟩ := H3.out.fin
  exact ⟨rfl, _, 1, _, _, by omega, by omega, hb, hk⟩
set_option maxRecDepth 100000 in
set_option maxHeartbeats 4000000 in
theorem both1_err (hkb : k ≤ 9000) (kind slot what r : Int) (hkd : kind = 1) (hr : hasR st n slot = r) (h0 : r ≠ 0) (h : BoS N tb bb mb sb qb n k 0 st blk w) :
    Calls Tryz.prog 29 #[.pointer (some ⟨bb, 0, none⟩), .pointer (some ⟨tb, 0, none⟩), .pointer (some ⟨mb, 0, none⟩), .agg (callC kind slot what)] w (BoP N tb bb mb sb qb n k w) := by
  have HR := Lib.hid (And.intro hr h0)
  clear hr h0
  subst hkd
  have H := Lib.hid h
  have hn64 := h.1.2.1.lt
  have hb0 : ∀ o : Obj, Below w.heap.size w (w.alloc o) := fun o => (Below.refl _ _).alloc (Nat.le_refl _) _
  unfold callC
  clear h
  go_enter Tryz.func29, Tryz.ntmps29
  repeat ((fail_if_success (with_reducible refine stop_at 21 rfl ?_)); (first | go_values | go_skip | go_guarded | go_step | go_upon))
  refine gen_world (fun wx => Hid (BbI w N w.heap.size tb bb mb sb qb n k 0 1 slot what st blk st blk wx)) (Lib.hid (BbI.start H.out (hb0 _) (heap_alloc_new w _))) ?_
  clear hb0 H
  generalize w.heap.size = cb
  intro w1 H1
  obtain ⟨z0, z1, z2⟩ := call_at H1.out
  have H1d := Lib.hid (H1.out.below (Below.refl _ _).drew)
  have hD := dep_drop_err (by omega) HR.out.1 HR.out.2 H1d.out.dep
  have r1 : ∀ q : SatW (CbS cb 1 slot what), q.w.cell? ⟨cb, 1, none⟩ = some (.int .i64 slot) := fun q => (blk3 q.h).2.1
  go_wp2_with fail
  clear z0 z1 z2
  have hne : Nonempty (SatW (CbS cb 1 slot what)) := ⟨⟨_, (show CbS cb 1 slot what w1.drew from H1.out.call)⟩⟩
  refine wp_region_mix [(0, true), (1, true), (2, true), (5, true), (6, true), (7, true), (3, false), (4, false), (8, false), (9, true), (10, true)] 10 (fun w' => ∃ p : SatW (CbS cb 1 slot what), w' = p.w) (by kernel_rfl) (by kernel_rfl) (fun _ _ d _ _ h => by cases d <;> exact h) (sat_of (show CbS cb 1 slot what w1.drew from H1.out.call)) ?_
  (repeat (with_reducible refine mix_q ?_; simp only [List.drop_succ_cons, List.drop_zero, List.take_succ_cons, List.take_zero]; go_big_quiet_step (fail); with_reducible refine wpQuiet_nil ?_))
  with_reducible refine mix_a ?_; simp only [List.drop_succ_cons, List.drop_zero, List.take_succ_cons, List.take_zero]
  go_wp2_with fail
  refine hD.mono ?_
  clear hD
  rintro e w2 ⟨⟨t, x, rfl, he⟩, hb2⟩
  have H2 := Lib.hid (H1d.out.below hb2)
  have HE := Lib.hid he
  clear he hb2 H1 H1d
  try dsimp only
  go_wp2_with fail
  try with_reducible refine wpList_nil ?_
  with_reducible refine mixQ_normal ?_
  refine ⟨fun _ => sat_of (F := CbS cb 1 slot what) H2.out.call, ?_⟩
  with_reducible refine mix_a ?_; simp only [List.drop_succ_cons, List.drop_zero, List.take_succ_cons, List.take_zero]
  go_wp2_with fail
  refine (num07_err (.iface t x) r w2 HE.out H2.out.et).mono ?_
  rintro e w3 ⟨rfl, hb3⟩
  have H3 := Lib.hid (H2.out.below hb3)
  clear hb3 H2 HE
  try dsimp only
  go_wp2_with fail
  try with_reducible refine wpList_nil ?_
  with_reducible refine mixQ_normal ?_
  refine ⟨fun _ => sat_of (F := CbS cb 1 slot what) H3.out.call, ?_⟩
  with_reducible refine mix_a ?_; simp only [List.drop_succ_cons, List.drop_zero, List.take_succ_cons, List.take_zero]
  have hM := refDrop_err slot r HR.out.1 HR.out.2 w3 H3.out.ref
  go_wp2_with fail
  refine hM.mono ?_
  clear hM HR
  rintro e w4 ⟨rfl, rfl⟩
  try dsimp only
  go_wp2_with fail
  try with_reducible refine wpList_nil ?_
  with_reducible refine mixQ_normal ?_
  refine ⟨fun _ => sat_of (F := CbS cb 1 slot what) H3.out.call, ?_⟩
  have hrr : (r == r) = true := by simp
  (repeat (with_reducible refine mix_q ?_; simp only [List.drop_succ_cons, List.drop_zero, List.take_succ_cons, List.take_zero]; go_big_quiet_step (fail); with_reducible refine wpQuiet_nil ?_))
  with_reducible refine mix_nil ?_
  go_wp2_with fail
  go_ret
  obtain ⟨hb, hk⟩ := H3.out.fin
  exact ⟨rfl, _, 0, _, _, by omega, by omega, hb, hk⟩
set_option maxRecDepth 100000 in
set_option maxHeartbeats 4000000 in
theorem both2_err (hkb : k ≤ 9000) (kind slot what r : Int) (hkd : kind = 2) (hr : hasR st n slot = r) (h0 : r ≠ 0) (h : BoS N tb bb mb sb qb n k 0 st blk w) :
    Calls Tryz.prog 29 #[.pointer (some ⟨bb, 0, none⟩), .pointer (some ⟨tb, 0, none⟩), .pointer (some ⟨mb, 0, none⟩), .agg (callC kind slot what)] w (BoP N tb bb mb sb qb n k w) := by
  have HR := Lib.hid (And.intro hr h0)
  have hr0 : (r != 0) = true := by simp [h0]
  clear hr h0
  subst hkd
  have H := Lib.hid h
  have hn64 := h.1.2.1.lt
  have hb0 : ∀ o : Obj, Below w.heap.size w (w.alloc o) := fun o => (Below.refl _ _).alloc (Nat.le_refl _) _
  unfold callC
  clear h
  go_enter Tryz.func29, Tryz.ntmps29
  repeat ((fail_if_success (with_reducible refine stop_at 21 rfl ?_)); (first | go_values | go_skip | go_guarded | go_step | go_upon))
  refine gen_world (fun wx => Hid (BbI w N w.heap.size tb bb mb sb qb n k 0 2 slot what st blk st blk wx)) (Lib.hid (BbI.start H.out (hb0 _) (heap_alloc_new w _))) ?_
  clear hb0 H
  generalize w.heap.size = cb
  intro w1 H1
  obtain ⟨z0, z1, z2⟩ := call_at H1.out
  have hM := dep_move_err (by omega) HR.out.1 HR.out.2 H1.out.dep
  have hH := refHas_any slot w1 H1.out.ref
  rw [HR.out.1] at hH
  go_wp2_with fail
  refine hH.mono ?_
  clear hH HR
  rintro e w2 ⟨rfl, rfl⟩
  try dsimp only
  go_wp2_with fail
  refine hM.mono ?_
  clear hM
  rintro e w2 ⟨⟨t, x, rfl, he⟩, hb2⟩
  have H2 := Lib.hid (H1.out.below hb2)
  have HE := Lib.hid he
  clear he hb2 H1 z0 z1 z2
  have hNU := num07_err (.iface t x) r w2 HE.out H2.out.et
  try dsimp only
  go_wp2_with fail
  refine hNU.mono ?_
  clear hNU
  rintro e w3 ⟨rfl, hb3⟩
  have H3 := Lib.hid (H2.out.below hb3)
  clear hb3 H2 HE hr0
  try dsimp only
  have hrr : (r == r) = true := by simp
  go_wp2_with fail
  go_ret
  obtain ⟨hb, hk⟩ := H3.out.fin
  exact ⟨rfl, _, 0, _, _, by omega, by omega, hb, hk⟩
set_option maxRecDepth 100000 in
set_option maxHeartbeats 4000000 in
theorem both2_room (hkb : k ≤ 9000) (kind slot what : Int) (hkd : kind = 2) (hok : hasR st n slot = 0) (hroom : roomR st (slot.tdiv 4) (n * 4) = true) (h : BoS N tb bb mb sb qb n k 0 st blk w) :
    Calls Tryz.prog 29 #[.pointer (some ⟨bb, 0, none⟩), .pointer (some ⟨tb, 0, none⟩), .pointer (some ⟨mb, 0, none⟩), .agg (callC kind slot what)] w (BoP N tb bb mb sb qb n k w) := by
  have HOK := Lib.hid hok
  obtain ⟨s, rfl, hs, hl⟩ := hasR_zero hok
  have e4 : (s : Int).tdiv 4 = (s : Int) / 4 := Int.tdiv_eq_ediv_of_nonneg (by omega)
  rw [e4] at hroom
  have HRO := Lib.hid hroom
  have HS := Lib.hid (And.intro hs hl)
  have hs0 : (0 : Int) ≤ s := by omega
  have hs1 : (s : Int) < n * 4 := by omega
  clear hs hl hok hroom e4
  subst hkd
  have H := Lib.hid h
  have hn64 := h.1.2.1.lt
  have hb0 : ∀ o : Obj, Below w.heap.size w (w.alloc o) := fun o => (Below.refl _ _).alloc (Nat.le_refl _) _
  unfold callC
  clear h
  go_enter Tryz.func29, Tryz.ntmps29
  repeat ((fail_if_success (with_reducible refine stop_at 21 rfl ?_)); (first | go_values | go_skip | go_guarded | go_step | go_upon))
  refine gen_world (fun wx => Hid (BbI w N w.heap.size tb bb mb sb qb n k 0 2 (s : Int) what st blk st blk wx)) (Lib.hid (BbI.start H.out (hb0 _) (heap_alloc_new w _))) ?_
  clear hb0 H
  generalize w.heap.size = cb
  intro w1 H1
  obtain ⟨z0, z1, z2⟩ := call_at H1.out
  have hH := refHas_any (s : Int) w1 H1.out.ref
  rw [HOK.out] at hH
  have hR := refRoom_any ((s : Int) / 4) w1 H1.out.ref
  rw [HRO.out] at hR
  have hM := dep_move (by omega) (by decide) HS.out.1 HS.out.2 HRO.out H1.out.dep
  clear HRO HOK
  go_wp2_with fail
  refine hH.mono ?_
  clear hH
  rintro e w2 ⟨rfl, rfl⟩
  try dsimp only
  go_wp2_with fail
  refine hR.mono ?_
  clear hR
  rintro e w2 ⟨rfl, rfl⟩
  try dsimp only
  go_wp2_with fail
  refine hM.mono ?_
  clear hM
  rintro e w2 ⟨⟨t, rfl, hm, hd⟩, hk2⟩
  have H2 := Lib.hid (H1.out.deps hk2 hd)
  have HM := Lib.hid hm
  clear hd hk2 hm H1 z0 z1 z2
  obtain ⟨z0, z1, z2⟩ := call_at H2.out
  have hMay := refMay_any t ((s : Int) / 4) HM.out w2 H2.out.ref
  try dsimp only
  go_wp2_with fail
  refine hMay.mono ?_
  clear hMay
  rintro e w3 ⟨rfl, rfl⟩
  have HPB := Lib.hid (H2.out.ref.ok s HS.out.1)
  have hp64 := HPB.out.1
  have hPut := refPut_any t HM.out.1 (blk s) HPB.out w2.drew (H2.out.ref.below (Below.refl _ _).drew)
  have HDR := Lib.hid (fun wx hr => refDrop_any (mb := mb) (sb := sb) (qb := qb) (n := n) (st := stSet st t 1) (blk := pgSet blk t (blk s)) s HS.out.1 (by
    unfold stSet
    rw [if_neg (fun e => HM.out.2.2.1 (by rw [e]; omega))]
    exact HS.out.2) wx hr)
  obtain ⟨y0, y1⟩ := ref_cells H2.out.ref.cells
  have r1 := cell_regrown z1
  have ry := cell_regrown y1
  have HRB := Lib.hid (H2.out.ref.page s HS.out.1)
  have HRP : Hid (∀ w', (∃ p : Regrown, w' = Go.Sort.grow (redrawn w2 p.d) p.os) → w'.rangeAt qb (s * 64) (v8 (blk s))) := Lib.hid (fun w' hw' => (H2.out.ref.below (below_of_regrown hw')).page s HS.out.1)
  generalize blk s = pg at hPut HDR HRP hp64 HPB H2 HRB
  clear y0 y1 z0 z1 z2
  try dsimp only
  go_wp2_with fail
  refine wp_region_qlast 10 (fun w' => ∃ p : Regrown, w' = Go.Sort.grow (redrawn w2 p.d) p.os) (by kernel_rfl) (by kernel_rfl) (fun _ _ d _ _ h => by cases d <;> exact h) (grows_drew _) ?_
  simp only [List.take_succ_cons, List.take_zero]
  repeat (first | go_big_quiet_step (fail) | (go_big_quiet_want; refine quiet_load_mid 32 (.tmp 128) rfl qb (s * 64) rfl (v8 pg) _ HRP.out Tryz.underlying32 rfl (info_at' hp64) ?_; simp only [Act.put, List.setIfInBounds_toArray, List.set_cons_zero, List.set_cons_succ]; go_big_quiet_on))
  with_reducible refine wpQuiet_nil ?_
  with_reducible refine mix_a ?_
  simp only [List.drop_succ_cons, List.drop_zero, List.take_succ_cons, List.take_zero]
  go_wp2_with fail
  refine hPut.mono ?_
  clear hPut
  rintro e w3 ⟨rfl, hr, hk3⟩
  have H3 := Lib.hid ((H2.out.below (Below.refl _ _).drew).refs hk3 hr)
  clear hr hk3 H2 HRP HRB
  try dsimp only
  go_wp2_with fail
  try with_reducible refine wpList_nil ?_
  refine mixQ_normal ⟨fun h => absurd h (by simp), mix_nil ?_⟩
  have hDr := HDR.out w3 H3.out.ref
  obtain ⟨z0, z1, z2⟩ := call_at H3.out
  clear HDR
  go_wp2_with fail
  refine hDr.mono ?_
  clear hDr
  rintro e w4 ⟨rfl, hr, hk4⟩
  have H4 := Lib.hid (H3.out.refs hk4 hr)
  clear hr hk4 H3 z0 z1 z2
  try dsimp only
  go_wp2_with fail
  go_ret
  obtain ⟨hb, hk⟩ := H4.out.fin
  exact ⟨rfl, _, 3, _, _, by omega, by omega, hb, hk⟩
set_option maxRecDepth 100000 in
set_option maxHeartbeats 4000000 in
theorem both2_full (hkb : k ≤ 9000) (kind slot what : Int) (hkd : kind = 2) (hok : hasR st n slot = 0) (hroom : roomR st (slot.tdiv 4) (n * 4) = false) (h : BoS N tb bb mb sb qb n k 0 st blk w) :
    Calls Tryz.prog 29 #[.pointer (some ⟨bb, 0, none⟩), .pointer (some ⟨tb, 0, none⟩), .pointer (some ⟨mb, 0, none⟩), .agg (callC kind slot what)] w (BoP N tb bb mb sb qb n k w) := by
  have HOK := Lib.hid hok
  obtain ⟨s, rfl, hs, hl⟩ := hasR_zero hok
  have e4 : (s : Int).tdiv 4 = (s : Int) / 4 := Int.tdiv_eq_ediv_of_nonneg (by omega)
  rw [e4] at hroom
  have HRO := Lib.hid hroom
  have HS := Lib.hid (And.intro hs hl)
  have hs0 : (0 : Int) ≤ s := by omega
  have hs1 : (s : Int) < n * 4 := by omega
  clear hs hl hok hroom e4
  subst hkd
  have H := Lib.hid h
  have hn64 := h.1.2.1.lt
  have hb0 : ∀ o : Obj, Below w.heap.size w (w.alloc o) := fun o => (Below.refl _ _).alloc (Nat.le_refl _) _
  unfold callC
  clear h
  go_enter Tryz.func29, Tryz.ntmps29
  repeat ((fail_if_success (with_reducible refine stop_at 21 rfl ?_)); (first | go_values | go_skip | go_guarded | go_step | go_upon))
  refine gen_world (fun wx => Hid (BbI w N w.heap.size tb bb mb sb qb n k 0 2 (s : Int) what st blk st blk wx)) (Lib.hid (BbI.start H.out (hb0 _) (heap_alloc_new w _))) ?_
  clear hb0 H
  generalize w.heap.size = cb
  intro w1 H1
  obtain ⟨z0, z1, z2⟩ := call_at H1.out
  have hH := refHas_any (s : Int) w1 H1.out.ref
  rw [HOK.out] at hH
  have hR := refRoom_any ((s : Int) / 4) w1 H1.out.ref
  rw [HRO.out] at hR
  have hM := dep_move_full (by omega) HS.out.1 HS.out.2 HRO.out H1.out.dep
  clear HRO HOK HS
  go_wp2_with fail
  refine hH.mono ?_
  clear hH
  rintro e w2 ⟨rfl, rfl⟩
  try dsimp only
  go_wp2_with fail
  refine hR.mono ?_
  clear hR
  rintro e w2 ⟨rfl, rfl⟩
  try dsimp only
  go_wp2_with fail
  refine hM.mono ?_
  clear hM
  rintro e w2 ⟨⟨t, x, rfl, hev⟩, hb2⟩
  have H2 := Lib.hid (H1.out.below hb2)
  have HE := Lib.hid hev
  clear hev hb2 H1 z0 z1 z2
  have hU := dep_undo (by omega) H2.out.dep.wide
  try dsimp only
  go_wp2_with fail
  refine hU.mono ?_
  clear hU
  rintro e w3 ⟨rfl, hd, hk3⟩
  have H3 := Lib.hid (H2.out.deps (hk3.mono (fun i _ hi => .inl hi)) hd.thin)
  have HE3 := Lib.hid (HE.out.stays (hk3.mono (fun i _ hi => .inr hi)))
  clear hd hk3 H2 HE
  have hNU := num07_err (.iface t x) 20 w3 HE3.out H3.out.et
  try dsimp only
  go_wp2_with fail
  refine hNU.mono ?_
  clear hNU
  rintro e w4 ⟨rfl, hb4⟩
  have H4 := Lib.hid (H3.out.below hb4)
  clear hb4 H3 HE3
  try dsimp only
  go_wp2_with fail
  go_ret
  obtain ⟨hb, hk⟩ := H4.out.fin
  exact ⟨rfl, _, 0, _, _, by omega, by omega, hb, hk⟩
/-- What a Get of both comes to. -/
def BoG (N : Nat → Prop) (tb bb mb sb qb n k : Nat) (st : Nat → Int) (blk : Nat → List Int) (w : World) (e : Ending) (w' : World) : Prop :=
  e = .returned (.bool true) ∧ BoS N tb bb mb sb qb n k 0 st blk w' ∧ Keeps (NKp N sb qb) w w'
set_option maxRecDepth 100000 in
set_option maxHeartbeats 4000000 in
theorem both3_ok (hkb : k ≤ 9000) (kind slot what : Int) (hkd : kind = 3) (hok : hasR st n slot = 0) (h : BoS N tb bb mb sb qb n k 0 st blk w) :
    Calls Tryz.prog 29 #[.pointer (some ⟨bb, 0, none⟩), .pointer (some ⟨tb, 0, none⟩), .pointer (some ⟨mb, 0, none⟩), .agg (callC kind slot what)] w (BoG N tb bb mb sb qb n k st blk w) := by
  have HOK := Lib.hid hok
  obtain ⟨s, rfl, hs, hl⟩ := hasR_zero hok
  have HS := Lib.hid (And.intro hs hl)
  have hs0 : (0 : Int) ≤ s := by omega
  have hs1 : (s : Int) < n * 4 := by omega
  clear hs hl hok
  subst hkd
  have H := Lib.hid h
  have hn64 := h.1.2.1.lt
  have hb0 : ∀ o : Obj, Below w.heap.size w (w.alloc o) := fun o => (Below.refl _ _).alloc (Nat.le_refl _) _
  unfold callC
  clear h
  go_enter Tryz.func29, Tryz.ntmps29
  repeat ((fail_if_success (with_reducible refine stop_at 21 rfl ?_)); (first | go_values | go_skip | go_guarded | go_step | go_upon))
  refine gen_world (fun wx => Hid (BbI w N w.heap.size tb bb mb sb qb n k 0 3 (s : Int) what st blk st blk wx)) (Lib.hid (BbI.start H.out (hb0 _) (heap_alloc_new w _))) ?_
  clear hb0 H
  generalize w.heap.size = cb
  intro w1 H1
  obtain ⟨z0, z1, z2⟩ := call_at H1.out
  have hG := dep_get (by omega) HS.out.1 HS.out.2 H1.out.dep
  have HPB := Lib.hid (H1.out.ref.ok s HS.out.1)
  have hp64 := HPB.out.1
  have HBS : Hid (∃ pg, pg = blk s) := Lib.hid ⟨_, rfl⟩
  obtain ⟨pg, hpg⟩ := HBS.out
  rw [← hpg] at hG hp64
  have HPG := Lib.hid hpg
  clear hpg HPB HBS
  go_wp2_with fail
  refine hG.mono ?_
  clear hG
  rintro e w2 ⟨rfl, hb2⟩
  have H2 := Lib.hid (H1.out.below hb2)
  clear hb2 H1 z0 z1 z2
  try dsimp only
  repeat ((fail_if_success (with_reducible refine stop_at 145 rfl ?_)); (first | (refine page_store rfl (.tmp 18) (.tmp 143) rfl w2.heap.size pg (zer 64) rfl rfl (heap_alloc_new w2 _) hp64 rfl ?_) | go_values | go_skip | go_guarded | go_step | go_upon))
  have hbx : ∀ o : Obj, Below w2.heap.size w2 ((w2.alloc o).setRow w2.heap.size (v8a pg)) := fun o => below_setRow ((Below.refl _ _).alloc (Nat.le_refl _) _) (Nat.le_refl _) _
  refine gen_world (fun wx => Hid (wx.heap[w2.heap.size]? = some (.cells (v8a pg) 32) ∧ BbI w N cb tb bb mb sb qb n k 0 3 (s : Int) what st blk st blk wx)) (Lib.hid ⟨setRow_heap _ _ _ _ _ (0, 0) (heap_alloc_new w2 _), H2.out.below (hbx _)⟩) ?_
  clear hbx H2
  generalize w2.heap.size = b18
  intro w3 H3
  obtain ⟨z0, z1, z2⟩ := call_at H3.out.2
  have hH := refHas_any (s : Int) w3 H3.out.2.ref
  rw [HOK.out] at hH
  clear HOK
  go_wp2_with fail
  refine hH.mono ?_
  clear hH
  rintro e w4 ⟨rfl, rfl⟩
  try dsimp only
  obtain ⟨y0, y1⟩ := ref_cells H3.out.2.ref.cells
  have r1 := cell_regrown z1
  have ry := cell_regrown y1
  have HB := Lib.hid (blk_regrown H3.out.1)
  have HRP : Hid (∀ w', (∃ p : Regrown, w' = Go.Sort.grow (redrawn w3 p.d) p.os) → w'.rangeAt qb (s * 64) (v8 pg)) := Lib.hid (fun w' hw' => by rw [HPG.out]; exact (H3.out.2.ref.below (below_of_regrown hw')).page s HS.out.1)
  clear y0 y1 z0 z1 z2
  go_wp2_with fail
  refine wp_region_mix [(0, true), (2, true), (1, false), (3, true), (4, true), (5, true), (6, true), (7, true), (8, true), (9, true), (10, true), (11, true), (12, true), (13, true), (14, true), (15, true), (16, true), (17, true), (18, true), (19, true), (20, true)] 20 (fun w' => ∃ p : Regrown, w' = Go.Sort.grow (redrawn w3 p.d) p.os) (by kernel_rfl) (by kernel_rfl) (fun _ _ d _ _ h => by cases d <;> exact h) (grows_drew _) ?_
  (repeat (with_reducible refine mix_q ?_; simp only [List.drop_succ_cons, List.drop_zero, List.take_succ_cons, List.take_zero]; go_big_quiet_step (fail); with_reducible refine wpQuiet_nil ?_))
  with_reducible refine mix_a ?_; simp only [List.drop_succ_cons, List.drop_zero, List.take_succ_cons, List.take_zero]
  go_wp2_with fail
  refine (num07_nil w3.drew).mono ?_
  rintro e w4 ⟨rfl, rfl⟩
  try dsimp only
  go_wp2_with fail
  try with_reducible refine wpList_nil ?_
  with_reducible refine mixQ_normal ?_
  refine ⟨fun _ => grows_of_below (Below.refl _ _).drew, ?_⟩
  have hdd : decide (pg = pg) = true := by simp
  repeat (with_reducible refine mix_q ?_; simp only [List.drop_succ_cons, List.drop_zero, List.take_succ_cons, List.take_zero]; first | (go_big_quiet_step (fail); with_reducible refine wpQuiet_nil ?_) | (go_big_quiet_want; refine quiet_page (.tmp 18) rfl b18 pg rfl HB.out hp64 ?_; simp only [Act.put, List.setIfInBounds_toArray, List.set_cons_zero, List.set_cons_succ]; go_big_quiet_on; with_reducible refine wpQuiet_nil ?_) | (go_big_quiet_want; refine quiet_load_mid 32 (.tmp 164) rfl qb (s * 64) rfl (v8 pg) _ HRP.out Tryz.underlying32 rfl (info_at' hp64) ?_; simp only [Act.put, List.setIfInBounds_toArray, List.set_cons_zero, List.set_cons_succ]; go_big_quiet_on; with_reducible refine wpQuiet_nil ?_) | (go_big_quiet_want; refine quiet_eql_to 32 _ (.tmp 157) (.tmp 165) rfl (v8a pg) (v8a pg) true rfl rfl guard_pg (fun w => by rw [pg_eql w pg pg hp64 hp64]; simp) ?_; simp only [Act.put, List.setIfInBounds_toArray, List.set_cons_zero, List.set_cons_succ]; go_big_quiet_on; with_reducible refine wpQuiet_nil ?_))
  with_reducible refine mix_nil ?_
  have H4 := Lib.hid (H3.out.2.below (Below.refl _ _).drew)
  clear H3 HB HRP HPG HS r1 ry
  go_wp2_with fail
  go_ret
  obtain ⟨hb, hk⟩ := H4.out.fin
  exact ⟨rfl, hb, hk⟩
set_option maxRecDepth 100000 in
set_option maxHeartbeats 4000000 in
theorem both3_err (hkb : k ≤ 9000) (kind slot what r : Int) (hkd : kind = 3) (hr : hasR st n slot = r) (h0 : r ≠ 0) (h : BoS N tb bb mb sb qb n k 0 st blk w) :
    Calls Tryz.prog 29 #[.pointer (some ⟨bb, 0, none⟩), .pointer (some ⟨tb, 0, none⟩), .pointer (some ⟨mb, 0, none⟩), .agg (callC kind slot what)] w (BoG N tb bb mb sb qb n k st blk w) := by
  have HR := Lib.hid (And.intro hr h0)
  have hr0 : (r != 0) = true := by simp [h0]
  clear hr h0
  subst hkd
  have H := Lib.hid h
  have hn64 := h.1.2.1.lt
  have hb0 : ∀ o : Obj, Below w.heap.size w (w.alloc o) := fun o => (Below.refl _ _).alloc (Nat.le_refl _) _
  unfold callC
  clear h
  go_enter Tryz.func29, Tryz.ntmps29
  repeat ((fail_if_success (with_reducible refine stop_at 21 rfl ?_)); (first | go_values | go_skip | go_guarded | go_step | go_upon))
  refine gen_world (fun wx => Hid (BbI w N w.heap.size tb bb mb sb qb n k 0 3 slot what st blk st blk wx)) (Lib.hid (BbI.start H.out (hb0 _) (heap_alloc_new w _))) ?_
  clear hb0 H
  generalize w.heap.size = cb
  intro w1 H1
  obtain ⟨z0, z1, z2⟩ := call_at H1.out
  have hG := dep_get_err (by omega) HR.out.1 HR.out.2 H1.out.dep
  go_wp2_with fail
  refine hG.mono ?_
  clear hG
  rintro e w2 ⟨⟨t, x, rfl, he⟩, hb2⟩
  have H2 := Lib.hid (H1.out.below hb2)
  have HE := Lib.hid he
  clear he hb2 H1 z0 z1 z2
  try dsimp only
  repeat ((fail_if_success (with_reducible refine stop_at 145 rfl ?_)); (first | (refine page_store rfl (.tmp 18) (.tmp 143) rfl w2.heap.size (zer 64) (zer 64) rfl rfl (heap_alloc_new w2 _) rfl rfl ?_) | go_values | go_skip | go_guarded | go_step | go_upon))
  have hbx : ∀ o : Obj, Below w2.heap.size w2 ((w2.alloc o).setRow w2.heap.size (v8a (zer 64))) := fun o => below_setRow ((Below.refl _ _).alloc (Nat.le_refl _) _) (Nat.le_refl _) _
  refine gen_world (fun wx => Hid (ErrV wx (.iface t x) r ∧ BbI w N cb tb bb mb sb qb n k 0 3 slot what st blk st blk wx)) (Lib.hid ⟨HE.out.below (hbx _), H2.out.below (hbx _)⟩) ?_
  clear hbx H2 HE
  generalize w2.heap.size = b18
  intro w3 H3
  obtain ⟨z0, z1, z2⟩ := call_at H3.out.2
  have hH := refHas_any slot w3 H3.out.2.ref
  rw [HR.out.1] at hH
  clear HR
  go_wp2_with fail
  refine hH.mono ?_
  clear hH
  rintro e w4 ⟨rfl, rfl⟩
  try dsimp only
  clear z0 z1 z2
  have hrr : (r == r) = true := by simp
  have H3d := Lib.hid (H3.out.2.below (Below.refl _ _).drew)
  have hNU := num07_err (.iface t x) r w3.drew (H3.out.1.below (Below.refl _ _).drew) H3d.out.et
  go_wp2_with fail
  refine wp_region_mix [(0, true), (2, true), (1, false), (3, true), (4, true), (5, true), (6, true), (7, true), (8, true), (9, true), (10, true), (11, true), (12, true), (13, true), (14, true), (15, true), (16, true), (17, true), (18, true), (19, true), (20, true)] 20 (fun w' => ∃ p : Regrown, w' = Go.Sort.grow (redrawn w3 p.d) p.os) (by kernel_rfl) (by kernel_rfl) (fun _ _ d _ _ h => by cases d <;> exact h) (grows_drew _) ?_
  (repeat (with_reducible refine mix_q ?_; simp only [List.drop_succ_cons, List.drop_zero, List.take_succ_cons, List.take_zero]; go_big_quiet_step (fail); with_reducible refine wpQuiet_nil ?_))
  with_reducible refine mix_a ?_; simp only [List.drop_succ_cons, List.drop_zero, List.take_succ_cons, List.take_zero]
  go_wp2_with fail
  refine hNU.mono ?_
  clear hNU
  rintro e w4 ⟨rfl, hb4⟩
  have H4 := Lib.hid (H3d.out.below hb4)
  have HX4 := Lib.hid ((Below.refl _ _).drew.trans hb4)
  clear hb4 H3 H3d
  try dsimp only
  go_wp2_with fail
  try with_reducible refine wpList_nil ?_
  with_reducible refine mixQ_normal ?_
  refine ⟨fun _ => grows_of_below HX4.out, ?_⟩
  (repeat (with_reducible refine mix_q ?_; simp only [List.drop_succ_cons, List.drop_zero, List.take_succ_cons, List.take_zero]; go_big_quiet_step (fail); with_reducible refine wpQuiet_nil ?_))
  with_reducible refine mix_nil ?_
  clear HX4
  go_wp2_with fail
  go_ret
  obtain ⟨hb, hk⟩ := H4.out.fin
  exact ⟨rfl, hb, hk⟩
theorem both3_any (hkb : k ≤ 9000) (slot what : Int) (h : BoS N tb bb mb sb qb n k 0 st blk w) :
    Calls Tryz.prog 29 #[.pointer (some ⟨bb, 0, none⟩), .pointer (some ⟨tb, 0, none⟩), .pointer (some ⟨mb, 0, none⟩), .agg (callC 3 slot what)] w (BoG N tb bb mb sb qb n k st blk w) := by
  by_cases h0 : hasR st n slot = 0
  · exact both3_ok hkb 3 slot what rfl h0 h
  · exact both3_err hkb 3 slot what _ rfl rfl h0 h
set_option maxRecDepth 100000 in
set_option maxHeartbeats 4000000 in
theorem both4 (hkb : k ≤ 9000) (kind slot what : Int) (hk0 : ¬ kind = 0) (hk1 : ¬ kind = 1) (hk2 : ¬ kind = 2) (hk3 : ¬ kind = 3) (h : BoS N tb bb mb sb qb n k 0 st blk w) :
    Calls Tryz.prog 29 #[.pointer (some ⟨bb, 0, none⟩), .pointer (some ⟨tb, 0, none⟩), .pointer (some ⟨mb, 0, none⟩), .agg (callC kind slot what)] w (BoP N tb bb mb sb qb n k w) := by
  have H := Lib.hid h
  have hn64 := h.1.2.1.lt
  have hb0 : ∀ o : Obj, Below w.heap.size w (w.alloc o) := fun o => (Below.refl _ _).alloc (Nat.le_refl _) _
  unfold callC
  clear h
  go_enter Tryz.func29, Tryz.ntmps29
  repeat ((fail_if_success (with_reducible refine stop_at 21 rfl ?_)); (first | go_values | go_skip | go_guarded | go_step | go_upon))
  refine gen_world (fun wx => Hid (BbI w N w.heap.size tb bb mb sb qb n k 0 kind slot what st blk st blk wx)) (Lib.hid (BbI.start H.out (hb0 _) (heap_alloc_new w _))) ?_
  clear hb0 H
  generalize w.heap.size = cb
  intro w1 H1
  obtain ⟨z0, z1, z2⟩ := call_at H1.out
  have hC := dep_commit (by omega) hkb (by decide) H1.out.dep
  go_wp2_with fail
  refine hC.mono ?_
  clear hC
  rintro e w2 ⟨rfl, hd, hkp⟩
  have H2 := Lib.hid (H1.out.deps hkp hd)
  clear hd hkp H1 z0 z1 z2
  try dsimp only
  go_wp2_with fail
  go_ret
  obtain ⟨hb, hk⟩ := H2.out.fin
  exact ⟨rfl, _, 0, _, _, by omega, by omega, hb, hk⟩
theorem both_any (hkb : k ≤ 9000) (hw : 0 ≤ what ∧ what < 256) (kind slot : Int) (h : BoS N tb bb mb sb qb n k 0 st blk w) :
    Calls Tryz.prog 29 #[.pointer (some ⟨bb, 0, none⟩), .pointer (some ⟨tb, 0, none⟩), .pointer (some ⟨mb, 0, none⟩), .agg (callC kind slot what)] w (BoP N tb bb mb sb qb n k w) := by
  by_cases k0 : kind = 0
  · cases hr : roomR st (-1) (n * 4) with
    | true => exact both0_room hkb hw kind slot k0 hr h
    | false => exact both0_full hkb hw kind slot k0 hr h
  by_cases k1 : kind = 1
  · by_cases h0 : hasR st n slot = 0
    · exact both1_ok hkb kind slot what k1 h0 h
    · exact both1_err hkb kind slot what _ k1 rfl h0 h
  by_cases k2 : kind = 2
  · by_cases h0 : hasR st n slot = 0
    · cases hr : roomR st (slot.tdiv 4) (n * 4) with
      | true => exact both2_room hkb kind slot what k2 h0 hr h
      | false => exact both2_full hkb kind slot what k2 h0 hr h
    · exact both2_err hkb kind slot what _ k2 rfl h0 h
  by_cases k3 : kind = 3
  · subst k3
    refine (both3_any hkb slot what h).mono ?_
    rintro e w' ⟨rfl, hS, hk⟩
    exact ⟨rfl, k, 0, st, blk, by omega, by omega, hS, hk⟩
  exact both4 hkb kind slot what k0 k1 k2 k3 h
end
end Go.Proofs.YtjikpodghmfjcaaGreatDoor
set_option linter.unnecessarySimpa false
namespace Go.Proofs.YtjikpodghmfjcaaGreatDoor
open Go.RowKit Go.Maps
theorem info_call7 : (Tryz.prog.info? 63).map (·.size) = some 3 := by kernel_rfl
/-- Calls in memory: K i, S i, W i. -/
def Calls7At (w : World) (a : Option Addr) (len : Nat) (K S W : Nat → Int) : Prop := ∀ i, i < len → ∃ b off, a = some ⟨b, off, none⟩ ∧ b < w.heap.size ∧ w.rangeAt b (off + i * 3) [.int .i64 (K i), .int .i64 (S i), .int .u8 (W i)]
theorem Calls7At.keeps {w w' : World} {a : Option Addr} {len : Nat} {K S W : Nat → Int} (h : Calls7At w a len K S W) (hk : Keeps (fun k => k < w.heap.size) w w') : Calls7At w' a len K S W := fun i hi => by
  obtain ⟨b, off, ha, hb, hc⟩ := h i hi
  refine ⟨b, off, ha, Nat.lt_of_lt_of_le hb hk.size, fun j v hv => ?_⟩
  have := hc j v hv
  unfold World.cell? at this ⊢
  rw [hk.block b hb hb]
  exact this
theorem call7_load {ops : Array Oper} {rest : List Oper} {o : Oper} {a : Act} {w : World} {Q : Exit → Act → World → Prop} (hgd : o.guard = none) (y : Operand) (ho : o.op = .load 63 y) (g off : Nat) (l b x : Int) (hx : a.eval y = .pointer (some ⟨g, off, none⟩)) (hg : w.rangeAt g off [.int .i64 l, .int .i64 b, .int .u8 x])
    (h : wpList Tryz.prog ops Q rest (a.put o.dst (.agg #[.int .i64 l, .int .i64 b, .int .u8 x])) w) : wpList Tryz.prog ops Q (o :: rest) a w :=
  wpList_load_mid hgd 63 y ho g off hx [.int .i64 l, .int .i64 b, .int .u8 x] _ hg Tryz.underlying63 rfl info_call7 h
theorem call7_store {ops : Array Oper} {rest : List Oper} {o : Oper} {a : Act} {w : World} {Q : Exit → Act → World → Prop} (hgd : o.guard = none) (y z : Operand) (ho : o.op = .store 63 y z) (g : Nat) (l b x c0 c1 c2 : Int) (hx : a.eval y = .pointer (some ⟨g, 0, none⟩)) (hy : a.eval z = .agg #[.int .i64 l, .int .i64 b, .int .u8 x])
    (hg : w.heap[g]? = some (.cells #[.int .i64 c0, .int .i64 c1, .int .u8 c2] 63)) (h : wpList Tryz.prog ops Q rest (a.put o.dst undef) (w.setRow g #[.int .i64 l, .int .i64 b, .int .u8 x])) : wpList Tryz.prog ops Q (o :: rest) a w :=
  wpList_store_row hgd _ y z ho g #[.int .i64 l, .int .i64 b, .int .u8 x] hx hy _ #[.int .i64 c0, .int .i64 c1, .int .u8 c2] hg info_call7 rfl (by simp [Value.oneCell']) h
theorem call7_range {w : World} {b T : Nat} {x y z : Value} (h : w.heap[b]? = some (.cells #[x, y, z] T)) : w.rangeAt b 0 [x, y, z] := fun j v hv => by
  rw [cell_of_row w b (0 + j) _ T (0, 0) h]
  simpa using hv
theorem built_call7 (x : Int) : Tryz.prog.built 63 [(0, .int .i64 3), (1, .int .i64 x)] = some #[.int .i64 3, .int .i64 x, .int .u8 0] := by kernel_rfl
end Go.Proofs.YtjikpodghmfjcaaGreatDoor
