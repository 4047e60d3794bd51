/- A depot: plain. The states of slots behind a put, and behind a drop; which slot is taken. (The first ones of these lemmas stand in the text of DepotMoves, too: no text imports both.) -/
import Derived.Test.YtjikpodghmfjcaaGreatDoorKM20
import Derived.Test.YtjikpodghmfjcaaGreatDoorKQ8
import Derived.Test.YtjikpodghmfjcaaGreatDoorKN1
set_option linter.unusedSimpArgs false
set_option linter.unusedVariables false
set_option linter.unnecessarySimpa false
namespace Go.Proofs.YtjikpodghmfjcaaGreatDoor
open Go.RowKit Go.Maps
theorem tmod_rng (n m : Int) (hm : 0 < m) : -m < n.tmod m ∧ n.tmod m < m := by
  rcases Int.le_total 0 n with h | h
  · rw [Int.tmod_eq_emod_of_nonneg h]
    have h1 := Int.emod_nonneg n (show m ≠ 0 by omega)
    have h2 := Int.emod_lt_of_pos n hm
    omega
  · have e : n.tmod m = -((-n).tmod m) := by rw [Int.neg_tmod]; simp
    rw [e, Int.tmod_eq_emod_of_nonneg (show 0 ≤ -n by omega)]
    have h1 := Int.emod_nonneg (-n) (show m ≠ 0 by omega)
    have h2 := Int.emod_lt_of_pos (-n) hm
    omega
/-- The state of a slot; its page. -/
def stD (B : BookS) (s : Nat) : Int := (B.view (3 + s / 4 * 5)).getD (s % 4) 0
def pgS (s : Nat) : Nat := 3 + s / 4 * 5 + 1 + s % 4
theorem four {g : List Int} (h : g.length = 64) : ∃ a b c d t, g = a :: b :: c :: d :: t ∧ t.length = 60 := by
  match g, h with
  | a :: b :: c :: d :: t, h => exact ⟨a, b, c, d, t, rfl, by simpa using h⟩
theorem dead_iff {g : List Int} (h : g.length = 64) : deadF g = true ↔ ∀ j, j < 4 → g.getD j 0 ≠ 1 := by
  obtain ⟨a, b, c, d, t, rfl, _⟩ := four h
  simp only [deadF, List.take_succ_cons, List.take_zero, List.all_cons, List.all_nil, Bool.and_true, Bool.and_eq_true, decide_eq_true_eq]
  constructor
  · rintro ⟨h0, h1, h2, h3⟩ j hj
    rcases (show j = 0 ∨ j = 1 ∨ j = 2 ∨ j = 3 by omega) with rfl | rfl | rfl | rfl <;> simpa
  · intro h
    exact ⟨by simpa using h 0 (by omega), by simpa using h 1 (by omega), by simpa using h 2 (by omega), by simpa using h 3 (by omega)⟩
theorem set_at (h : List Int) (j : Nat) (s : Int) (i : Nat) (hj : j < h.length) : (h.set j s).getD i 0 = if i = j then s else h.getD i 0 := by
  by_cases e : i = j
  · subst e
    simp [List.getD, List.getElem?_set_self hj]
  · rw [if_neg e]
    simp [List.getD, List.getElem?_set_ne (fun e' => e e'.symm)]
theorem setDF_length {h : List Int} (hl : h.length = 64) (j : Nat) (s : Int) : (setDF h j s).length = 64 := by
  unfold setDF
  split <;> simp [hl]
/-- A slot is taken. -/
theorem setDF_one {h : List Int} (hl : h.length = 64) (j : Nat) (hj : j < 4) (i : Nat) : (setDF h j 1).getD i 0 = if i = j then 1 else h.getD i 0 := by
  have hd : ¬ deadF (h.set j 1) = true := fun hd => by
    have := (dead_iff (by simp [hl])).1 hd j hj
    rw [set_at _ _ _ _ (by omega), if_pos rfl] at this
    exact this rfl
  unfold setDF
  rw [if_neg hd, set_at _ _ _ _ (by omega)]
/-- A block is dropped. -/
theorem setDF_two {h : List Int} (hl : h.length = 64) (j : Nat) (hj : j < 4) (hst : ∀ i, i < 4 → h.getD i 0 = 0 ∨ h.getD i 0 = 1 ∨ h.getD i 0 = 2) (i : Nat) (hi : i < 4) :
    ((setDF h j 2).getD i 0 = 0 ∨ (setDF h j 2).getD i 0 = 1 ∨ (setDF h j 2).getD i 0 = 2) ∧ ((setDF h j 2).getD i 0 = 1 ↔ i ≠ j ∧ h.getD i 0 = 1) := by
  have hs : ∀ i, (h.set j 2).getD i 0 = if i = j then 2 else h.getD i 0 := fun i => set_at _ _ _ _ (by omega)
  unfold setDF
  by_cases hd : deadF (h.set j 2) = true
  · rw [if_pos hd]
    have h0 : (List.replicate 4 (0 : Int) ++ (h.set j 2).drop 4).getD i 0 = 0 := by
      rcases (show i = 0 ∨ i = 1 ∨ i = 2 ∨ i = 3 by omega) with rfl | rfl | rfl | rfl <;> rfl
    rw [h0]
    refine ⟨.inl rfl, ⟨fun h => by omega, fun ⟨h1, h2⟩ => ?_⟩⟩
    have := (dead_iff (by simp [hl])).1 hd i hi
    rw [hs, if_neg h1] at this
    exact absurd h2 this
  · rw [if_neg hd, hs]
    by_cases e : i = j
    · rw [if_pos e]; exact ⟨by omega, ⟨fun h => by omega, fun h => absurd e h.1⟩⟩
    · rw [if_neg e]; exact ⟨hst i hi, ⟨fun h => ⟨e, h⟩, fun h => h.2⟩⟩
theorem pgS_inj {s t : Nat} (h : pgS s = pgS t) : s = t := by unfold pgS at h; omega
/-- Behind a put. -/
noncomputable def putB (B : BookS) (k : Nat) (p : List Int) : BookS := (B.wrote (3 + k / 4 * 5) (setDF (B.view (3 + k / 4 * 5)) (k % 4) 1)).wrote (3 + k / 4 * 5 + 1 + k % 4) p
noncomputable def dropB (B : BookS) (k : Nat) : BookS := B.wrote (3 + k / 4 * 5) (setDF (B.view (3 + k / 4 * 5)) (k % 4) 2)
theorem putB_head (B : BookS) (k : Nat) (p : List Int) (b : Nat) : (putB B k p).view (3 + b * 5) = if b = k / 4 then setDF (B.view (3 + k / 4 * 5)) (k % 4) 1 else B.view (3 + b * 5) := by
  unfold putB
  rw [BookS.wrote_view, if_neg (by omega), BookS.wrote_view]
  by_cases h : b = k / 4
  · rw [if_pos (by omega), if_pos h]
  · rw [if_neg (by omega), if_neg h]
theorem putB_page (B : BookS) (k : Nat) (p : List Int) (s : Nat) : (putB B k p).view (pgS s) = if s = k then p else B.view (pgS s) := by
  unfold putB
  rw [BookS.wrote_view]
  by_cases h : s = k
  · rw [if_pos (show pgS s = 3 + k / 4 * 5 + 1 + k % 4 by rw [h]; rfl), if_pos h]
  · rw [if_neg (show ¬ pgS s = 3 + k / 4 * 5 + 1 + k % 4 from fun e => h (pgS_inj e)), if_neg h, BookS.wrote_view, if_neg (by unfold pgS; omega)]
theorem putB_st {B : BookS} {k : Nat} (hl : (B.view (3 + k / 4 * 5)).length = 64) (p : List Int) (s : Nat) : stD (putB B k p) s = if s = k then 1 else stD B s := by
  unfold stD
  rw [putB_head]
  by_cases h : s / 4 = k / 4
  · rw [if_pos h, setDF_one hl _ (by omega), h]
    by_cases e : s = k
    · rw [if_pos (by omega), if_pos e]
    · rw [if_neg (by omega), if_neg e]
  · rw [if_neg h, if_neg (fun e => h (by rw [e]))]
theorem putB_n (B : BookS) (k : Nat) (p : List Int) : (putB B k p).n = B.n := by unfold putB; rw [BookS.wrote_n, BookS.wrote_n]
theorem dropB_n (B : BookS) (k : Nat) : (dropB B k).n = B.n := by unfold dropB; rw [BookS.wrote_n]
theorem dropB_head (B : BookS) (k : Nat) (b : Nat) : (dropB B k).view (3 + b * 5) = if b = k / 4 then setDF (B.view (3 + k / 4 * 5)) (k % 4) 2 else B.view (3 + b * 5) := by
  unfold dropB
  rw [BookS.wrote_view]
  by_cases h : b = k / 4
  · rw [if_pos (by omega), if_pos h]
  · rw [if_neg (by omega), if_neg h]
theorem dropB_page (B : BookS) (k : Nat) (s : Nat) : (dropB B k).view (pgS s) = B.view (pgS s) := by
  unfold dropB
  rw [BookS.wrote_view, if_neg (by unfold pgS; omega)]
theorem frR_spec (h : List Int) : ∀ (r t : Nat), frR h r = some t → t < 4 ∧ h.getD t 0 = 0
  | 0, t, e => by cases e
  | r + 1, t, e => by
    unfold frR at e
    split at e
    · rename_i h0
      simp only [Option.some.injEq] at e
      subst e
      exact ⟨by omega, h0⟩
    · exact frR_spec h r t e
/-- The slot that is taken is free, and in another container. -/
theorem best_spec (B : BookS) (but : Int) : ∀ (n k : Nat), (bestF B 3 but n).1 = (k : Int) → k < n * 4 ∧ stD B k = 0 ∧ ((k / 4 : Nat) : Int) ≠ but
  | 0, k, e => by
    exfalso
    have : (-1 : Int) = k := e
    omega
  | b + 1, k, e => by
    unfold bestF at e
    split at e
    · rename_i hc
      obtain ⟨h1, h2, _⟩ := hc
      cases hf : frR (B.view (3 + b * 5)) 4 with
      | none => rw [hf] at h2; exact absurd (show (0 : Int) ≤ -1 from h2) (by decide)
      | some t =>
        rw [hf] at e
        have e' : ((b * 4 + t : Nat) : Int) = k := e
        obtain ⟨t4, t0⟩ := frR_spec _ _ _ hf
        obtain rfl : k = b * 4 + t := by omega
        refine ⟨by omega, ?_, ?_⟩
        · unfold stD
          rw [show (b * 4 + t) / 4 = b by omega, show (b * 4 + t) % 4 = t by omega]
          exact t0
        · rw [show (b * 4 + t) / 4 = b by omega]; exact h1
    · have ih := best_spec B but b k e
      exact ⟨by omega, ih.2⟩
theorem frR_none (h : List Int) : ∀ r, r ≤ 4 → frR h r = none → ∀ t, 4 - r ≤ t → t < 4 → h.getD t 0 ≠ 0
  | 0, _, _, t, a, b => by omega
  | r + 1, hr, e, t, a, b => by
    unfold frR at e
    split at e
    · cases e
    · rename_i h0
      by_cases et : t = 3 - r
      · rw [et]; exact h0
      · exact frR_none h r (by omega) e t (by omega) b
theorem smR_iff (h : List Int) : ∀ r, r ≤ 4 → (smR h r = true ↔ ∃ t, 4 - r ≤ t ∧ t < 4 ∧ h.getD t 0 ≠ 0)
  | 0, _ => ⟨fun h => (by cases h), fun ⟨t, a, b, _⟩ => (by omega)⟩
  | r + 1, hr => by
    have ih := smR_iff h r (by omega)
    unfold smR
    rw [Bool.or_eq_true, ih, decide_eq_true_eq]
    constructor
    · rintro (⟨t, a, b, c⟩ | h1)
      · exact ⟨t, by omega, b, c⟩
      · exact ⟨3 - r, by omega, by omega, h1⟩
    · rintro ⟨t, a, b, c⟩
      by_cases et : t = 3 - r
      · right; rw [← et]; exact c
      · left; exact ⟨t, by omega, b, c⟩
theorem stD_box (B : BookS) (b t : Nat) (ht : t < 4) : stD B (b * 4 + t) = (B.view (3 + b * 5)).getD t 0 := by
  unfold stD
  rw [show (b * 4 + t) / 4 = b by omega, show (b * 4 + t) % 4 = t by omega]
/-- Where no slot is taken none is free, but of the container that is barred. -/
theorem best_none (B : BookS) (but : Int) : ∀ n, (bestF B 3 but n).1 < 0 → ∀ s, s < n * 4 → stD B s = 0 → ((s / 4 : Nat) : Int) = but
  | 0, _, s, hs, _ => by omega
  | b + 1, e, s, hs, h0 => by
    unfold bestF at e
    split at e
    · rename_i hc
      exact absurd hc.2.1 (by show ¬ 0 ≤ _; omega)
    · rename_i hc
      have ih := best_none B but b e
      by_cases hb : s / 4 = b
      · apply Classical.byContradiction
        intro hne
        refine hc ⟨by rw [← hb]; exact hne, ?_, .inl e⟩
        cases hf : frR (B.view (3 + b * 5)) 4 with
        | none =>
          have := frR_none _ 4 (by decide) hf (s % 4) (by omega) (by omega)
          rw [← stD_box B b (s % 4) (by omega), show b * 4 + s % 4 = s by omega] at this
          exact absurd h0 this
        | some t => show (0 : Int) ≤ ((b * 4 + t : Nat) : Int); omega
      · exact ih s (by omega) h0
/-- A container that is begun is taken first. -/
theorem best_begun (B : BookS) (but : Int) : ∀ n k, (bestF B 3 but n).1 = ((k : Nat) : Int) → ((bestF B 3 but n).2 = true ↔ ∃ t, t < 4 ∧ stD B (k / 4 * 4 + t) ≠ 0) ∧
    ((bestF B 3 but n).2 = false → ∀ b, b < n → (b : Int) ≠ but → (∃ t, t < 4 ∧ stD B (b * 4 + t) = 0) → ∀ t, t < 4 → stD B (b * 4 + t) = 0)
  | 0, k, e => by
    exfalso
    have : (-1 : Int) = k := e
    omega
  | b + 1, k, e => by
    have sm : ∀ b, smR (B.view (3 + b * 5)) 4 = true ↔ ∃ t, t < 4 ∧ stD B (b * 4 + t) ≠ 0 := fun b => by
      rw [smR_iff _ 4 (by decide)]
      constructor
      · rintro ⟨t, _, a, c⟩; exact ⟨t, a, by rw [stD_box B b t a]; exact c⟩
      · rintro ⟨t, a, c⟩; exact ⟨t, by omega, a, by rw [← stD_box B b t a]; exact c⟩
    have fre : ∀ b, (∃ t, t < 4 ∧ stD B (b * 4 + t) = 0) → 0 ≤ atV b (frR (B.view (3 + b * 5)) 4) := fun b ⟨t, ht, h0⟩ => by
      cases hf : frR (B.view (3 + b * 5)) 4 with
      | none =>
        have := frR_none _ 4 (by decide) hf t (by omega) ht
        rw [← stD_box B b t ht] at this
        exact absurd h0 this
      | some t => show (0 : Int) ≤ ((b * 4 + t : Nat) : Int); omega
    unfold bestF at e ⊢
    split at e
    · rename_i hc
      rw [if_pos hc]
      obtain ⟨h1, h2, h3⟩ := hc
      cases hf : frR (B.view (3 + b * 5)) 4 with
      | none => rw [hf] at h2; exact absurd (show (0 : Int) ≤ -1 from h2) (by decide)
      | some t =>
        rw [hf] at e
        have e' : ((b * 4 + t : Nat) : Int) = k := e
        obtain ⟨t4, t0⟩ := frR_spec _ _ _ hf
        obtain rfl : k = b * 4 + t := by omega
        rw [show (b * 4 + t) / 4 = b by omega]
        refine ⟨sm b, fun hs b' hb' hne hfr => ?_⟩
        have hs' : smR (B.view (3 + b * 5)) 4 = false := hs
        by_cases eb : b' = b
        · subst eb
          intro t' ht'
          apply Classical.byContradiction
          intro hn
          have := (sm b').2 ⟨t', ht', hn⟩
          rw [hs'] at this; cases this
        · rcases h3 with h3 | h3
          · obtain ⟨t', ht', h0⟩ := hfr
            have := best_none B but b h3 (b' * 4 + t') (by omega) h0
            rw [show (b' * 4 + t') / 4 = b' by omega] at this
            exact absurd this hne
          · rw [hs'] at h3; cases h3.1
    · rename_i hc
      rw [if_neg hc]
      have ih := best_begun B but b k e
      refine ⟨ih.1, fun hs b' hb' hne hfr => ?_⟩
      by_cases eb : b' = b
      · subst eb
        intro t' ht'
        apply Classical.byContradiction
        intro hn
        exact hc ⟨hne, fre b' hfr, .inr ⟨(sm b').2 ⟨t', ht', hn⟩, hs⟩⟩
      · exact ih.2 hs b' (by omega) hne hfr
/-- Has the container of a slot another one that is live? -/
def othB (st : Nat → Int) (k : Nat) : Bool := (List.range 4).any fun t => decide (t ≠ k % 4) && decide (st (k / 4 * 4 + t) = 1)
theorem othB_iff (st : Nat → Int) (k : Nat) : othB st k = true ↔ ∃ t, t < 4 ∧ t ≠ k % 4 ∧ st (k / 4 * 4 + t) = 1 := by
  unfold othB
  rw [List.any_eq_true]
  constructor
  · rintro ⟨t, ht, h⟩
    rw [Bool.and_eq_true, decide_eq_true_eq, decide_eq_true_eq] at h
    exact ⟨t, List.mem_range.1 ht, h.1, h.2⟩
  · rintro ⟨t, ht, h1, h2⟩
    exact ⟨t, List.mem_range.2 ht, by rw [Bool.and_eq_true, decide_eq_true_eq, decide_eq_true_eq]; exact ⟨h1, h2⟩⟩
/-- The states behind a drop. -/
def dropT (st : Nat → Int) (k : Nat) : Nat → Int := fun s => if s / 4 = k / 4 then (if othB st k = true then (if s = k then 2 else st s) else 0) else st s
theorem dropB_st {B : BookS} {k : Nat} (hl : (B.view (3 + k / 4 * 5)).length = 64) (st : Nat → Int) (hst : ∀ t, t < 4 → stD B (k / 4 * 4 + t) = st (k / 4 * 4 + t)) (s : Nat) (hs : s / 4 ≠ k / 4 → stD B s = st s) : stD (dropB B k) s = dropT st k s := by
  have e : stD (dropB B k) s = if s / 4 = k / 4 then (setDF (B.view (3 + k / 4 * 5)) (k % 4) 2).getD (s % 4) 0 else stD B s := by
    unfold stD
    rw [dropB_head]
    split <;> rfl
  rw [e]
  unfold dropT
  by_cases h : s / 4 = k / 4
  · rw [if_pos h, if_pos h]
    have hb : ∀ t, t < 4 → (B.view (3 + k / 4 * 5)).getD t 0 = st (k / 4 * 4 + t) := fun t ht => by rw [← stD_box B _ t ht, hst t ht]
    have hs2 : ∀ i, ((B.view (3 + k / 4 * 5)).set (k % 4) 2).getD i 0 = if i = k % 4 then 2 else (B.view (3 + k / 4 * 5)).getD i 0 := fun i => set_at _ _ _ _ (by omega)
    have hd : deadF ((B.view (3 + k / 4 * 5)).set (k % 4) 2) = true ↔ ¬ othB st k = true := by
      rw [dead_iff (by simp [hl]), othB_iff]
      constructor
      · rintro hd ⟨t, ht, h1, h2⟩
        have := hd t ht
        rw [hs2, if_neg h1, hb t ht] at this
        exact this h2
      · intro hn t ht
        rw [hs2]
        by_cases et : t = k % 4
        · rw [if_pos et]; decide
        · rw [if_neg et, hb t ht]; exact fun h2 => hn ⟨t, ht, et, h2⟩
    unfold setDF
    by_cases ho : othB st k = true
    · rw [if_neg (fun h => (hd.1 h) ho), if_pos ho, hs2]
      by_cases es : s = k
      · rw [if_pos (by rw [es]), if_pos es]
      · rw [if_neg (by omega), if_neg es, hb _ (by omega), show k / 4 * 4 + s % 4 = s by omega]
    · rw [if_pos (hd.2 ho), if_neg ho]
      rcases (show s % 4 = 0 ∨ s % 4 = 1 ∨ s % 4 = 2 ∨ s % 4 = 3 by omega) with q | q | q | q <;> rw [q] <;> rfl
  · rw [if_neg h, if_neg h]; exact hs h
theorem cntD_states (B : BookS) (v : Int) : ∀ n, cntD B 3 v n = ((List.range n).filter fun s => decide (stD B s % 3 = v)).length
  | 0 => rfl
  | n + 1 => by
    rw [cntD, cntD_states B v n, List.range_succ, List.filter_append, List.length_append]
    show _ + (if stD B n % 3 = v then 1 else 0) = _
    by_cases h : stD B n % 3 = v
    · rw [if_pos h]; simp [h]
    · rw [if_neg h]; simp [h]
/-- A depot on a new book: the states of its slots, the blocks of those that are live. -/
structure DpI (B : BookS) (n : Nat) (st : Nat → Int) (blk : Nat → List Int) : Prop where
  hst : ∀ s, s < n * 4 → stD B s = st s
  pg : ∀ s, s < n * 4 → st s = 1 → B.view (pgS s) = blk s
  rng : ∀ s, s < n * 4 → st s = 0 ∨ st s = 1 ∨ st s = 2
  live : ∀ s, s < n * 4 → st s = 2 → ∃ t, t / 4 = s / 4 ∧ st t = 1
theorem DpI.put {B : BookS} {n : Nat} {st : Nat → Int} {blk : Nat → List Int} (h : DpI B n st blk) (hok : B.ok) (hn : 3 + n * 5 ≤ B.n) {k : Nat} (hk : k < n * 4) (p : List Int) :
    DpI (putB B k p) n (fun s => if s = k then 1 else st s) (fun s => if s = k then p else blk s) := by
  have hl : (B.view (3 + k / 4 * 5)).length = 64 := (BookS.view_ok hok _ (by omega)).1
  refine ⟨fun s hs => ?_, fun s hs h1 => ?_, fun s hs => ?_, fun s hs h2 => ?_⟩
  · rw [putB_st hl p s]
    by_cases e : s = k
    · rw [if_pos e, if_pos e]
    · rw [if_neg e, if_neg e, h.hst s hs]
  · rw [putB_page]
    by_cases e : s = k
    · rw [if_pos e, if_pos e]
    · rw [if_neg e] at h1
      rw [if_neg e, if_neg e, h.pg s hs h1]
  · show (if s = k then (1 : Int) else st s) = 0 ∨ _
    by_cases e : s = k
    · simp [e]
    · simp only [e, if_false]; exact h.rng s hs
  · by_cases e : s = k
    · rw [if_pos e] at h2; omega
    · rw [if_neg e] at h2
      obtain ⟨t, h3, h4⟩ := h.live s hs h2
      refine ⟨t, h3, ?_⟩
      show (if t = k then (1 : Int) else st t) = 1
      by_cases et : t = k
      · rw [if_pos et]
      · rw [if_neg et]; exact h4
theorem DpI.drop {B : BookS} {n : Nat} {st : Nat → Int} {blk : Nat → List Int} (h : DpI B n st blk) (hok : B.ok) (hn : 3 + n * 5 ≤ B.n) {k : Nat} (hk : k < n * 4) : DpI (dropB B k) n (dropT st k) blk := by
  have hl : (B.view (3 + k / 4 * 5)).length = 64 := (BookS.view_ok hok _ (by omega)).1
  have hst : ∀ s, s < n * 4 → stD (dropB B k) s = dropT st k s := fun s hs => dropB_st hl st (fun t ht => h.hst _ (by omega)) s (fun _ => h.hst s hs)
  refine ⟨hst, fun s hs h1 => ?_, fun s hs => ?_, fun s hs h2 => ?_⟩
  · rw [dropB_page]
    refine h.pg s hs ?_
    unfold dropT at h1
    split at h1
    · split at h1
      · split at h1
        · omega
        · exact h1
      · omega
    · exact h1
  · unfold dropT
    split
    · split
      · split
        · exact .inr (.inr rfl)
        · exact h.rng s hs
      · exact .inl rfl
    · exact h.rng s hs
  · unfold dropT at h2
    by_cases hb : s / 4 = k / 4
    · rw [if_pos hb] at h2
      by_cases ho : othB st k = true
      · obtain ⟨t, ht, h3, h4⟩ := (othB_iff st k).1 ho
        refine ⟨k / 4 * 4 + t, by omega, ?_⟩
        unfold dropT
        rw [if_pos (by omega), if_pos ho, if_neg (by omega)]
        exact h4
      · rw [if_neg ho] at h2; omega
    · rw [if_neg hb] at h2
      obtain ⟨t, h3, h4⟩ := h.live s hs h2
      refine ⟨t, h3, ?_⟩
      unfold dropT
      rw [if_neg (by omega)]
      exact h4
theorem DpI.congr {B B' : BookS} {n : Nat} {st : Nat → Int} {blk : Nat → List Int} (h : DpI B n st blk) (he : ∀ i, i < 3 + n * 5 → B'.view i = B.view i) : DpI B' n st blk := by
  refine ⟨fun s hs => ?_, fun s hs h1 => ?_, h.rng, h.live⟩
  · have := h.hst s hs
    unfold stD at this ⊢
    rw [he _ (by omega)]; exact this
  · rw [he _ (by unfold pgS; omega)]; exact h.pg s hs h1
theorem DpI.start (B : BookS) (n : Nat) (hz : ∀ i, i < 3 + n * 5 → B.view i = zer 64) (blk : Nat → List Int) : DpI B n (fun _ => 0) blk := by
  refine ⟨fun s hs => ?_, fun s _ h => ?_, fun _ _ => Or.inl rfl, fun s _ h => ?_⟩
  · unfold stD
    rw [hz _ (by omega)]
    unfold zer List.getD
    rw [List.getElem?_replicate]
    split <;> rfl
  · exact absurd h (by decide)
  · exact absurd h (by decide)
/-- How many slots are of a state. -/
def cntS (st : Nat → Int) (v : Int) (m : Nat) : Nat := ((List.range m).filter fun s => decide (st s = v)).length
theorem DpI.count {B : BookS} {n : Nat} {st : Nat → Int} {blk : Nat → List Int} (h : DpI B n st blk) (v : Int) (hv : v = 0 ∨ v = 1 ∨ v = 2) : cntD B 3 v (n * 4) = cntS st v (n * 4) := by
  rw [cntD_states]
  unfold cntS
  congr 1
  refine List.filter_congr (fun s hs => ?_)
  have hs' := List.mem_range.1 hs
  rw [h.hst s hs', decide_eq_decide]
  rcases h.rng s hs' with q | q | q <;> rw [q] <;> omega
end Go.Proofs.YtjikpodghmfjcaaGreatDoor
set_option linter.unnecessarySimpa false
namespace Go.Proofs.YtjikpodghmfjcaaGreatDoor
open Go.RowKit Go.Maps
def bestL (hs : Nat → List Int) (but : Int) : Nat → Int × Bool
  | 0 => (-1, false)
  | b + 1 => if (b : Int) ≠ but ∧ 0 ≤ atV b (frR (hs b) 4) ∧ ((bestL hs but b).1 < 0 ∨ smR (hs b) 4 = true ∧ (bestL hs but b).2 = false) then (atV b (frR (hs b) 4), smR (hs b) 4) else bestL hs but b
theorem bestF_eq (B : BookS) (first : Nat) (but : Int) (hs : Nat → List Int) : ∀ n, (∀ i, i < n → B.view (first + i * 5) = hs i) → bestF B first but n = bestL hs but n
  | 0, _ => rfl
  | n + 1, h => by
    rw [bestF, bestL, bestF_eq B first but hs n (fun i hi => h i (by omega)), h n (by omega)]
def cntL (hs : Nat → List Int) (s : Int) : Nat → Nat
  | 0 => 0
  | i + 1 => cntL hs s i + (if (hs (i / 4)).getD (i % 4) 0 % 3 = s then 1 else 0)
theorem cntD_eq (B : BookS) (first : Nat) (s : Int) (hs : Nat → List Int) : ∀ n, (∀ i, i < n → B.view (first + i / 4 * 5) = hs (i / 4)) → cntD B first s n = cntL hs s n
  | 0, _ => rfl
  | n + 1, h => by
    rw [cntD, cntL, cntD_eq B first s hs n (fun i hi => h i (by omega)), h n (by omega)]
def pgOne (x : Int) : List Int := x :: zer 63
theorem pgOne_ok (x : Int) (h : 0 ≤ x ∧ x < 256) : PgOk (pgOne x) := ⟨rfl, fun y hy => by
  rcases List.mem_cons.1 hy with rfl | hy
  · exact h
  · exact zer_u8 63 y hy⟩
def hdA : List Int := setDF (zer 64) 0 1
def hdB : List Int := setDF hdA 1 1
def hdC : List Int := setDF hdB 0 2
noncomputable def dkA : BookS := freshB6.wrote 3 hdA
noncomputable def dkB : BookS := dkA.wrote 4 (pgOne 1)
noncomputable def dkC : BookS := dkB.wrote 3 hdB
noncomputable def dkD : BookS := dkC.wrote 5 (pgOne 2)
noncomputable def dkE : BookS := dkD.wrote 3 hdC
theorem dkA_view (j : Nat) (hj : j < 498) : dkA.view j = if j = 3 then hdA else zer 64 := by
  unfold dkA; rw [BookS.wrote_view, freshB6_view _ hj]
theorem dkB_view (j : Nat) (hj : j < 498) : dkB.view j = if j = 4 then pgOne 1 else if j = 3 then hdA else zer 64 := by
  unfold dkB; rw [BookS.wrote_view, dkA_view j hj]
theorem dkC_view (j : Nat) (hj : j < 498) : dkC.view j = if j = 3 then hdB else if j = 4 then pgOne 1 else zer 64 := by
  unfold dkC; rw [BookS.wrote_view, dkB_view j hj]
  by_cases h : j = 3 <;> simp [h]
theorem dkD_view (j : Nat) (hj : j < 498) : dkD.view j = if j = 5 then pgOne 2 else if j = 3 then hdB else if j = 4 then pgOne 1 else zer 64 := by
  unfold dkD; rw [BookS.wrote_view, dkC_view j hj]
theorem dkE_view (j : Nat) (hj : j < 498) : dkE.view j = if j = 3 then hdC else if j = 5 then pgOne 2 else if j = 4 then pgOne 1 else zer 64 := by
  unfold dkE; rw [BookS.wrote_view, dkD_view j hj]
  by_cases h : j = 3 <;> simp [h]
theorem dkA_n : dkA.n = 498 := by unfold dkA; rw [BookS.wrote_n, freshB6_n]
theorem dkB_n : dkB.n = 498 := by unfold dkB; rw [BookS.wrote_n, dkA_n]
theorem dkC_n : dkC.n = 498 := by unfold dkC; rw [BookS.wrote_n, dkB_n]
theorem dkD_n : dkD.n = 498 := by unfold dkD; rw [BookS.wrote_n, dkC_n]
theorem dkE_n : dkE.n = 498 := by unfold dkE; rw [BookS.wrote_n, dkD_n]
theorem dkA_cnt : dkA.cnt ≤ 1 := by
  have := BookS.wrote_cnt freshB6 3 hdA (by rw [freshB6_n]; decide)
  rw [freshB6_cnt] at this
  exact this
theorem dkB_cnt : dkB.cnt ≤ 2 := by
  have := BookS.wrote_cnt dkA 4 (pgOne 1) (by rw [dkA_n]; decide)
  have := dkA_cnt
  unfold dkB; omega
theorem dkC_cnt : dkC.cnt ≤ 3 := by
  have := BookS.wrote_cnt dkB 3 hdB (by rw [dkB_n]; decide)
  have := dkB_cnt
  unfold dkC; omega
theorem dkD_cnt : dkD.cnt ≤ 4 := by
  have := BookS.wrote_cnt dkC 5 (pgOne 2) (by rw [dkC_n]; decide)
  have := dkC_cnt
  unfold dkD; omega
theorem wrOk_cnt {B : BookS} {k : Nat} (h : B.cnt ≤ k) (hk : k < 60) (i : Nat) (p : List Int) : WrOk B i p := .inr (.inr (by show B.cnt ≠ 60; omega))
theorem best_first : (bestF freshB6 3 (-1) 2).1 = ((0 : Nat) : Int) := by
  rw [bestF_eq freshB6 3 (-1) (fun _ => zer 64) 2 (fun i hi => freshB6_view _ (by omega))]
  decide +kernel
theorem best_second : (bestF dkB 3 (-1) 2).1 = ((1 : Nat) : Int) := by
  rw [bestF_eq dkB 3 (-1) (fun i => if i = 0 then hdA else zer 64) 2 (fun i hi => by
    rw [dkB_view _ (by omega)]
    rcases (show i = 0 ∨ i = 1 by omega) with rfl | rfl <;> rfl)]
  decide +kernel
theorem hd_facts : hdB.getD 0 0 = 1 ∧ hdC.getD 1 0 = 1 := by decide +kernel
theorem cnt_E (s : Int) : cntD dkE 3 s 8 = cntL (fun i => if i = 0 then hdC else zer 64) s 8 := by
  refine cntD_eq dkE 3 s _ 8 (fun i hi => ?_)
  rw [dkE_view _ (by omega)]
  rcases (show i / 4 = 0 ∨ i / 4 = 1 by omega) with h | h <;> rw [h] <;> rfl
theorem cnt_facts : cntD dkE 3 1 8 = 1 ∧ cntD dkE 3 2 8 = 1 ∧ cntD dkE 3 0 8 = 6 := by
  rw [cnt_E, cnt_E, cnt_E]
  decide +kernel
theorem built_pg1 (x : Int) : Tryz.prog.built 32 [(0, .int .u8 x)] = some (v8a (pgOne x)) := by kernel_rfl
theorem page_load_g {ops : Array Oper} {rest : List Oper} {o : Oper} {a : Act} {w : World} {Q : Exit → Act → World → Prop} (hw : Region.wanted o (yielded ops a.tmps) = true) (x : Operand) (ho : o.op = .load 32 x) (g : Nat) (p : List Int) (hx : a.eval x = .pointer (some ⟨g, 0, none⟩)) (hg : w.heap[g]? = some (.cells (v8a p) 32)) (hp : p.length = 64)
    (h : wpList Tryz.prog ops Q rest (a.put o.dst (.agg (v8a p))) w) : wpList Tryz.prog ops Q (o :: rest) a w := by
  refine wpList_step fun K hK => ?_
  rw [if_pos hw]
  exact wp_load_mid _ x ho g 0 hx (v8 p) _ (row_range hg) Tryz.underlying32 rfl (by rw [v8_length, hp]; exact info_pgs) (hK _ _ h)
theorem build_g1 {P : Program} {ops : Array Oper} {rest : List Oper} {o : Oper} {a : Act} {w : World} {Q : Exit → Act → World → Prop} (hw : Region.wanted o (yielded ops a.tmps) = true) (t : TypeId) (parts : Array (Nat × Operand)) (ho : o.op = .build t parts)
    (cs : Array Value) (hb : P.built t (parts.map fun (i, x) => (i, a.eval x)).toList = some cs) (h : wpList P ops Q rest (a.put o.dst (.agg cs)) w) : wpList P ops Q (o :: rest) a w := by
  refine wpList_step fun K hK => ?_
  rw [if_pos hw]
  unfold Oper.wp execOp
  simp only [ho, Sem.run_bind, run_build w t _ cs hb, Result.andThen_ok]
  exact hK _ _ h
theorem page_eql_g {ops : Array Oper} {rest : List Oper} {o : Oper} {a : Act} {w : World} {Q : Exit → Act → World → Prop} (hw : Region.wanted o (yielded ops a.tmps) = true) (x y : Operand) (t2 : TypeId) (ho : o.op = .binOp .eql 32 x y t2) (p q : List Int) (hx : a.eval x = .agg (v8a p)) (hy : a.eval y = .agg (v8a q)) (hp : p.length = 64) (hq : q.length = 64)
    (h : wpList Tryz.prog ops Q rest (a.put o.dst (.bool (decide (p = q)))) w) : wpList Tryz.prog ops Q (o :: rest) a w := by
  refine wpList_step fun K hK => ?_
  rw [if_pos hw]
  unfold Oper.wp execOp
  simp only [ho, hx, hy, Sem.run_bind, run_eqGuard_agg w .eql _ x y (v8a p) (v8a q) guard_pg, pg_eql w p q hp hq, Result.andThen_ok]
  exact hK _ _ h
set_option maxRecDepth 100000 in
set_option maxHeartbeats 4000000 in
theorem stands07_any (N : Nat → Prop) (w : World) (hN : ∀ i, N i → i < w.heap.size) :
    Calls Tryz.prog 10 #[] w fun e w' => e = .returned (.bool true) ∧ Keeps N w w' := by
  have hFR := fresh07_any 2 (by decide) N w hN
  clear hN
  go_enter Tryz.func10, Tryz.ntmps10
  go_wp2_with fail
  refine hFR.mono ?_
  clear hFR
  rintro e w1 ⟨⟨bb, tb, rfl, hT⟩, hk1⟩
  have H1 : Hid (HolI 103 w1 tb N bb 3 2 freshB6 ∧ Keeps N w w1) := Lib.hid ⟨hT, hk1⟩
  clear hT hk1
  have hS := dPut_any tb N bb 3 2 freshB6 (by rw [freshB6_n]; decide) (pgOne 1) (pgOne_ok 1 (by decide)) 0 best_first (wrOk_cnt (k := 0) (by rw [freshB6_cnt]; exact Nat.le_refl _) (by decide) _ _) (by
    show WrOk (freshB6.wrote 3 (setDF (freshB6.view 3) 0 1)) _ _
    rw [freshB6_view _ (by decide)]
    exact wrOk_cnt (k := 1) dkA_cnt (by decide) _ _) w1 H1.out.1
  rw [show (freshB6.wrote (3 + 0 / 4 * 5) (setDF (freshB6.view (3 + 0 / 4 * 5)) (0 % 4) 1)).wrote (3 + 0 / 4 * 5 + 1 + 0 % 4) (pgOne 1) = dkB by
    show (freshB6.wrote 3 (setDF (freshB6.view 3) 0 1)).wrote 4 (pgOne 1) = dkB
    rw [freshB6_view _ (by decide)]; rfl] at hS
  try dsimp only
  go_wp2_with (refine wpList_build_to rfl 32 _ rfl (v8a (pgOne 1)) (built_pg1 1) ?_)
  refine hS.mono ?_
  clear hS
  rintro e w2 ⟨rfl, hT, hk⟩
  have H2 : Hid (HolI 103 w2 tb N bb 3 2 dkB ∧ Keeps N w w2) := Lib.hid ⟨hT, H1.out.2.trans hk⟩
  clear hT hk H1
  have hS := dPut_any tb N bb 3 2 dkB (by rw [dkB_n]; decide) (pgOne 2) (pgOne_ok 2 (by decide)) 1 best_second (wrOk_cnt (k := 2) dkB_cnt (by decide) _ _) (by
    show WrOk (dkB.wrote 3 (setDF (dkB.view 3) 1 1)) _ _
    rw [dkB_view _ (by decide)]
    exact wrOk_cnt (k := 3) dkC_cnt (by decide) _ _) w2 H2.out.1
  rw [show (dkB.wrote (3 + 1 / 4 * 5) (setDF (dkB.view (3 + 1 / 4 * 5)) (1 % 4) 1)).wrote (3 + 1 / 4 * 5 + 1 + 1 % 4) (pgOne 2) = dkD by
    show (dkB.wrote 3 (setDF (dkB.view 3) 1 1)).wrote 5 (pgOne 2) = dkD
    rw [dkB_view _ (by decide)]; rfl] at hS
  try dsimp only
  go_wp2_with (refine wpList_build_to rfl 32 _ rfl (v8a (pgOne 2)) (built_pg1 2) ?_)
  refine hS.mono ?_
  clear hS
  rintro e w3 ⟨rfl, hT, hk⟩
  have H3 : Hid (HolI 103 w3 tb N bb 3 2 dkD ∧ Keeps N w w3) := Lib.hid ⟨hT, H2.out.2.trans hk⟩
  clear hT hk H2
  have hS := ddrop_any tb N bb 3 2 dkD 0 (by decide) (by rw [dkD_n]; decide) (by
    show (dkD.view 3).getD 0 0 = 1
    rw [dkD_view _ (by decide)]; exact hd_facts.1) (wrOk_cnt (k := 4) dkD_cnt (by decide) _ _) w3 H3.out.1
  rw [show dkD.wrote (3 + 0 / 4 * 5) (setDF (dkD.view (3 + 0 / 4 * 5)) (0 % 4) 2) = dkE by
    show dkD.wrote 3 (setDF (dkD.view 3) 0 2) = dkE
    rw [dkD_view _ (by decide)]; rfl] at hS
  try dsimp only
  go_wp2_with fail
  refine hS.mono ?_
  clear hS
  rintro e w4 ⟨rfl, hT, hk⟩
  have H4 : Hid (HolI 103 w4 tb N bb 3 2 dkE ∧ Keeps N w w4) := Lib.hid ⟨hT, H3.out.2.trans hk⟩
  clear hT hk H3
  have hS := dget_any tb N bb 3 2 dkE 1 (by decide) (by rw [dkE_n]; decide) (by
    show (dkE.view 3).getD 1 0 = 1
    rw [dkE_view _ (by decide)]; exact hd_facts.2) w4 H4.out.1
  rw [show dkE.view (3 + 1 / 4 * 5 + 1 + 1 % 4) = pgOne 2 by
    show dkE.view 5 = _
    rw [dkE_view _ (by decide)]; rfl] at hS
  try dsimp only
  go_wp2_with fail
  refine hS.mono ?_
  clear hS
  rintro e w5 ⟨rfl, hb5⟩
  have H5 : Hid (HolI 103 w5 tb N bb 3 2 dkE ∧ Keeps N w w5) := Lib.hid ⟨H4.out.1.below hb5, H4.out.2.trans (Keeps.of_below hb5)⟩
  clear hb5 H4
  try dsimp only
  repeat ((fail_if_success (with_reducible refine stop_at 40 rfl ?_)); (first | (refine page_store rfl (.tmp 8) (.tmp 37) rfl w5.heap.size (pgOne 2) (zer 64) rfl rfl (heap_alloc_new w5 _) rfl rfl ?_) | go_values | go_skip | go_guarded | go_step | go_upon))
  have hbx : ∀ o : Obj, Below w5.heap.size w5 ((w5.alloc o).setRow w5.heap.size (v8a (pgOne 2))) := fun o => below_setRow ((Below.refl _ _).alloc (Nat.le_refl _) _) (Nat.le_refl _) _
  refine gen_world (fun wx => Hid (HolI 103 wx tb N bb 3 2 dkE ∧ Keeps N w wx ∧ wx.heap[w5.heap.size]? = some (.cells (v8a (pgOne 2)) 32))) (Lib.hid ⟨H5.out.1.below (hbx _), H5.out.2.trans (Keeps.of_below (hbx _)), setRow_heap _ _ _ _ _ (0, 0) (heap_alloc_new w5 _)⟩) ?_
  clear hbx H5
  generalize w5.heap.size = b8
  intro w6 H6
  have hS := dcount_any tb N bb 3 2 dkE (by rw [dkE_n]; decide) w6 H6.out.1
  rw [show 2 * 4 = 8 from rfl, cnt_facts.1, cnt_facts.2.1, cnt_facts.2.2] at hS
  go_wp2_with fail
  refine hS.mono ?_
  clear hS
  rintro e w7 ⟨rfl, hb7⟩
  have H7 : Hid (Keeps N w w7 ∧ w7.heap[b8]? = some (.cells (v8a (pgOne 2)) 32)) := Lib.hid ⟨H6.out.2.1.trans (Keeps.of_below hb7), (hb7.block _ (lt_of_blk H6.out.2.2)).trans H6.out.2.2⟩
  clear hb7 H6
  try dsimp only
  go_wp2_with fail
  refine (num07_nil w7).mono ?_
  rintro e w8 ⟨rfl, rfl⟩
  try dsimp only
  go_wp2_with fail
  refine (num07_nil w7).mono ?_
  rintro e w8 ⟨rfl, rfl⟩
  try dsimp only
  go_wp2_with fail
  refine (num07_nil w7).mono ?_
  rintro e w8 ⟨rfl, rfl⟩
  try dsimp only
  go_wp2_with fail
  refine (num07_nil w7).mono ?_
  rintro e w8 ⟨rfl, rfl⟩
  try dsimp only
  go_wp2_with fail
  refine (num07_nil w7).mono ?_
  rintro e w8 ⟨rfl, rfl⟩
  try dsimp only
  have hd2 : decide (pgOne 2 = pgOne 2) = true := decide_eq_true rfl
  go_wp2_with (first | (refine page_eql_g rfl (.tmp 67) (.tmp 68) _ rfl (pgOne 2) (pgOne 2) rfl rfl rfl rfl ?_; rw [hd2]) | (refine page_load_g rfl (.tmp 8) rfl b8 (pgOne 2) rfl H7.out.2 rfl ?_) | (refine build_g1 rfl 32 _ rfl (v8a (pgOne 2)) (built_pg1 2) ?_))
  refine (depotPages_any 2 (by decide) w7).mono ?_
  rintro e w8 ⟨rfl, rfl⟩
  try dsimp only
  go_wp2_with fail
  go_ret
  exact ⟨rfl, H7.out.1⟩
end Go.Proofs.YtjikpodghmfjcaaGreatDoor
set_option linter.unnecessarySimpa false
namespace Go.Proofs.YtjikpodghmfjcaaGreatDoor
open Go.RowKit Go.Maps
theorem wrOk_le {B : BookS} {k : Nat} (h : B.cnt ≤ k) (hk : k < 60) (i : Nat) (p : List Int) : WrOk B i p := .inr (.inr (by show B.cnt ≠ 60; omega))
set_option maxRecDepth 100000 in
theorem dPut_full (tb : Nat) (N : Nat → Prop) (bb first n : Nat) (B : BookS) (hn : first + n * 5 ≤ B.n) (p : List Int) (hp : PgOk p) (hk : (bestF B first (-1) n).1 < 0) (w : World) (h : HolI 103 w tb N bb first n B) :
    Calls Tryz.prog 12 #[.pointer (some ⟨tb, 0, none⟩), .agg (v8a p)] w fun e w' => (∃ t x, e = .returned (.tuple #[.int .i64 0, .iface t x]) ∧ ErrV w' (.iface t x) 20) ∧ Below w.heap.size w w' := by
  have HP := Lib.hid (fun wx hh => dput_full tb N bb first n B hn p hp (-1) hk wx hh)
  have HT := Lib.hid h
  have hp64 := hp.1
  clear h hk
  have hb0 : ∀ o : Obj, Below w.heap.size w (w.alloc o) := fun o => (Below.refl _ _).alloc (Nat.le_refl _) _
  go_enter Tryz.func12, Tryz.ntmps12
  repeat ((fail_if_success (with_reducible refine stop_at 6 rfl ?_)); (first | go_values | go_skip | go_guarded | go_step | go_upon))
  refine gen_world (fun wx => Hid (wx.heap[w.heap.size]? = some (.cells (v8a p) 32) ∧ Below w.heap.size w wx)) (Lib.hid ⟨heap_alloc_new w (.cells (v8a p) 32), hb0 _⟩) ?_
  intro w1 H1
  clear hb0
  go_wp2_with (refine page_load rfl (.tmp 3) rfl w.heap.size p rfl H1.out.1 hp64 ?_)
  refine (HP.out w1 (HT.out.below H1.out.2)).mono ?_
  rintro e w2 ⟨⟨t, x, rfl, he⟩, hb⟩
  have H2 := Lib.hid (And.intro he (H1.out.2.trans (hb.mono H1.out.2.size)))
  clear he hb
  try dsimp only
  go_wp2_with fail
  go_ret2
  exact ⟨⟨t, x, rfl, H2.out.1⟩, H2.out.2⟩
/-- A depot on a new book, after so many commits, with at most so many pages under way. -/
def DepS (N : Nat → Prop) (tb bb n k c : Nat) (st : Nat → Int) (blk : Nat → List Int) (wx : World) : Prop :=
  ∃ B, HolI 103 wx tb N bb 3 n B ∧ DpI B n st blk ∧ B.cnt ≤ c ∧ B.lim k ∧ B.n = 498
section
variable {N : Nat → Prop} {tb bb n k c : Nat} {st : Nat → Int} {blk : Nat → List Int} {wx wy : World}
theorem DepS.below (h : DepS N tb bb n k c st blk wx) (hb : Below wx.heap.size wx wy) : DepS N tb bb n k c st blk wy := by
  obtain ⟨B, h1, h2⟩ := h
  exact ⟨B, h1.below hb, h2⟩
theorem DepS.keep {N' : Nat → Prop} (h : DepS N tb bb n k c st blk wx) (hb : Below wx.heap.size wx wy) (hn : ∀ i, N' i → i < wy.heap.size ∧ (N i ∨ wx.heap.size ≤ i)) : DepS N' tb bb n k c st blk wy := by
  obtain ⟨B, h1, h2⟩ := h
  exact ⟨B, h1.keep hb hn, h2⟩
theorem DepS.grow {N' : Nat → Prop} (h : DepS N tb bb n k c st blk wx) (hk : Keeps (fun k => ¬ N k) wx wy) (hn : ∀ i, N' i → i < wy.heap.size ∧ (N i ∨ wx.heap.size ≤ i)) : DepS N' tb bb n k c st blk wy := by
  obtain ⟨B, h1, h2⟩ := h
  exact ⟨B, h1.grow hk hn, h2⟩
theorem DepS.N_lt (h : DepS N tb bb n k c st blk wx) : ∀ i, N i → i < wx.heap.size := by
  obtain ⟨B, h1, _⟩ := h
  exact h1.N_lt
theorem DepS.more {c' : Nat} (h : DepS N tb bb n k c st blk wx) (hc : c ≤ c') : DepS N tb bb n k c' st blk wx := by
  obtain ⟨B, h1, h2, h3, h4⟩ := h
  exact ⟨B, h1, h2, Nat.le_trans h3 hc, h4⟩
theorem DepS.rng (h : DepS N tb bb n k c st blk wx) : ∀ s, s < n * 4 → st s = 0 ∨ st s = 1 ∨ st s = 2 := by
  obtain ⟨B, _, h2, _⟩ := h
  exact h2.rng
theorem DepS.live (h : DepS N tb bb n k c st blk wx) : ∀ s, s < n * 4 → st s = 2 → ∃ t, t / 4 = s / 4 ∧ st t = 1 := by
  obtain ⟨B, _, h2, _⟩ := h
  exact h2.live
/-- The slot of a put: free, and of a container that is begun, if there is one. -/
def MayS (st : Nat → Int) (n : Nat) (but : Int) (s : Nat) : Prop :=
  s < n * 4 ∧ st s = 0 ∧ ((s / 4 : Nat) : Int) ≠ but ∧ ((∃ t, t < 4 ∧ st (s / 4 * 4 + t) ≠ 0) ∨ ∀ b, b < n → (b : Int) ≠ but → (∃ t, t < 4 ∧ st (b * 4 + t) = 0) → ∀ t, t < 4 → st (b * 4 + t) = 0)
theorem best_may {B : BookS} (h : DpI B n st blk) (but : Int) {s : Nat} (hs : (bestF B 3 but n).1 = (s : Int)) : MayS st n but s := by
  obtain ⟨h1, h2, h3⟩ := best_spec B but n s hs
  have hst : ∀ b t, b < n → t < 4 → stD B (b * 4 + t) = st (b * 4 + t) := fun b t hb ht => h.hst _ (by omega)
  obtain ⟨b1, b2⟩ := best_begun B but n s hs
  refine ⟨h1, by rw [← h.hst s h1]; exact h2, h3, ?_⟩
  cases hf : (bestF B 3 but n).2 with
  | true =>
    obtain ⟨t, ht, hne⟩ := b1.1 hf
    exact .inl ⟨t, ht, by rw [← hst _ t (by omega) ht]; exact hne⟩
  | false =>
    right
    intro b hb hbut ⟨t, ht, h0⟩ t' ht'
    rw [← hst b t' hb ht']
    exact b2 hf b hb hbut ⟨t, ht, by rw [hst b t hb ht]; exact h0⟩ t' ht'
theorem dep_put (hn : n ≤ 99) (hc : c ≤ 50) (p : List Int) (hp : PgOk p) (hfree : ∃ s, s < n * 4 ∧ st s = 0) (h : DepS N tb bb n k c st blk wx) :
    Calls Tryz.prog 12 #[.pointer (some ⟨tb, 0, none⟩), .agg (v8a p)] wx fun e wy => (∃ s : Nat, e = .returned (.tuple #[.int .i64 (s : Int), .nilIface]) ∧ MayS st n (-1) s ∧ DepS N tb bb n k (c + 2) (fun t => if t = s then 1 else st t) (fun t => if t = s then p else blk t) wy) ∧ Keeps N wx wy := by
  obtain ⟨B, h1, h2, h3, h4, h5⟩ := h
  have hr := bestF_range B 3 (-1) n
  obtain ⟨s, hs⟩ : ∃ s : Nat, (bestF B 3 (-1) n).1 = (s : Int) := by
    by_cases h0 : (bestF B 3 (-1) n).1 < 0
    · obtain ⟨s, hs, hz⟩ := hfree
      have := best_none B (-1) n h0 s hs (by rw [h2.hst s hs]; exact hz)
      omega
    · exact ⟨(bestF B 3 (-1) n).1.toNat, by omega⟩
  have hm := best_may h2 (-1) hs
  have hs4 := hm.1
  have c1 := BookS.wrote_cnt B (3 + s / 4 * 5) (setDF (B.view (3 + s / 4 * 5)) (s % 4) 1) (by omega)
  refine (dPut_any tb N bb 3 n B (by omega) p hp s hs (wrOk_le h3 (by omega) _ _) (wrOk_le (k := c + 1) (by omega) (by omega) _ _) wx h1).mono ?_
  rintro e wy ⟨rfl, hH, hk⟩
  refine ⟨⟨s, rfl, hm, ⟨putB B s p, hH, h2.put h1.2.1.isOk (by omega) hs4 p, ?_, ?_, by rw [putB_n]; exact h5⟩⟩, hk⟩
  · have c2 := BookS.wrote_cnt (B.wrote (3 + s / 4 * 5) (setDF (B.view (3 + s / 4 * 5)) (s % 4) 1)) (3 + s / 4 * 5 + 1 + s % 4) p (by rw [BookS.wrote_n]; omega)
    show (putB B s p).cnt ≤ _
    unfold putB
    omega
  · exact h4.same (by unfold putB; rw [BookS.wrote_shut, BookS.wrote_shut])
theorem dep_full (hn : n ≤ 99) (p : List Int) (hp : PgOk p) (hno : ∀ s, s < n * 4 → st s ≠ 0) (h : DepS N tb bb n k c st blk wx) :
    Calls Tryz.prog 12 #[.pointer (some ⟨tb, 0, none⟩), .agg (v8a p)] wx fun e wy => (∃ t x, e = .returned (.tuple #[.int .i64 0, .iface t x]) ∧ ErrV wy (.iface t x) 20) ∧ Below wx.heap.size wx wy := by
  obtain ⟨B, h1, h2, h3, h4, h5⟩ := h
  have hr := bestF_range B 3 (-1) n
  refine dPut_full tb N bb 3 n B (by omega) p hp ?_ wx h1
  apply Classical.byContradiction
  intro h0
  obtain ⟨s, hs⟩ : ∃ s : Nat, (bestF B 3 (-1) n).1 = (s : Int) := ⟨(bestF B 3 (-1) n).1.toNat, by omega⟩
  have hm := best_may h2 (-1) hs
  exact hno s hm.1 hm.2.1
theorem dep_get (hn : n ≤ 99) {s : Nat} (hs : s < n * 4) (hl : st s = 1) (h : DepS N tb bb n k c st blk wx) :
    Calls Tryz.prog 16 #[.pointer (some ⟨tb, 0, none⟩), .int .i64 (s : Int)] wx fun e wy => e = .returned (.tuple #[.agg (v8a (blk s)), .nilIface]) ∧ Below wx.heap.size wx wy := by
  obtain ⟨B, h1, h2, h3, h4, h5⟩ := h
  rw [← h2.pg s hs hl]
  exact dget_any tb N bb 3 n B s hs (by omega) (by have := h2.hst s hs; unfold stD at this; rw [this]; exact hl) wx h1
theorem dep_drop (hn : n ≤ 99) (hc : c ≤ 55) {s : Nat} (hs : s < n * 4) (hl : st s = 1) (h : DepS N tb bb n k c st blk wx) :
    Calls Tryz.prog 17 #[.pointer (some ⟨tb, 0, none⟩), .int .i64 (s : Int)] wx fun e wy => e = .returned .nilIface ∧ DepS N tb bb n k (c + 1) (dropT st s) blk wy ∧ Keeps N wx wy := by
  obtain ⟨B, h1, h2, h3, h4, h5⟩ := h
  have c1 := BookS.wrote_cnt B (3 + s / 4 * 5) (setDF (B.view (3 + s / 4 * 5)) (s % 4) 2) (by omega)
  refine (ddrop_any tb N bb 3 n B s hs (by omega) (by have := h2.hst s hs; unfold stD at this; rw [this]; exact hl) (wrOk_le h3 (by omega) _ _) wx h1).mono ?_
  rintro e wy ⟨rfl, hH, hk⟩
  refine ⟨rfl, ⟨dropB B s, hH, h2.drop h1.2.1.isOk (by omega) hs, ?_, h4.same (by unfold dropB; rw [BookS.wrote_shut]), by rw [dropB_n]; exact h5⟩, hk⟩
  show (dropB B s).cnt ≤ _
  unfold dropB
  omega
theorem dep_count (hn : n ≤ 99) (h : DepS N tb bb n k c st blk wx) :
    Calls Tryz.prog 18 #[.pointer (some ⟨tb, 0, none⟩)] wx fun e wy => e = .returned (.tuple #[.int .i64 (cntS st 1 (n * 4) : Nat), .int .i64 (cntS st 2 (n * 4) : Nat), .int .i64 (cntS st 0 (n * 4) : Nat), .nilIface]) ∧ Below wx.heap.size wx wy := by
  obtain ⟨B, h1, h2, h3, h4, h5⟩ := h
  rw [← h2.count 1 (by omega), ← h2.count 2 (by omega), ← h2.count 0 (by omega)]
  exact dcount_any tb N bb 3 n B (by omega) wx h1
theorem dep_commit (hn : n ≤ 99) (hk : k ≤ 9000) (hc : c ≤ 60) (h : DepS N tb bb n k c st blk wx) :
    Calls Tryz.prog 15 #[.pointer (some ⟨bb, 0, none⟩)] wx fun e wy => e = .returned .nilIface ∧ DepS N tb bb n (k + 1) 0 st blk wy ∧ Keeps N wx wy := by
  obtain ⟨B, h1, h2, h3, h4, h5⟩ := h
  refine (hcommit_any 103 tb N bb 3 n B k h4 (by omega) (by omega) wx h1).mono ?_
  rintro e wz ⟨rfl, hD, hkz⟩
  exact ⟨rfl, ⟨B.done, hD, h2.congr (fun i hi => BookS.done_view_lim h1.2.1.isOk h4 (by omega) i (by omega)), by rw [BookS.done_cnt]; exact Nat.le_refl _, h4.done (by omega), by rw [BookS.done_n, h5]⟩, hkz⟩
theorem dep_undo (hn : n ≤ 99) (h : DepS N tb bb n k 0 st blk wx) :
    Calls Tryz.prog 14 #[.pointer (some ⟨bb, 0, none⟩)] wx fun e wy => e = .returned (.tuple #[]) ∧ DepS N tb bb n k 0 st blk wy ∧ Keeps N wx wy := by
  obtain ⟨B, h1, h2, h3, h4, h5⟩ := h
  refine (hundo_any 103 tb N bb 3 n B wx h1).mono ?_
  rintro e wz ⟨rfl, hD, hkz⟩
  refine ⟨rfl, ⟨B.shut, hD, h2.congr (fun i hi => ?_), by rw [BookS.shut_cnt]; exact Nat.le_refl _, h4.shut, h5⟩, hkz⟩
  rw [BookS.shut_view, BookS.view_f, BookS.f_none h1.2.1.isOk (by omega)]
end
theorem freshB6_lim : freshB6.lim 0 := ⟨by show ([] : List (Nat × List Int)).length ≤ _; simp, by show (0 : Int) + 1 ≤ _; omega, by show (0 : Int) ≤ _; omega⟩
theorem dep_fresh (n : Nat) (hn : 1 ≤ n ∧ n ≤ 64) (N : Nat → Prop) (w : World) (hN : ∀ i, N i → i < w.heap.size) (blk : Nat → List Int) :
    Calls Tryz.prog 11 #[.int .i64 (n : Int)] w fun e w' => (∃ bb tb, e = .returned (.tuple #[.pointer (some ⟨bb, 0, none⟩), .pointer (some ⟨tb, 0, none⟩)]) ∧ DepS N tb bb n 0 0 (fun _ => 0) blk w') ∧ Keeps N w w' := by
  refine (fresh07_any n hn N w hN).mono ?_
  rintro e w' ⟨⟨bb, tb, rfl, hH⟩, hk⟩
  exact ⟨⟨bb, tb, rfl, ⟨freshB6, hH, DpI.start _ _ (fun i hi => freshB6_view i (by omega)) blk, by rw [freshB6_cnt]; exact Nat.le_refl _, freshB6_lim, freshB6_n⟩⟩, hk⟩
end Go.Proofs.YtjikpodghmfjcaaGreatDoor
set_option linter.unnecessarySimpa false
namespace Go.Proofs.YtjikpodghmfjcaaGreatDoor
open Go.RowKit Go.Maps
theorem page_neq_gd {ops : Array Oper} {rest : List Oper} {o : Oper} {a : Act} {w : World} {Q : Exit → Act → World → Prop} (hw : Region.wanted o (yielded ops a.tmps) = true) (x y : Operand) (t2 : TypeId) (ho : o.op = .binOp .neq 32 x y t2) (p q : List Int) (hx : a.eval x = .agg (v8a p)) (hy : a.eval y = .agg (v8a q)) (hp : p.length = 64) (hq : q.length = 64)
    (h : wpList Tryz.prog ops Q rest (a.put o.dst (.bool (decide (p ≠ q)))) w) : wpList Tryz.prog ops Q (o :: rest) a w := by
  refine wpList_step fun K hK => ?_
  rw [if_pos hw]
  unfold Oper.wp execOp
  simp only [ho, hx, hy, Sem.run_bind, run_eqGuard_agg w .neq _ x y (v8a p) (v8a q) guard_pg, pg_neq w p q hp hq, Result.andThen_ok]
  exact hK _ _ h
def pg2 (i : Nat) : List Int := (i : Int) :: 1 :: zer 62
theorem pg2_ok (i : Nat) (h : i < 256) : PgOk (pg2 i) := by
  refine ⟨by simp [pg2, zer], fun x hx => ?_⟩
  rcases List.mem_cons.1 hx with rfl | hx
  · omega
  · rcases List.mem_cons.1 hx with rfl | hx
    · decide
    · exact zer_u8 62 x hx
theorem built_pg2 (x : Int) : Tryz.prog.built 32 [(0, .int .u8 x), (1, .int .u8 1)] = some (v8a (x :: 1 :: zer 62)) := by kernel_rfl
theorem nodup_leD : ∀ (l m : List Nat), l.Nodup → (∀ x ∈ l, x ∈ m) → l.length ≤ m.length
  | [], m, _, _ => Nat.zero_le _
  | x :: l, m, hn, hs => by
    have hx : x ∈ m := hs x (by simp)
    have h1 := List.length_erase_of_mem hx
    have hp := List.length_pos_of_mem hx
    obtain ⟨hnx, hnl⟩ := List.nodup_cons.1 hn
    have ih := nodup_leD l (m.erase x) hnl (fun y hy => by
      have hyx : y ≠ x := fun e => hnx (e ▸ hy)
      exact (List.mem_erase_of_ne hyx).2 (hs y (by simp [hy])))
    simp only [List.length_cons]
    omega
theorem same_len : ∀ (l m : List Nat), l.Nodup → m.Nodup → (∀ x, x ∈ l ↔ x ∈ m) → l.length = m.length := fun l m h1 h2 h => Nat.le_antisymm (nodup_leD l m h1 (fun x hx => (h x).1 hx)) (nodup_leD m l h2 (fun x hx => (h x).2 hx))
/-- The slots of the first blocks. -/
structure FiL (n i : Nat) (st : Nat → Int) (blk : Nat → List Int) (ls : List Nat) : Prop where
  nd : ls.Nodup
  mem : ∀ s, s ∈ ls ↔ s < n * 4 ∧ st s = 1
  two : ∀ s, s < n * 4 → st s = 0 ∨ st s = 1
  pg : ∀ j (hj : j < ls.length), blk ls[j] = pg2 j
  len : ls.length = min i (n * 4)
theorem FiL.start (n : Nat) (blk : Nat → List Int) : FiL n 0 (fun _ => 0) blk [] :=
  ⟨List.nodup_nil, fun s => ⟨fun h => (by cases h), fun h => absurd h.2 (by decide)⟩, fun _ _ => .inl rfl, fun j hj => absurd hj (by simp), by simp⟩
theorem FiL.free {n i : Nat} {st : Nat → Int} {blk : Nat → List Int} {ls : List Nat} (h : FiL n i st blk ls) (hi : i < n * 4) : ∃ s, s < n * 4 ∧ st s = 0 := by
  apply Classical.byContradiction
  intro hn
  have hall : ∀ s ∈ List.range (n * 4), s ∈ ls := fun s hs => by
    have hs' := List.mem_range.1 hs
    rcases h.two s hs' with q | q
    · exact absurd ⟨s, hs', q⟩ hn
    · exact (h.mem s).2 ⟨hs', q⟩
  have := nodup_leD _ _ List.nodup_range hall
  rw [List.length_range, h.len] at this
  omega
theorem FiL.full {n i : Nat} {st : Nat → Int} {blk : Nat → List Int} {ls : List Nat} (h : FiL n i st blk ls) (hi : n * 4 ≤ i) : ∀ s, s < n * 4 → st s ≠ 0 := fun s hs h0 => by
  have hns : s ∉ ls := fun hm => by have := ((h.mem s).1 hm).2; omega
  have hall : ∀ x ∈ s :: ls, x ∈ List.range (n * 4) := fun x hx => by
    rcases List.mem_cons.1 hx with rfl | hx
    · exact List.mem_range.2 hs
    · exact List.mem_range.2 ((h.mem x).1 hx).1
  have := nodup_leD _ _ (List.nodup_cons.2 ⟨hns, h.nd⟩) hall
  rw [List.length_range, List.length_cons, h.len] at this
  omega
theorem FiL.step {n i : Nat} {st : Nat → Int} {blk : Nat → List Int} {ls : List Nat} (h : FiL n i st blk ls) (hi : i < n * 4) {s : Nat} (hs : s < n * 4) (h0 : st s = 0) :
    FiL n (i + 1) (fun t => if t = s then 1 else st t) (fun t => if t = s then pg2 i else blk t) (ls ++ [s]) := by
  have hns : s ∉ ls := fun hm => by have := ((h.mem s).1 hm).2; omega
  have hl : ls.length = i := by rw [h.len]; omega
  refine ⟨List.nodup_append.2 ⟨h.nd, by simp, fun a ha b hb e => hns (by rw [List.mem_singleton.1 hb] at e; rw [← e]; exact ha)⟩, fun x => ?_, fun x hx => ?_, fun j hj => ?_, by simp [h.len]; omega⟩
  · rw [List.mem_append, List.mem_singleton]
    by_cases e : x = s
    · simp [e, hs]
    · simp [e, h.mem x]
  · show (if x = s then (1 : Int) else st x) = 0 ∨ _
    by_cases e : x = s
    · simp [e]
    · simp only [e, if_false]; exact h.two x hx
  · rw [List.length_append, List.length_singleton] at hj
    by_cases ej : j < ls.length
    · rw [List.getElem_append_left ej]
      have hne : ls[j] ≠ s := fun e => hns (e ▸ List.getElem_mem ej)
      show (if ls[j] = s then pg2 i else blk ls[j]) = pg2 j
      rw [if_neg hne, h.pg j ej]
    · have e : j = ls.length := by omega
      subst e
      rw [List.getElem_append_right (Nat.le_refl _)]
      simp [hl]
theorem FiL.stay {n i : Nat} {st : Nat → Int} {blk : Nat → List Int} {ls : List Nat} (h : FiL n i st blk ls) (hi : n * 4 ≤ i) : FiL n (i + 1) st blk ls :=
  ⟨h.nd, h.mem, h.two, h.pg, by rw [h.len]; omega⟩
theorem dropT_live (st : Nat → Int) (k s : Nat) : dropT st k s = 1 ↔ s ≠ k ∧ st s = 1 := by
  unfold dropT
  by_cases hb : s / 4 = k / 4
  · rw [if_pos hb]
    by_cases ho : othB st k = true
    · rw [if_pos ho]
      by_cases e : s = k
      · rw [if_pos e]; exact ⟨fun h => absurd h (by decide), fun h => absurd e h.1⟩
      · rw [if_neg e]; exact ⟨fun h => ⟨e, h⟩, fun h => h.2⟩
    · rw [if_neg ho]
      refine ⟨fun h => absurd h (by decide), fun ⟨h1, h2⟩ => absurd ((othB_iff st k).2 ⟨s % 4, by omega, fun e => h1 (by omega), ?_⟩) ho⟩
      rw [show k / 4 * 4 + s % 4 = s by omega]; exact h2
  · rw [if_neg hb]
    exact ⟨fun h => ⟨fun e => hb (by rw [e]), h⟩, fun h => h.2⟩
/-- The live slots are those that are still to be dropped. -/
def DrL (n : Nat) (st : Nat → Int) (ls : List Nat) (j : Nat) : Prop := ∀ s, s < n * 4 → (st s = 1 ↔ s ∈ ls.drop j)
theorem DrL.step {n : Nat} {st : Nat → Int} {ls : List Nat} {j : Nat} (h : DrL n st ls j) (hnd : ls.Nodup) (hj : j < ls.length) : DrL n (dropT st ls[j]) ls (j + 1) := fun s hs => by
  have hd : ls.drop j = ls[j] :: ls.drop (j + 1) := (List.getElem_cons_drop hj).symm
  have hn : (ls.drop j).Nodup := hnd.sublist (List.drop_sublist _ _)
  rw [hd] at hn
  have hn2 := (List.nodup_cons.1 hn).1
  rw [dropT_live, h s hs, hd, List.mem_cons]
  constructor
  · rintro ⟨h1, h2 | h2⟩
    · exact absurd h2 h1
    · exact h2
  · intro h1
    exact ⟨fun e => hn2 (e ▸ h1), .inr h1⟩
theorem count_none (st : Nat → Int) (v : Int) (m : Nat) (h : ∀ s, s < m → st s ≠ v) : cntS st v m = 0 := by
  unfold cntS
  rw [List.length_eq_zero_iff, List.filter_eq_nil_iff]
  intro s hs h'
  exact h s (List.mem_range.1 hs) (of_decide_eq_true h')
theorem count_all (st : Nat → Int) (v : Int) (m : Nat) (h : ∀ s, s < m → st s = v) : cntS st v m = m := by
  unfold cntS
  rw [List.filter_eq_self.2 (fun s hs => decide_eq_true (h s (List.mem_range.1 hs))), List.length_range]
end Go.Proofs.YtjikpodghmfjcaaGreatDoor
set_option linter.unnecessarySimpa false
namespace Go.Proofs.YtjikpodghmfjcaaGreatDoor
open Go.RowKit Go.Maps
def NFi (w : World) (lv : Value) : Nat → Prop := fun q => q < w.heap.size ∨ lv.ownBlock = some q
def FiI (w : World) (tb bb n k c : Nat) (st : Nat → Int) (blk : Nat → List Int) (ls : List Nat) (lv : Value) (wx : World) : Prop :=
  DepS (NFi w lv) tb bb n k c st blk wx ∧ wx.ownsRow 0 3 1 lv ls.length (ls.map fun s : Nat => Value.int .i64 (s : Int)) ∧ Keeps (fun q => q < w.heap.size) w wx ∧ ∀ q, lv.ownBlock = some q → w.heap.size ≤ q
theorem FiI.below {w wx wy : World} {tb bb n k c : Nat} {st : Nat → Int} {blk : Nat → List Int} {ls : List Nat} {lv : Value} (h : FiI w tb bb n k c st blk ls lv wx) (hb : Below wx.heap.size wx wy) : FiI w tb bb n k c st blk ls lv wy :=
  ⟨h.1.below hb, own_below h.2.1 hb, h.2.2.1.trans (Keeps.of_below hb), h.2.2.2⟩
theorem FiI.turn {w wx wy : World} {tb bb n k c k' c' : Nat} {st st' : Nat → Int} {blk blk' : Nat → List Int} {ls : List Nat} {lv : Value} (h : FiI w tb bb n k c st blk ls lv wx) (hk : Keeps (NFi w lv) wx wy) (hd : DepS (NFi w lv) tb bb n k' c' st' blk' wy) : FiI w tb bb n k' c' st' blk' ls lv wy :=
  ⟨hd, hk.own h.2.1 (fun q hq => .inr hq), h.2.2.1.trans (hk.mono (fun q _ hq => .inl hq)), h.2.2.2⟩
theorem FiI.grew {w wx wy : World} {tb bb n k c : Nat} {st : Nat → Int} {blk : Nat → List Int} {ls ls' : List Nat} {lv lv' : Value} (h : FiI w tb bb n k c st blk ls lv wx) (hg : wx.grownBy wy lv.ownBlock)
    (ho : wy.ownsRow 0 3 1 lv' ls'.length (ls'.map fun s : Nat => Value.int .i64 (s : Int))) (hw : ∀ q, lv'.ownBlock = some q → lv.ownBlock = some q ∨ wx.heap.size ≤ q) : FiI w tb bb n k c st blk ls' lv' wy := by
  refine ⟨h.1.grow (Keeps.of_grown hg (fun q hq hn => hn (.inr hq))) (fun q hq => ?_), ho, h.2.2.1.trans (Keeps.of_grown hg (fun q hq => by have := h.2.2.2 q hq; omega)), fun q hq => ?_⟩
  · rcases hq with hq | hq
    · exact ⟨Nat.lt_of_lt_of_le (h.1.N_lt q (.inl hq)) hg.size, .inl (.inl hq)⟩
    · refine ⟨(ho.lt q hq).2, ?_⟩
      rcases hw q hq with h1 | h1
      · exact .inl (.inr h1)
      · exact .inr h1
  · rcases hw q hq with h1 | h1
    · exact h.2.2.2 q h1
    · have := h.2.2.1.size; omega
set_option maxRecDepth 100000 in
set_option maxHeartbeats 4000000 in
theorem dfills_any (boxes n : Int) (w : World) (hg : EtAt w) : Calls Tryz.prog 3 #[.int .i64 boxes, .int .i64 n] w fun e w' => e = .returned (.bool true) ∧ Below w.heap.size w w' := by
  have hST := stands07_any (fun k => k < w.heap.size) w (fun i h => h)
  have HET := Lib.hid hg
  obtain ⟨ip, hip, hpz0, hpz1, hpz2⟩ := info_parts info_int
  have HIP := Lib.hid (And.intro hip (And.intro hpz0 (And.intro hpz1 hpz2)))
  clear hg hip hpz0 hpz1 hpz2
  go_enter Tryz.func3, Tryz.ntmps3
  go_wp2_with fail
  refine hST.mono ?_
  clear hST
  rintro e w1 ⟨rfl, hk1⟩
  try dsimp only
  have hm1 := tmod_rng boxes 8 (by decide)
  have hm2 := tmod_rng n 40 (by decide)
  repeat ((fail_if_success (with_reducible refine stop_at 34 rfl ?_)); (first | go_values | go_skip | go_guarded | go_step | go_upon))
  obtain ⟨m, hm⟩ : ∃ m : Nat, boxes.tmod 8 % 8 + 1 = (m : Int) := ⟨(boxes.tmod 8 % 8 + 1).toNat, by omega⟩
  obtain ⟨t, ht⟩ : ∃ t : Nat, (n.tmod 40 + 40) % 40 = (t : Int) := ⟨((n.tmod 40 + 40) % 40).toNat, by omega⟩
  have hm8 : 1 ≤ m ∧ m ≤ 8 := by omega
  have ht40 : t < 40 := by omega
  have ht' : n.tmod 40 % 40 = (t : Int) := by omega
  rw [hm]
  try rw [ht]
  try rw [ht']
  generalize (boxes.tmod 8 + 8) % 8 = q3 at *
  generalize boxes.tmod 8 = q1 at *
  generalize n.tmod 40 = q2 at *
  clear hm1 hm2 hm ht ht'
  have hFR := dep_fresh m ⟨by omega, by omega⟩ (fun k => k < w.heap.size) w1 (fun i h => Nat.lt_of_lt_of_le h hk1.size) (fun _ => zer 64)
  have i1 : (1 : Int) ≤ m := by omega
  have i2 : (m : Int) ≤ 8 := by omega
  have i3 : (0 : Int) ≤ t := by omega
  have i4 : (t : Int) < 40 := by omega
  go_wp2_with fail
  refine hFR.mono ?_
  clear hFR
  rintro e w2 ⟨⟨bb, tb, rfl, hT⟩, hk2⟩
  have H2 : Hid (FiI w tb bb m 0 0 (fun _ => 0) (fun _ => zer 64) [] (.slice none 0 0) w2) := Lib.hid ⟨hT.keep (Below.refl _ _) (fun q hq => by
    rcases hq with hq | hq
    · exact ⟨Nat.lt_of_lt_of_le hq (hk1.trans hk2).size, .inl hq⟩
    · simp [Value.ownBlock] at hq), World.ownsRow_nil _ _ _ _, hk1.trans hk2, fun q hq => by simp [Value.ownBlock] at hq⟩
  clear hT hk1 hk2
  try dsimp only
  go_wp2_with fail
  go_loopw [7, 38] (fun lv iv wr => ∃ (i k : Nat) (st : Nat → Int) (blk : Nat → List Int) (ls : List Nat), iv = .int .i64 (i : Int) ∧ i ≤ t ∧ k ≤ i ∧ (∃ a c, lv = .slice a ls.length c) ∧ Hid (FiL m i st blk ls) ∧ Hid (FiI w tb bb m k 0 st blk ls lv wr)) (fun _ iv _ => 41 - (intOf iv).toNat)
  case atStart => exact ⟨0, 0, _, _, [], rfl, by omega, by omega, ⟨none, 0, rfl⟩, Lib.hid (FiL.start m _), H2⟩
  case round =>
    clear H2
    obtain ⟨i, k, st, blk, ls, rfl, hi, hki, ⟨a, c, rfl⟩, HL, H⟩ := hrel
    have hi0 : (0 : Int) ≤ i := by omega
    by_cases hit : i < t
    · have hi1 : (i : Int) < t := by omega
      have hi40 : (i : Int) < 40 := by omega
      have hls : ls.length ≤ 40 := by have := HL.out.len; omega
      have HPO : Hid (PgOk (pg2 i)) := Lib.hid (pg2_ok i (by omega))
      have hB2 : Tryz.prog.built 32 [(0, .int .u8 (i : Int)), (1, .int .u8 1)] = some (v8a (pg2 i)) := built_pg2 _
      have HB2 := Lib.hid hB2
      clear hB2
      by_cases him : i < m * 4
      · have hPut := dep_put (N := NFi w (.slice a ls.length c)) (by omega) (by decide) (pg2 i) HPO.out (HL.out.free him) H.out.1
        have hi4 : (i : Int) < 4 * (m : Int) := by omega
        go_wp2_with (refine wpList_build_to rfl 32 _ rfl (v8a (pg2 i)) (by simp only [List.map_toArray, List.map_cons, List.map_nil]; exact HB2.out) ?_)
        refine hPut.mono ?_
        clear hPut
        rintro e w3 ⟨⟨s, rfl, hms, hD⟩, hk3⟩
        have H3 : Hid (FiI w tb bb m k 2 (fun q => if q = s then 1 else st q) (fun q => if q = s then pg2 i else blk q) ls (.slice a ls.length c) w3) := Lib.hid (H.out.turn hk3 hD)
        have HL3 := Lib.hid (HL.out.step him hms.1 hms.2.1)
        clear hD hk3 H HL hms HB2 HPO
        generalize (fun q => if q = s then (1 : Int) else st q) = st' at H3 HL3
        generalize (fun q => if q = s then pg2 i else blk q) = blk' at H3 HL3
        try dsimp only
        repeat ((fail_if_success (with_reducible refine stop_at 72 rfl ?_)); (first | go_values | go_skip | go_guarded | go_step | go_upon))
        have hb4 : ∀ o : Obj, Below w3.heap.size w3 (w3.alloc o) := fun o => (Below.refl _ _).alloc (Nat.le_refl _) _
        refine gen_world (fun wx => Hid (SrcIs wx (.slice (some ⟨w3.heap.size, 0, none⟩) 1 1) 1 1 [.int .i64 (s : Int)] ∧ FiI w tb bb m k 2 st' blk' ls (.slice a ls.length c) wx)) (Lib.hid ⟨one_srcN w3 [.int .i64 (s : Int)] 3 1 rfl (by intro u hu; simp at hu; subst hu; rfl), H3.out.below (hb4 _)⟩) ?_
        clear hb4 H3
        generalize w3.heap.size = b71
        intro w4 H4
        refine wpList_append_at rfl (.tmp 69) (.tmp 71) 27 rfl 3 ip _ 1 8 Tryz.underlying27 HIP.out.1 HIP.out.2.1 HIP.out.2.2.1 HIP.out.2.2.2 rfl (by decide) (.slice a ls.length c) ls.length (ls.map fun s : Nat => Value.int .i64 (s : Int)) rfl H4.out.2.2.1 (.slice (some ⟨b71, 0, none⟩) 1 1) 1 [.int .i64 (s : Int)] rfl H4.out.1 (by unfold maxLen; omega) (by omega) ?_
        intro v5 w5 hown hgrow hwh
        obtain ⟨a5, c5, rfl⟩ := own_slice hown
        have H5 : Hid (FiI w tb bb m k 2 st' blk' (ls ++ [s]) (.slice a5 (ls.length + 1) c5) w5) := Lib.hid (H4.out.2.grew hgrow (by simpa using hown) hwh)
        clear hown hgrow hwh H4
        have hC := dep_commit (by omega) (by omega) (by decide) H5.out.1
        simp only [Act.put, List.setIfInBounds_toArray, List.set_cons_zero, List.set_cons_succ]
        go_wp2_with fail
        refine hC.mono ?_
        clear hC
        rintro e w6 ⟨rfl, hS6, hk6⟩
        have H6 : Hid (FiI w tb bb m (k + 1) 0 st' blk' (ls ++ [s]) (.slice a5 (ls.length + 1) c5) w6) := Lib.hid (H5.out.turn hk6 hS6)
        clear hS6 hk6 H5
        try dsimp only
        go_wp2_with fail
        have hll : (ls ++ [s]).length = ls.length + 1 := by simp
        exact ⟨⟨i + 1, k + 1, st', blk', ls ++ [s], by push_cast; rfl, by omega, by omega, ⟨a5, c5, by rw [hll]⟩, HL3, H6⟩, by simp [intOf]; omega⟩
      · have hFull := dep_full (N := NFi w (.slice a ls.length c)) (by omega) (pg2 i) HPO.out (HL.out.full (by omega)) H.out.1
        have hi4 : decide ((i : Int) < 4 * (m : Int)) = false := by rw [decide_eq_false_iff_not]; omega
        go_wp2_with (refine wpList_build_to rfl 32 _ rfl (v8a (pg2 i)) (by simp only [List.map_toArray, List.map_cons, List.map_nil]; exact HB2.out) ?_)
        refine hFull.mono ?_
        clear hFull
        rintro e w3 ⟨⟨te, xe, rfl, hev⟩, hb3⟩
        have H3 := Lib.hid (H.out.below hb3)
        have HL3 := Lib.hid (HL.out.stay (by omega))
        have hET := HET.out.keeps H3.out.2.2.1 HET.out.pos
        have hNU := num07_err (.iface te xe) 20 w3 hev hET
        clear hb3 H HL hev hET HB2 HPO
        try dsimp only
        go_wp2_with fail
        refine hNU.mono ?_
        clear hNU
        rintro e w4 ⟨rfl, hb4⟩
        have H4 := Lib.hid (H3.out.below hb4)
        clear hb4 H3
        have hU := dep_undo (by omega) H4.out.1
        try dsimp only
        go_wp2_with fail
        refine hU.mono ?_
        clear hU
        rintro e w5 ⟨rfl, hS5, hk5⟩
        have H5 : Hid (FiI w tb bb m k 0 st blk ls (.slice a ls.length c) w5) := Lib.hid (H4.out.turn hk5 hS5)
        clear hS5 hk5 H4
        try dsimp only
        go_wp2_with fail
        exact ⟨⟨i + 1, k, st, blk, ls, by push_cast; rfl, by omega, by omega, ⟨a, c, rfl⟩, HL3, H5⟩, by simp [intOf]; omega⟩
    · have hi1 : ¬ ((i : Int) < t) := by omega
      have HF : Hid (∃ i, FiL m i st blk ls) := Lib.hid ⟨i, HL.out⟩
      have hls : ls.length ≤ 32 := by have := HL.out.len; omega
      clear hi hit hki
      have hl0 : (0 : Int) ≤ ls.length := by omega
      have hl32 : (ls.length : Int) ≤ 32 := by omega
      go_wp2_with fail
      go_loopw [79] (fun jv wr => ∃ j : Nat, jv = .int .i64 (j : Int) ∧ j ≤ ls.length ∧ Hid (FiI w tb bb m k 0 st blk ls (.slice a ls.length c) wr)) (fun jv _ => 41 - (intOf jv).toNat)
      case atStart => exact ⟨0, rfl, by omega, H⟩
      case round =>
        clear H
        obtain ⟨j, rfl, hj, H⟩ := hrel
        have hj0 : (0 : Int) ≤ j := by omega
        by_cases hjt : j < ls.length
        · have hj1 : (j : Int) < ls.length := by omega
          have hj40 : (j : Int) < 40 := by omega
          obtain ⟨g, rfl⟩ : ∃ g, a = some ⟨g, 0, none⟩ := by
            rcases H.out.2.1.2 with ⟨hv, hn⟩ | ⟨g, c', cur, hv, _⟩
            · omega
            · simp only [Value.slice.injEq] at hv; exact ⟨g, hv.1⟩
          have zc : wr.cell? ⟨g, j, none⟩ = some (.int .i64 ((ls[j] : Nat) : Int)) := by
            have h := World.ownsRow.cells H.out.2.1 (g := g) rfl j (.int .i64 ((ls[j] : Nat) : Int)) (by rw [List.getElem?_map, List.getElem?_eq_getElem hjt]; rfl)
            have ea : (⟨g, 0, none⟩ : Addr).add j = ⟨g, j, none⟩ := by unfold Addr.add; split <;> simp_all
            rw [ea] at h; exact h
          have hmem : ls[j] < m * 4 ∧ st ls[j] = 1 := by
            obtain ⟨i, hL⟩ := HF.out
            exact (hL.mem _).1 (List.getElem_mem hjt)
          have hblk : blk ls[j] = pg2 j := by
            obtain ⟨i, hL⟩ := HF.out
            exact hL.pg j hjt
          have hGet := dep_get (by omega) hmem.1 hmem.2 H.out.1
          rw [hblk] at hGet
          generalize ls[j] = s at zc hGet
          have HPO : Hid (PgOk (pg2 j)) := Lib.hid (pg2_ok j (by omega))
          have hp64 := HPO.out.1
          have HB2 : Hid (Tryz.prog.built 32 [(0, .int .u8 (j : Int)), (1, .int .u8 1)] = some (v8a (pg2 j))) := Lib.hid (built_pg2 _)
          have hdn : decide (pg2 j ≠ pg2 j) = false := by simp
          clear hmem hblk
          generalize pg2 j = pj at hGet HPO hp64 HB2 hdn
          go_wp2_with fail
          refine hGet.mono ?_
          clear hGet
          rintro e w3 ⟨rfl, hb3⟩
          have H3 := Lib.hid (H.out.below hb3)
          clear hb3 H zc
          try dsimp only
          repeat ((fail_if_success (with_reducible refine stop_at 90 rfl ?_)); (first | (refine page_store rfl (.tmp 13) (.tmp 88) rfl w3.heap.size pj (zer 64) rfl rfl (heap_alloc_new w3 _) hp64 rfl ?_) | go_values | go_skip | go_guarded | go_step | go_upon))
          have hbx : ∀ o : Obj, Below w3.heap.size w3 ((w3.alloc o).setRow w3.heap.size (v8a pj)) := fun o => below_setRow ((Below.refl _ _).alloc (Nat.le_refl _) _) (Nat.le_refl _) _
          refine gen_world (fun wx => Hid (wx.heap[w3.heap.size]? = some (.cells (v8a pj) 32) ∧ FiI w tb bb m k 0 st blk ls (.slice (some ⟨g, 0, none⟩) ls.length c) wx)) (Lib.hid ⟨setRow_heap _ _ _ _ _ (0, 0) (heap_alloc_new w3 _), H3.out.below (hbx _)⟩) ?_
          clear hbx H3
          generalize w3.heap.size = b13
          intro w4 H4
          go_wp2_with (first | (refine page_neq_gd rfl (.tmp 93) (.tmp 96) _ rfl pj pj rfl rfl hp64 hp64 ?_; rw [hdn]) | (refine page_load_g rfl (.tmp 13) rfl b13 pj rfl H4.out.1 hp64 ?_) | (refine build_g1 rfl 32 _ rfl (v8a pj) (by simp only [List.map_toArray, List.map_cons, List.map_nil]; exact HB2.out) ?_))
          exact ⟨⟨j + 1, by push_cast; rfl, by omega, Lib.hid H4.out.2⟩, by simp [intOf]; omega⟩
        · have hj1 : ¬ ((j : Int) < ls.length) := by omega
          have HND : Hid (ls.Nodup) := Lib.hid (by obtain ⟨i, hL⟩ := HF.out; exact hL.nd)
          have HLT : Hid (∀ s ∈ ls, s < m * 4) := Lib.hid (fun s hs => by obtain ⟨i, hL⟩ := HF.out; exact ((hL.mem s).1 hs).1)
          have HD0 : Hid (DrL m st ls 0) := Lib.hid (fun s hs => by obtain ⟨i, hL⟩ := HF.out; rw [List.drop_zero, hL.mem s]; exact ⟨fun h => ⟨hs, h⟩, fun h => h.2⟩)
          clear HF hj hjt
          go_wp2_with fail
          go_loopw [102] (fun jv wr => ∃ (j : Nat) (st' : Nat → Int), jv = .int .i64 (j : Int) ∧ j ≤ ls.length ∧ Hid (DrL m st' ls j) ∧ Hid (FiI w tb bb m k j st' blk ls (.slice a ls.length c) wr)) (fun jv _ => 41 - (intOf jv).toNat)
          case atStart => exact ⟨0, st, rfl, by omega, HD0, H⟩
          case round =>
            clear H HD0
            obtain ⟨j, st', rfl, hj, HD, H⟩ := hrel
            have hj0 : (0 : Int) ≤ j := by omega
            by_cases hjt : j < ls.length
            · have hj1 : (j : Int) < ls.length := by omega
              obtain ⟨g, rfl⟩ : ∃ g, a = some ⟨g, 0, none⟩ := by
                rcases H.out.2.1.2 with ⟨hv, hn⟩ | ⟨g, c', cur, hv, _⟩
                · omega
                · simp only [Value.slice.injEq] at hv; exact ⟨g, hv.1⟩
              have zc : wr.cell? ⟨g, j, none⟩ = some (.int .i64 ((ls[j] : Nat) : Int)) := by
                have h := World.ownsRow.cells H.out.2.1 (g := g) rfl j (.int .i64 ((ls[j] : Nat) : Int)) (by rw [List.getElem?_map, List.getElem?_eq_getElem hjt]; rfl)
                have ea : (⟨g, 0, none⟩ : Addr).add j = ⟨g, j, none⟩ := by unfold Addr.add; split <;> simp_all
                rw [ea] at h; exact h
              have hs4 := HLT.out _ (List.getElem_mem hjt)
              have hl1 : st' ls[j] = 1 := (HD.out _ hs4).2 (by rw [← List.getElem_cons_drop hjt]; exact List.mem_cons_self)
              have hDrop := dep_drop (by omega) (by omega) hs4 hl1 H.out.1
              have HD2 := Lib.hid (HD.out.step HND.out hjt)
              generalize ls[j] = s at zc hDrop HD2
              clear hs4 hl1
              go_wp2_with fail
              refine hDrop.mono ?_
              clear hDrop
              rintro e w3 ⟨rfl, hS3, hk3⟩
              have H3 : Hid (FiI w tb bb m k (j + 1) (dropT st' s) blk ls (.slice (some ⟨g, 0, none⟩) ls.length c) w3) := Lib.hid (H.out.turn hk3 hS3)
              clear hS3 hk3 H zc
              try dsimp only
              go_wp2_with fail
              exact ⟨⟨j + 1, dropT st' s, by push_cast; rfl, by omega, HD2, H3⟩, by simp [intOf]; omega⟩
            · have hj1 : ¬ ((j : Int) < ls.length) := by omega
              have hCnt := dep_count (by omega) H.out.1
              have hno : ∀ s, s < m * 4 → st' s ≠ 1 := fun s hs h1 => by
                have := (HD.out s hs).1 h1
                rw [List.drop_eq_nil_of_le (by omega)] at this
                cases this
              have hz : ∀ s, s < m * 4 → st' s = 0 := fun s hs => by
                rcases H.out.1.rng s hs with q | q | q
                · exact q
                · exact absurd q (hno s hs)
                · obtain ⟨t', h1, h2⟩ := H.out.1.live s hs q
                  exact absurd h2 (hno t' (by omega))
              rw [count_none st' 1 _ hno, count_none st' 2 _ (fun s hs h => by have := hz s hs; omega), count_all st' 0 _ hz, show ((m * 4 : Nat) : Int) = 4 * (m : Int) by push_cast; omega] at hCnt
              clear hno hz
              go_wp2_with fail
              refine hCnt.mono ?_
              clear hCnt
              rintro e w3 ⟨rfl, hb3⟩
              have hbw : Below w.heap.size w w3 := (H.out.2.2.1.below (Nat.le_refl _) (fun i hi => hi)).trans (hb3.mono H.out.2.2.1.size)
              try dsimp only
              go_wp2_with fail
              go_ret
              exact ⟨rfl, hbw⟩
end Go.Proofs.YtjikpodghmfjcaaGreatDoor
