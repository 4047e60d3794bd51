/- A depot at whatever place of a book: plain. The states of slots behind a put, and behind a drop; which slot is taken. -/
import Derived.Test.YtajmcplanlibnaaGreatDoorKM20
set_option linter.unusedSimpArgs false
set_option linter.unusedVariables false
set_option linter.unnecessarySimpa false
namespace Go.Proofs.YtajmcplanlibnaaGreatDoor
open Go.RowKit Go.Maps
variable {fs : Nat}
theorem tmod_rng (n m : Int) (hm : 0 < m) : -m < n.tmod m ∧ n.tmod m < m := by
  rcases Int.le_total 0 n with h | h
  · rw [Int.tmod_eq_emod_of_nonneg h]
    have h1 := Int.emod_nonneg n (show m ≠ 0 by omega)
    have h2 := Int.emod_lt_of_pos n hm
    omega
  · have e : n.tmod m = -((-n).tmod m) := by rw [Int.neg_tmod]; simp
    rw [e, Int.tmod_eq_emod_of_nonneg (show 0 ≤ -n by omega)]
    have h1 := Int.emod_nonneg (-n) (show m ≠ 0 by omega)
    have h2 := Int.emod_lt_of_pos (-n) hm
    omega
/-- The state of a slot; its page. -/
def stD (fs : Nat) (B : BookS) (s : Nat) : Int := (B.view (fs + s / 4 * 5)).getD (s % 4) 0
def pgS (fs : Nat) (s : Nat) : Nat := fs + s / 4 * 5 + 1 + s % 4
theorem four {g : List Int} (h : g.length = 64) : ∃ a b c d t, g = a :: b :: c :: d :: t ∧ t.length = 60 := by
  match g, h with
  | a :: b :: c :: d :: t, h => exact ⟨a, b, c, d, t, rfl, by simpa using h⟩
theorem dead_iff {g : List Int} (h : g.length = 64) : deadF g = true ↔ ∀ j, j < 4 → g.getD j 0 ≠ 1 := by
  obtain ⟨a, b, c, d, t, rfl, _⟩ := four h
  simp only [deadF, List.take_succ_cons, List.take_zero, List.all_cons, List.all_nil, Bool.and_true, Bool.and_eq_true, decide_eq_true_eq]
  constructor
  · rintro ⟨h0, h1, h2, h3⟩ j hj
    rcases (show j = 0 ∨ j = 1 ∨ j = 2 ∨ j = 3 by omega) with rfl | rfl | rfl | rfl <;> simpa
  · intro h
    exact ⟨by simpa using h 0 (by omega), by simpa using h 1 (by omega), by simpa using h 2 (by omega), by simpa using h 3 (by omega)⟩
theorem set_at (h : List Int) (j : Nat) (s : Int) (i : Nat) (hj : j < h.length) : (h.set j s).getD i 0 = if i = j then s else h.getD i 0 := by
  by_cases e : i = j
  · subst e
    simp [List.getD, List.getElem?_set_self hj]
  · rw [if_neg e]
    simp [List.getD, List.getElem?_set_ne (fun e' => e e'.symm)]
theorem setDF_length {h : List Int} (hl : h.length = 64) (j : Nat) (s : Int) : (setDF h j s).length = 64 := by
  unfold setDF
  split <;> simp [hl]
/-- A slot is taken. -/
theorem setDF_one {h : List Int} (hl : h.length = 64) (j : Nat) (hj : j < 4) (i : Nat) : (setDF h j 1).getD i 0 = if i = j then 1 else h.getD i 0 := by
  have hd : ¬ deadF (h.set j 1) = true := fun hd => by
    have := (dead_iff (by simp [hl])).1 hd j hj
    rw [set_at _ _ _ _ (by omega), if_pos rfl] at this
    exact this rfl
  unfold setDF
  rw [if_neg hd, set_at _ _ _ _ (by omega)]
/-- A block is dropped. -/
theorem setDF_two {h : List Int} (hl : h.length = 64) (j : Nat) (hj : j < 4) (hst : ∀ i, i < 4 → h.getD i 0 = 0 ∨ h.getD i 0 = 1 ∨ h.getD i 0 = 2) (i : Nat) (hi : i < 4) :
    ((setDF h j 2).getD i 0 = 0 ∨ (setDF h j 2).getD i 0 = 1 ∨ (setDF h j 2).getD i 0 = 2) ∧ ((setDF h j 2).getD i 0 = 1 ↔ i ≠ j ∧ h.getD i 0 = 1) := by
  have hs : ∀ i, (h.set j 2).getD i 0 = if i = j then 2 else h.getD i 0 := fun i => set_at _ _ _ _ (by omega)
  unfold setDF
  by_cases hd : deadF (h.set j 2) = true
  · rw [if_pos hd]
    have h0 : (List.replicate 4 (0 : Int) ++ (h.set j 2).drop 4).getD i 0 = 0 := by
      rcases (show i = 0 ∨ i = 1 ∨ i = 2 ∨ i = 3 by omega) with rfl | rfl | rfl | rfl <;> rfl
    rw [h0]
    refine ⟨.inl rfl, ⟨fun h => by omega, fun ⟨h1, h2⟩ => ?_⟩⟩
    have := (dead_iff (by simp [hl])).1 hd i hi
    rw [hs, if_neg h1] at this
    exact absurd h2 this
  · rw [if_neg hd, hs]
    by_cases e : i = j
    · rw [if_pos e]; exact ⟨by omega, ⟨fun h => by omega, fun h => absurd e h.1⟩⟩
    · rw [if_neg e]; exact ⟨hst i hi, ⟨fun h => ⟨e, h⟩, fun h => h.2⟩⟩
theorem pgS_inj {s t : Nat} (h : pgS fs s = pgS fs t) : s = t := by unfold pgS at h; omega
/-- Behind a put. -/
noncomputable def putB (fs : Nat) (B : BookS) (k : Nat) (p : List Int) : BookS := (B.wrote (fs + k / 4 * 5) (setDF (B.view (fs + k / 4 * 5)) (k % 4) 1)).wrote (fs + k / 4 * 5 + 1 + k % 4) p
noncomputable def dropB (fs : Nat) (B : BookS) (k : Nat) : BookS := B.wrote (fs + k / 4 * 5) (setDF (B.view (fs + k / 4 * 5)) (k % 4) 2)
theorem putB_head (B : BookS) (k : Nat) (p : List Int) (b : Nat) : (putB fs B k p).view (fs + b * 5) = if b = k / 4 then setDF (B.view (fs + k / 4 * 5)) (k % 4) 1 else B.view (fs + b * 5) := by
  unfold putB
  rw [BookS.wrote_view, if_neg (by omega), BookS.wrote_view]
  by_cases h : b = k / 4
  · rw [if_pos (by omega), if_pos h]
  · rw [if_neg (by omega), if_neg h]
theorem putB_page (B : BookS) (k : Nat) (p : List Int) (s : Nat) : (putB fs B k p).view (pgS fs s) = if s = k then p else B.view (pgS fs s) := by
  unfold putB
  rw [BookS.wrote_view]
  by_cases h : s = k
  · rw [if_pos (show pgS fs s = fs + k / 4 * 5 + 1 + k % 4 by rw [h]; rfl), if_pos h]
  · rw [if_neg (show ¬ pgS fs s = fs + k / 4 * 5 + 1 + k % 4 from fun e => h (pgS_inj e)), if_neg h, BookS.wrote_view, if_neg (by unfold pgS; omega)]
theorem putB_st {B : BookS} {k : Nat} (hl : (B.view (fs + k / 4 * 5)).length = 64) (p : List Int) (s : Nat) : stD fs (putB fs B k p) s = if s = k then 1 else stD fs B s := by
  unfold stD
  rw [putB_head]
  by_cases h : s / 4 = k / 4
  · rw [if_pos h, setDF_one hl _ (by omega), h]
    by_cases e : s = k
    · rw [if_pos (by omega), if_pos e]
    · rw [if_neg (by omega), if_neg e]
  · rw [if_neg h, if_neg (fun e => h (by rw [e]))]
theorem putB_n (B : BookS) (k : Nat) (p : List Int) : (putB fs B k p).n = B.n := by unfold putB; rw [BookS.wrote_n, BookS.wrote_n]
theorem dropB_n (B : BookS) (k : Nat) : (dropB fs B k).n = B.n := by unfold dropB; rw [BookS.wrote_n]
theorem dropB_head (B : BookS) (k : Nat) (b : Nat) : (dropB fs B k).view (fs + b * 5) = if b = k / 4 then setDF (B.view (fs + k / 4 * 5)) (k % 4) 2 else B.view (fs + b * 5) := by
  unfold dropB
  rw [BookS.wrote_view]
  by_cases h : b = k / 4
  · rw [if_pos (by omega), if_pos h]
  · rw [if_neg (by omega), if_neg h]
theorem dropB_page (B : BookS) (k : Nat) (s : Nat) : (dropB fs B k).view (pgS fs s) = B.view (pgS fs s) := by
  unfold dropB
  rw [BookS.wrote_view, if_neg (by unfold pgS; omega)]
theorem frR_spec (h : List Int) : ∀ (r t : Nat), frR h r = some t → t < 4 ∧ h.getD t 0 = 0
  | 0, t, e => by cases e
  | r + 1, t, e => by
    unfold frR at e
    split at e
    · rename_i h0
      simp only [Option.some.injEq] at e
      subst e
      exact ⟨by omega, h0⟩
    · exact frR_spec h r t e
/-- The slot that is taken is free, and in another container. -/
theorem best_spec (B : BookS) (but : Int) : ∀ (n k : Nat), (bestF B fs but n).1 = (k : Int) → k < n * 4 ∧ stD fs B k = 0 ∧ ((k / 4 : Nat) : Int) ≠ but
  | 0, k, e => by
    exfalso
    have : (-1 : Int) = k := e
    omega
  | b + 1, k, e => by
    unfold bestF at e
    split at e
    · rename_i hc
      obtain ⟨h1, h2, _⟩ := hc
      cases hf : frR (B.view (fs + b * 5)) 4 with
      | none => rw [hf] at h2; exact absurd (show (0 : Int) ≤ -1 from h2) (by decide)
      | some t =>
        rw [hf] at e
        have e' : ((b * 4 + t : Nat) : Int) = k := e
        obtain ⟨t4, t0⟩ := frR_spec _ _ _ hf
        obtain rfl : k = b * 4 + t := by omega
        refine ⟨by omega, ?_, ?_⟩
        · unfold stD
          rw [show (b * 4 + t) / 4 = b by omega, show (b * 4 + t) % 4 = t by omega]
          exact t0
        · rw [show (b * 4 + t) / 4 = b by omega]; exact h1
    · have ih := best_spec B but b k e
      exact ⟨by omega, ih.2⟩
theorem frR_none (h : List Int) : ∀ r, r ≤ 4 → frR h r = none → ∀ t, 4 - r ≤ t → t < 4 → h.getD t 0 ≠ 0
  | 0, _, _, t, a, b => by omega
  | r + 1, hr, e, t, a, b => by
    unfold frR at e
    split at e
    · cases e
    · rename_i h0
      by_cases et : t = 3 - r
      · rw [et]; exact h0
      · exact frR_none h r (by omega) e t (by omega) b
theorem smR_iff (h : List Int) : ∀ r, r ≤ 4 → (smR h r = true ↔ ∃ t, 4 - r ≤ t ∧ t < 4 ∧ h.getD t 0 ≠ 0)
  | 0, _ => ⟨fun h => (by cases h), fun ⟨t, a, b, _⟩ => (by omega)⟩
  | r + 1, hr => by
    have ih := smR_iff h r (by omega)
    unfold smR
    rw [Bool.or_eq_true, ih, decide_eq_true_eq]
    constructor
    · rintro (⟨t, a, b, c⟩ | h1)
      · exact ⟨t, by omega, b, c⟩
      · exact ⟨3 - r, by omega, by omega, h1⟩
    · rintro ⟨t, a, b, c⟩
      by_cases et : t = 3 - r
      · right; rw [← et]; exact c
      · left; exact ⟨t, by omega, b, c⟩
theorem stD_box (B : BookS) (b t : Nat) (ht : t < 4) : stD fs B (b * 4 + t) = (B.view (fs + b * 5)).getD t 0 := by
  unfold stD
  rw [show (b * 4 + t) / 4 = b by omega, show (b * 4 + t) % 4 = t by omega]
/-- Where no slot is taken none is free, but of the container that is barred. -/
theorem best_none (B : BookS) (but : Int) : ∀ n, (bestF B fs but n).1 < 0 → ∀ s, s < n * 4 → stD fs B s = 0 → ((s / 4 : Nat) : Int) = but
  | 0, _, s, hs, _ => by omega
  | b + 1, e, s, hs, h0 => by
    unfold bestF at e
    split at e
    · rename_i hc
      exact absurd hc.2.1 (by show ¬ 0 ≤ _; omega)
    · rename_i hc
      have ih := best_none B but b e
      by_cases hb : s / 4 = b
      · apply Classical.byContradiction
        intro hne
        refine hc ⟨by rw [← hb]; exact hne, ?_, .inl e⟩
        cases hf : frR (B.view (fs + b * 5)) 4 with
        | none =>
          have := frR_none _ 4 (by decide) hf (s % 4) (by omega) (by omega)
          rw [← stD_box B b (s % 4) (by omega), show b * 4 + s % 4 = s by omega] at this
          exact absurd h0 this
        | some t => show (0 : Int) ≤ ((b * 4 + t : Nat) : Int); omega
      · exact ih s (by omega) h0
/-- A container that is begun is taken first. -/
theorem best_begun (B : BookS) (but : Int) : ∀ n k, (bestF B fs but n).1 = ((k : Nat) : Int) → ((bestF B fs but n).2 = true ↔ ∃ t, t < 4 ∧ stD fs B (k / 4 * 4 + t) ≠ 0) ∧
    ((bestF B fs but n).2 = false → ∀ b, b < n → (b : Int) ≠ but → (∃ t, t < 4 ∧ stD fs B (b * 4 + t) = 0) → ∀ t, t < 4 → stD fs B (b * 4 + t) = 0)
  | 0, k, e => by
    exfalso
    have : (-1 : Int) = k := e
    omega
  | b + 1, k, e => by
    have sm : ∀ b, smR (B.view (fs + b * 5)) 4 = true ↔ ∃ t, t < 4 ∧ stD fs B (b * 4 + t) ≠ 0 := fun b => by
      rw [smR_iff _ 4 (by decide)]
      constructor
      · rintro ⟨t, _, a, c⟩; exact ⟨t, a, by rw [stD_box B b t a]; exact c⟩
      · rintro ⟨t, a, c⟩; exact ⟨t, by omega, a, by rw [← stD_box B b t a]; exact c⟩
    have fre : ∀ b, (∃ t, t < 4 ∧ stD fs B (b * 4 + t) = 0) → 0 ≤ atV b (frR (B.view (fs + b * 5)) 4) := fun b ⟨t, ht, h0⟩ => by
      cases hf : frR (B.view (fs + b * 5)) 4 with
      | none =>
        have := frR_none _ 4 (by decide) hf t (by omega) ht
        rw [← stD_box B b t ht] at this
        exact absurd h0 this
      | some t => show (0 : Int) ≤ ((b * 4 + t : Nat) : Int); omega
    unfold bestF at e ⊢
    split at e
    · rename_i hc
      rw [if_pos hc]
      obtain ⟨h1, h2, h3⟩ := hc
      cases hf : frR (B.view (fs + b * 5)) 4 with
      | none => rw [hf] at h2; exact absurd (show (0 : Int) ≤ -1 from h2) (by decide)
      | some t =>
        rw [hf] at e
        have e' : ((b * 4 + t : Nat) : Int) = k := e
        obtain ⟨t4, t0⟩ := frR_spec _ _ _ hf
        obtain rfl : k = b * 4 + t := by omega
        rw [show (b * 4 + t) / 4 = b by omega]
        refine ⟨sm b, fun hs b' hb' hne hfr => ?_⟩
        have hs' : smR (B.view (fs + b * 5)) 4 = false := hs
        by_cases eb : b' = b
        · subst eb
          intro t' ht'
          apply Classical.byContradiction
          intro hn
          have := (sm b').2 ⟨t', ht', hn⟩
          rw [hs'] at this; cases this
        · rcases h3 with h3 | h3
          · obtain ⟨t', ht', h0⟩ := hfr
            have := best_none B but b h3 (b' * 4 + t') (by omega) h0
            rw [show (b' * 4 + t') / 4 = b' by omega] at this
            exact absurd this hne
          · rw [hs'] at h3; cases h3.1
    · rename_i hc
      rw [if_neg hc]
      have ih := best_begun B but b k e
      refine ⟨ih.1, fun hs b' hb' hne hfr => ?_⟩
      by_cases eb : b' = b
      · subst eb
        intro t' ht'
        apply Classical.byContradiction
        intro hn
        exact hc ⟨hne, fre b' hfr, .inr ⟨(sm b').2 ⟨t', ht', hn⟩, hs⟩⟩
      · exact ih.2 hs b' (by omega) hne hfr
/-- Has the container of a slot another one that is live? -/
def othB (st : Nat → Int) (k : Nat) : Bool := (List.range 4).any fun t => decide (t ≠ k % 4) && decide (st (k / 4 * 4 + t) = 1)
theorem othB_iff (st : Nat → Int) (k : Nat) : othB st k = true ↔ ∃ t, t < 4 ∧ t ≠ k % 4 ∧ st (k / 4 * 4 + t) = 1 := by
  unfold othB
  rw [List.any_eq_true]
  constructor
  · rintro ⟨t, ht, h⟩
    rw [Bool.and_eq_true, decide_eq_true_eq, decide_eq_true_eq] at h
    exact ⟨t, List.mem_range.1 ht, h.1, h.2⟩
  · rintro ⟨t, ht, h1, h2⟩
    exact ⟨t, List.mem_range.2 ht, by rw [Bool.and_eq_true, decide_eq_true_eq, decide_eq_true_eq]; exact ⟨h1, h2⟩⟩
/-- The states behind a drop. -/
def dropT (st : Nat → Int) (k : Nat) : Nat → Int := fun s => if s / 4 = k / 4 then (if othB st k = true then (if s = k then 2 else st s) else 0) else st s
theorem dropT_one {st : Nat → Int} {k s : Nat} (h : dropT st k s = 1) : st s = 1 := by
  unfold dropT at h
  split at h
  · split at h
    · split at h
      · omega
      · exact h
    · omega
  · exact h
theorem dropB_st {B : BookS} {k : Nat} (hl : (B.view (fs + k / 4 * 5)).length = 64) (st : Nat → Int) (hst : ∀ t, t < 4 → stD fs B (k / 4 * 4 + t) = st (k / 4 * 4 + t)) (s : Nat) (hs : s / 4 ≠ k / 4 → stD fs B s = st s) : stD fs (dropB fs B k) s = dropT st k s := by
  have e : stD fs (dropB fs B k) s = if s / 4 = k / 4 then (setDF (B.view (fs + k / 4 * 5)) (k % 4) 2).getD (s % 4) 0 else stD fs B s := by
    unfold stD
    rw [dropB_head]
    split <;> rfl
  rw [e]
  unfold dropT
  by_cases h : s / 4 = k / 4
  · rw [if_pos h, if_pos h]
    have hb : ∀ t, t < 4 → (B.view (fs + k / 4 * 5)).getD t 0 = st (k / 4 * 4 + t) := fun t ht => by rw [← stD_box B _ t ht, hst t ht]
    have hs2 : ∀ i, ((B.view (fs + k / 4 * 5)).set (k % 4) 2).getD i 0 = if i = k % 4 then 2 else (B.view (fs + k / 4 * 5)).getD i 0 := fun i => set_at _ _ _ _ (by omega)
    have hd : deadF ((B.view (fs + k / 4 * 5)).set (k % 4) 2) = true ↔ ¬ othB st k = true := by
      rw [dead_iff (by simp [hl]), othB_iff]
      constructor
      · rintro hd ⟨t, ht, h1, h2⟩
        have := hd t ht
        rw [hs2, if_neg h1, hb t ht] at this
        exact this h2
      · intro hn t ht
        rw [hs2]
        by_cases et : t = k % 4
        · rw [if_pos et]; decide
        · rw [if_neg et, hb t ht]; exact fun h2 => hn ⟨t, ht, et, h2⟩
    unfold setDF
    by_cases ho : othB st k = true
    · rw [if_neg (fun h => (hd.1 h) ho), if_pos ho, hs2]
      by_cases es : s = k
      · rw [if_pos (by rw [es]), if_pos es]
      · rw [if_neg (by omega), if_neg es, hb _ (by omega), show k / 4 * 4 + s % 4 = s by omega]
    · rw [if_pos (hd.2 ho), if_neg ho]
      rcases (show s % 4 = 0 ∨ s % 4 = 1 ∨ s % 4 = 2 ∨ s % 4 = 3 by omega) with q | q | q | q <;> rw [q] <;> rfl
  · rw [if_neg h, if_neg h]; exact hs h
theorem cntD_states (B : BookS) (v : Int) : ∀ n, cntD B fs v n = ((List.range n).filter fun s => decide (stD fs B s % 3 = v)).length
  | 0 => rfl
  | n + 1 => by
    rw [cntD, cntD_states B v n, List.range_succ, List.filter_append, List.length_append]
    show _ + (if stD fs B n % 3 = v then 1 else 0) = _
    by_cases h : stD fs B n % 3 = v
    · rw [if_pos h]; simp [h]
    · rw [if_neg h]; simp [h]
/-- A depot on a new book: the states of its slots, the blocks of those that are live. -/
structure DpI (fs : Nat) (B : BookS) (n : Nat) (st : Nat → Int) (blk : Nat → List Int) : Prop where
  hst : ∀ s, s < n * 4 → stD fs B s = st s
  pg : ∀ s, s < n * 4 → st s = 1 → B.view (pgS fs s) = blk s
  rng : ∀ s, s < n * 4 → st s = 0 ∨ st s = 1 ∨ st s = 2
  live : ∀ s, s < n * 4 → st s = 2 → ∃ t, t / 4 = s / 4 ∧ st t = 1
theorem DpI.put {B : BookS} {n : Nat} {st : Nat → Int} {blk : Nat → List Int} (h : DpI fs B n st blk) (hok : B.ok) (hn : fs + n * 5 ≤ B.n) {k : Nat} (hk : k < n * 4) (p : List Int) :
    DpI fs (putB fs B k p) n (fun s => if s = k then 1 else st s) (fun s => if s = k then p else blk s) := by
  have hl : (B.view (fs + k / 4 * 5)).length = 64 := (BookS.view_ok hok _ (by omega)).1
  refine ⟨fun s hs => ?_, fun s hs h1 => ?_, fun s hs => ?_, fun s hs h2 => ?_⟩
  · rw [putB_st hl p s]
    by_cases e : s = k
    · rw [if_pos e, if_pos e]
    · rw [if_neg e, if_neg e, h.hst s hs]
  · rw [putB_page]
    by_cases e : s = k
    · rw [if_pos e, if_pos e]
    · rw [if_neg e] at h1
      rw [if_neg e, if_neg e, h.pg s hs h1]
  · show (if s = k then (1 : Int) else st s) = 0 ∨ _
    by_cases e : s = k
    · simp [e]
    · simp only [e, if_false]; exact h.rng s hs
  · by_cases e : s = k
    · rw [if_pos e] at h2; omega
    · rw [if_neg e] at h2
      obtain ⟨t, h3, h4⟩ := h.live s hs h2
      refine ⟨t, h3, ?_⟩
      show (if t = k then (1 : Int) else st t) = 1
      by_cases et : t = k
      · rw [if_pos et]
      · rw [if_neg et]; exact h4
theorem DpI.drop {B : BookS} {n : Nat} {st : Nat → Int} {blk : Nat → List Int} (h : DpI fs B n st blk) (hok : B.ok) (hn : fs + n * 5 ≤ B.n) {k : Nat} (hk : k < n * 4) : DpI fs (dropB fs B k) n (dropT st k) blk := by
  have hl : (B.view (fs + k / 4 * 5)).length = 64 := (BookS.view_ok hok _ (by omega)).1
  have hst : ∀ s, s < n * 4 → stD fs (dropB fs B k) s = dropT st k s := fun s hs => dropB_st hl st (fun t ht => h.hst _ (by omega)) s (fun _ => h.hst s hs)
  refine ⟨hst, fun s hs h1 => ?_, fun s hs => ?_, fun s hs h2 => ?_⟩
  · rw [dropB_page]
    refine h.pg s hs ?_
    unfold dropT at h1
    split at h1
    · split at h1
      · split at h1
        · omega
        · exact h1
      · omega
    · exact h1
  · unfold dropT
    split
    · split
      · split
        · exact .inr (.inr rfl)
        · exact h.rng s hs
      · exact .inl rfl
    · exact h.rng s hs
  · unfold dropT at h2
    by_cases hb : s / 4 = k / 4
    · rw [if_pos hb] at h2
      by_cases ho : othB st k = true
      · obtain ⟨t, ht, h3, h4⟩ := (othB_iff st k).1 ho
        refine ⟨k / 4 * 4 + t, by omega, ?_⟩
        unfold dropT
        rw [if_pos (by omega), if_pos ho, if_neg (by omega)]
        exact h4
      · rw [if_neg ho] at h2; omega
    · rw [if_neg hb] at h2
      obtain ⟨t, h3, h4⟩ := h.live s hs h2
      refine ⟨t, h3, ?_⟩
      unfold dropT
      rw [if_neg (by omega)]
      exact h4
theorem DpI.congr {B B' : BookS} {n : Nat} {st : Nat → Int} {blk : Nat → List Int} (h : DpI fs B n st blk) (he : ∀ i, fs ≤ i → i < fs + n * 5 → B'.view i = B.view i) : DpI fs B' n st blk := by
  refine ⟨fun s hs => ?_, fun s hs h1 => ?_, h.rng, h.live⟩
  · have := h.hst s hs
    unfold stD at this ⊢
    rw [he _ (by omega) (by omega)]; exact this
  · rw [he _ (by unfold pgS; omega) (by unfold pgS; omega)]; exact h.pg s hs h1
theorem DpI.start (B : BookS) (n : Nat) (hz : ∀ i, fs ≤ i → i < fs + n * 5 → B.view i = zer 64) (blk : Nat → List Int) : DpI fs B n (fun _ => 0) blk := by
  refine ⟨fun s hs => ?_, fun s _ h => ?_, fun _ _ => Or.inl rfl, fun s _ h => ?_⟩
  · unfold stD
    rw [hz _ (by omega) (by omega)]
    unfold zer List.getD
    rw [List.getElem?_replicate]
    split <;> rfl
  · exact absurd h (by decide)
  · exact absurd h (by decide)
/-- How many slots are of a state. -/
def cntS (st : Nat → Int) (v : Int) (m : Nat) : Nat := ((List.range m).filter fun s => decide (st s = v)).length
theorem DpI.count {B : BookS} {n : Nat} {st : Nat → Int} {blk : Nat → List Int} (h : DpI fs B n st blk) (v : Int) (hv : v = 0 ∨ v = 1 ∨ v = 2) : cntD B fs v (n * 4) = cntS st v (n * 4) := by
  rw [cntD_states]
  unfold cntS
  congr 1
  refine List.filter_congr (fun s hs => ?_)
  have hs' := List.mem_range.1 hs
  rw [h.hst s hs', decide_eq_decide]
  rcases h.rng s hs' with q | q | q <;> rw [q] <;> omega
end Go.Proofs.YtajmcplanlibnaaGreatDoor
