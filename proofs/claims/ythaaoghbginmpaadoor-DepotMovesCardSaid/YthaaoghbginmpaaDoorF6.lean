/- A depot whose blocks move: plain. DepotMoves: a block that is moved is at its new place, in another container, and nowhere else. -/
import Derived.Test.YthaaoghbginmpaaDoorF4
import Derived.Test.YthaaoghbginmpaaDoorM22
set_option linter.unusedSimpArgs false
set_option linter.unusedVariables false
set_option linter.unnecessarySimpa false
namespace Go.Proofs.YthaaoghbginmpaaDoor
set_option linter.unusedSimpArgs false
set_option linter.unusedVariables false
open Go.RowKit Go.Maps Go.MapKept
theorem filter_one {n k : Nat} {P : Nat → Bool} (hk : k < n) (hP : P k = true) : ((List.range n).filter fun p => P p && !decide (p = k)).length + 1 = ((List.range n).filter P).length := by
  have key : ∀ m, ((List.range m).filter P).length = ((List.range m).filter fun p => P p && !decide (p = k)).length + (if k < m then 1 else 0) := by
    intro m
    induction m with
    | zero => simp
    | succ m ih =>
      rw [List.range_succ, List.filter_append, List.filter_append, List.length_append, List.length_append, ih]
      by_cases e : m = k
      · subst e
        simp [hP]
      · have h2 : (k < m + 1) ↔ k < m := by omega
        cases hq : P m <;> simp [hq, e, h2] <;> omega
  rw [key n, if_pos hk]
theorem tmod_rng (n m : Int) (hm : 0 < m) : -m < n.tmod m ∧ n.tmod m < m := by
  rcases Int.le_total 0 n with h | h
  · rw [Int.tmod_eq_emod_of_nonneg h]
    have h1 := Int.emod_nonneg n (show m ≠ 0 by omega)
    have h2 := Int.emod_lt_of_pos n hm
    omega
  · have e : n.tmod m = -((-n).tmod m) := by rw [Int.neg_tmod]; simp
    rw [e, Int.tmod_eq_emod_of_nonneg (show 0 ≤ -n by omega)]
    have h1 := Int.emod_nonneg (-n) (show m ≠ 0 by omega)
    have h2 := Int.emod_lt_of_pos (-n) hm
    omega
/-- The state of a slot; its page. -/
def stD (B : BookS) (s : Nat) : Int := (B.view (3 + s / 4 * 5)).getD (s % 4) 0
def pgS (s : Nat) : Nat := 3 + s / 4 * 5 + 1 + s % 4
theorem four {g : List Int} (h : g.length = 64) : ∃ a b c d t, g = a :: b :: c :: d :: t ∧ t.length = 60 := by
  match g, h with
  | a :: b :: c :: d :: t, h => exact ⟨a, b, c, d, t, rfl, by simpa using h⟩
theorem dead_iff {g : List Int} (h : g.length = 64) : deadF g = true ↔ ∀ j, j < 4 → g.getD j 0 ≠ 1 := by
  obtain ⟨a, b, c, d, t, rfl, _⟩ := four h
  simp only [deadF, List.take_succ_cons, List.take_zero, List.all_cons, List.all_nil, Bool.and_true, Bool.and_eq_true, decide_eq_true_eq]
  constructor
  · rintro ⟨h0, h1, h2, h3⟩ j hj
    rcases (show j = 0 ∨ j = 1 ∨ j = 2 ∨ j = 3 by omega) with rfl | rfl | rfl | rfl <;> simpa
  · intro h
    exact ⟨by simpa using h 0 (by omega), by simpa using h 1 (by omega), by simpa using h 2 (by omega), by simpa using h 3 (by omega)⟩
theorem set_at (h : List Int) (j : Nat) (s : Int) (i : Nat) (hj : j < h.length) : (h.set j s).getD i 0 = if i = j then s else h.getD i 0 := by
  by_cases e : i = j
  · subst e
    simp [List.getD, List.getElem?_set_self hj]
  · rw [if_neg e]
    simp [List.getD, List.getElem?_set_ne (fun e' => e e'.symm)]
theorem setDF_length {h : List Int} (hl : h.length = 64) (j : Nat) (s : Int) : (setDF h j s).length = 64 := by
  unfold setDF
  split <;> simp [hl]
/-- A slot is taken. -/
theorem setDF_one {h : List Int} (hl : h.length = 64) (j : Nat) (hj : j < 4) (i : Nat) : (setDF h j 1).getD i 0 = if i = j then 1 else h.getD i 0 := by
  have hd : ¬ deadF (h.set j 1) = true := fun hd => by
    have := (dead_iff (by simp [hl])).1 hd j hj
    rw [set_at _ _ _ _ (by omega), if_pos rfl] at this
    exact this rfl
  unfold setDF
  rw [if_neg hd, set_at _ _ _ _ (by omega)]
/-- A block is dropped. -/
theorem setDF_two {h : List Int} (hl : h.length = 64) (j : Nat) (hj : j < 4) (hst : ∀ i, i < 4 → h.getD i 0 = 0 ∨ h.getD i 0 = 1 ∨ h.getD i 0 = 2) (i : Nat) (hi : i < 4) :
    ((setDF h j 2).getD i 0 = 0 ∨ (setDF h j 2).getD i 0 = 1 ∨ (setDF h j 2).getD i 0 = 2) ∧ ((setDF h j 2).getD i 0 = 1 ↔ i ≠ j ∧ h.getD i 0 = 1) := by
  have hs : ∀ i, (h.set j 2).getD i 0 = if i = j then 2 else h.getD i 0 := fun i => set_at _ _ _ _ (by omega)
  unfold setDF
  by_cases hd : deadF (h.set j 2) = true
  · rw [if_pos hd]
    have h0 : (List.replicate 4 (0 : Int) ++ (h.set j 2).drop 4).getD i 0 = 0 := by
      rcases (show i = 0 ∨ i = 1 ∨ i = 2 ∨ i = 3 by omega) with rfl | rfl | rfl | rfl <;> rfl
    rw [h0]
    refine ⟨.inl rfl, ⟨fun h => by omega, fun ⟨h1, h2⟩ => ?_⟩⟩
    have := (dead_iff (by simp [hl])).1 hd i hi
    rw [hs, if_neg h1] at this
    exact absurd h2 this
  · rw [if_neg hd, hs]
    by_cases e : i = j
    · rw [if_pos e]; exact ⟨by omega, ⟨fun h => by omega, fun h => absurd e h.1⟩⟩
    · rw [if_neg e]; exact ⟨hst i hi, ⟨fun h => ⟨e, h⟩, fun h => h.2⟩⟩
theorem cntD_filter (B : BookS) : ∀ n, cntD B 3 1 n = ((List.range n).filter fun s => decide (stD B s % 3 = 1)).length
  | 0 => rfl
  | n + 1 => by
    rw [cntD, cntD_filter B n, List.range_succ, List.filter_append, List.length_append]
    show _ + (if stD B n % 3 = 1 then 1 else 0) = _
    by_cases h : stD B n % 3 = 1
    · rw [if_pos h]; simp [h]
    · rw [if_neg h]; simp [h]
/-- Blocks 1 .. m lie in slots of their own. -/
structure DmI (B : BookS) (m : Nat) (pl : Nat → Nat) : Prop where
  n : B.n = 498
  head : ∀ b, b < 6 → (B.view (3 + b * 5)).length = 64
  st : ∀ s, s < 24 → stD B s = 0 ∨ stD B s = 1 ∨ stD B s = 2
  live : ∀ s, s < 24 → (stD B s = 1 ↔ ∃ y, 1 ≤ y ∧ y ≤ m ∧ pl y = s)
  lt : ∀ y, 1 ≤ y → y ≤ m → pl y < 24
  page : ∀ y, 1 ≤ y → y ≤ m → B.view (pgS (pl y)) = pgOne (y : Int)
  cnt : cntD B 3 1 24 = m
  sup : ∀ i, (B.f i).isSome = true → 3 ≤ i ∧ i < 33
theorem few (p : Nat → Bool) (hp : ∀ i, p i = true → 3 ≤ i ∧ i < 33) : ∀ n, ((List.range n).filter p).length ≤ min n 33 - 3
  | 0 => by simp
  | n + 1 => by
    have ih := few p hp n
    rw [List.range_succ, List.filter_append, List.length_append]
    by_cases h : p n = true
    · have := hp n h
      simp [h]; omega
    · simp [h]; omega
theorem few_ok {B : BookS} (h : ∀ i, (B.f i).isSome = true → 3 ≤ i ∧ i < 33) (i : Nat) (p : List Int) : WrOk B i p := .inr (.inr (by
  have := few (fun i => (B.f i).isSome) h B.n
  unfold keysF
  omega))
theorem sup_wrote {B : BookS} (h : ∀ i, (B.f i).isSome = true → 3 ≤ i ∧ i < 33) {i : Nat} (hi : 3 ≤ i ∧ i < 33) (p : List Int) : ∀ j, ((B.wrote i p).f j).isSome = true → 3 ≤ j ∧ j < 33 := fun j hj => by
  rcases BookS.wrote_f B i p j with h1 | ⟨h1, _⟩
  · rw [h1] at hj; exact h j hj
  · rw [h1]; exact hi
theorem pgS_lt {s : Nat} (h : s < 24) : 3 ≤ pgS s ∧ pgS s < 33 := by unfold pgS; omega
theorem hd_lt {s : Nat} (h : s < 24) : 3 ≤ 3 + s / 4 * 5 ∧ 3 + s / 4 * 5 < 33 := by omega
theorem pgS_inj {s t : Nat} (h : pgS s = pgS t) : s = t := by unfold pgS at h; omega
/-- Behind a put. -/
noncomputable def putB (B : BookS) (k : Nat) (p : List Int) : BookS := (B.wrote (3 + k / 4 * 5) (setDF (B.view (3 + k / 4 * 5)) (k % 4) 1)).wrote (3 + k / 4 * 5 + 1 + k % 4) p
noncomputable def dropB (B : BookS) (k : Nat) : BookS := B.wrote (3 + k / 4 * 5) (setDF (B.view (3 + k / 4 * 5)) (k % 4) 2)
theorem putB_head (B : BookS) (k : Nat) (p : List Int) (b : Nat) : (putB B k p).view (3 + b * 5) = if b = k / 4 then setDF (B.view (3 + k / 4 * 5)) (k % 4) 1 else B.view (3 + b * 5) := by
  unfold putB
  rw [BookS.wrote_view, if_neg (by omega), BookS.wrote_view]
  by_cases h : b = k / 4
  · rw [if_pos (by omega), if_pos h]
  · rw [if_neg (by omega), if_neg h]
theorem putB_page (B : BookS) (k : Nat) (p : List Int) (s : Nat) : (putB B k p).view (pgS s) = if s = k then p else B.view (pgS s) := by
  unfold putB
  rw [BookS.wrote_view]
  by_cases h : s = k
  · rw [if_pos (show pgS s = 3 + k / 4 * 5 + 1 + k % 4 by rw [h]; rfl), if_pos h]
  · rw [if_neg (show ¬ pgS s = 3 + k / 4 * 5 + 1 + k % 4 from fun e => h (pgS_inj e)), if_neg h, BookS.wrote_view, if_neg (by unfold pgS; omega)]
theorem putB_st {B : BookS} {k : Nat} (hl : (B.view (3 + k / 4 * 5)).length = 64) (p : List Int) (s : Nat) : stD (putB B k p) s = if s = k then 1 else stD B s := by
  unfold stD
  rw [putB_head]
  by_cases h : s / 4 = k / 4
  · rw [if_pos h, setDF_one hl _ (by omega), h]
    by_cases e : s = k
    · rw [if_pos (by omega), if_pos e]
    · rw [if_neg (by omega), if_neg e]
  · rw [if_neg h, if_neg (fun e => h (by rw [e]))]
theorem putB_n (B : BookS) (k : Nat) (p : List Int) : (putB B k p).n = B.n := by unfold putB; rw [BookS.wrote_n, BookS.wrote_n]
theorem dropB_n (B : BookS) (k : Nat) : (dropB B k).n = B.n := by unfold dropB; rw [BookS.wrote_n]
theorem dropB_head (B : BookS) (k : Nat) (b : Nat) : (dropB B k).view (3 + b * 5) = if b = k / 4 then setDF (B.view (3 + k / 4 * 5)) (k % 4) 2 else B.view (3 + b * 5) := by
  unfold dropB
  rw [BookS.wrote_view]
  by_cases h : b = k / 4
  · rw [if_pos (by omega), if_pos h]
  · rw [if_neg (by omega), if_neg h]
theorem dropB_page (B : BookS) (k : Nat) (s : Nat) : (dropB B k).view (pgS s) = B.view (pgS s) := by
  unfold dropB
  rw [BookS.wrote_view, if_neg (by unfold pgS; omega)]
theorem dropB_st {B : BookS} {k : Nat} (hl : (B.view (3 + k / 4 * 5)).length = 64) (hst : ∀ s, s < 24 → stD B s = 0 ∨ stD B s = 1 ∨ stD B s = 2) (hk : k < 24) (s : Nat) (hs : s < 24) :
    (stD (dropB B k) s = 0 ∨ stD (dropB B k) s = 1 ∨ stD (dropB B k) s = 2) ∧ (stD (dropB B k) s = 1 ↔ s ≠ k ∧ stD B s = 1) := by
  have e : stD (dropB B k) s = if s / 4 = k / 4 then (setDF (B.view (3 + k / 4 * 5)) (k % 4) 2).getD (s % 4) 0 else stD B s := by
    unfold stD
    rw [dropB_head]
    split <;> rfl
  rw [e]
  by_cases h : s / 4 = k / 4
  · rw [if_pos h]
    have hb : ∀ i, i < 4 → (B.view (3 + k / 4 * 5)).getD i 0 = stD B (k / 4 * 4 + i) := fun i hi => by
      unfold stD
      rw [show (k / 4 * 4 + i) / 4 = k / 4 by omega, show (k / 4 * 4 + i) % 4 = i by omega]
    have h2 := setDF_two hl (k % 4) (by omega) (fun i hi => by rw [hb i hi]; exact hst _ (by omega)) (s % 4) (by omega)
    rw [hb _ (by omega), show k / 4 * 4 + s % 4 = s by omega] at h2
    refine ⟨h2.1, h2.2.trans ⟨fun ⟨h3, h4⟩ => ⟨fun e => h3 (by rw [e]), h4⟩, fun ⟨h3, h4⟩ => ⟨fun e => h3 (by omega), h4⟩⟩⟩
  · rw [if_neg h]
    exact ⟨hst s hs, ⟨fun h1 => ⟨fun e => h (by rw [e]), h1⟩, fun h1 => h1.2⟩⟩
theorem DmI.inj {B : BookS} {m : Nat} {pl : Nat → Nat} (h : DmI B m pl) {y z : Nat} (hy : 1 ≤ y ∧ y ≤ m) (hz : 1 ≤ z ∧ z ≤ m) (e : pl y = pl z) : y = z := by
  have h1 := h.page y hy.1 hy.2
  rw [e, h.page z hz.1 hz.2] at h1
  simp only [pgOne, List.cons.injEq] at h1
  omega
/-- A block moves to a free slot. -/
theorem DmI.move {B : BookS} {m : Nat} {pl : Nat → Nat} (h : DmI B m pl) {x k : Nat} (hx : 1 ≤ x ∧ x ≤ m) (hk : k < 24) (hf : stD B k = 0) :
    DmI (dropB (putB B k (B.view (pgS (pl x)))) (pl x)) m (fun y => if y = x then k else pl y) ∧ stD (putB B k (B.view (pgS (pl x)))) (pl x) = 1 ∧ stD (dropB (putB B k (B.view (pgS (pl x)))) (pl x)) (pl x) ≠ 1 := by
  have hlx := h.lt x hx.1 hx.2
  have hl1 := (h.live _ hlx).2 ⟨x, hx.1, hx.2, rfl⟩
  have hxk : pl x ≠ k := fun e => by rw [e, hf] at hl1; cases hl1
  have hhk : (B.view (3 + k / 4 * 5)).length = 64 := h.head _ (by omega)
  have st1 : ∀ s, stD (putB B k (B.view (pgS (pl x)))) s = if s = k then 1 else stD B s := putB_st hhk _
  have st1' : ∀ s, s < 24 → stD (putB B k (B.view (pgS (pl x)))) s = 0 ∨ stD (putB B k (B.view (pgS (pl x)))) s = 1 ∨ stD (putB B k (B.view (pgS (pl x)))) s = 2 := fun s hs => by
    rw [st1]
    by_cases e : s = k
    · rw [if_pos e]; omega
    · rw [if_neg e]; exact h.st s hs
  have hh1 : ∀ b, b < 6 → ((putB B k (B.view (pgS (pl x)))).view (3 + b * 5)).length = 64 := fun b hb => by
    rw [putB_head]
    split
    · exact setDF_length hhk _ _
    · exact h.head b hb
  have pg1 : ∀ s, (putB B k (B.view (pgS (pl x)))).view (pgS s) = if s = k then B.view (pgS (pl x)) else B.view (pgS s) := putB_page B k _
  have sup1 : ∀ i, ((putB B k (B.view (pgS (pl x)))).f i).isSome = true → 3 ≤ i ∧ i < 33 := sup_wrote (sup_wrote h.sup (hd_lt hk) _) (pgS_lt hk) _
  have n1 : (putB B k (B.view (pgS (pl x)))).n = B.n := putB_n _ _ _
  generalize putB B k (B.view (pgS (pl x))) = B1 at st1 st1' hh1 pg1 sup1 n1 ⊢
  have st2 := dropB_st (hh1 (pl x / 4) (by omega)) st1' hlx
  have e1 : stD B1 (pl x) = 1 := by rw [st1, if_neg hxk]; exact hl1
  have key : ∀ s, s < 24 → (stD (dropB B1 (pl x)) s = 1 ↔ s ≠ pl x ∧ (s = k ∨ stD B s = 1)) := fun s hs => by
    rw [(st2 s hs).2, st1]
    by_cases e : s = k
    · simp [e]
    · simp [e]
  refine ⟨⟨by rw [dropB_n, n1]; exact h.n, fun b hb => ?_, fun s hs => (st2 s hs).1, fun s hs => ?_, fun y h1 h2 => ?_, fun y h1 h2 => ?_, ?_, sup_wrote sup1 (hd_lt hlx) _⟩, e1, fun e => ((key _ hlx).1 e).1 rfl⟩
  · rw [dropB_head]
    split
    · exact setDF_length (hh1 _ (by omega)) _ _
    · exact hh1 b hb
  · rw [key s hs]
    constructor
    · rintro ⟨h1, h2 | h2⟩
      · exact ⟨x, hx.1, hx.2, by rw [if_pos rfl, h2]⟩
      · obtain ⟨y, y1, y2, y3⟩ := (h.live s hs).1 h2
        refine ⟨y, y1, y2, ?_⟩
        rw [if_neg (fun e => h1 (by rw [← y3, e]))]; exact y3
    · rintro ⟨y, y1, y2, y3⟩
      by_cases e : y = x
      · rw [if_pos e] at y3
        exact ⟨fun e' => hxk (by rw [← e', ← y3]), .inl y3.symm⟩
      · rw [if_neg e] at y3
        exact ⟨fun e' => e (h.inj ⟨y1, y2⟩ hx (by rw [y3, e'])), .inr ((h.live s hs).2 ⟨y, y1, y2, y3⟩)⟩
  · by_cases e : y = x
    · simp [e, hk]
    · simp [e, h.lt y h1 h2]
  · rw [dropB_page, pg1]
    by_cases e : y = x
    · subst e
      rw [if_pos (by simp), h.page y h1 h2]
    · have e2 : pl y ≠ k := fun e2 => by
        have := (h.live (pl y) (h.lt y h1 h2)).2 ⟨y, h1, h2, rfl⟩
        rw [e2, hf] at this; cases this
      simp only [e, if_false]
      rw [if_neg e2, h.page y h1 h2]
  · have c0 := h.cnt
    rw [cntD_filter] at c0 ⊢
    have p1 := filter_one (n := 24) (k := pl x) (P := fun s => decide (stD B s % 3 = 1)) hlx (by simp [hl1])
    have p2 := filter_one (n := 24) (k := k) (P := fun s => decide (stD (dropB B1 (pl x)) s % 3 = 1)) hk (by
      have := (key k hk).2 ⟨fun e => hxk e.symm, .inl rfl⟩
      simp [this])
    have e : ((List.range 24).filter fun s => decide (stD B s % 3 = 1) && !decide (s = pl x)) = ((List.range 24).filter fun s => decide (stD (dropB B1 (pl x)) s % 3 = 1) && !decide (s = k)) := by
      refine List.filter_congr (fun s hs => ?_)
      have hs' := List.mem_range.1 hs
      have a1 : (stD B s % 3 = 1) ↔ stD B s = 1 := by have := h.st s hs'; omega
      have a2 : (stD (dropB B1 (pl x)) s % 3 = 1) ↔ stD (dropB B1 (pl x)) s = 1 := by have := (st2 s hs').1; omega
      rw [Bool.eq_iff_iff]
      simp only [Bool.and_eq_true, Bool.not_eq_true', decide_eq_true_eq, decide_eq_false_iff_not, a1, a2, key s hs']
      constructor
      · rintro ⟨h1, h2⟩; exact ⟨⟨h2, .inr h1⟩, fun e => by rw [e, hf] at h1; cases h1⟩
      · rintro ⟨⟨h1, h2⟩, h3⟩
        rcases h2 with h2 | h2
        · exact absurd h2 h3
        · exact ⟨h2, h1⟩
    rw [e] at p1
    omega
theorem frR_spec (h : List Int) : ∀ (r t : Nat), frR h r = some t → t < 4 ∧ h.getD t 0 = 0
  | 0, t, e => by cases e
  | r + 1, t, e => by
    unfold frR at e
    split at e
    · rename_i h0
      simp only [Option.some.injEq] at e
      subst e
      exact ⟨by omega, h0⟩
    · exact frR_spec h r t e
/-- The slot that is taken is free, and in another container. -/
theorem best_spec (B : BookS) (but : Int) : ∀ (n k : Nat), (bestF B 3 but n).1 = (k : Int) → k < n * 4 ∧ stD B k = 0 ∧ ((k / 4 : Nat) : Int) ≠ but
  | 0, k, e => by
    exfalso
    have : (-1 : Int) = k := e
    omega
  | b + 1, k, e => by
    unfold bestF at e
    split at e
    · rename_i hc
      obtain ⟨h1, h2, _⟩ := hc
      cases hf : frR (B.view (3 + b * 5)) 4 with
      | none => rw [hf] at h2; exact absurd (show (0 : Int) ≤ -1 from h2) (by decide)
      | some t =>
        rw [hf] at e
        have e' : ((b * 4 + t : Nat) : Int) = k := e
        obtain ⟨t4, t0⟩ := frR_spec _ _ _ hf
        obtain rfl : k = b * 4 + t := by omega
        refine ⟨by omega, ?_, ?_⟩
        · unfold stD
          rw [show (b * 4 + t) / 4 = b by omega, show (b * 4 + t) % 4 = t by omega]
          exact t0
        · rw [show (b * 4 + t) / 4 = b by omega]; exact h1
    · have ih := best_spec B but b k e
      exact ⟨by omega, ih.2⟩
/-- Heads where the first slots are taken. -/
def hdP (i b : Nat) : List Int := (List.range 4).map (fun t => if b * 4 + t < i then 1 else 0) ++ zer 60
theorem hdP_facts : (∀ i : Fin 12, (bestL (hdP i) (-1) 6).1 = ((i : Nat) : Int)) ∧ (∀ (i : Fin 12) (b : Fin 6), (if (b : Nat) = i / 4 then setDF (hdP i (i / 4)) (i % 4) 1 else hdP i b) = hdP (i + 1) b) ∧ (∀ b : Fin 6, hdP 0 b = zer 64) := by decide +kernel
theorem hdP_last : (∀ (m : Fin 13) (s : Fin 24), (hdP m (s / 4)).getD (s % 4) 0 = if (s : Nat) < m then 1 else 0) ∧ (∀ m : Fin 13, cntL (hdP m) 1 24 = m) := by decide +kernel
structure FdI (B : BookS) (i : Nat) : Prop where
  n : B.n = 498
  head : ∀ b, b < 6 → B.view (3 + b * 5) = hdP i b
  page : ∀ s, s < i → B.view (pgS s) = pgOne ((s : Int) + 1)
  sup : ∀ j, (B.f j).isSome = true → 3 ≤ j ∧ j < 33
theorem FdI.start : FdI freshB6 0 where
  n := freshB6_n
  head := fun b hb => by rw [freshB6_view _ (by omega)]; exact (hdP_facts.2.2 ⟨b, hb⟩).symm
  page := fun s hs => by omega
  sup := fun j hj => by
    exfalso
    have : freshB6.f j = none := rfl
    rw [this] at hj; cases hj
theorem FdI.best {B : BookS} {i : Nat} (h : FdI B i) (hi : i < 12) : (bestF B 3 (-1) 6).1 = (i : Int) := by
  rw [bestF_eq B 3 (-1) (hdP i) 6 h.head]
  exact hdP_facts.1 ⟨i, hi⟩
theorem FdI.step {B : BookS} {i : Nat} (h : FdI B i) (hi : i < 12) : FdI (putB B i (pgOne ((i : Int) + 1))) (i + 1) where
  n := by rw [putB_n]; exact h.n
  head := fun b hb => by
    rw [putB_head, h.head (i / 4) (by omega), h.head b hb]
    exact hdP_facts.2.1 ⟨i, hi⟩ ⟨b, hb⟩
  page := fun s hs => by
    rw [putB_page]
    by_cases e : s = i
    · rw [if_pos e, e]
    · rw [if_neg e]; exact h.page s (by omega)
  sup := sup_wrote (sup_wrote h.sup (hd_lt (by omega)) _) (pgS_lt (by omega)) _
theorem FdI.done {B : BookS} {m : Nat} (h : FdI B m) (hm : m ≤ 12) : DmI B m (fun y => y - 1) := by
  have hst : ∀ s, s < 24 → stD B s = if s < m then 1 else 0 := fun s hs => by
    unfold stD
    rw [h.head _ (by omega)]
    exact hdP_last.1 ⟨m, by omega⟩ ⟨s, hs⟩
  refine ⟨h.n, fun b hb => by rw [h.head b hb]; simp [hdP, zer], fun s hs => ?_, fun s hs => ?_, fun y h1 h2 => by omega, fun y h1 h2 => ?_, ?_, h.sup⟩
  · rw [hst s hs]; split <;> omega
  · rw [hst s hs]
    constructor
    · intro h1
      split at h1
      · exact ⟨s + 1, by omega, by omega, by omega⟩
      · cases h1
    · rintro ⟨y, y1, y2, y3⟩
      rw [if_pos (by omega)]
  · rw [h.page (y - 1) (by omega)]
    congr 1; omega
  · rw [cntD_eq B 3 1 (hdP m) 24 (fun i hi => h.head _ (by omega))]
    exact hdP_last.2 ⟨m, by omega⟩
/-- Where each block is. -/
def atM (pl : Nat → Nat) (m : Nat) : Lit → Option Value := fun l => match l with
  | .int .u8 x => if 1 ≤ x ∧ x ≤ m then some (.int .i64 (pl x.toNat : Int)) else none
  | _ => none
theorem atM_zero (pl : Nat → Nat) : atM pl 0 = fun _ => none := by
  funext l; unfold atM; split
  · rw [if_neg (by omega)]
  · rfl
theorem atM_at (pl : Nat → Nat) (m y : Nat) (h : 1 ≤ y ∧ y ≤ m) : atM pl m (.int .u8 (y : Int)) = some (.int .i64 (pl y : Int)) := by
  unfold atM
  simp only
  rw [if_pos (by omega)]
  simp
theorem atM_new (pl : Nat → Nat) (i : Nat) : atM pl i (.int .u8 ((i : Int) + 1)) = none := by
  unfold atM
  simp only
  rw [if_neg (by omega)]
theorem atM_put (i : Nat) : upd (atM (fun y => y - 1) i) (.int .u8 ((i : Int) + 1)) (some (.int .i64 (i : Int))) = atM (fun y => y - 1) (i + 1) := by
  funext l
  by_cases h : l = .int .u8 ((i : Int) + 1)
  · subst h
    rw [upd_same]
    have := atM_at (fun y => y - 1) (i + 1) (i + 1) (by omega)
    push_cast at this
    rw [this]
    first | done | simp
  · rw [upd_other _ h]
    unfold atM
    split
    · rename_i x
      by_cases h1 : 1 ≤ x ∧ x ≤ i
      · rw [if_pos h1, if_pos (by omega)]
      · rw [if_neg h1, if_neg (fun h2 => h (by congr 1; omega))]
    · rfl
theorem atM_set (pl : Nat → Nat) (m x k : Nat) (hx : 1 ≤ x ∧ x ≤ m) : upd (atM pl m) (.int .u8 (x : Int)) (some (.int .i64 (k : Int))) = atM (fun y => if y = x then k else pl y) m := by
  funext l
  by_cases h : l = .int .u8 (x : Int)
  · subst h
    rw [upd_same, atM_at _ m x hx, if_pos rfl]
  · rw [upd_other _ h]
    unfold atM
    split
    · rename_i z
      by_cases h1 : 1 ≤ z ∧ z ≤ m
      · rw [if_pos h1, if_pos h1]
        simp only
        rw [if_neg (fun e => h (by congr 1; omega))]
      · rw [if_neg h1, if_neg h1]
    · rfl
theorem atM_inv {pl : Nat → Nat} {m : Nat} {x : Int} {v : Value} (h : atM pl m (.int .u8 x) = some v) : ∃ y : Nat, x = y ∧ 1 ≤ y ∧ y ≤ m ∧ v = .int .i64 (pl y : Int) := by
  unfold atM at h
  simp only at h
  split at h
  · rename_i h1
    cases h
    exact ⟨x.toNat, by omega, by omega, by omega, rfl⟩
  · cases h
end Go.Proofs.YthaaoghbginmpaaDoor
set_option linter.unusedSimpArgs false
set_option linter.unusedVariables false
set_option linter.unnecessarySimpa false
namespace Go.Proofs.YthaaoghbginmpaaDoor
open Go.RowKit Go.Maps Go.MapKept
theorem look_is_w {P : Program} (w : World) {ops : Array Oper} {rest : List Oper} {o : Oper} {a : Act} {Q : Exit → Act → World → Prop}
    (hw : Region.wanted o (yielded ops a.tmps) = true) (m x : Operand) (t : TypeId) (hop : o.op = Op.lookup t m x false)
    (k e : TypeId) (K : Keyed P k) (ht : P.underlying t = some (.map k e)) (z : Value) (hz : (zeroValue e).run P w = .ok z w) (b c : Nat) (f : Lit → Option Value)
    (hm : a.eval m = .map (some b)) (hown : MapIs P k w b c f) (key : Value) (kl : Lit) (hx : a.eval x = key) (hkey : keyOf P k key = some kl)
    (hK : wpList P ops Q rest (a.put o.dst ((f kl).getD z)) w) : wpList P ops Q (o :: rest) a w := by
  refine wpList_step fun K' hK' => ?_
  rw [if_pos hw]
  have hrun := hown.look K ht hz hkey
  unfold Oper.wp
  simp [execOp, hop, hm, hx, hrun, Result.andThen]
  exact hK' _ _ hK
theorem page_neq_g {ops : Array Oper} {rest : List Oper} {o : Oper} {a : Act} {w : World} {Q : Exit → Act → World → Prop} (hw : Region.wanted o (yielded ops a.tmps) = true) (x y : Operand) (t2 : TypeId) (ho : o.op = .binOp .neq 68 x y t2) (p q : List Int) (hx : a.eval x = .agg (v8a p)) (hy : a.eval y = .agg (v8a q)) (hp : p.length = 64) (hq : q.length = 64)
    (h : wpList Tryd.prog ops Q rest (a.put o.dst (.bool (decide (p ≠ q)))) w) : wpList Tryd.prog ops Q (o :: rest) a w := by
  refine wpList_step fun K hK => ?_
  rw [if_pos hw]
  unfold Oper.wp execOp
  simp only [ho, hx, hy, Sem.run_bind, run_eqGuard_agg w .neq _ x y (v8a p) (v8a q) guard_pg, pg_neq w p q hp hq, Result.andThen_ok]
  exact hK _ _ h
/-- Whole numbers in memory. -/
def NumsIn (w : World) (a : Option Addr) (len : Nat) (K : Nat → Int) : Prop := ∀ i, i < len → ∃ b off, a = some ⟨b, off, none⟩ ∧ b < w.heap.size ∧ w.cell? ⟨b, off + i, none⟩ = some (.int .i64 (K i))
theorem NumsIn.keeps {w w' : World} {a : Option Addr} {len : Nat} {K : Nat → Int} (h : NumsIn w a len K) (hk : Keeps (fun k => k < w.heap.size) w w') : NumsIn w' a len K := fun i hi => by
  obtain ⟨b, off, ha, hb, hc⟩ := h i hi
  refine ⟨b, off, ha, Nat.lt_of_lt_of_le hb hk.size, ?_⟩
  have h1 := hk.block b hb hb
  simp only [World.cell?] at hc ⊢
  rw [h1]; exact hc
theorem u8_key (i : Int) (h : 0 ≤ i ∧ i ≤ 255) : keyOf Tryd.prog 5 (.int .u8 i) = some (.int .u8 i) := by
  refine Go.Maps.keyOf_int_mk Tryd.underlying5 ?_
  have e1 : IntKind.u8.min = 0 := rfl
  have e2 : IntKind.u8.max = 255 := rfl
  simp [Lit.wf, e1, e2]
  omega
def NMv (w : World) (ob : Nat) : Nat → Prop := fun k => k < w.heap.size ∨ k = ob
theorem HolI.turned {T : Nat} {w w' w0 : World} {tb ob bb first n : Nat} {B : BookS} (h : HolI T w tb (NMv w0 ob) bb first n B) (ht : w.mapTurned w' ob) : HolI T w' tb (NMv w0 ob) bb first n B := by
  have hk : Keeps (fun k => k ≠ ob) w w' := Keeps.of_turned ht (by simp)
  exact h.grow (hk.mono (fun q _ hq e => hq (.inr e))) (fun i hi => ⟨Nat.lt_of_lt_of_le (h.N_lt i hi) hk.size, .inl hi⟩)
theorem kept_turned {w w' w0 : World} {ob : Nat} (hob : w0.heap.size ≤ ob) (h : Keeps (fun k => k < w0.heap.size) w0 w) (ht : w.mapTurned w' ob) : Keeps (fun k => k < w0.heap.size) w0 w' := by
  have hk : Keeps (fun k => k ≠ ob) w w' := Keeps.of_turned ht (by simp)
  exact h.trans (hk.mono (fun q _ hn e => by have : q < w0.heap.size := hn; omega))
def FmI (w : World) (tb bb ob i : Nat) (wx : World) : Prop := ∃ B, HolI 131 wx tb (NMv w ob) bb 3 6 B ∧ FdI B i ∧ MapIs Tryd.prog 5 wx ob i (atM (fun y => y - 1) i) ∧ Keeps (fun k => k < w.heap.size) w wx
def MvI (w : World) (tb bb ob m : Nat) (pl : Nat → Nat) (wx : World) : Prop := ∃ B, HolI 131 wx tb (NMv w ob) bb 3 6 B ∧ DmI B m pl ∧ MapIs Tryd.prog 5 wx ob m (atM pl m) ∧ Keeps (fun k => k < w.heap.size) w wx
set_option maxRecDepth 100000 in
set_option maxHeartbeats 16000000 in
theorem moves_any (n : Int) (a : Option Addr) (len cap : Nat) (K : Nat → Int) (hn : -9223372036854775808 ≤ n ∧ n ≤ 9223372036854775807) (hlen : len ≤ maxLen) (hK : ∀ i, i < len → -9223372036854775808 ≤ K i ∧ K i ≤ 9223372036854775807) (w : World) (hks : NumsIn w a len K) (hg : EtAt w) :
    Calls Tryd.prog 7 #[.int .i64 n, .slice a len cap] w fun e w' => e = .returned (.bool true) ∧ Below w.heap.size w w' := by
  have hST := stands07_any (fun k => k < w.heap.size) w (fun i h => h)
  have HKS := Lib.hid hks
  have HET := Lib.hid hg
  have HKR := Lib.hid hK
  have hlen2 : (len : Int) ≤ 9223372036854775807 := by unfold maxLen at hlen; omega
  have hlen0 : (0 : Int) ≤ len := by omega
  clear hlen hks hg hK
  obtain ⟨hn0, hn1⟩ := hn
  have hmm : ∀ wx : World, (Instr.makeMap 66 none).run Tryd.prog wx = .ok (.map (some wx.heap.size)) (wx.alloc (.map #[] 0)) := fun _ => by kernel_rfl
  have hzz : ∀ wx : World, (zeroValue 3).run Tryd.prog wx = .ok (.int .i64 0) wx := fun _ => by kernel_rfl
  go_enter Tryd.func7, Tryd.ntmps7
  go_wp2_with fail
  refine hST.mono ?_
  clear hST
  rintro e w1 ⟨rfl, hk1⟩
  try dsimp only
  have hm1 := tmod_rng n 12 (by decide)
  repeat ((fail_if_success (with_reducible refine stop_at 33 rfl ?_)); (first | go_values | go_skip | go_guarded | go_step | go_upon))
  obtain ⟨n', hn'⟩ : ∃ n' : Nat, n.tmod 12 % 12 + 1 = (n' : Int) := ⟨(n.tmod 12 % 12 + 1).toNat, by omega⟩
  have hn'1 : 1 ≤ n' ∧ n' ≤ 12 := by omega
  rw [show (n.tmod 12 + 12) % 12 = n.tmod 12 % 12 by omega, hn']
  generalize n.tmod 12 % 12 = q12 at *
  obtain ⟨h1, h2⟩ := hn'1
  clear hm1 hn' hn0 hn1
  by_cases hl60 : 60 < len
  · have hl60' : (60 : Int) < len := by omega
    go_wp2_with fail
    go_ret
    exact ⟨rfl, hk1.below (Nat.le_refl _) (fun i hi => hi)⟩
  have hl60' : ¬ ((60 : Int) < len) := by omega
  have hFR := fresh07_any 6 (by decide) (fun k => k < w.heap.size) w1 (fun i h => Nat.lt_of_lt_of_le h hk1.size)
  have i1 : (1 : Int) ≤ n' := by omega
  have i2 : (n' : Int) ≤ 12 := by omega
  go_wp2_with fail
  refine hFR.mono ?_
  clear hFR
  rintro e w2 ⟨⟨bb, tb, rfl, hT⟩, hk2⟩
  have hob : w.heap.size ≤ w2.heap.size := (hk1.trans hk2).size
  have ha2 : ∀ o : Obj, Below w2.heap.size w2 (w2.alloc o) := fun o => (Below.refl _ _).alloc (Nat.le_refl _) _
  have H2 : Hid (FmI w tb bb w2.heap.size 0 (w2.alloc (.map #[] 0))) := Lib.hid ⟨freshB6, hT.keep (ha2 _) (fun k hk => by
    rcases hk with hk | rfl
    · exact ⟨by simp; omega, .inl hk⟩
    · exact ⟨by simp, .inr (Nat.le_refl _)⟩), FdI.start, by rw [atM_zero]; exact mapIs_made _ _ _, (hk1.trans hk2).trans (Keeps.of_below (ha2 _))⟩
  clear hT hk1 hk2 ha2
  try dsimp only
  go_wp2_with fail
  refine gen_code (fun wx => Hid (FmI w tb bb w2.heap.size 0 wx)) H2 ?_
  clear H2
  generalize w2.heap.size = ob at hob ⊢
  intro w3 H3
  go_loopw [42] (fun iv wr => ∃ i : Nat, iv = .int .i64 i ∧ i ≤ n' ∧ Hid (FmI w tb bb ob i wr)) (fun iv _ => n' + 1 - (intOf iv).toNat)
  case atStart => exact ⟨0, rfl, by omega, H3⟩
  case round =>
    clear H3
    obtain ⟨i, rfl, hi, H⟩ := hrel
    by_cases hlt : i < n'
    · have i3 : (0 : Int) ≤ i := by omega
      have i4 : (i : Int) < n' := by omega
      have i5 : (i : Int) + 1 < 256 := by omega
      obtain ⟨B, hT, hF, hM, hkw⟩ := H.out
      have hS := dPut_any tb _ bb 3 6 B (by rw [hF.n]; decide) (pgOne ((i : Int) + 1)) (pgOne_ok _ ⟨by omega, by omega⟩) i (hF.best (by omega)) (few_ok hF.sup _ _) (few_ok (sup_wrote hF.sup (hd_lt (by omega)) _) _ _) wr hT
      have HF := Lib.hid (hF.step (by omega : i < 12))
      have hput : (B.wrote (3 + i / 4 * 5) (setDF (B.view (3 + i / 4 * 5)) (i % 4) 1)).wrote (3 + i / 4 * 5 + 1 + i % 4) (pgOne ((i : Int) + 1)) = putB B i (pgOne ((i : Int) + 1)) := rfl
      rw [hput] at hS
      have HM := Lib.hid hM
      have HKW := Lib.hid hkw
      have HB1 := Lib.hid (built_pg1 ((i : Int) + 1))
      clear hT hF hM hkw H hput
      go_wp2_with (refine wpList_build_to rfl 68 _ rfl (v8a (pgOne ((i : Int) + 1))) HB1.out ?_)
      refine hS.mono ?_
      clear hS
      rintro e w5 ⟨rfl, hT5, hk5⟩
      have H5 : Hid (HolI 131 w5 tb (NMv w ob) bb 3 6 (putB B i (pgOne ((i : Int) + 1))) ∧ MapIs Tryd.prog 5 w5 ob i (atM (fun y => y - 1) i) ∧ Keeps (fun k => k < w.heap.size) w w5) := Lib.hid ⟨hT5, hk5.map (.inr rfl) HM.out, HKW.out.trans (hk5.mono (fun q _ hq => .inl hq))⟩
      clear hT5 hk5 HM HKW
      try dsimp only
      go_wp2_with (at_mapUpdate; refine wpList_store_cnt _ rfl _ _ _ 66 rfl 5 3 (int_keyed Tryd.underlying5) Tryd.underlying66 ob i (atM (fun y => y - 1) i) rfl H5.out.2.1 ?hc (.int .u8 ((i : Int) + 1)) (.int .i64 (i : Int)) (.int .u8 ((i : Int) + 1)) rfl rfl ?hk ?_)
      case hc => unfold maxLen; omega
      case hk => exact u8_key _ ⟨by omega, by omega⟩
      intro w7 hm7 ht7
      rw [atM_put, show cntIf (atM (fun y => y - 1) i (.int .u8 ((i : Int) + 1))).isSome i = i + 1 by rw [atM_new]; rfl] at hm7
      have H7 : Hid (FmI w tb bb ob (i + 1) w7) := Lib.hid ⟨_, H5.out.1.turned ht7, HF.out, hm7, kept_turned hob H5.out.2.2 ht7⟩
      clear hm7 ht7 H5 HF
      try dsimp only
      go_wp2_with fail
      exact ⟨⟨i + 1, by go_num, by omega, H7⟩, by simp [intOf]; omega⟩
    · have hin : i = n' := by omega
      have hnl : ¬ ((i : Int) < n') := by omega
      rw [hin] at H
      have H0 : Hid (∃ pl, MvI w tb bb ob n' pl wr) := Lib.hid (by
        obtain ⟨B, q1, q2, q3, q4⟩ := H.out
        exact ⟨_, B, q1, q2.done h2, q3, q4⟩)
      clear hin H
      go_wp2_with fail
      clear hnl hlt hi
      go_loopw [64] (fun iv wr => ∃ j : Nat, iv = .int .i64 j ∧ j ≤ len ∧ Hid (∃ pl, MvI w tb bb ob n' pl wr)) (fun iv _ => len + 1 - (intOf iv).toNat)
      case atStart => exact ⟨0, rfl, by omega, H0⟩
      case round =>
        clear H0
        obtain ⟨j, rfl, hj, H⟩ := hrel
        by_cases hlt : j < len
        · have j3 : (0 : Int) ≤ j := by omega
          have j4 : (j : Int) < len := by omega
          obtain ⟨pl, B, hT, hD, hM, hkw⟩ := H.out
          obtain ⟨b, off, rfl, hbl, hcell⟩ := (HKS.out.keeps hkw) j hlt
          have hkr := HKR.out j hlt
          generalize K j = kj at hcell hkr
          obtain ⟨kr0, kr1⟩ := hkr
          have hmt := tmod_rng kj n' (by omega)
          obtain ⟨mt0, mt1⟩ := hmt
          have hnz : (n' : Int) ≠ 0 := by omega
          have mq0 := Int.emod_nonneg (kj.tmod (n' : Int)) hnz
          have mq1 := Int.emod_lt_of_pos (kj.tmod (n' : Int)) (show (0 : Int) < n' by omega)
          repeat ((fail_if_success (with_reducible refine stop_at 76 rfl ?_)); (first | go_values | go_skip | go_guarded | go_step | go_upon))
          obtain ⟨x, hx⟩ : ∃ x : Nat, kj.tmod (n' : Int) % (n' : Int) + 1 = (x : Int) := ⟨(kj.tmod (n' : Int) % (n' : Int) + 1).toNat, by omega⟩
          have hx1 : 1 ≤ x ∧ x ≤ n' := by omega
          rw [hx]
          clear hx mq0 mq1 mt0 mt1 kr0 kr1 hcell hbl
          have x5 : (x : Int) < 256 := by omega
          have x6 : (0 : Int) ≤ x := by omega
          have hlx := hD.lt x hx1.1 hx1.2
          have hst := (hD.live _ hlx).2 ⟨x, hx1.1, hx1.2, rfl⟩
          have HLK := Lib.hid (atM_at pl n' x hx1)
          have HM := Lib.hid hM
          have HKW := Lib.hid hkw
          have HEW := Lib.hid (HET.out.keeps hkw HET.out.pos)
          by_cases hbf : (bestF B 3 ((pl x / 4 : Nat) : Int) 6).1 < 0
          · have hS := dmove_full tb _ bb 3 6 B (pl x) hlx (by rw [hD.n]; decide) hst hbf wr hT
            clear hT hD hM hkw H hst hbf hlx
            go_wp2_with (at_lookup; refine wpList_look_is _ rfl _ _ 66 rfl 5 3 (int_keyed Tryd.underlying5) Tryd.underlying66 (.int .i64 0) (hzz _) ob n' (atM pl n') rfl HM.out (.int .u8 (x : Int)) (.int .u8 (x : Int)) rfl (u8_key _ ⟨by omega, by omega⟩) ?_; rw [HLK.out]; simp only [Option.getD_some])
            refine hS.mono ?_
            clear hS
            rintro e w5 ⟨⟨t, v, rfl, he⟩, hb5⟩
            have hNM := num07_err (.iface t v) 20 w5 he (HEW.out.below hb5 HEW.out.pos)
            have HK5 := Lib.hid (HKW.out.trans (Keeps.of_below hb5))
            clear he hb5 HKW HEW HM HLK
            try dsimp only
            go_wp2_with fail
            refine hNM.mono ?_
            clear hNM
            rintro e w6 ⟨rfl, hb6⟩
            try dsimp only
            go_wp2_with fail
            go_ret
            exact ⟨rfl, (HK5.out.trans (Keeps.of_below hb6)).below (Nat.le_refl _) (fun q hq => hq)⟩
          · obtain ⟨k, hk⟩ := Int.eq_ofNat_of_zero_le (show 0 ≤ (bestF B 3 ((pl x / 4 : Nat) : Int) 6).1 by omega)
            obtain ⟨hk24, hkf, hkb⟩ := best_spec B _ 6 k hk
            obtain ⟨hD3, hs2, hs3⟩ := hD.move hx1 hk24 hkf
            have hS := dmove_any tb _ bb 3 6 B (pl x) hlx (by rw [hD.n]; decide) hst k hk (putB B k (B.view (pgS (pl x)))) rfl (few_ok hD.sup _ _) (few_ok (sup_wrote hD.sup (hd_lt hk24) _) _ _) hs2 (few_ok (sup_wrote (sup_wrote hD.sup (hd_lt hk24) _) (pgS_lt hk24) _) _ _) wr hT
            have hdrop : (putB B k (B.view (pgS (pl x)))).wrote (3 + pl x / 4 * 5) (setDF ((putB B k (B.view (pgS (pl x)))).view (3 + pl x / 4 * 5)) (pl x % 4) 2) = dropB (putB B k (B.view (pgS (pl x)))) (pl x) := rfl
            rw [hdrop] at hS
            have HD3 := Lib.hid hD3
            have HS3 := Lib.hid hs3
            have HN3 : Hid ((dropB (putB B k (B.view (pgS (pl x)))) (pl x)).n = 498) := Lib.hid hD3.n
            generalize dropB (putB B k (B.view (pgS (pl x)))) (pl x) = B3 at hS HD3 HS3 HN3
            have hkb' : ¬ ((k : Int) / 4 = (pl x : Int) / 4) := by omega
            have kx0 : (0 : Int) ≤ pl x := by omega
            have kx1 : (pl x : Int) < 24 := by omega
            have kk0 : (0 : Int) ≤ k := by omega
            have kk1 : (k : Int) < 24 := by omega
            obtain ⟨px, hpx⟩ : ∃ px, pl x = px := ⟨_, rfl⟩
            rw [hpx] at hS HS3 HLK hkb' kx0 kx1 hlx
            have HPX := Lib.hid hpx
            clear hT hD hM hkw H hst hbf hk hkf hkb hD3 hs2 hs3 hdrop hpx
            go_wp2_with (at_lookup; refine wpList_look_is _ rfl _ _ 66 rfl 5 3 (int_keyed Tryd.underlying5) Tryd.underlying66 (.int .i64 0) (hzz _) ob n' (atM pl n') rfl HM.out (.int .u8 (x : Int)) (.int .u8 (x : Int)) rfl (u8_key _ ⟨by omega, by omega⟩) ?_; rw [HLK.out]; simp only [Option.getD_some])
            refine hS.mono ?_
            clear hS
            rintro e w5 ⟨rfl, hT5, hk5⟩
            have H5 : Hid (HolI 131 w5 tb (NMv w ob) bb 3 6 B3 ∧ MapIs Tryd.prog 5 w5 ob n' (atM pl n') ∧ Keeps (fun k => k < w.heap.size) w w5) := Lib.hid ⟨hT5, hk5.map (.inr rfl) HM.out, HKW.out.trans (hk5.mono (fun q _ hq => .inl hq))⟩
            clear hT5 hk5 HM HKW HEW
            try dsimp only
            go_wp2_with fail
            refine (num07_nil w5).mono ?_
            rintro e wz ⟨rfl, rfl⟩
            try dsimp only
            have hGN := dget_none tb _ bb 3 6 B3 px hlx (by rw [HN3.out]; decide) HS3.out w5 H5.out.1
            go_wp2_with (first | (at_lookup; refine wpList_look_is _ rfl _ _ 66 rfl 5 3 (int_keyed Tryd.underlying5) Tryd.underlying66 (.int .i64 0) (hzz _) ob n' (atM pl n') rfl H5.out.2.1 (.int .u8 (x : Int)) (.int .u8 (x : Int)) rfl (u8_key _ ⟨by omega, by omega⟩) ?_; rw [HLK.out]; simp only [Option.getD_some]) | (refine look_is_w _ rfl _ _ 66 rfl 5 3 (int_keyed Tryd.underlying5) Tryd.underlying66 (.int .i64 0) (hzz _) ob n' (atM pl n') rfl H5.out.2.1 (.int .u8 (x : Int)) (.int .u8 (x : Int)) rfl (u8_key _ ⟨by omega, by omega⟩) ?_; rw [HLK.out]; simp only [Option.getD_some]))
            refine hGN.mono ?_
            clear hGN
            rintro e w6 ⟨⟨t, v, rfl, he⟩, hb6⟩
            have H6 : Hid (HolI 131 w6 tb (NMv w ob) bb 3 6 B3 ∧ MapIs Tryd.prog 5 w6 ob n' (atM pl n') ∧ Keeps (fun k => k < w.heap.size) w w6 ∧ ErrV w6 (.iface t v) 23) := Lib.hid ⟨H5.out.1.below hb6, H5.out.2.1.below hb6 H5.out.2.1.lt, H5.out.2.2.trans (Keeps.of_below hb6), he⟩
            clear he hb6 H5
            try dsimp only
            repeat ((fail_if_success (with_reducible refine stop_at 107 rfl ?_)); (first | (refine page_store rfl (.tmp 16) (.tmp 105) rfl w6.heap.size (zer 64) (zer 64) rfl rfl (heap_alloc_new w6 _) rfl rfl ?_) | go_values | go_skip | go_guarded | go_step | go_upon))
            have hbx : ∀ o : Obj, Below w6.heap.size w6 ((w6.alloc o).setRow w6.heap.size (v8a (zer 64))) := fun o => below_setRow ((Below.refl _ _).alloc (Nat.le_refl _) _) (Nat.le_refl _) _
            refine gen_world (fun wx => Hid (HolI 131 wx tb (NMv w ob) bb 3 6 B3 ∧ MapIs Tryd.prog 5 wx ob n' (atM pl n') ∧ Keeps (fun k => k < w.heap.size) w wx ∧ ErrV wx (.iface t v) 23)) (Lib.hid ⟨H6.out.1.below (hbx _), H6.out.2.1.below (hbx _) H6.out.2.1.lt, H6.out.2.2.1.trans (Keeps.of_below (hbx _)), H6.out.2.2.2.below (hbx _)⟩) ?_
            clear hbx H6
            generalize w6.heap.size = b16
            intro w7 H7
            have hNM := num07_err (.iface t v) 23 w7 H7.out.2.2.2 (HET.out.keeps H7.out.2.2.1 HET.out.pos)
            go_wp2_with fail
            refine hNM.mono ?_
            clear hNM
            rintro e w8 ⟨rfl, hb8⟩
            have H8 : Hid (HolI 131 w8 tb (NMv w ob) bb 3 6 B3 ∧ MapIs Tryd.prog 5 w8 ob n' (atM pl n') ∧ Keeps (fun k => k < w.heap.size) w w8) := Lib.hid ⟨H7.out.1.below hb8, H7.out.2.1.below hb8 H7.out.2.1.lt, H7.out.2.2.1.trans (Keeps.of_below hb8)⟩
            clear hb8 H7
            try dsimp only
            go_wp2_with (at_mapUpdate; refine wpList_store_cnt _ rfl _ _ _ 66 rfl 5 3 (int_keyed Tryd.underlying5) Tryd.underlying66 ob n' (atM pl n') rfl H8.out.2.1 ?hc (.int .u8 (x : Int)) (.int .i64 (k : Int)) (.int .u8 (x : Int)) rfl rfl ?hk ?_)
            case hc => unfold maxLen; omega
            case hk => exact u8_key _ ⟨by omega, by omega⟩
            intro w9 hm9 ht9
            rw [atM_set pl n' x k hx1, show cntIf (atM pl n' (.int .u8 (x : Int))).isSome n' = n' by rw [HLK.out]; rfl] at hm9
            have H9 : Hid (HolI 131 w9 tb (NMv w ob) bb 3 6 B3 ∧ MapIs Tryd.prog 5 w9 ob n' (atM (fun y => if y = x then k else pl y) n') ∧ Keeps (fun k => k < w.heap.size) w w9) := Lib.hid ⟨H8.out.1.turned ht9, hm9, kept_turned hob H8.out.2.2 ht9⟩
            clear hm9 ht9 H8 HLK HS3
            generalize (fun y => if y = x then k else pl y) = pk at H9 HD3
            try dsimp only
            go_wp2_with (at_range; refine wpList_range_is _ rfl _ 66 rfl 5 3 (int_keyed Tryd.underlying5) Tryd.underlying66 ob n' (atM pk n') rfl H9.out.2.1 ?_; intro w10 left0 hr0 hl0 hb10; go_frame)
            generalize hrr : w9.heap.size = r at hr0 hb10 ⊢
            have HB10 : Hid (Below w9.heap.size w9 w10) := Lib.hid (by rw [hrr]; exact hb10)
            have hor : ob < r := by have := H9.out.2.1.lt; omega
            have HR0 := Lib.hid hr0
            have HS0 : Hid (HolI 131 w10 tb (fun q => NMv w ob q ∨ q = r) bb 3 6 B3 ∧ Keeps (fun k => k < w.heap.size) w w10) := Lib.hid ⟨H9.out.1.keep HB10.out (fun q hq => by
              rcases hq with hq | rfl
              · exact ⟨Nat.lt_of_lt_of_le (H9.out.1.N_lt q hq) HB10.out.size, .inl hq⟩
              · exact ⟨HR0.out.lt, .inr (by omega)⟩), H9.out.2.2.trans (Keeps.of_below HB10.out)⟩
            clear hr0 hl0 hb10 HB10 H9 hrr
            go_loopw [18, 19] (fun yv sv wq => ∃ (left : Lit → Bool) (cnt : Nat), Hid (MapR Tryd.prog 5 wq ob r n' (atM pk n') left cnt) ∧ Hid (HolI 131 wq tb (fun q => NMv w ob q ∨ q = r) bb 3 6 B3 ∧ Keeps (fun k => k < w.heap.size) w wq)) (fun _ _ wq => wq.rangeLeft ob r)
            case atStart => exact ⟨left0, _, HR0, HS0⟩
            case round =>
              clear HR0 HS0
              obtain ⟨left, cnt, HR, HS⟩ := hrel
              go_wp2_with (at_next; refine wpList_next_is _ rfl _ rfl 5 .u8 (int_keyed Tryd.underlying5) Tryd.underlying5 ob r _ (atM pk n') left cnt rfl HR.out ?done ?more)
              case more =>
                intro y v w11 cnt11 hkey hly hfy hr11 hlt11 hg11 hs11 hen
                obtain ⟨yn, rfl, y1, y2, rfl⟩ := atM_inv hfy
                have HR11 := Lib.hid hr11
                have HT11 : Hid (HolI 131 w11 tb (fun q => NMv w ob q ∨ q = r) bb 3 6 B3 ∧ Keeps (fun k => k < w.heap.size) w w11) := Lib.hid ⟨HS.out.1.grow (Keeps.of_grown hg11 (fun q hq hn => by cases hq; exact hn (.inr rfl))) (fun q hq => ⟨Nat.lt_of_lt_of_le (HS.out.1.N_lt q hq) hg11.size, .inl hq⟩), HS.out.2.trans (Keeps.of_grown hg11 (fun q hq hn => by cases hq; have : r < w.heap.size := hn; omega))⟩
                have hlt := HD3.out.lt yn y1 y2
                have hGT := dget_any tb _ bb 3 6 B3 (pk yn) hlt (by rw [HN3.out]; decide) ((HD3.out.live _ hlt).2 ⟨yn, y1, y2, rfl⟩) w11 HT11.out.1
                rw [show B3.view (3 + pk yn / 4 * 5 + 1 + pk yn % 4) = pgOne (yn : Int) from HD3.out.page yn y1 y2] at hGT
                have HLT := Lib.hid hlt11
                have hlen1 : (pgOne (yn : Int)).length = 64 := rfl
                have HBY := Lib.hid (built_pg1 (yn : Int))
                have hdn : decide (pgOne (yn : Int) ≠ pgOne (yn : Int)) = false := by simp
                generalize pk yn = py at hGT hen hfy
                clear hkey hly hfy hr11 hlt11 hg11 hs11 hlt
                go_wp2_with fail
                refine hGT.mono ?_
                clear hGT hen
                rintro e w12 ⟨rfl, hb12⟩
                have H12 : Hid (MapR Tryd.prog 5 w12 ob r n' (atM pk n') (fun z => left z && !z.sameKey (.int .u8 (yn : Int))) cnt11 ∧ HolI 131 w12 tb (fun q => NMv w ob q ∨ q = r) bb 3 6 B3 ∧ Keeps (fun k => k < w.heap.size) w w12) := Lib.hid ⟨HR11.out.kept (hb12.block _ HR11.out.is.lt) (hb12.block _ HR11.out.lt), HT11.out.1.below hb12, HT11.out.2.trans (Keeps.of_below hb12)⟩
                clear hb12 HR11 HT11
                generalize hpgy : pgOne (yn : Int) = pgy at hlen1 HBY hdn ⊢
                try dsimp only
                repeat ((fail_if_success (with_reducible refine stop_at 126 rfl ?_)); (first | (refine page_store rfl (.tmp 20) (.tmp 124) rfl w12.heap.size pgy (zer 64) rfl rfl (heap_alloc_new w12 _) hlen1 rfl ?_) | go_values | go_skip | go_guarded | go_step | go_upon))
                have hbx : ∀ o : Obj, Below w12.heap.size w12 ((w12.alloc o).setRow w12.heap.size (v8a pgy)) := fun o => below_setRow ((Below.refl _ _).alloc (Nat.le_refl _) _) (Nat.le_refl _) _
                refine gen_world (fun wx => Hid (wx.heap[w12.heap.size]? = some (.cells (v8a pgy) 68) ∧ MapR Tryd.prog 5 wx ob r n' (atM pk n') (fun z => left z && !z.sameKey (.int .u8 (yn : Int))) cnt11 ∧ HolI 131 wx tb (fun q => NMv w ob q ∨ q = r) bb 3 6 B3 ∧ Keeps (fun k => k < w.heap.size) w wx)) (Lib.hid ⟨setRow_heap _ _ _ _ _ (0, 0) (heap_alloc_new w12 _), H12.out.1.kept ((hbx _).block _ H12.out.1.is.lt) ((hbx _).block _ H12.out.1.lt), H12.out.2.1.below (hbx _), H12.out.2.2.trans (Keeps.of_below (hbx _))⟩) ?_
                clear hbx H12
                generalize w12.heap.size = b20
                intro w13 H13
                repeat ((fail_if_success (with_reducible refine stop_at 131 rfl ?_)); (first | (refine page_load_g rfl (.tmp 20) rfl b20 pgy rfl H13.out.1 hlen1 ?_) | go_values | go_skip | go_guarded | go_step | go_upon))
                refine build_g1 rfl 68 #[(0, .tmp 130)] rfl (v8a pgy) ?_ ?_
                · simp [Act.eval]
                  exact HBY.out
                simp only [Act.put, List.setIfInBounds_toArray, List.set_cons_zero, List.set_cons_succ]
                go_wp2_with (first | (refine page_neq_g rfl (.tmp 129) (.tmp 131) _ rfl pgy pgy rfl rfl hlen1 hlen1 ?_; rw [hdn]) | (refine page_load_g rfl (.tmp 20) rfl b20 pgy rfl H13.out.1 hlen1 ?_) | (refine build_g1 rfl 68 _ rfl (v8a pgy) HBY.out ?_))
                exact ⟨⟨_, cnt11, Lib.hid H13.out.2.1, Lib.hid H13.out.2.2⟩, by rw [H13.out.2.1.left_eq, HR.out.left_eq]; exact HLT.out⟩
              case done =>
                intro hld
                clear hld
                have H14 : Hid (∃ pl, MvI w tb bb ob n' pl wr) := Lib.hid ⟨pk, B3, HS.out.1.keep (Below.refl _ _) (fun q hq => ⟨HS.out.1.N_lt q (.inl hq), .inl (.inl hq)⟩), HD3.out, HR.out.is, HS.out.2⟩
                clear HR HS
                go_wp2_with fail
                exact ⟨⟨j + 1, by go_num, by omega, H14⟩, by simp [intOf]; omega⟩
        · have hnl : ¬ ((j : Int) < len) := by omega
          obtain ⟨pl, B, hT, hD, hM, hkw⟩ := H.out
          have hC := dcount_any tb _ bb 3 6 B (by rw [hD.n]; decide) wr hT
          rw [show 6 * 4 = 24 from rfl, hD.cnt] at hC
          generalize cntD B 3 2 24 = c2 at hC
          generalize cntD B 3 0 24 = c0 at hC
          have HKW := Lib.hid hkw
          clear hT hD hM hkw H
          go_wp2_with fail
          refine hC.mono ?_
          clear hC
          rintro e w5 ⟨rfl, hb5⟩
          try dsimp only
          go_wp2_with fail
          go_ret
          exact ⟨rfl, (HKW.out.trans (Keeps.of_below hb5)).below (Nat.le_refl _) (fun q hq => hq)⟩
end Go.Proofs.YthaaoghbginmpaaDoor
