/- PrintsRuns, plain: the entries of a table, place by place; what is found of them. -/
import Derived.Test.YtajmcplanlibnaaGreatDoorKE7
import Derived.Test.YtajmcplanlibnaaGreatDoorKF2p
import Derived.Test.YtajmcplanlibnaaGreatDoorKUg
set_option linter.unusedSimpArgs false
set_option linter.unusedVariables false
set_option linter.unnecessarySimpa false
namespace Go.Proofs.YtajmcplanlibnaaGreatDoor
open Go.RowKit Go.Maps
/-- A digest of the law's. -/
def digX (x : Int) : List Int := x % 4 :: 0 :: 1 :: (zer 28 ++ [x])
theorem digX_ok (x : Int) (hx : 0 ≤ x ∧ x < 256) : (digX x).length = 32 ∧ U8s (digX x) := by
  refine ⟨by simp [digX, zer], fun y hy => ?_⟩
  unfold digX at hy
  rcases List.mem_cons.1 hy with rfl | hy
  · omega
  rcases List.mem_cons.1 hy with rfl | hy
  · decide
  rcases List.mem_cons.1 hy with rfl | hy
  · decide
  rcases List.mem_append.1 hy with hy | hy
  · exact zer_u8 28 y hy
  · rw [List.mem_singleton.1 hy]; exact hx
theorem digX_inj {x y : Int} (h : digX x = digX y) : x = y := by
  unfold digX at h
  simp only [List.cons.injEq, true_and] at h
  have h2 := List.append_cancel_left h.2
  simpa using h2
/-- An entry: the digest, the slot, how often it is wanted. -/
abbrev En := List Int × Int × Int
def EnOk (e : En) : Prop := (e.1.length = 32 ∧ U8s e.1) ∧ (0 ≤ e.2.1 ∧ e.2.1 < 256) ∧ 1 ≤ e.2.2 ∧ e.2.2 ≤ 15
def pgE : Option En → List Int
  | none => zer 64
  | some e => setP e.1 e.2.1 e.2.2
/-- The table has these entries at these places. -/
structure EnX (fs : Nat) (B : BookS) (n : Nat) (M : Nat → Option En) : Prop where
  pg : ∀ p, p < n → B.view (fs + p) = pgE (M p)
  ok : ∀ p e, p < n → M p = some e → EnOk e
  out : ∀ p, n ≤ p → M p = none
  keys : ∀ i, (B.f i).isSome = true → fs ≤ i ∧ i < fs + n
  le : fs + n ≤ B.n
theorem nodup_leE : ∀ (l m : List Nat), l.Nodup → (∀ x ∈ l, x ∈ m) → l.length ≤ m.length
  | [], m, _, _ => Nat.zero_le _
  | x :: l, m, hn, hs => by
    have hx : x ∈ m := hs x (by simp)
    have h1 := List.length_erase_of_mem hx
    have hp := List.length_pos_of_mem hx
    obtain ⟨hnx, hnl⟩ := List.nodup_cons.1 hn
    have ih := nodup_leE l (m.erase x) hnl (fun y hy => by
      have hyx : y ≠ x := fun e => hnx (e ▸ hy)
      exact (List.mem_erase_of_ne hyx).2 (hs y (by simp [hy])))
    simp only [List.length_cons]
    omega
def setM (M : Nat → Option En) (k : Nat) (e : Option En) : Nat → Option En := fun p => if p = k then e else M p
section
variable {fs : Nat} {B : BookS} {n : Nat} {M : Nat → Option En}
theorem EnX.room (h : EnX fs B n M) (hn : n ≤ 60) (p : Nat) (hp : p < n) (q : List Int) : (B.f (fs + p)).isSome = true ∨ B.view (fs + p) = q ∨ (keysF B.f B.n).length ≠ 60 := by
  by_cases hf : (B.f (fs + p)).isSome = true
  · exact .inl hf
  · right; right
    have hnd : ((fs + p) :: keysF B.f B.n).Nodup := by
      refine List.nodup_cons.2 ⟨fun hm => ?_, List.nodup_range.filter _⟩
      unfold keysF at hm
      exact hf (List.mem_filter.1 hm).2
    have := nodup_leE _ ((List.range n).map (fs + ·)) hnd (fun x hx => by
      rcases List.mem_cons.1 hx with rfl | hx
      · exact List.mem_map.2 ⟨p, List.mem_range.2 hp, rfl⟩
      · unfold keysF at hx
        have hk := h.keys x (List.mem_filter.1 hx).2
        exact List.mem_map.2 ⟨x - fs, List.mem_range.2 (by omega), by omega⟩)
    rw [List.length_cons, List.length_map, List.length_range] at this
    omega
theorem EnX.ent (h : EnX fs B n M) (p : Nat) (hp : p < n) : isEnt (B.view (fs + p)) = (M p).isSome := by
  rw [h.pg p hp]
  cases hm : M p with
  | none => rfl
  | some e =>
    have ho := h.ok p e hp hm
    show isEnt (setP e.1 e.2.1 e.2.2) = true
    rw [setP_is _ _ _ ho.1.1, decide_eq_true_eq]
    have := ho.2.2.1; omega
theorem EnX.parts (h : EnX fs B n M) {p : Nat} (hp : p < n) {e : En} (hm : M p = some e) : pDg (B.view (fs + p)) = e.1 ∧ pSlot (B.view (fs + p)) = e.2.1 ∧ pRefs (B.view (fs + p)) = e.2.2 := by
  rw [h.pg p hp, hm]
  have ho := h.ok p e hp hm
  have hr : 0 < e.2.2 := by have := ho.2.2.1; omega
  exact ⟨setP_dg _ _ _ ho.1.1 hr, setP_slot _ _ _ ho.1.1 hr ho.2.1, setP_refs _ _ _ ho.1.1 hr ho.2.2.2⟩
theorem EnX.look (h : EnX fs B n M) {p : Nat} (hp : p < n) {e : En} (hm : M p = some e) : lookC (B.view (fs + p)) = entC e.1 e.2.1 e.2.2 := by
  obtain ⟨h1, h2, h3⟩ := h.parts hp hm
  unfold lookC
  rw [h.ent p hp, hm, h1, h2, h3]
  rfl
/-- Is an entry at a place to be found by a digest? by a slot? -/
def fQ (M : Nat → Option En) (d : List Int) (p : Nat) : Bool := match M p with
  | none => false
  | some e => decide (e.1 = d) && decide (e.2.2 < 15)
def sQ (M : Nat → Option En) (s : Int) (p : Nat) : Bool := match M p with
  | none => false
  | some e => decide (e.2.1 = s)
theorem EnX.find (h : EnX fs B n M) (d : List Int) (p : Nat) (hp : p < n) : findQ B fs d p = fQ M d p := by
  unfold findQ fQ
  rw [h.ent p hp]
  cases hm : M p with
  | none => rfl
  | some e =>
    obtain ⟨h1, h2, h3⟩ := h.parts hp hm
    rw [h1, h3]; rfl
theorem EnX.slot (h : EnX fs B n M) (s : Int) (p : Nat) (hp : p < n) : slotQ B fs s p = sQ M s p := by
  unfold slotQ sQ
  rw [h.ent p hp]
  cases hm : M p with
  | none => rfl
  | some e =>
    obtain ⟨h1, h2, h3⟩ := h.parts hp hm
    rw [h2]; rfl
theorem EnX.free (h : EnX fs B n M) (p : Nat) (hp : p < n) : freeQ B fs p = (M p).isNone := by
  unfold freeQ
  rw [h.ent p hp]
  cases M p <;> rfl
theorem EnX.set (h : EnX fs B n M) {p : Nat} (hp : p < n) {dg : List Int} {sl rf : Int} (hd : dg.length = 32 ∧ U8s dg) (hs : 0 ≤ sl ∧ sl < 256) (hr : 0 ≤ rf ∧ rf ≤ 15) :
    EnX fs (B.wrote (fs + p) (setP dg sl rf)) n (setM M p (if 0 < rf then some (dg, sl, rf) else none)) := by
  refine ⟨fun q hq => ?_, fun q e hq hm => ?_, fun q hq => ?_, fun i hi => ?_, by rw [BookS.wrote_n]; exact h.le⟩
  · rw [BookS.wrote_view]
    unfold setM
    by_cases e : q = p
    · rw [if_pos (by omega), if_pos e]
      by_cases h0 : 0 < rf
      · rw [if_pos h0]; rfl
      · rw [if_neg h0]
        unfold setP
        rw [if_neg h0]; rfl
    · rw [if_neg (by omega), if_neg e]; exact h.pg q hq
  · unfold setM at hm
    by_cases eq : q = p
    · rw [if_pos eq] at hm
      by_cases h0 : 0 < rf
      · rw [if_pos h0] at hm; cases hm; exact ⟨hd, hs, by show 1 ≤ rf; omega, hr.2⟩
      · rw [if_neg h0] at hm; cases hm
    · rw [if_neg eq] at hm; exact h.ok q e hq hm
  · unfold setM
    rw [if_neg (by omega)]; exact h.out q hq
  · rcases BookS.wrote_f B (fs + p) (setP dg sl rf) i with e | ⟨e, _⟩
    · rw [e] at hi; exact h.keys i hi
    · omega
theorem EnX.start (B : BookS) (n : Nat) (hn : fs + n ≤ B.n) (ho : B.opn = none) (hz : ∀ p, p < n → B.view (fs + p) = zer 64) : EnX fs B n (fun _ => none) :=
  ⟨fun p hp => hz p hp, fun p e _ h => (by cases h), fun _ _ => rfl, fun i hi => (by rw [opn_f ho] at hi; cases hi), hn⟩
theorem EnX.congr {B' : BookS} (h : EnX fs B n M) (hn : B'.n = B.n) (ho : B'.opn = none) (hv : ∀ i, i < B.n → B'.view i = B.view i) : EnX fs B' n M :=
  ⟨fun p hp => by have := h.le; rw [hv _ (by omega)]; exact h.pg p hp, h.ok, h.out, fun i hi => (by rw [opn_f ho] at hi; cases hi), by rw [hn]; exact h.le⟩
theorem setP_tame (dg : List Int) (sl rf : Int) : Tame (setP dg sl rf) := by
  left
  unfold setP
  split
  · show (1 : Int) ≠ 84; decide
  · show (0 : Int) ≠ 84; decide
theorem setP_okT {dg : List Int} {sl rf : Int} (hd : dg.length = 32 ∧ U8s dg) (hs : 0 ≤ sl ∧ sl < 256) (hr : 0 ≤ rf ∧ rf ≤ 15) : PgOk (setP dg sl rf) := setP_ok _ _ _ hd
theorem EnX.cnt (h : EnX fs B n M) : B.cnt ≤ n := by
  unfold BookS.cnt
  have hnd : (keysF B.f B.n).Nodup := List.nodup_range.filter _
  have := nodup_leE _ ((List.range n).map (fs + ·)) hnd (fun x hx => by
    unfold keysF at hx
    have hk := h.keys x (List.mem_filter.1 hx).2
    exact List.mem_map.2 ⟨x - fs, List.mem_range.2 (by omega), by omega⟩)
  rw [List.length_map, List.length_range] at this
  exact this
/-- How many entries there are. -/
def cntM (M : Nat → Option En) (n : Nat) : Nat := ((List.range n).filter fun p => (M p).isSome).length
theorem cntM_le (M : Nat → Option En) (n : Nat) : cntM M n ≤ n := by
  have := List.length_filter_le (fun p => (M p).isSome) (List.range n)
  rwa [List.length_range] at this
theorem cntM_set (M : Nat → Option En) (n k : Nat) (e : Option En) (hk : k < n) : cntM (setM M k e) n + (if (M k).isSome then 1 else 0) = cntM M n + (if e.isSome then 1 else 0) := by
  unfold cntM
  have key : ∀ m, ((List.range m).filter fun p => (setM M k e p).isSome).length + (if k < m ∧ (M k).isSome = true then 1 else 0) = ((List.range m).filter fun p => (M p).isSome).length + (if k < m ∧ e.isSome = true then 1 else 0) := by
    intro m
    induction m with
    | zero => simp
    | succ m ih =>
      rw [List.range_succ, List.filter_append, List.filter_append, List.length_append, List.length_append]
      by_cases em : m = k
      · subst em
        have h1 : setM M m e m = e := by unfold setM; rw [if_pos rfl]
        cases he : e.isSome <;> cases hm : (M m).isSome <;> simp [h1, he, hm] at ih ⊢ <;> omega
      · have h1 : setM M k e m = M m := by unfold setM; rw [if_neg em]
        have h2 : (k < m + 1) ↔ k < m := by omega
        cases hm : (M m).isSome <;> simp [h1, hm, h2] at ih ⊢ <;> omega
  have := key n
  simpa [hk] using this
theorem cntM_full (M : Nat → Option En) (n : Nat) (h : cntM M n = n) (p : Nat) (hp : p < n) : (M p).isSome = true := by
  apply Classical.byContradiction
  intro hn
  have hall := nodup_leE (p :: (List.range n).filter fun p => (M p).isSome) (List.range n) (List.nodup_cons.2 ⟨fun hm => hn (List.mem_filter.1 hm).2, List.nodup_range.filter _⟩) (fun x hx => by
    rcases List.mem_cons.1 hx with rfl | hx
    · exact List.mem_range.2 hp
    · exact (List.mem_filter.1 hx).1)
  rw [List.length_cons, List.length_range] at hall
  unfold cntM at h
  omega
theorem cntM_room (M : Nat → Option En) (n : Nat) (h : cntM M n ≠ n) : ∃ p, p < n ∧ M p = none := by
  apply Classical.byContradiction
  intro hn
  refine h ?_
  unfold cntM
  rw [List.filter_eq_self.2, List.length_range]
  intro p hp
  cases hm : M p with
  | none => exact absurd ⟨p, List.mem_range.1 hp, hm⟩ hn
  | some e => rfl
theorem EnX.ents (h : EnX fs B n M) : entN B fs n = (List.range n).filter fun p => (M p).isSome := by
  unfold entN
  exact List.filter_congr (fun p hp => h.ent p (List.mem_range.1 hp))
/-- The places of entries ascend; each is one. -/
theorem ents_at {l : List Nat} (M : Nat → Option En) (n : Nat) (hl : l = (List.range n).filter fun p => (M p).isSome) (k : Nat) (hk : k < l.length) : l[k] < n ∧ (M l[k]).isSome = true ∧ (∀ j (hj : j < l.length), j < k → l[j] < l[k]) := by
  have hm : l[k] ∈ (List.range n).filter fun p => (M p).isSome := by rw [← hl]; exact List.getElem_mem hk
  refine ⟨List.mem_range.1 (List.mem_filter.1 hm).1, (List.mem_filter.1 hm).2, fun j hj hjk => ?_⟩
  have hs : l.Pairwise (· < ·) := by rw [hl]; exact List.pairwise_lt_range.filter _
  exact List.pairwise_iff_getElem.1 hs j k hj hk hjk
end
/-- Is there an entry for it among the first? -/
def anyM (P : En → Bool) (M : Nat → Option En) (n : Nat) : Bool := (List.range n).any fun p => match M p with
  | none => false
  | some e => P e
theorem anyM_iff (P : En → Bool) (M : Nat → Option En) (n : Nat) : anyM P M n = true ↔ ∃ p e, p < n ∧ M p = some e ∧ P e = true := by
  unfold anyM
  rw [List.any_eq_true]
  constructor
  · rintro ⟨p, hp, h⟩
    cases hm : M p with
    | none => rw [hm] at h; cases h
    | some e => rw [hm] at h; exact ⟨p, e, List.mem_range.1 hp, hm, h⟩
  · rintro ⟨p, e, hp, hm, h⟩
    exact ⟨p, List.mem_range.2 hp, by rw [hm]; exact h⟩
theorem seek_any (h n : Nat) (Q : Nat → Bool) : (seekO h n Q).isSome = (List.range n).any Q := by
  cases hs : seekO h n Q with
  | none =>
    symm
    rw [Option.isSome_none, ← Bool.not_eq_true, List.any_eq_true]
    rintro ⟨p, hp, hq⟩
    have := seekO_no hs p (List.mem_range.1 hp)
    rw [hq] at this; cases this
  | some i =>
    obtain ⟨h1, h2⟩ := seekO_spec hs
    symm
    rw [Option.isSome_some, List.any_eq_true]
    exact ⟨i, List.mem_range.2 h1, h2⟩
theorem fQ_any (M : Nat → Option En) (d : List Int) (n : Nat) : (List.range n).any (fQ M d) = anyM (fun e => decide (e.1 = d) && decide (e.2.2 < 15)) M n := by
  unfold anyM fQ
  rfl
theorem sQ_any (M : Nat → Option En) (s : Int) (n : Nat) : (List.range n).any (sQ M s) = anyM (fun e => decide (e.2.1 = s)) M n := by
  unfold anyM sQ
  rfl
theorem seek_congr (h n : Nat) {Q Q' : Nat → Bool} (e : ∀ p, p < n → Q p = Q' p) : seekO h n Q = seekO h n Q' := by
  unfold seekO
  by_cases hn : n = 0
  · subst hn; rfl
  · have : ∀ l : List Nat, (∀ x ∈ l, x < n) → l.find? Q = l.find? Q' := by
      intro l
      induction l with
      | nil => intro _; rfl
      | cons x l ih =>
        intro hx
        rw [List.find?_cons, List.find?_cons, e x (hx x (by simp)), ih (fun y hy => hx y (by simp [hy]))]
    refine this _ (fun x hx => ?_)
    obtain ⟨k, _, rfl⟩ := List.mem_map.1 hx
    exact Nat.mod_lt _ (by omega)
/-- The map of entries. -/
noncomputable def enL (M : Nat → Option En) : Lit → Option Value := fun l => match l with
  | .int .i64 i => if 0 ≤ i then (M i.toNat).map fun e => .agg (entC e.1 e.2.1 e.2.2) else none
  | _ => none
theorem enL_at (M : Nat → Option En) (i : Nat) : enL M (.int .i64 (i : Int)) = (M i).map fun e => .agg (entC e.1 e.2.1 e.2.2) := by simp [enL]
theorem enL_upd (M : Nat → Option En) (i : Nat) (e : Option En) : upd (enL M) (.int .i64 (i : Int)) (e.map fun e => .agg (entC e.1 e.2.1 e.2.2)) = enL (setM M i e) := by
  funext l
  by_cases h : l = .int .i64 (i : Int)
  · subst h; rw [upd_same, enL_at]; simp [setM]
  · rw [upd_other _ h]
    unfold enL
    split
    · rename_i j
      split
      · rename_i hj
        have : j.toNat ≠ i := fun e => h (by congr 1; omega)
        simp [setM, this]
      · rfl
    · rfl
theorem enL_put (M : Nat → Option En) (i : Nat) (dg : List Int) (sl rf : Int) : upd (enL M) (.int .i64 (i : Int)) (some (.agg (entC dg sl rf))) = enL (setM M i (some (dg, sl, rf))) := enL_upd M i (some (dg, sl, rf))
theorem enL_del (M : Nat → Option En) (i : Nat) : upd (enL M) (.int .i64 (i : Int)) none = enL (setM M i none) := enL_upd M i none
theorem enL_none : enL (fun _ => none) = fun _ => none := by
  funext l; unfold enL; split
  · simp
  · rfl
theorem enL_inv {M : Nat → Option En} {x : Int} {v : Value} (h : enL M (.int .i64 x) = some v) : ∃ (i : Nat) (e : En), x = (i : Int) ∧ M i = some e ∧ v = .agg (entC e.1 e.2.1 e.2.2) := by
  simp only [enL] at h
  split at h
  · rename_i hx
    cases hm : M x.toNat with
    | none => rw [hm] at h; cases h
    | some e =>
      rw [hm] at h
      simp only [Option.map_some, Option.some.injEq] at h
      exact ⟨x.toNat, e, by omega, hm, h.symm⟩
  · cases h
/-- The disjunction over all entries, gathered in whatever order. -/
theorem any_met {M : Nat → Option En} {n : Nat} (hout : ∀ p, n ≤ p → M p = none) (P : En → Bool) {left : Lit → Bool} {ks : List Int} (hm : Met .i64 (enL M) left ks) (hl : ∀ kl, left kl = false) (hn : n ≤ 2048) :
    (ks.any fun x => match M x.toNat with | none => false | some e => decide (0 ≤ x) && P e) = anyM P M n := by
  rw [Bool.eq_iff_iff, anyM_iff, List.any_eq_true]
  constructor
  · rintro ⟨x, hx, h⟩
    cases hmx : M x.toNat with
    | none => rw [hmx] at h; cases h
    | some e =>
      rw [hmx] at h
      rw [Bool.and_eq_true] at h
      refine ⟨x.toNat, e, ?_, hmx, h.2⟩
      apply Classical.byContradiction
      intro hn
      rw [hout x.toNat (by omega)] at hmx; cases hmx
  · rintro ⟨p, e, hp, hmx, hP⟩
    have hw : (Lit.int .i64 (p : Int)).wf = true := by
      have emin : IntKind.i64.min = -9223372036854775808 := rfl
      have emax : IntKind.i64.max = 9223372036854775807 := rfl
      simp [Lit.wf, emin, emax]; omega
    refine ⟨(p : Int), (hm.2 _ hw).2 ⟨by rw [enL_at, hmx]; rfl, hl _⟩, ?_⟩
    rw [Int.toNat_natCast, hmx]
    simp [hP]
end Go.Proofs.YtajmcplanlibnaaGreatDoor
