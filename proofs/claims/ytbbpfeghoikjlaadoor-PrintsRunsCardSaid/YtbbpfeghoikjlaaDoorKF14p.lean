/- PrintsRuns, plain: the entries of a table, place by place; what is found of them. -/
import Derived.Test.YtbbpfeghoikjlaaDoorE7
import Derived.Test.YtbbpfeghoikjlaaDoorF2p
import Derived.Test.YtbbpfeghoikjlaaDoorF1
set_option linter.unusedSimpArgs false
set_option linter.unusedVariables false
set_option linter.unnecessarySimpa false
namespace Go.Proofs.YtbbpfeghoikjlaaDoor
open Go.RowKit Go.Maps
/-- A digest of the law's. -/
def digX (x : Int) : List Int := x % 4 :: 0 :: 1 :: (zer 28 ++ [x])
theorem digX_ok (x : Int) (hx : 0 ≤ x ∧ x < 256) : (digX x).length = 32 ∧ U8s (digX x) := by
  refine ⟨by simp [digX, zer], fun y hy => ?_⟩
  unfold digX at hy
  rcases List.mem_cons.1 hy with rfl | hy
  · omega
  rcases List.mem_cons.1 hy with rfl | hy
  · decide
  rcases List.mem_cons.1 hy with rfl | hy
  · decide
  rcases List.mem_append.1 hy with hy | hy
  · exact zer_u8 28 y hy
  · rw [List.mem_singleton.1 hy]; exact hx
theorem digX_inj {x y : Int} (h : digX x = digX y) : x = y := by
  unfold digX at h
  simp only [List.cons.injEq, true_and] at h
  have h2 := List.append_cancel_left h.2
  simpa using h2
/-- An entry: the digest, the slot, how often it is wanted. -/
abbrev En := List Int × Int × Int
def EnOk (e : En) : Prop := (e.1.length = 32 ∧ U8s e.1) ∧ (0 ≤ e.2.1 ∧ e.2.1 < 256) ∧ 1 ≤ e.2.2 ∧ e.2.2 ≤ 15
def pgE : Option En → List Int
  | none => zer 64
  | some e => setP e.1 e.2.1 e.2.2
/-- The table has these entries at these places. -/
structure EnX (B : BookS) (n : Nat) (M : Nat → Option En) : Prop where
  pg : ∀ p, p < n → B.view (3 + p) = pgE (M p)
  ok : ∀ p e, p < n → M p = some e → EnOk e
  out : ∀ p, n ≤ p → M p = none
  keys : ∀ i, (B.f i).isSome = true → 3 ≤ i ∧ i < 3 + n
  le : 3 + n ≤ B.n
theorem nodup_leE : ∀ (l m : List Nat), l.Nodup → (∀ x ∈ l, x ∈ m) → l.length ≤ m.length
  | [], m, _, _ => Nat.zero_le _
  | x :: l, m, hn, hs => by
    have hx : x ∈ m := hs x (by simp)
    have h1 := List.length_erase_of_mem hx
    have hp := List.length_pos_of_mem hx
    obtain ⟨hnx, hnl⟩ := List.nodup_cons.1 hn
    have ih := nodup_leE l (m.erase x) hnl (fun y hy => by
      have hyx : y ≠ x := fun e => hnx (e ▸ hy)
      exact (List.mem_erase_of_ne hyx).2 (hs y (by simp [hy])))
    simp only [List.length_cons]
    omega
def setM (M : Nat → Option En) (k : Nat) (e : Option En) : Nat → Option En := fun p => if p = k then e else M p
section
variable {B : BookS} {n : Nat} {M : Nat → Option En}
theorem EnX.room (h : EnX B n M) (hn : n ≤ 60) (p : Nat) (hp : p < n) (q : List Int) : (B.f (3 + p)).isSome = true ∨ B.view (3 + p) = q ∨ (keysF B.f B.n).length ≠ 60 := by
  by_cases hf : (B.f (3 + p)).isSome = true
  · exact .inl hf
  · right; right
    have hnd : ((3 + p) :: keysF B.f B.n).Nodup := by
      refine List.nodup_cons.2 ⟨fun hm => ?_, List.nodup_range.filter _⟩
      unfold keysF at hm
      exact hf (List.mem_filter.1 hm).2
    have := nodup_leE _ ((List.range n).map (3 + ·)) hnd (fun x hx => by
      rcases List.mem_cons.1 hx with rfl | hx
      · exact List.mem_map.2 ⟨p, List.mem_range.2 hp, rfl⟩
      · unfold keysF at hx
        have hk := h.keys x (List.mem_filter.1 hx).2
        exact List.mem_map.2 ⟨x - 3, List.mem_range.2 (by omega), by omega⟩)
    rw [List.length_cons, List.length_map, List.length_range] at this
    omega
theorem EnX.ent (h : EnX B n M) (p : Nat) (hp : p < n) : isEnt (B.view (3 + p)) = (M p).isSome := by
  rw [h.pg p hp]
  cases hm : M p with
  | none => rfl
  | some e =>
    have ho := h.ok p e hp hm
    show isEnt (setP e.1 e.2.1 e.2.2) = true
    rw [setP_is _ _ _ ho.1.1, decide_eq_true_eq]
    have := ho.2.2.1; omega
theorem EnX.parts (h : EnX B n M) {p : Nat} (hp : p < n) {e : En} (hm : M p = some e) : pDg (B.view (3 + p)) = e.1 ∧ pSlot (B.view (3 + p)) = e.2.1 ∧ pRefs (B.view (3 + p)) = e.2.2 := by
  rw [h.pg p hp, hm]
  have ho := h.ok p e hp hm
  have hr : 0 < e.2.2 := by have := ho.2.2.1; omega
  exact ⟨setP_dg _ _ _ ho.1.1 hr, setP_slot _ _ _ ho.1.1 hr ho.2.1, setP_refs _ _ _ ho.1.1 hr ho.2.2.2⟩
theorem EnX.look (h : EnX B n M) {p : Nat} (hp : p < n) {e : En} (hm : M p = some e) : lookC (B.view (3 + p)) = entC e.1 e.2.1 e.2.2 := by
  obtain ⟨h1, h2, h3⟩ := h.parts hp hm
  unfold lookC
  rw [h.ent p hp, hm, h1, h2, h3]
  rfl
/-- Is an entry at a place to be found by a digest? by a slot? -/
def fQ (M : Nat → Option En) (d : List Int) (p : Nat) : Bool := match M p with
  | none => false
  | some e => decide (e.1 = d) && decide (e.2.2 < 15)
def sQ (M : Nat → Option En) (s : Int) (p : Nat) : Bool := match M p with
  | none => false
  | some e => decide (e.2.1 = s)
theorem EnX.find (h : EnX B n M) (d : List Int) (p : Nat) (hp : p < n) : findQ B 3 d p = fQ M d p := by
  unfold findQ fQ
  rw [h.ent p hp]
  cases hm : M p with
  | none => rfl
  | some e =>
    obtain ⟨h1, h2, h3⟩ := h.parts hp hm
    rw [h1, h3]; rfl
theorem EnX.slot (h : EnX B n M) (s : Int) (p : Nat) (hp : p < n) : slotQ B 3 s p = sQ M s p := by
  unfold slotQ sQ
  rw [h.ent p hp]
  cases hm : M p with
  | none => rfl
  | some e =>
    obtain ⟨h1, h2, h3⟩ := h.parts hp hm
    rw [h2]; rfl
theorem EnX.free (h : EnX B n M) (p : Nat) (hp : p < n) : freeQ B 3 p = (M p).isNone := by
  unfold freeQ
  rw [h.ent p hp]
  cases M p <;> rfl
theorem EnX.set (h : EnX B n M) {p : Nat} (hp : p < n) {dg : List Int} {sl rf : Int} (hd : dg.length = 32 ∧ U8s dg) (hs : 0 ≤ sl ∧ sl < 256) (hr : 0 ≤ rf ∧ rf ≤ 15) :
    EnX (B.wrote (3 + p) (setP dg sl rf)) n (setM M p (if 0 < rf then some (dg, sl, rf) else none)) := by
  refine ⟨fun q hq => ?_, fun q e hq hm => ?_, fun q hq => ?_, fun i hi => ?_, by rw [BookS.wrote_n]; exact h.le⟩
  · rw [BookS.wrote_view]
    unfold setM
    by_cases e : q = p
    · rw [if_pos (by omega), if_pos e]
      by_cases h0 : 0 < rf
      · rw [if_pos h0]; rfl
      · rw [if_neg h0]
        unfold setP
        rw [if_neg h0]; rfl
    · rw [if_neg (by omega), if_neg e]; exact h.pg q hq
  · unfold setM at hm
    by_cases eq : q = p
    · rw [if_pos eq] at hm
      by_cases h0 : 0 < rf
      · rw [if_pos h0] at hm; cases hm; exact ⟨hd, hs, by show 1 ≤ rf; omega, hr.2⟩
      · rw [if_neg h0] at hm; cases hm
    · rw [if_neg eq] at hm; exact h.ok q e hq hm
  · unfold setM
    rw [if_neg (by omega)]; exact h.out q hq
  · rcases BookS.wrote_f B (3 + p) (setP dg sl rf) i with e | ⟨e, _⟩
    · rw [e] at hi; exact h.keys i hi
    · omega
theorem EnX.start (n : Nat) (hn : n ≤ 195) : EnX freshB n (fun _ => none) :=
  ⟨fun p hp => freshB_view _ (by omega), fun p e _ h => (by cases h), fun _ _ => rfl, fun i hi => (by cases hi), by rw [freshB_n]; omega⟩
/-- How many entries there are. -/
def cntM (M : Nat → Option En) (n : Nat) : Nat := ((List.range n).filter fun p => (M p).isSome).length
theorem cntM_le (M : Nat → Option En) (n : Nat) : cntM M n ≤ n := by
  have := List.length_filter_le (fun p => (M p).isSome) (List.range n)
  rwa [List.length_range] at this
theorem cntM_set (M : Nat → Option En) (n k : Nat) (e : Option En) (hk : k < n) : cntM (setM M k e) n + (if (M k).isSome then 1 else 0) = cntM M n + (if e.isSome then 1 else 0) := by
  unfold cntM
  have key : ∀ m, ((List.range m).filter fun p => (setM M k e p).isSome).length + (if k < m ∧ (M k).isSome = true then 1 else 0) = ((List.range m).filter fun p => (M p).isSome).length + (if k < m ∧ e.isSome = true then 1 else 0) := by
    intro m
    induction m with
    | zero => simp
    | succ m ih =>
      rw [List.range_succ, List.filter_append, List.filter_append, List.length_append, List.length_append]
      by_cases em : m = k
      · subst em
        have h1 : setM M m e m = e := by unfold setM; rw [if_pos rfl]
        cases he : e.isSome <;> cases hm : (M m).isSome <;> simp [h1, he, hm] at ih ⊢ <;> omega
      · have h1 : setM M k e m = M m := by unfold setM; rw [if_neg em]
        have h2 : (k < m + 1) ↔ k < m := by omega
        cases hm : (M m).isSome <;> simp [h1, hm, h2] at ih ⊢ <;> omega
  have := key n
  simpa [hk] using this
theorem cntM_full (M : Nat → Option En) (n : Nat) (h : cntM M n = n) (p : Nat) (hp : p < n) : (M p).isSome = true := by
  apply Classical.byContradiction
  intro hn
  have hall := nodup_leE (p :: (List.range n).filter fun p => (M p).isSome) (List.range n) (List.nodup_cons.2 ⟨fun hm => hn (List.mem_filter.1 hm).2, List.nodup_range.filter _⟩) (fun x hx => by
    rcases List.mem_cons.1 hx with rfl | hx
    · exact List.mem_range.2 hp
    · exact (List.mem_filter.1 hx).1)
  rw [List.length_cons, List.length_range] at hall
  unfold cntM at h
  omega
theorem cntM_room (M : Nat → Option En) (n : Nat) (h : cntM M n ≠ n) : ∃ p, p < n ∧ M p = none := by
  apply Classical.byContradiction
  intro hn
  refine h ?_
  unfold cntM
  rw [List.filter_eq_self.2, List.length_range]
  intro p hp
  cases hm : M p with
  | none => exact absurd ⟨p, List.mem_range.1 hp, hm⟩ hn
  | some e => rfl
theorem EnX.ents (h : EnX B n M) : entN B 3 n = (List.range n).filter fun p => (M p).isSome := by
  unfold entN
  exact List.filter_congr (fun p hp => h.ent p (List.mem_range.1 hp))
/-- The places of entries ascend; each is one. -/
theorem ents_at {l : List Nat} (M : Nat → Option En) (n : Nat) (hl : l = (List.range n).filter fun p => (M p).isSome) (k : Nat) (hk : k < l.length) : l[k] < n ∧ (M l[k]).isSome = true ∧ (∀ j (hj : j < l.length), j < k → l[j] < l[k]) := by
  have hm : l[k] ∈ (List.range n).filter fun p => (M p).isSome := by rw [← hl]; exact List.getElem_mem hk
  refine ⟨List.mem_range.1 (List.mem_filter.1 hm).1, (List.mem_filter.1 hm).2, fun j hj hjk => ?_⟩
  have hs : l.Pairwise (· < ·) := by rw [hl]; exact List.pairwise_lt_range.filter _
  exact List.pairwise_iff_getElem.1 hs j k hj hk hjk
end
/-- Is there an entry for it among the first? -/
def anyM (P : En → Bool) (M : Nat → Option En) (n : Nat) : Bool := (List.range n).any fun p => match M p with
  | none => false
  | some e => P e
theorem anyM_iff (P : En → Bool) (M : Nat → Option En) (n : Nat) : anyM P M n = true ↔ ∃ p e, p < n ∧ M p = some e ∧ P e = true := by
  unfold anyM
  rw [List.any_eq_true]
  constructor
  · rintro ⟨p, hp, h⟩
    cases hm : M p with
    | none => rw [hm] at h; cases h
    | some e => rw [hm] at h; exact ⟨p, e, List.mem_range.1 hp, hm, h⟩
  · rintro ⟨p, e, hp, hm, h⟩
    exact ⟨p, List.mem_range.2 hp, by rw [hm]; exact h⟩
theorem seek_any (h n : Nat) (Q : Nat → Bool) : (seekO h n Q).isSome = (List.range n).any Q := by
  cases hs : seekO h n Q with
  | none =>
    symm
    rw [Option.isSome_none, ← Bool.not_eq_true, List.any_eq_true]
    rintro ⟨p, hp, hq⟩
    have := seekO_no hs p (List.mem_range.1 hp)
    rw [hq] at this; cases this
  | some i =>
    obtain ⟨h1, h2⟩ := seekO_spec hs
    symm
    rw [Option.isSome_some, List.any_eq_true]
    exact ⟨i, List.mem_range.2 h1, h2⟩
theorem fQ_any (M : Nat → Option En) (d : List Int) (n : Nat) : (List.range n).any (fQ M d) = anyM (fun e => decide (e.1 = d) && decide (e.2.2 < 15)) M n := by
  unfold anyM fQ
  rfl
theorem sQ_any (M : Nat → Option En) (s : Int) (n : Nat) : (List.range n).any (sQ M s) = anyM (fun e => decide (e.2.1 = s)) M n := by
  unfold anyM sQ
  rfl
theorem seek_congr (h n : Nat) {Q Q' : Nat → Bool} (e : ∀ p, p < n → Q p = Q' p) : seekO h n Q = seekO h n Q' := by
  unfold seekO
  by_cases hn : n = 0
  · subst hn; rfl
  · have : ∀ l : List Nat, (∀ x ∈ l, x < n) → l.find? Q = l.find? Q' := by
      intro l
      induction l with
      | nil => intro _; rfl
      | cons x l ih =>
        intro hx
        rw [List.find?_cons, List.find?_cons, e x (hx x (by simp)), ih (fun y hy => hx y (by simp [hy]))]
    refine this _ (fun x hx => ?_)
    obtain ⟨k, _, rfl⟩ := List.mem_map.1 hx
    exact Nat.mod_lt _ (by omega)
/-- The map of entries. -/
noncomputable def enL (M : Nat → Option En) : Lit → Option Value := fun l => match l with
  | .int .i64 i => if 0 ≤ i then (M i.toNat).map fun e => .agg (entC e.1 e.2.1 e.2.2) else none
  | _ => none
theorem enL_at (M : Nat → Option En) (i : Nat) : enL M (.int .i64 (i : Int)) = (M i).map fun e => .agg (entC e.1 e.2.1 e.2.2) := by simp [enL]
theorem enL_upd (M : Nat → Option En) (i : Nat) (e : Option En) : upd (enL M) (.int .i64 (i : Int)) (e.map fun e => .agg (entC e.1 e.2.1 e.2.2)) = enL (setM M i e) := by
  funext l
  by_cases h : l = .int .i64 (i : Int)
  · subst h; rw [upd_same, enL_at]; simp [setM]
  · rw [upd_other _ h]
    unfold enL
    split
    · rename_i j
      split
      · rename_i hj
        have : j.toNat ≠ i := fun e => h (by congr 1; omega)
        simp [setM, this]
      · rfl
    · rfl
theorem enL_put (M : Nat → Option En) (i : Nat) (dg : List Int) (sl rf : Int) : upd (enL M) (.int .i64 (i : Int)) (some (.agg (entC dg sl rf))) = enL (setM M i (some (dg, sl, rf))) := enL_upd M i (some (dg, sl, rf))
theorem enL_del (M : Nat → Option En) (i : Nat) : upd (enL M) (.int .i64 (i : Int)) none = enL (setM M i none) := enL_upd M i none
theorem enL_none : enL (fun _ => none) = fun _ => none := by
  funext l; unfold enL; split
  · simp
  · rfl
theorem enL_inv {M : Nat → Option En} {x : Int} {v : Value} (h : enL M (.int .i64 x) = some v) : ∃ (i : Nat) (e : En), x = (i : Int) ∧ M i = some e ∧ v = .agg (entC e.1 e.2.1 e.2.2) := by
  simp only [enL] at h
  split at h
  · rename_i hx
    cases hm : M x.toNat with
    | none => rw [hm] at h; cases h
    | some e =>
      rw [hm] at h
      simp only [Option.map_some, Option.some.injEq] at h
      exact ⟨x.toNat, e, by omega, hm, h.symm⟩
  · cases h
/-- The disjunction over all entries, gathered in whatever order. -/
theorem any_met {M : Nat → Option En} {n : Nat} (hout : ∀ p, n ≤ p → M p = none) (P : En → Bool) {left : Lit → Bool} {ks : List Int} (hm : Met .i64 (enL M) left ks) (hl : ∀ kl, left kl = false) (hn : n ≤ 2048) :
    (ks.any fun x => match M x.toNat with | none => false | some e => decide (0 ≤ x) && P e) = anyM P M n := by
  rw [Bool.eq_iff_iff, anyM_iff, List.any_eq_true]
  constructor
  · rintro ⟨x, hx, h⟩
    cases hmx : M x.toNat with
    | none => rw [hmx] at h; cases h
    | some e =>
      rw [hmx] at h
      rw [Bool.and_eq_true] at h
      refine ⟨x.toNat, e, ?_, hmx, h.2⟩
      apply Classical.byContradiction
      intro hn
      rw [hout x.toNat (by omega)] at hmx; cases hmx
  · rintro ⟨p, e, hp, hmx, hP⟩
    have hw : (Lit.int .i64 (p : Int)).wf = true := by
      have emin : IntKind.i64.min = -9223372036854775808 := rfl
      have emax : IntKind.i64.max = 9223372036854775807 := rfl
      simp [Lit.wf, emin, emax]; omega
    refine ⟨(p : Int), (hm.2 _ hw).2 ⟨by rw [enL_at, hmx]; rfl, hl _⟩, ?_⟩
    rw [Int.toNat_natCast, hmx]
    simp [hP]
end Go.Proofs.YtbbpfeghoikjlaaDoor
set_option linter.unnecessarySimpa false
namespace Go.Proofs.YtbbpfeghoikjlaaDoor
open Go.RowKit Go.Maps
def cntDel (b : Bool) (c : Nat) : Nat := if b = true then c - 1 else c
theorem wpList_del_is {P : Program} (w : World) {ops : Array Oper} {rest : List Oper} {o : Oper} {a : Act} {Q : Exit → Act → World → Prop}
    (hg : o.guard = none) (m x : Operand) (t k : TypeId) (hop : o.op = Op.call { callee := Callee.builtin Builtin.delete, args := #[m, x], argTypes := #[t, k] })
    (e : TypeId) (K : Keyed P k) (ht : P.underlying t = some (.map k e)) (b c : Nat) (f : Lit → Option Value)
    (hm : a.eval m = .map (some b)) (hown : MapIs P k w b c f) (key : Value) (kl : Lit) (hx : a.eval x = key) (hkey : keyOf P k key = some kl)
    (hK : ∀ w', MapIs P k w' b (cntDel (f kl).isSome c) (upd f kl none) → w.mapTurned w' b → wpList P ops Q rest (a.put o.dst (.tuple #[])) w') : wpList P ops Q (o :: rest) a w := by
  refine wpList_plain hg fun K' hK' => ?_
  obtain ⟨w', hrun, r1, r2⟩ := hown.del K ht hkey o.type
  unfold Oper.wp
  simp [execOp, hop, resolve, invoke, builtin, hm, hx, hrun, Result.andThen]
  exact hK' _ _ (hK w' r1 r2)
theorem len_is_g {P : Program} (w : World) {ops : Array Oper} {rest : List Oper} {o : Oper} {a : Act} {Q : Exit → Act → World → Prop}
    (hw : Region.wanted o (yielded ops a.tmps) = true) (m : Operand) (t : TypeId) (hop : o.op = Op.call { callee := Callee.builtin Builtin.len, args := #[m], argTypes := #[t] })
    (k e : TypeId) (ht : P.underlying t = some (.map k e)) (b c : Nat) (f : Lit → Option Value) (hm : a.eval m = .map (some b)) (hown : MapIs P k w b c f)
    (hK : wpList P ops Q rest (a.put o.dst (.int .i64 c)) w) : wpList P ops Q (o :: rest) a w := by
  refine wpList_step fun K' hK' => ?_
  rw [if_pos hw]
  unfold Oper.wp
  simp [execOp, hop, resolve, invoke, builtin, hm, hown.len ht o.type, Result.andThen]
  exact hK' _ _ hK
theorem built_x4 (s x : Int) : Tryd.prog.built 34 [(0, .int .u8 s), (1, .int .u8 0), (2, .int .u8 1), (31, .int .u8 x)] = some (v8a (s :: 0 :: 1 :: (zer 28 ++ [x]))) := by kernel_rfl
theorem part_dg (dg : List Int) (hd : dg.length = 32) (s r : Int) (w : World) : (part 34 (entC dg s r) 0).run Tryd.prog w = .ok (.agg (v8a dg)) w := by
  have h1 : ∀ w : World, (isAgg 34).run Tryd.prog w = .ok true w := fun w => by kernel_rfl
  have h2 : ∀ w : World, (sizeOf 34).run Tryd.prog w = .ok 32 w := fun w => by kernel_rfl
  have h3 : (entC dg s r).extract 0 32 = v8a dg := by
    apply Array.ext'
    rw [Array.toList_extract]
    unfold entC v8a
    rw [List.extract_eq_take_drop]
    simp [v8, hd]
  unfold part
  simp only [Sem.run_bind, h1, Result.andThen_ok, if_true, h2, Sem.run_pure, Nat.zero_add, h3]
theorem part_sl (dg : List Int) (hd : dg.length = 32) (s r : Int) (w : World) : (part 3 (entC dg s r) 32).run Tryd.prog w = .ok (.int .i64 s) w := by
  refine run_part_plain w (by kernel_rfl) ?_
  unfold entC
  simp [v8, hd, List.getElem?_append]
theorem part_rf (dg : List Int) (hd : dg.length = 32) (s r : Int) (w : World) : (part 3 (entC dg s r) 33).run Tryd.prog w = .ok (.int .i64 r) w := by
  refine run_part_plain w (by kernel_rfl) ?_
  unfold entC
  simp [v8, hd, List.getElem?_append]
theorem h32_in (w : World) (x : List Int) (hx : x.length = 32) (d : Nat) : (Op.equalIn (d + 1 + 1) 34 (.agg (v8a x)) (.agg (v8a x))).run Tryd.prog w = .ok true w := by
  obtain ⟨i, hi⟩ := info_u8'
  unfold v8a v8
  rw [run_equalIn_array w (d + 1) _ _ Tryd.underlying34 hi, show Tryd.prog.cellsOf 5 = 1 from cells_u8, eqItems_u8 plain_u8 Tryd.underlying5 d w x x rfl _ (fun i h => by rw [List.mem_range] at h; omega)]
  simp
theorem ent_fields3 : ((Tryd.prog.fieldsOf 41).toList.map fun f => (f.name, f.type, f.offset)) = [("Digest", 34, 0), ("Slot", 3, 32), ("Refs", 3, 33)] := by kernel_rfl
theorem ent_fields : ∃ f0 f1 f2 : Field, (Tryd.prog.fieldsOf 41).toList = [f0, f1, f2] ∧ (f0.name ≠ "_" ∧ f0.type = 34 ∧ f0.offset = 0) ∧ (f1.name ≠ "_" ∧ f1.type = 3 ∧ f1.offset = 32) ∧ (f2.name ≠ "_" ∧ f2.type = 3 ∧ f2.offset = 33) := by
  have h := ent_fields3
  generalize (Tryd.prog.fieldsOf 41).toList = l at h ⊢
  have hl3 : l.length = 3 := by have := congrArg List.length h; simpa using this
  match l, hl3 with
  | [f0, f1, f2], _ =>
    simp only [List.map_cons, List.map_nil, List.cons.injEq, Prod.mk.injEq, and_true] at h
    obtain ⟨⟨a0, b0, c0⟩, ⟨a1, b1, c1⟩, a2, b2, c2⟩ := h
    exact ⟨f0, f1, f2, rfl, ⟨by rw [a0]; decide, b0, c0⟩, ⟨by rw [a1]; decide, b1, c1⟩, ⟨by rw [a2]; decide, b2, c2⟩⟩
theorem ent_same (w : World) (dg : List Int) (hd : dg.length = 32) (s r : Int) : (binOp .neq 41 (.agg (entC dg s r)) (.agg (entC dg s r))).run Tryd.prog w = .ok (.bool false) w := by
  obtain ⟨f0, f1, f2, hf, ⟨a0, b0, c0⟩, ⟨a1, b1, c1⟩, ⟨a2, b2, c2⟩⟩ := ent_fields
  rw [run_neq_struct w, show (10000 : Nat) = 9999 + 1 from rfl, run_equalIn_struct w 9999 _ _ _ (by kernel_rfl) (by kernel_rfl), hf]
  unfold Op.eqFields Op.eqFields Op.eqFields Op.eqFields
  simp only [a0, a1, a2, b0, b1, b2, c0, c1, c2, ne_eq, not_false_eq_true, if_true, Sem.run_bind, part_dg dg hd, part_sl dg hd, part_rf dg hd, Result.andThen_ok, show (9999 : Nat) = 9997 + 1 + 1 from rfl, h32_in w dg hd, run_equalIn_int w _ _ _ _ _ _ Tryd.underlying3, beq_self_eq_true, Bool.not_true, Bool.false_eq_true, if_false, Sem.run_pure]
theorem guard_ent : Tryd.prog.eqGuardType Tryd.prog.depth 41 = false := by kernel_rfl
section
variable {ops : Array Oper} {rest : List Oper} {o : Oper} {a : Act} {w : World} {Q : Exit → Act → World → Prop}
theorem ent_neq_gd (hw : Region.wanted o (yielded ops a.tmps) = true) (x y : Operand) (t2 : TypeId) (ho : o.op = .binOp .neq 41 x y t2) (dg : List Int) (s r : Int) (hx : a.eval x = .agg (entC dg s r)) (hy : a.eval y = .agg (entC dg s r)) (hd : dg.length = 32)
    (h : wpList Tryd.prog ops Q rest (a.put o.dst (.bool false)) w) : wpList Tryd.prog ops Q (o :: rest) a w := by
  refine wpList_step fun K hK => ?_
  rw [if_pos hw]
  unfold Oper.wp execOp
  simp only [ho, hx, hy, Sem.run_bind, run_eqGuard_agg w .neq _ x y (entC dg s r) (entC dg s r) guard_ent, ent_same w dg hd, Result.andThen_ok]
  exact hK _ _ h
theorem dg_eql_gd (hw : Region.wanted o (yielded ops a.tmps) = true) (x y : Operand) (t2 : TypeId) (ho : o.op = .binOp .eql 34 x y t2) (p q : List Int) (hx : a.eval x = .agg (v8a p)) (hy : a.eval y = .agg (v8a q)) (hp : p.length = 32) (hq : q.length = 32)
    (h : wpList Tryd.prog ops Q rest (a.put o.dst (.bool (decide (p = q)))) w) : wpList Tryd.prog ops Q (o :: rest) a w := by
  refine wpList_step fun K hK => ?_
  rw [if_pos hw]
  unfold Oper.wp execOp
  simp only [ho, hx, hy, Sem.run_bind, run_eqGuard_agg w .eql _ x y (v8a p) (v8a q) guard_h32, h32_eql w p q hp hq, Result.andThen_ok]
  exact hK _ _ h
theorem h32_neq (w : World) (x y : List Int) (hx : x.length = 32) (hy : y.length = 32) : (binOp .neq 34 (.agg (v8a x)) (.agg (v8a y))).run Tryd.prog w = .ok (.bool (!decide (x = y))) w := by
  have h := h32_eql w x y hx hy
  unfold v8a at h ⊢
  rw [run_eql_struct w] at h
  rw [run_neq_struct w]
  generalize (Op.equalIn 10000 34 (.agg _) (.agg _)).run Tryd.prog w = r at h ⊢
  cases r with
  | ok b w' =>
    simp only [Result.andThen_ok, Result.ok.injEq, Value.bool.injEq] at h ⊢
    exact ⟨by rw [h.1], h.2⟩
  | halt x w' => simp [Result.andThen] at h
theorem dg_neq_gd (hw : Region.wanted o (yielded ops a.tmps) = true) (x y : Operand) (t2 : TypeId) (ho : o.op = .binOp .neq 34 x y t2) (p q : List Int) (hx : a.eval x = .agg (v8a p)) (hy : a.eval y = .agg (v8a q)) (hp : p.length = 32) (hq : q.length = 32)
    (h : wpList Tryd.prog ops Q rest (a.put o.dst (.bool (!decide (p = q)))) w) : wpList Tryd.prog ops Q (o :: rest) a w := by
  refine wpList_step fun K hK => ?_
  rw [if_pos hw]
  unfold Oper.wp execOp
  simp only [ho, hx, hy, Sem.run_bind, run_eqGuard_agg w .neq _ x y (v8a p) (v8a q) guard_h32, h32_neq w p q hp hq, Result.andThen_ok]
  exact hK _ _ h
theorem ent_zero (w : World) : (zeroValue 41).run Tryd.prog w = .ok (.agg (entC (zer 32) 0 0)) w := by kernel_rfl
/-- What a map of entries has at a key. -/
def enD (o : Option En) : En := o.getD (zer 32, 0, 0)
theorem enD_len {M : Nat → Option En} {n : Nat} (h : ∀ p e, p < n → M p = some e → EnOk e) (hout : ∀ p, n ≤ p → M p = none) (i : Nat) : (enD (M i)).1.length = 32 := by
  unfold enD
  cases hm : M i with
  | none => rfl
  | some e =>
    by_cases hi : i < n
    · exact (h i e hi hm).1.1
    · rw [hout i (by omega)] at hm; cases hm
theorem enL_getD (M : Nat → Option En) (i : Nat) : (enL M (.int .i64 (i : Int))).getD (.agg (entC (zer 32) 0 0)) = .agg (entC (enD (M i)).1 (enD (M i)).2.1 (enD (M i)).2.2) := by
  rw [enL_at]
  cases M i <;> rfl
theorem int_lit (i : Nat) (hi : i ≤ 4096) : keyOf Tryd.prog 3 (.int .i64 (i : Int)) = some (.int .i64 (i : Int)) := int_key _ (by omega)
/-- 'm[i]' of a map of entries, guarded or not. -/
theorem en_look (hw : Region.wanted o (yielded ops a.tmps) = true) (m x : Operand) (ho : o.op = .lookup 28 m x false) (mb c i : Nat) (M : Nat → Option En) (hi : i ≤ 4096) (hm : a.eval m = .map (some mb)) (hx : a.eval x = .int .i64 (i : Int)) (hM : MapIs Tryd.prog 3 w mb c (enL M))
    (h : wpList Tryd.prog ops Q rest (a.put o.dst (.agg (entC (enD (M i)).1 (enD (M i)).2.1 (enD (M i)).2.2))) w) : wpList Tryd.prog ops Q (o :: rest) a w := by
  refine wpList_step fun K hK => ?_
  rw [if_pos hw]
  have hrun := hM.look (int_keyed Tryd.underlying3) Tryd.underlying28 (ent_zero w) (int_lit i hi)
  rw [enL_getD] at hrun
  unfold Oper.wp
  simp [execOp, ho, hm, hx, hrun, Result.andThen]
  exact hK _ _ h
theorem en_look_ok (hg : o.guard = none) (m x : Operand) (ho : o.op = .lookup 28 m x true) (mb c i : Nat) (M : Nat → Option En) (hi : i ≤ 4096) (hm : a.eval m = .map (some mb)) (hx : a.eval x = .int .i64 (i : Int)) (hM : MapIs Tryd.prog 3 w mb c (enL M))
    (h : wpList Tryd.prog ops Q rest (a.put o.dst (.tuple #[.agg (entC (enD (M i)).1 (enD (M i)).2.1 (enD (M i)).2.2), .bool (M i).isSome])) w) : wpList Tryd.prog ops Q (o :: rest) a w := by
  refine wpList_look_ok_is w hg m x _ ho 3 41 (int_keyed Tryd.underlying3) Tryd.underlying28 _ (ent_zero w) mb c (enL M) hm hM _ _ hx (int_lit i hi) ?_
  rw [enL_getD, enL_at]
  cases hMi : M i <;> (rw [hMi] at h; exact h)
theorem quiet_en_look {op : Oper} {C : World → Prop} {K : Act → Prop} (m x : Operand) (ho : op.op = .lookup 28 m x false) (mb c i : Nat) (M : Nat → Option En) (hi : i ≤ 4096) (hm : a.eval m = .map (some mb)) (hx : a.eval x = .int .i64 (i : Int)) (hM : ∀ w, C w → MapIs Tryd.prog 3 w mb c (enL M))
    (h : K (a.put op.dst (.agg (entC (enD (M i)).1 (enD (M i)).2.1 (enD (M i)).2.2)))) : op.quiet Tryd.prog a C K :=
  quiet_of_run _ (fun w hw => by
    have hrun := (hM w hw).look (int_keyed Tryd.underlying3) Tryd.underlying28 (ent_zero w) (int_lit i hi)
    rw [enL_getD] at hrun
    simp [execOp, ho, hm, hx, hrun]) h
theorem ent_fr {w : World} {B T : Nat} {cs : Array Value} (h : w.heap[B]? = some (.cells cs T)) (i : Nat) : w.frozen? ⟨B, i, none⟩ = false := by
  simp [World.frozen?, h]
theorem set_tail2 (l : List Value) (a b c : Value) (h : l.length = 32) : ((l ++ [a, b]).toArray).setIfInBounds 33 c = (l ++ [a, c]).toArray := by
  rw [List.setIfInBounds_toArray]
  congr 1
  rw [List.set_append_right _ _ (by omega), h]
  rfl
theorem ent_rf_set {w : World} {B T : Nat} {dg : List Int} {sl rf : Int} (hl : dg.length = 32) (h : w.heap[B]? = some (.cells (entC dg sl rf) T)) (r : Int) : (w.setCell ⟨B, 33, none⟩ (.int .i64 r)).heap[B]? = some (.cells (entC dg sl r) T) := by
  have hv : (v8 dg).length = 32 := by rw [v8_length, hl]
  have e : (entC dg sl rf).setIfInBounds 33 (.int .i64 r) = entC dg sl r := set_tail2 (v8 dg) _ _ _ hv
  rw [set_blk h, e]
theorem dg_build_x (hg : o.guard = none) (p0 p3 : Operand) (ho : o.op = .build 34 #[(0, p0), (1, .const (.int .u8 0)), (2, .const (.int .u8 1)), (31, p3)]) (s x : Int) (h0 : a.eval p0 = .int .u8 s) (h3 : a.eval p3 = .int .u8 x)
    (h : wpList Tryd.prog ops Q rest (a.put o.dst (.agg (v8a (s :: 0 :: 1 :: (zer 28 ++ [x]))))) w) : wpList Tryd.prog ops Q (o :: rest) a w := by
  refine wpList_build_to hg _ _ ho _ ?_ h
  simp only [List.map_toArray, List.map_cons, List.map_nil, h0, h3]
  exact built_x4 s x
end
set_option maxRecDepth 100000 in
theorem digest_any (x : Int) (hx : 0 ≤ x ∧ x < 256) (w : World) : Calls Tryd.prog 16 #[.int .u8 x] w fun e w' => e = .returned (.agg (v8a (digX x))) ∧ Below w.heap.size w w' := by
  obtain ⟨x0, x1⟩ := hx
  have hl : (digX x).length = 32 := by simp [digX, zer]
  have hand : bits BinOp.and IntKind.u8 x 3 = x % 4 := by
    obtain ⟨n, rfl⟩ := Int.eq_ofNat_of_zero_le x0
    have hn : n < 256 := by omega
    have key : ∀ n : Fin 256, bits BinOp.and IntKind.u8 (n.val : Int) 3 = (n.val : Int) % 4 := by decide +kernel
    exact key ⟨n, hn⟩
  have hb0 : ∀ o : Obj, Below w.heap.size w (w.alloc o) := fun o => (Below.refl _ _).alloc (Nat.le_refl _) _
  go_enter Tryd.func16, Tryd.ntmps16
  repeat ((fail_if_success (with_reducible refine stop_at 6 rfl ?_)); (first | go_values | go_skip | go_guarded | go_step | go_upon))
  refine dg_build_x rfl (.tmp 4) (.tmp 5) rfl (x % 4) x rfl rfl ?_
  simp only [Act.put, List.setIfInBounds_toArray, List.set_cons_zero, List.set_cons_succ]
  refine dg_store rfl (.tmp 2) (.tmp 6) rfl w.heap.size (digX x) (zer 32) rfl rfl (heap_alloc_new w _) hl rfl ?_
  refine gen_world (fun wx => Hid (wx.heap[w.heap.size]? = some (.cells (v8a (digX x)) 34) ∧ Below w.heap.size w wx)) (Lib.hid ⟨setRow_heap _ _ _ _ _ (0, 0) (heap_alloc_new w _), below_setRow (hb0 _) (Nat.le_refl _) _⟩) ?_
  intro w1 H1
  simp only [Act.put]
  go_wp2_with fail
  refine bodyPost_ret (results_cell_one Tryd.results16 _ _ w.heap.size 34 (v8a (digX x)) (0, 0) _ rfl H1.out.1 Tryd.underlying34 rfl (by rw [show (v8a (digX x)).size = 32 by rw [v8a, List.size_toArray, v8_length, hl]]; exact info_h32)) rfl ⟨rfl, H1.out.2⟩
end Go.Proofs.YtbbpfeghoikjlaaDoor
set_option linter.unnecessarySimpa false
namespace Go.Proofs.YtbbpfeghoikjlaaDoor
open Go.RowKit Go.Maps
theorem TabI.frameK {w w' : World} {tb : Nat} {N : Nat → Prop} {bb first n : Nat} {B : BookS} (h : TabI w tb N bb first n B) (hk : Keeps (fun k => ¬ N k) w w') : TabI w' tb N bb first n B := by
  obtain ⟨h1, ⟨db, rb, nb, ov, hX⟩, h3, h4⟩ := h
  exact ⟨hk.blk h3 h1, ⟨db, rb, nb, ov, hX.frame (hk.mono (fun k _ hn h => hn (.inl h)))⟩, h3, h4⟩
/-- A table on a new book, with these entries. -/
def TbS (N : Nat → Prop) (tb bb n : Nat) (M : Nat → Option En) (wx : World) : Prop := ∃ B, TabI wx tb N bb 3 n B ∧ EnX B n M
section
variable {N : Nat → Prop} {tb bb n : Nat} {M : Nat → Option En} {wx wy : World}
theorem TbS.below (h : TbS N tb bb n M wx) (hb : Below wx.heap.size wx wy) : TbS N tb bb n M wy := by
  obtain ⟨B, h1, h2⟩ := h
  exact ⟨B, h1.below hb, h2⟩
theorem TbS.keep {N' : Nat → Prop} (h : TbS N tb bb n M wx) (hb : Below wx.heap.size wx wy) (hn : ∀ i, N' i → i < wy.heap.size ∧ (N i ∨ wx.heap.size ≤ i)) : TbS N' tb bb n M wy := by
  obtain ⟨B, h1, h2⟩ := h
  exact ⟨B, h1.keep hb hn, h2⟩
theorem TbS.frame (h : TbS N tb bb n M wx) (hk : Keeps (fun k => ¬ N k) wx wy) : TbS N tb bb n M wy := by
  obtain ⟨B, h1, h2⟩ := h
  exact ⟨B, h1.frameK hk, h2⟩
theorem TbS.N_lt (h : TbS N tb bb n M wx) : ∀ i, N i → i < wx.heap.size := by
  obtain ⟨B, h1, _⟩ := h
  exact h1.N_lt
theorem TbS.ok (h : TbS N tb bb n M wx) : ∀ p e, p < n → M p = some e → EnOk e := by
  obtain ⟨B, _, h2⟩ := h
  exact h2.ok
theorem TbS.out (h : TbS N tb bb n M wx) : ∀ p, n ≤ p → M p = none := by
  obtain ⟨B, _, h2⟩ := h
  exact h2.out
theorem tb_set (hn : n ≤ 60) {p : Nat} (hp : p < n) {dg : List Int} {sl rf : Int} (hd : dg.length = 32 ∧ U8s dg) (hs : 0 ≤ sl ∧ sl < 256) (hr : 0 ≤ rf ∧ rf ≤ 15) (h : TbS N tb bb n M wx) :
    Calls Tryd.prog 9 #[.pointer (some ⟨tb, 0, none⟩), .int .i64 (p : Int), .agg (entC dg sl rf)] wx fun e wy => e = .returned .nilIface ∧ TbS N tb bb n (setM M p (if 0 < rf then some (dg, sl, rf) else none)) wy ∧ Keeps N wx wy := by
  obtain ⟨B, h1, h2⟩ := h
  refine (set_any tb N bb 3 n B p hp dg sl rf hd hs hr (h2.room hn p hp _) wx h1).mono ?_
  rintro e wy ⟨rfl, hT, hk⟩
  exact ⟨rfl, ⟨_, hT, h2.set hp hd hs hr⟩, hk⟩
theorem tb_free (d : List Int) (hd : d.length = 32 ∧ U8s d) (h : TbS N tb bb n M wx) :
    Calls Tryd.prog 8 #[.pointer (some ⟨tb, 0, none⟩), .agg (v8a d)] wx fun e wy => ((∃ p : Nat, p < n ∧ M p = none ∧ e = .returned (.tuple #[.int .i64 (p : Int), .nilIface])) ∨ (cntM M n = n ∧ ∃ t x, e = .returned (.tuple #[.int .i64 0, .iface t x]) ∧ ErrV wy (.iface t x) 21)) ∧ Below wx.heap.size wx wy := by
  obtain ⟨B, h1, h2⟩ := h
  refine (free_any tb N bb 3 n B d hd wx h1).mono ?_
  rintro e wy ⟨hF, hb⟩
  refine ⟨?_, hb⟩
  cases hs : seekO (dgN d) n (freeQ B 3) with
  | some p =>
    rw [hs] at hF
    obtain ⟨hp, hq⟩ := seekO_spec hs
    rw [h2.free p hp] at hq
    left
    refine ⟨p, hp, ?_, hF⟩
    cases hm : M p with
    | none => rfl
    | some e => rw [hm] at hq; cases hq
  | none =>
    rw [hs] at hF
    right
    refine ⟨?_, hF⟩
    apply Classical.byContradiction
    intro hne
    obtain ⟨p, hp, hm⟩ := cntM_room M n hne
    have := seekO_no hs p hp
    rw [h2.free p hp, hm] at this
    cases this
theorem tb_find (d : List Int) (hd : d.length = 32 ∧ U8s d) (h : TbS N tb bb n M wx) :
    Calls Tryd.prog 10 #[.pointer (some ⟨tb, 0, none⟩), .agg (v8a d)] wx fun e wy => ((∃ p e', p < n ∧ M p = some e' ∧ e'.1 = d ∧ e'.2.2 < 15 ∧ anyM (fun e => decide (e.1 = d) && decide (e.2.2 < 15)) M n = true ∧ e = .returned (.tuple #[.int .i64 ((p : Nat) : Int), .bool true, .nilIface])) ∨ (anyM (fun e => decide (e.1 = d) && decide (e.2.2 < 15)) M n = false ∧ e = .returned (.tuple #[.int .i64 0, .bool false, .nilIface]))) ∧ Below wx.heap.size wx wy := by
  obtain ⟨B, h1, h2⟩ := h
  refine (find_any tb N bb 3 n B d hd wx h1).mono ?_
  rintro e wy ⟨rfl, hb⟩
  refine ⟨?_, hb⟩
  rw [seek_congr (dgN d) n (fun p hp => h2.find d p hp), ← fQ_any]
  have hA := seek_any (dgN d) n (fQ M d)
  cases hs : seekO (dgN d) n (fQ M d) with
  | some p =>
    rw [hs] at hA
    obtain ⟨hp, hq⟩ := seekO_spec hs
    left
    unfold fQ at hq
    cases hm : M p with
    | none => rw [hm] at hq; cases hq
    | some e' =>
      rw [hm] at hq
      simp only [Bool.and_eq_true, decide_eq_true_eq] at hq
      exact ⟨p, e', hp, hm, hq.1, hq.2, hA.symm, rfl⟩
  | none =>
    rw [hs] at hA
    exact .inr ⟨hA.symm, rfl⟩
theorem tb_slot (s : Int) (h : TbS N tb bb n M wx) :
    Calls Tryd.prog 18 #[.pointer (some ⟨tb, 0, none⟩), .int .i64 s] wx fun e wy => ((∃ p e', p < n ∧ M p = some e' ∧ e'.2.1 = s ∧ 1 ≤ e'.2.2 ∧ anyM (fun e => decide (e.2.1 = s)) M n = true ∧ e = .returned (.tuple #[.int .i64 ((p : Nat) : Int), .bool true, .nilIface])) ∨ (anyM (fun e => decide (e.2.1 = s)) M n = false ∧ e = .returned (.tuple #[.int .i64 0, .bool false, .nilIface]))) ∧ Below wx.heap.size wx wy := by
  obtain ⟨B, h1, h2⟩ := h
  refine (slot_any tb N bb 3 n B s wx h1).mono ?_
  rintro e wy ⟨rfl, hb⟩
  refine ⟨?_, hb⟩
  rw [seek_congr (dgN (zer 32)) n (fun p hp => h2.slot s p hp), ← sQ_any]
  have hA := seek_any (dgN (zer 32)) n (sQ M s)
  cases hs : seekO (dgN (zer 32)) n (sQ M s) with
  | some p =>
    rw [hs] at hA
    obtain ⟨hp, hq⟩ := seekO_spec hs
    left
    unfold sQ at hq
    cases hm : M p with
    | none => rw [hm] at hq; cases hq
    | some e' =>
      rw [hm] at hq
      simp only [decide_eq_true_eq] at hq
      exact ⟨p, e', hp, hm, hq, (h2.ok p e' hp hm).2.2.1, hA.symm, rfl⟩
  | none =>
    rw [hs] at hA
    exact .inr ⟨hA.symm, rfl⟩
theorem tb_get {p : Nat} (hp : p < n) (h : TbS N tb bb n M wx) :
    Calls Tryd.prog 11 #[.pointer (some ⟨tb, 0, none⟩), .int .i64 (p : Int)] wx fun e wy => ((∃ e', M p = some e' ∧ e = .returned (.tuple #[.agg (entC e'.1 e'.2.1 e'.2.2), .nilIface])) ∨ (M p = none ∧ ∃ t x, e = .returned (.tuple #[.agg (entC (zer 32) 0 0), .iface t x]) ∧ ErrV wy (.iface t x) 23)) ∧ Below wx.heap.size wx wy := by
  obtain ⟨B, h1, h2⟩ := h
  refine (get_any tb N bb 3 n B p hp wx h1).mono ?_
  rintro e wy ⟨hG, hb⟩
  refine ⟨?_, hb⟩
  unfold GetP at hG
  rw [h2.ent p hp] at hG
  cases hm : M p with
  | none =>
    rw [hm] at hG
    exact .inr ⟨rfl, hG⟩
  | some e' =>
    rw [hm] at hG
    obtain ⟨q1, q2, q3⟩ := h2.parts hp hm
    left
    refine ⟨e', rfl, ?_⟩
    rw [← q1, ← q2, ← q3]; exact hG
theorem tb_all (h : TbS N tb bb n M wx) :
    Calls Tryd.prog 17 #[.pointer (some ⟨tb, 0, none⟩)] wx fun e wy => (∃ a c l, l = ((List.range n).filter fun p => (M p).isSome) ∧ l.length = cntM M n ∧ e = .returned (.tuple #[.slice a l.length c, .nilIface]) ∧ wy.ownsRow wx.heap.size 3 1 (.slice a l.length c) l.length (natsI l)) ∧ Below wx.heap.size wx wy := by
  obtain ⟨B, h1, h2⟩ := h
  refine (all_any tb N bb 3 n B wx h1).mono ?_
  rintro e wy ⟨⟨a, c, rfl, ho⟩, hb⟩
  rw [h2.ents] at ho ⊢
  exact ⟨⟨a, c, _, rfl, rfl, rfl, ho⟩, hb⟩
end
theorem six_bad {i n rf sl : Int} (h : ¬ (0 ≤ i ∧ i < n ∧ 0 ≤ rf ∧ rf ≤ 15 ∧ 0 ≤ sl ∧ sl < 256)) : i < 0 ∨ (0 ≤ i ∧ n ≤ i) ∨ (0 ≤ i ∧ i < n ∧ rf < 0) ∨ (0 ≤ i ∧ i < n ∧ 0 ≤ rf ∧ 15 < rf) ∨ (0 ≤ i ∧ i < n ∧ 0 ≤ rf ∧ rf ≤ 15 ∧ sl < 0) ∨ (0 ≤ i ∧ i < n ∧ 0 ≤ rf ∧ rf ≤ 15 ∧ 0 ≤ sl ∧ 256 ≤ sl) := by omega
set_option maxRecDepth 100000 in
set_option maxHeartbeats 2000000 in
theorem tb_bad {N : Nat → Prop} {tb bb n : Nat} {M : Nat → Option En} {dg : List Int} (hd : dg.length = 32) {i sl rf : Int} (hbad : ¬ (0 ≤ i ∧ i < (n : Int) ∧ 0 ≤ rf ∧ rf ≤ 15 ∧ 0 ≤ sl ∧ sl < 256)) (w : World) (h : TbS N tb bb n M w) :
    Calls Tryd.prog 9 #[.pointer (some ⟨tb, 0, none⟩), .int .i64 i, .agg (entC dg sl rf)] w fun e w' => (∃ t x, e = .returned (.iface t x) ∧ ErrV w' (.iface t x) 1) ∧ Below w.heap.size w w' := by
  obtain ⟨B, h1, _⟩ := h
  have HT := Lib.hid h1.1
  have hb0 : ∀ o : Obj, Below w.heap.size w (w.alloc o) := fun o => (Below.refl _ _).alloc (Nat.le_refl _) _
  clear h1
  have hbad' := six_bad hbad
  clear hbad
  go_enter Tryd.func9, Tryd.ntmps9
  repeat ((fail_if_success (with_reducible refine stop_at 8 rfl ?_)); (first | go_values | go_skip | go_guarded | go_step | go_upon))
  refine gen_world (fun wx => Hid (wx.heap[w.heap.size]? = some (.cells (entC dg sl rf) 41) ∧ Below w.heap.size w wx)) (Lib.hid ⟨heap_alloc_new w (.cells (entC dg sl rf) 41), hb0 _⟩) ?_
  clear hb0
  intro w1 H1
  obtain ⟨z0, z1, z2⟩ := blk3 ((H1.out.2.block _ (lt_of_blk HT.out)).trans HT.out)
  obtain ⟨y0, y1⟩ := ent_cells hd H1.out.1
  rcases hbad' with q | ⟨q0, q⟩ | ⟨q0, q1, q⟩ | ⟨q0, q1, q2, q⟩ | ⟨q0, q1, q2, q3, q⟩ | ⟨q0, q1, q2, q3, q4, q⟩
  all_goals
    go_wp2_with fail
    refine (woe_num _ 1 w1).mono ?_
    rintro e w2 ⟨⟨t, x, rfl, he⟩, hb2⟩
    have HE := Lib.hid he
    have HB := Lib.hid (H1.out.2.trans (hb2.mono H1.out.2.size))
    clear he hb2
    try dsimp only
    go_wp2_with fail
    go_ret
    exact ⟨⟨t, x, rfl, HE.out⟩, HB.out⟩
end Go.Proofs.YtbbpfeghoikjlaaDoor
