/- Ranging over a map that reads as a function of its keys, element by element. What is collected and sorted. No condition; no program is named. -/
import Derived.Test.YtajmcplanlibnaaGreatDoorOps
import Derived.Maps.RangeWalk
namespace Go.Proofs.YtajmcplanlibnaaGreatDoor
set_option linter.unusedSimpArgs false
set_option linter.unusedVariables false
open Go Go.Maps Go.WideShapes Go.MapKept Go.RowKit
def MapR (P : Program) (k : TypeId) (w : World) (b r c : Nat) (f : Lit → Option Value) (left : Lit → Bool) (cnt : Nat) : Prop :=
  ∃ D, w.ranges P k heldE b r c D left cnt ∧ Maps.size D = c ∧ ∀ kl, WideAt.IsKeyLit kl → ∀ z, D.atKey kl z = (match f kl with | some v => .held v | none => z)
section
variable {P : Program} {k : TypeId} {w : World} {b r c cnt : Nat} {f : Lit → Option Value} {left : Lit → Bool}
theorem MapR.is (h : MapR P k w b r c f left cnt) : MapIs P k w b c f := by
  obtain ⟨D, h1, h2⟩ := h
  exact ⟨D, h1.owns, h2⟩
theorem MapR.left_eq (h : MapR P k w b r c f left cnt) : w.rangeLeft b r = cnt := by
  obtain ⟨D, h1, _⟩ := h
  exact h1.left_eq
theorem MapR.lt (h : MapR P k w b r c f left cnt) : r < w.heap.size := by
  obtain ⟨D, h1, _⟩ := h
  exact h1.lt
theorem MapR.kept {w' : World} (h : MapR P k w b r c f left cnt) (hb : w'.heap[b]? = w.heap[b]?) (hr : w'.heap[r]? = w.heap[r]?) : MapR P k w' b r c f left cnt := by
  obtain ⟨D, ⟨es, clock, since, seen, c0, q1, F, hs, hD, q2, rest⟩, h2⟩ := h
  exact ⟨D, ⟨es, clock, since, seen, c0, hb.trans q1, F, hs, hD, hr.trans q2, rest⟩, h2⟩
theorem MapR.iter (h : MapR P k w b r c f left cnt) : ∃ m s seen c0, w.heap[r]? = some (.mapIter m s seen c0) := by
  obtain ⟨D, ⟨es, clock, since, seen, c0, q1, F, hs, hD, q2, rest⟩, h2⟩ := h
  exact ⟨_, _, _, _, q2⟩
end
theorem wpList_range_is {P : Program} (w : World) {ops : Array Oper} {rest : List Oper} {o : Oper} {a : Act} {Q : Exit → Act → World → Prop} (hg : o.guard = none) (m : Operand) (t : TypeId) (hop : o.op = Op.range t m) (k e : TypeId) (K : Keyed P k) (ht : P.underlying t = some (.map k e)) (b c : Nat) (f : Lit → Option Value)
    (hm : a.eval m = .map (some b)) (hown : MapIs P k w b c f)
    (hK : ∀ w' left, MapR P k w' b w.heap.size c f left c → (∀ kl, WideAt.IsKeyLit kl → left kl = (f kl).isSome) → Below w.heap.size w w' → wpList P ops Q rest (a.put o.dst (.pointer (some ⟨w.heap.size, 0, none⟩))) w') :
    wpList P ops Q (o :: rest) a w := by
  obtain ⟨D, h1, h2, h3⟩ := hown
  refine wpList_range_own w hg m t hop k e K ht heldE b c D hm h1 (fun w' r1 r2 r3 => ?_)
  rw [h2] at r1
  exact hK w' _ ⟨D, r1, h2, h3⟩ (fun kl hkl => MapIs.has (h3 kl hkl)) ⟨r2.os, r2.tape, r2.output, r2.size, fun i hi => r2.block i hi (by simp)⟩
theorem wpList_next_is {P : Program} (w : World) {ops : Array Oper} {rest : List Oper} {o : Oper} {a : Act} {Q : Exit → Act → World → Prop} (hg : o.guard = none) (it : Operand) (hop : o.op = Op.next it false) (k : TypeId) (qk : IntKind) (K : Keyed P k) (hk : P.underlying k = some (.int qk))
    (b r c : Nat) (f : Lit → Option Value) (left : Lit → Bool) (cnt : Nat) (hit : a.eval it = .pointer (some ⟨r, 0, none⟩)) (h : MapR P k w b r c f left cnt)
    (hDone : (∀ kl, left kl = false) → wpList P ops Q rest (a.put o.dst (.tuple #[.bool false])) w)
    (hMore : ∀ (x : Int) (v : Value) (w' : World) (cnt' : Nat), keyOf P k (.int qk x) = some (.int qk x) → left (.int qk x) = true → f (.int qk x) = some v → MapR P k w' b r c f (fun z => left z && !z.sameKey (.int qk x)) cnt' → cnt' < cnt →
      w.grownBy w' (some r) → w'.heap.size = w.heap.size → (Instr.entry (.pointer (some ⟨r, 0, none⟩))).run P w' = .ok (.tuple #[.int qk x, v]) w' → wpList P ops Q rest (a.put o.dst (.tuple #[.bool true, .int qk x, v])) w') :
    wpList P ops Q (o :: rest) a w := by
  obtain ⟨D, h1, h2, h3⟩ := h
  refine wpList_next_ranges w hg it hop k K heldE (Value.int qk) (fun v : Value => v) (fun key kl hkey => by obtain ⟨x, rfl, _⟩ := Maps.keyOf_int_inv hk hkey; exact ⟨x, rfl⟩) (fun v y _ => ⟨v, rfl⟩) b r c D left cnt hit h1 (fun _ hl => hDone hl) ?_
  intro x v kl y w' cnt' hkey hlk hv hat hrg hlt hgr hsz hen
  obtain ⟨x', ex, rfl, hwx⟩ := Maps.keyOf_int_inv hk hkey
  cases ex
  simp only [heldE, Option.some.injEq] at hv
  subst hv
  have hf : f (.int qk x) = some v := by
    have := h3 _ (K.key hkey)
    cases hfx : f (.int qk x) with
    | none =>
      rw [hfx] at this
      have q1 := hat (.held .nilIface)
      have q2 := hat (.held (.bool true))
      rw [this] at q1 q2
      rw [← q2] at q1
      cases q1
    | some u =>
      rw [hfx] at this
      have q1 := hat (.held .nilIface)
      rw [this] at q1
      simp only [DataW.held.injEq] at q1
      rw [q1]
  exact hMore x v w' cnt' hkey hlk hf ⟨D, hrg, h2, h3⟩ hlt hgr hsz hen
/-- What was met of a map: each key once; the others are still to come. -/
def Met (qk : IntKind) (f : Lit → Option Value) (left : Lit → Bool) (l : List Int) : Prop :=
  l.Nodup ∧ ∀ x, (Lit.int qk x).wf = true → (x ∈ l ↔ (f (.int qk x)).isSome = true ∧ left (.int qk x) = false)
theorem Met.start {qk : IntKind} {f : Lit → Option Value} {left : Lit → Bool} (h : ∀ kl, WideAt.IsKeyLit kl → left kl = (f kl).isSome) (hk : ∀ x, (Lit.int qk x).wf = true → WideAt.IsKeyLit (.int qk x)) : Met qk f left [] :=
  ⟨List.nodup_nil, fun x hx => by rw [h _ (hk x hx)]; cases f (.int qk x) <;> simp⟩
theorem sameKey_int (qk : IntKind) (x y : Int) : (Lit.int qk x).sameKey (.int qk y) = decide (x = y) := by
  by_cases h : x = y
  · subst h; simp [Lit.sameKey]
  · simp [Lit.sameKey, h]
theorem Met.step {qk : IntKind} {f : Lit → Option Value} {left : Lit → Bool} {l : List Int} {x : Int} {v : Value} (h : Met qk f left l) (hx : (Lit.int qk x).wf = true) (hl : left (.int qk x) = true) (hf : f (.int qk x) = some v) (hu : ∀ y ∈ l, (Lit.int qk y).wf = true) :
    Met qk f (fun z => left z && !z.sameKey (.int qk x)) (l ++ [x]) := by
  have hn : x ∉ l := fun hm => by have := ((h.2 x hx).1 hm).2; rw [hl] at this; cases this
  refine ⟨List.nodup_append.2 ⟨h.1, by simp, fun a ha b hb => by rw [List.mem_singleton] at hb; rintro rfl; exact hn (hb ▸ ha)⟩, fun y hy => ?_⟩
  rw [List.mem_append, List.mem_singleton, h.2 y hy]
  dsimp only
  rw [sameKey_int]
  by_cases e : y = x
  · subst e; simp [hf]
  · simp [e]
theorem keys_sorted {l : List Int} {p : Nat → Bool} {n : Nat} (hn : l.Nodup) (hm : ∀ x, x ∈ l ↔ ∃ i : Nat, x = i ∧ i < n ∧ p i = true) :
    (l.mergeSort fun x y => decide (x ≤ y)) = ((List.range n).filter p).map (fun i : Nat => (i : Int)) := by
  have h1 : (l.mergeSort fun x y => decide (x ≤ y)).Pairwise (fun x y => x ≤ y) := by
    have := List.pairwise_mergeSort (le := fun x y : Int => decide (x ≤ y)) (fun a b c hab hbc => by simp at *; omega) (fun a b => by simp; omega) l
    exact this.imp (fun h => by simpa using h)
  have h2 : (((List.range n).filter p).map (fun i : Nat => (i : Int))).Pairwise (fun x y => x < y) := by
    rw [List.pairwise_map]
    exact (List.pairwise_lt_range.filter p).imp (fun h => by omega)
  refine List.Perm.eq_of_pairwise (le := fun x y : Int => x ≤ y) (fun a b _ _ h h' => by omega) h1 (h2.imp (fun h => by omega)) ((List.mergeSort_perm _ _).trans ?_)
  refine (List.perm_ext_iff_of_nodup hn (h2.imp (fun h => by omega))).2 (fun x => ?_)
  rw [hm x]
  simp only [List.mem_map, List.mem_filter, List.mem_range]
  constructor
  · rintro ⟨i, rfl, h1, h2⟩; exact ⟨i, ⟨h1, h2⟩, rfl⟩
  · rintro ⟨i, ⟨h1, h2⟩, rfl⟩; exact ⟨i, rfl, h1, h2⟩
end Go.Proofs.YtajmcplanlibnaaGreatDoor
