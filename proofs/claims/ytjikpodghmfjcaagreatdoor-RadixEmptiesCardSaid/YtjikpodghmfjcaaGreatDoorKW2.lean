/- Maps whose keys are pairs of whole numbers. -/
import Derived.Test.YtjikpodghmfjcaaGreatDoorKF3
import Derived.DeepKeys4
import Derived.Test.YtjikpodghmfjcaaGreatDoorKM1
import Derived.Test.YtjikpodghmfjcaaGreatDoorKN1
set_option linter.unusedSimpArgs false
set_option linter.unusedVariables false
set_option linter.unnecessarySimpa false
namespace Go.Proofs.YtjikpodghmfjcaaGreatDoor
open Go.RowKit Go.Maps
theorem pair_keyed : Keyed Tryz.prog 114 := Keyed.of_law (Go.deep_law_laid Tryz.laidOut (m := 5) (by decide) (of_decide_eq_true (by kernel_rfl)) (by kernel_rfl) (by kernel_rfl))
/-- The key of a pair. -/
def kk (x y : Int) : Lit := .string (keyBytes [.int .i64 x, .int .i64 y])
theorem int_wf {x : Int} (h : -9223372036854775808 ≤ x ∧ x ≤ 9223372036854775807) : (Lit.int .i64 x).wf = true := by
  have emin : IntKind.i64.min = -9223372036854775808 := rfl
  have emax : IntKind.i64.max = 9223372036854775807 := rfl
  simp [Lit.wf, emin, emax, h.1, h.2]
theorem keyLits_int (d : Nat) (x : Int) (h : -9223372036854775808 ≤ x ∧ x ≤ 9223372036854775807) : Tryz.prog.keyLits (d + 1) 3 [.int .i64 x] = some [.int .i64 x] := by
  unfold Program.keyLits
  rw [Tryz.underlying3]
  simp [int_wf h]
theorem pair_key (x y : Int) (hx : -9223372036854775808 ≤ x ∧ x ≤ 9223372036854775807) (hy : -9223372036854775808 ≤ y ∧ y ≤ 9223372036854775807) : keyOf Tryz.prog 114 (.agg #[.int .i64 x, .int .i64 y]) = some (kk x y) := by
  have h1 : Tryz.prog.keyType 114 = true := by kernel_rfl
  have h2 : (Value.agg #[.int .i64 x, .int .i64 y]).formed Tryz.prog 114 = true := by
    unfold Value.formed
    rw [Tryz.underlying114]
    show (2 == Tryz.prog.cellsOf 114) = true
    kernel_rfl
  have hc : Tryz.prog.cellsOf 114 = 2 := by kernel_rfl
  have hc1 : Tryz.prog.cellsOf 3 = 1 := by kernel_rfl
  obtain ⟨d, hd⟩ : ∃ d, Tryz.prog.types.size = d + 1 := ⟨Tryz.prog.types.size - 1, by
    have : 0 < Tryz.prog.types.size := of_decide_eq_true (by kernel_rfl)
    omega⟩
  unfold keyOf
  rw [Tryz.underlying114]
  simp only [h1, h2, Bool.and_self, if_true]
  rw [hd]
  have h3 : Tryz.prog.keyLits (d + 1 + 1) 114 (Value.agg #[.int .i64 x, .int .i64 y]).cells.toList = some [.int .i64 x, .int .i64 y] := by
    unfold Program.keyLits
    rw [Tryz.underlying114]
    simp only [Value.cells, hc, hc1]
    simp [List.range_succ, keyLits_int d x hx, keyLits_int d y hy]
  rw [h3]
  rfl
theorem kk_inj {x y x' y' : Int} (hx : -9223372036854775808 ≤ x ∧ x ≤ 9223372036854775807) (hy : -9223372036854775808 ≤ y ∧ y ≤ 9223372036854775807) (hx' : -9223372036854775808 ≤ x' ∧ x' ≤ 9223372036854775807) (hy' : -9223372036854775808 ≤ y' ∧ y' ≤ 9223372036854775807) (h : kk x y = kk x' y') : x = x' ∧ y = y' := by
  have h1 := pair_key x y hx hy
  have h2 := pair_key x' y' hx' hy'
  rw [← h] at h2
  have := pair_keyed.inj h1 h2
  simp only [Value.agg.injEq, Array.mk.injEq, List.cons.injEq, Value.int.injEq, true_and, and_true] at this
  exact this
theorem kk_key (x y : Int) : WideAt.IsKeyLit (kk x y) := trivial
theorem kk_same (x y x' y' : Int) : (kk x y).sameKey (kk x' y') = true ↔ kk x y = kk x' y' := by
  unfold kk
  simp [Lit.sameKey]
/-- 'for k := range m' over a map of pairs: the step. -/
theorem wpList_next_pair {P : Program} (w : World) {ops : Array Oper} {rest : List Oper} {o : Oper} {a : Act} {Q : Exit → Act → World → Prop} (hg : o.guard = none) (it : Operand) (hop : o.op = Op.next it false) (k : TypeId) (K : Keyed P k)
    (b r c : Nat) (f : Lit → Option Value) (left : Lit → Bool) (cnt : Nat) (hit : a.eval it = .pointer (some ⟨r, 0, none⟩)) (h : MapR P k w b r c f left cnt)
    (hDone : (∀ kl, left kl = false) → wpList P ops Q rest (a.put o.dst (.tuple #[.bool false])) w)
    (hMore : ∀ (key v : Value) (kl : Lit) (w' : World) (cnt' : Nat), keyOf P k key = some kl → left kl = true → f kl = some v → MapR P k w' b r c f (fun z => left z && !z.sameKey kl) cnt' → cnt' < cnt →
      w.grownBy w' (some r) → w'.heap.size = w.heap.size → (Instr.entry (.pointer (some ⟨r, 0, none⟩))).run P w' = .ok (.tuple #[key, v]) w' → wpList P ops Q rest (a.put o.dst (.tuple #[.bool true, key, v])) w') :
    wpList P ops Q (o :: rest) a w := by
  obtain ⟨D, h1, h2, h3⟩ := h
  refine wpList_next_ranges w hg it hop k K heldE (fun v : Value => v) (fun v : Value => v) (fun key kl hkey => ⟨key, rfl⟩) (fun v y _ => ⟨v, rfl⟩) b r c D left cnt hit h1 (fun _ hl => hDone hl) ?_
  intro x v kl y w' cnt' hkey hlk hv hat hrg hlt hgr hsz hen
  simp only [heldE, Option.some.injEq] at hv
  subst hv
  have hf : f kl = some v := by
    have := h3 _ (K.key hkey)
    cases hfx : f kl with
    | none =>
      rw [hfx] at this
      have q1 := hat (.held .nilIface)
      have q2 := hat (.held (.bool true))
      rw [this] at q1 q2
      rw [← q2] at q1
      cases q1
    | some u =>
      rw [hfx] at this
      have q1 := hat (.held .nilIface)
      rw [this] at q1
      simp only [DataW.held.injEq] at q1
      rw [q1]
  exact hMore x v kl w' cnt' hkey hlk hf ⟨D, hrg, h2, h3⟩ hlt hgr hsz hen
end Go.Proofs.YtjikpodghmfjcaaGreatDoor
set_option linter.unnecessarySimpa false
namespace Go.Proofs.YtjikpodghmfjcaaGreatDoor
open Go.RowKit Go.Maps
/-- A map has just these numbers. -/
structure KM (f : Lit → Option Value) (M : Nat → Nat → Nat → Int) : Prop where
  at_ : ∀ a b : Nat, a < 4 → b < 256 → f (kk a b) = if M a (b / 16) (b % 16) ≠ 0 then some (.int .i64 (M a (b / 16) (b % 16))) else none
  only : ∀ kl v, f kl = some v → ∃ a b : Nat, a < 4 ∧ b < 256 ∧ kl = kk a b
theorem kk_nat {a b a' b' : Nat} (h1 : a < 10000) (h2 : b < 10000) (h3 : a' < 10000) (h4 : b' < 10000) (h : kk a b = kk a' b') : a = a' ∧ b = b' := by
  have := kk_inj (x := a) (y := b) (x' := a') (y' := b') (by omega) (by omega) (by omega) (by omega) h
  omega
theorem KM.start : KM (fun _ => none) (fun _ _ _ => 0) := ⟨fun a b _ _ => (by rw [if_neg (by simp)]), fun kl v h => (by cases h)⟩
theorem KM.put {f : Lit → Option Value} {M : Nat → Nat → Nat → Int} (h : KM f M) {a b : Nat} (ha : a < 4) (hb : b < 256) (x : Int) (hx : x ≠ 0) : KM (upd f (kk a b) (some (.int .i64 x))) (layM M a (b / 16) (b % 16) x) := by
  refine ⟨fun a' b' ha' hb' => ?_, fun kl v hv => ?_⟩
  · unfold layM
    by_cases e : kk a' b' = kk a b
    · obtain ⟨ea, eb⟩ := kk_nat (a := a') (b := b') (a' := a) (b' := b) (by omega) (by omega) (by omega) (by omega) e
      subst ea eb
      rw [upd_same]
      simp [hx]
    · have hne : ¬ (a' = a ∧ b' / 16 = b / 16 ∧ b' % 16 = b % 16) := fun h' => e (by rw [h'.1, show b' = b by omega])
      rw [upd_other _ e, if_neg hne]
      exact h.at_ a' b' ha' hb'
  · by_cases e : kl = kk a b
    · exact ⟨a, b, ha, hb, e⟩
    · rw [upd_other _ e] at hv
      exact h.only kl v hv
theorem KM.del {f : Lit → Option Value} {M : Nat → Nat → Nat → Int} (h : KM f M) {a b : Nat} (ha : a < 4) (hb : b < 256) (o : Option Value) : KM (upd (upd f (kk a b) o) (kk a b) none) (layM M a (b / 16) (b % 16) 0) := by
  refine ⟨fun a' b' ha' hb' => ?_, fun kl v hv => ?_⟩
  · unfold layM
    by_cases e : kk a' b' = kk a b
    · obtain ⟨ea, eb⟩ := kk_nat (a := a') (b := b') (a' := a) (b' := b) (by omega) (by omega) (by omega) (by omega) e
      subst ea eb
      rw [upd_same]
      simp
    · have hne : ¬ (a' = a ∧ b' / 16 = b / 16 ∧ b' % 16 = b % 16) := fun h' => e (by rw [h'.1, show b' = b by omega])
      rw [upd_other _ e, upd_other _ e, if_neg hne]
      exact h.at_ a' b' ha' hb'
  · by_cases e : kl = kk a b
    · exact ⟨a, b, ha, hb, e⟩
    · rw [upd_other _ e, upd_other _ e] at hv
      exact h.only kl v hv
theorem KM.congr {f : Lit → Option Value} {M M' : Nat → Nat → Nat → Int} (h : KM f M) (hM : ∀ l g b, l < 4 → g < 16 → b < 16 → M' l g b = M l g b) : KM f M' :=
  ⟨fun a b ha hb => by rw [hM a _ _ ha (by omega) (by omega)]; exact h.at_ a b ha hb, h.only⟩
/-- The nodes that were met: a unit's (0), a group's (behind). -/
structure SM (f : Lit → Option Value) (S : Nat → Nat → Bool) : Prop where
  at_ : ∀ a j : Nat, a < 4 → j < 17 → f (kk a ((j : Int) - 1)) = if S a j = true then some (.bool true) else none
def cntP (S : Nat → Nat → Bool) : Nat := ((List.range 68).filter fun i => S (i / 17) (i % 17)).length
def addS (S : Nat → Nat → Bool) (a j : Nat) : Nat → Nat → Bool := fun a' j' => S a' j' || decide (a' = a ∧ j' = j)
theorem SM.put {f : Lit → Option Value} {S : Nat → Nat → Bool} (h : SM f S) {a j : Nat} (ha : a < 4) (hj : j < 17) : SM (upd f (kk a ((j : Int) - 1)) (some (.bool true))) (addS S a j) := by
  refine ⟨fun a' j' ha' hj' => ?_⟩
  unfold addS
  by_cases e : kk a' ((j' : Int) - 1) = kk a ((j : Int) - 1)
  · have := kk_inj (x := a') (y := (j' : Int) - 1) (x' := a) (y' := (j : Int) - 1) (by omega) (by omega) (by omega) (by omega) e
    have h1 : a' = a := by omega
    have h2 : j' = j := by omega
    subst h1 h2
    rw [upd_same]
    simp
  · rw [upd_other _ e, h.at_ a' j' ha' hj']
    have hne : ¬ (a' = a ∧ j' = j) := fun h' => e (by rw [h'.1, h'.2])
    simp [hne]
theorem cntP_add (S : Nat → Nat → Bool) {a j : Nat} (ha : a < 4) (hj : j < 17) : cntP (addS S a j) = if S a j = true then cntP S else cntP S + 1 := by
  have key : ∀ n, ((List.range n).filter fun i => addS S a j (i / 17) (i % 17)).length = if 17 * a + j < n ∧ S a j = false then ((List.range n).filter fun i => S (i / 17) (i % 17)).length + 1 else ((List.range n).filter fun i => S (i / 17) (i % 17)).length := by
    intro n
    induction n with
    | zero => rw [if_neg (by omega)]; rfl
    | succ m ih =>
      rw [List.range_succ, List.filter_append, List.filter_append, List.length_append, List.length_append, ih]
      by_cases e : m = 17 * a + j
      · have h1 : m / 17 = a := by omega
        have h2 : m % 17 = j := by omega
        rw [if_neg (by omega)]
        cases hS : S a j with
        | true =>
          rw [if_neg (by simp)]
          simp [addS, h1, h2, hS]
        | false =>
          rw [if_pos ⟨by omega, rfl⟩]
          simp [addS, h1, h2, hS]
      · have hne : ¬ (m / 17 = a ∧ m % 17 = j) := fun h => e (by omega)
        have e3 : List.filter (fun i => addS S a j (i / 17) (i % 17)) [m] = List.filter (fun i => S (i / 17) (i % 17)) [m] := List.filter_congr (fun q hq => by
          rw [List.mem_singleton.1 hq]
          simp [addS, hne])
        rw [e3]
        by_cases hc : 17 * a + j < m ∧ S a j = false
        · rw [if_pos hc, if_pos ⟨by omega, hc.2⟩]; omega
        · rw [if_neg hc, if_neg (fun h' => hc ⟨by omega, h'.2⟩)]
  unfold cntP
  rw [key 68]
  cases hS : S a j with
  | true => rw [if_neg (by simp), if_pos rfl]
  | false => rw [if_pos ⟨by omega, rfl⟩, if_neg (by simp)]
/-- What was met stands for all nodes. -/
theorem cntP_need {M : Nat → Nat → Nat → Int} {S : Nat → Nat → Bool} (h0 : ∀ a, a < 4 → (S a 0 = true ↔ has1 M a = true)) (h1 : ∀ a g, a < 4 → g < 16 → (S a (g + 1) = true ↔ has2 M a g = true)) : cntP S = needN M := by
  unfold cntP needN cnt1 cnt2
  have n1 : ((List.range 68).filter fun i => S (i / 17) (i % 17)).Nodup := (List.nodup_range (n := 68)).filter _
  have n2 : (((List.range 4).filter (has1 M)).map (fun a => 17 * a) ++ ((List.range 64).filter fun i => has2 M (i / 16) (i % 16)).map (fun i => 17 * (i / 16) + (i % 16 + 1))).Nodup := by
    refine List.nodup_append.2 ⟨nodup_map_on ((List.nodup_range (n := 4)).filter _) (fun x _ y _ e => by omega), nodup_map_on ((List.nodup_range (n := 64)).filter _) (fun x _ y _ e => by omega), fun x hx y hy e => ?_⟩
    obtain ⟨a, _, rfl⟩ := List.mem_map.1 hx
    obtain ⟨i, _, rfl⟩ := List.mem_map.1 hy
    omega
  have hiff : ∀ x, x ∈ ((List.range 68).filter fun i => S (i / 17) (i % 17)) ↔ x ∈ (((List.range 4).filter (has1 M)).map (fun a => 17 * a) ++ ((List.range 64).filter fun i => has2 M (i / 16) (i % 16)).map (fun i => 17 * (i / 16) + (i % 16 + 1))) := fun x => by
    constructor
    · intro hx
      have hf := List.mem_filter.1 hx
      have h68 := List.mem_range.1 hf.1
      by_cases e : x % 17 = 0
      · have := hf.2
        rw [e] at this
        exact List.mem_append.2 (.inl (List.mem_map.2 ⟨x / 17, List.mem_filter.2 ⟨List.mem_range.2 (by omega), (h0 _ (by omega)).1 this⟩, by omega⟩))
      · have := hf.2
        rw [show x % 17 = (x % 17 - 1) + 1 by omega] at this
        have h2 := (h1 (x / 17) (x % 17 - 1) (by omega) (by omega)).1 this
        refine List.mem_append.2 (.inr (List.mem_map.2 ⟨16 * (x / 17) + (x % 17 - 1), List.mem_filter.2 ⟨List.mem_range.2 (by omega), ?_⟩, by omega⟩))
        rw [show (16 * (x / 17) + (x % 17 - 1)) / 16 = x / 17 by omega, show (16 * (x / 17) + (x % 17 - 1)) % 16 = x % 17 - 1 by omega]
        exact h2
    · intro hx
      rcases List.mem_append.1 hx with hx | hx
      · obtain ⟨a, ha, rfl⟩ := List.mem_map.1 hx
        have hf := List.mem_filter.1 ha
        have h4 := List.mem_range.1 hf.1
        refine List.mem_filter.2 ⟨List.mem_range.2 (by omega), ?_⟩
        rw [show 17 * a / 17 = a by omega, show 17 * a % 17 = 0 by omega]
        exact (h0 a h4).2 hf.2
      · obtain ⟨i, hi, rfl⟩ := List.mem_map.1 hx
        have hf := List.mem_filter.1 hi
        have h64 := List.mem_range.1 hf.1
        refine List.mem_filter.2 ⟨List.mem_range.2 (by omega), ?_⟩
        rw [show (17 * (i / 16) + (i % 16 + 1)) / 17 = i / 16 by omega, show (17 * (i / 16) + (i % 16 + 1)) % 17 = i % 16 + 1 by omega]
        exact (h1 _ _ (by omega) (by omega)).2 hf.2
  have a1 := nodup_le _ _ n1 (fun x hx => (hiff x).1 hx)
  have a2 := nodup_le _ _ n2 (fun x hx => (hiff x).2 hx)
  rw [List.length_append, List.length_map, List.length_map] at a1 a2
  omega
/-- The nodes of the numbers that were met so far. -/
structure MetS (M : Nat → Nat → Nat → Int) (left : Lit → Bool) (S : Nat → Nat → Bool) : Prop where
  unit : ∀ a, a < 4 → (S a 0 = true ↔ ∃ b, b < 256 ∧ M a (b / 16) (b % 16) ≠ 0 ∧ left (kk a (b : Nat)) = false)
  group : ∀ a g, a < 4 → g < 16 → (S a (g + 1) = true ↔ ∃ b, b < 256 ∧ b / 16 = g ∧ M a (b / 16) (b % 16) ≠ 0 ∧ left (kk a (b : Nat)) = false)
theorem MetS.start {f : Lit → Option Value} {M : Nat → Nat → Nat → Int} (h : KM f M) {left : Lit → Bool} (hl : ∀ kl, WideAt.IsKeyLit kl → left kl = (f kl).isSome) : MetS M left (fun _ _ => false) := by
  have key : ∀ a b : Nat, a < 4 → b < 256 → M a (b / 16) (b % 16) ≠ 0 → left (kk a (b : Nat)) = true := fun a b ha hb hM => by
    rw [hl _ (kk_key _ _), h.at_ a b ha hb, if_pos hM]; rfl
  refine ⟨fun a ha => ⟨fun h => (by cases h), fun ⟨b, hb, hM, hf⟩ => ?_⟩, fun a g ha hg => ⟨fun h => (by cases h), fun ⟨b, hb, _, hM, hf⟩ => ?_⟩⟩
  · rw [key a b ha hb hM] at hf; cases hf
  · rw [key a b ha hb hM] at hf; cases hf
theorem MetS.step {f : Lit → Option Value} {M : Nat → Nat → Nat → Int} {left : Lit → Bool} {S : Nat → Nat → Bool} (h : MetS M left S) {a b : Nat} (ha : a < 4) (hb : b < 256) (hM : M a (b / 16) (b % 16) ≠ 0) :
    MetS M (fun z => left z && !z.sameKey (kk a (b : Nat))) (addS (addS S a 0) a (b / 16 + 1)) := by
  have hleft : ∀ a' b' : Nat, a' < 4 → b' < 256 → ((left (kk a' (b' : Nat)) && !(kk a' (b' : Nat)).sameKey (kk a (b : Nat))) = false ↔ left (kk a' (b' : Nat)) = false ∨ (a' = a ∧ b' = b)) := fun a' b' ha' hb' => by
    cases hl : left (kk a' (b' : Nat)) with
    | false => simp
    | true =>
      simp only [Bool.true_and, Bool.not_eq_false', Bool.true_eq_false, false_or]
      rw [kk_same]
      exact ⟨fun e => kk_nat (a := a') (b := b') (a' := a) (b' := b) (by omega) (by omega) (by omega) (by omega) e, fun ⟨e1, e2⟩ => by rw [e1, e2]⟩
  refine ⟨fun a' ha' => ?_, fun a' g ha' hg => ?_⟩
  · unfold addS
    simp only [Bool.or_eq_true, decide_eq_true_eq, h.unit a' ha']
    constructor
    · rintro ((⟨b', hb', h1, h2⟩ | ⟨rfl, _⟩) | ⟨_, h3⟩)
      · exact ⟨b', hb', h1, (hleft a' b' ha' hb').2 (.inl h2)⟩
      · exact ⟨b, hb, hM, (hleft a' b ha' hb).2 (.inr ⟨rfl, rfl⟩)⟩
      · omega
    · rintro ⟨b', hb', h1, h2⟩
      rcases (hleft a' b' ha' hb').1 h2 with h3 | ⟨rfl, rfl⟩
      · exact .inl (.inl ⟨b', hb', h1, h3⟩)
      · exact .inl (.inr (by simp))
  · unfold addS
    simp only [Bool.or_eq_true, decide_eq_true_eq, h.group a' g ha' hg]
    constructor
    · rintro ((⟨b', hb', h0, h1, h2⟩ | ⟨_, h3⟩) | ⟨rfl, h3⟩)
      · exact ⟨b', hb', h0, h1, (hleft a' b' ha' hb').2 (.inl h2)⟩
      · omega
      · exact ⟨b, hb, by omega, hM, (hleft a' b ha' hb).2 (.inr ⟨rfl, rfl⟩)⟩
    · rintro ⟨b', hb', h0, h1, h2⟩
      rcases (hleft a' b' ha' hb').1 h2 with h3 | ⟨rfl, rfl⟩
      · exact .inl (.inl ⟨b', hb', h0, h1, h3⟩)
      · exact .inr ⟨rfl, by omega⟩
theorem MetS.done {M : Nat → Nat → Nat → Int} {left : Lit → Bool} {S : Nat → Nat → Bool} (h : MetS M left S) (hl : ∀ kl, left kl = false) : cntP S = needN M := by
  refine cntP_need (fun a ha => ?_) (fun a g ha hg => ?_)
  · rw [h.unit a ha, has1_iff]
    constructor
    · rintro ⟨b, hb, h1, _⟩; exact ⟨b / 16, by omega, b % 16, by omega, h1⟩
    · rintro ⟨g, hg, b, hb, h1⟩
      exact ⟨16 * g + b, by omega, by rw [show (16 * g + b) / 16 = g by omega, show (16 * g + b) % 16 = b by omega]; exact h1, hl _⟩
  · rw [h.group a g ha hg, has2_iff]
    constructor
    · rintro ⟨b, hb, h0, h1, _⟩; exact ⟨b % 16, by omega, by rw [← h0]; exact h1⟩
    · rintro ⟨b, hb, h1⟩
      exact ⟨16 * g + b, by omega, by omega, by rw [show (16 * g + b) / 16 = g by omega, show (16 * g + b) % 16 = b by omega]; exact h1, hl _⟩
end Go.Proofs.YtjikpodghmfjcaaGreatDoor
set_option linter.unnecessarySimpa false
namespace Go.Proofs.YtjikpodghmfjcaaGreatDoor
open Go.RowKit Go.Maps
/-- need under way. -/
def NeI (w : World) (mb r sb c : Nat) (f : Lit → Option Value) (M : Nat → Nat → Nat → Int) (left : Lit → Bool) (cnt : Nat) (wx : World) : Prop :=
  MapR Tryz.prog 114 wx mb r c f left cnt ∧ (∃ fS S, MapIs Tryz.prog 114 wx sb (cntP S) fS ∧ SM fS S ∧ MetS M left S) ∧ Below w.heap.size w wx
theorem cntP_le (S : Nat → Nat → Bool) : cntP S ≤ 68 := by
  have := List.length_filter_le (fun i => S (i / 17) (i % 17)) (List.range 68)
  simpa [cntP] using this
set_option maxRecDepth 100000 in
set_option maxHeartbeats 2000000 in
theorem need_any (mb c : Nat) (f : Lit → Option Value) (M : Nat → Nat → Nat → Int) (hf : KM f M) (w : World) (h : MapIs Tryz.prog 114 w mb c f) :
    Calls Tryz.prog 25 #[.map (some mb)] w fun e w' => e = .returned (.int .i64 (needN M : Nat)) ∧ Below w.heap.size w w' := by
  have HF := Lib.hid hf
  have hmb := h.lt
  have hm1 : ∀ o : Obj, MapIs Tryz.prog 114 (w.alloc o) mb c f := fun o => (Keeps.alloc (fun _ => True) w o).map trivial h
  have hmm : ∀ wx : World, (Instr.makeMap 120 none).run Tryz.prog wx = .ok (.map (some wx.heap.size)) (wx.alloc (.map #[] 0)) := fun _ => by kernel_rfl
  obtain ⟨nd, hnd⟩ : ∃ nd, ((needN M : Nat) : Int) = nd := ⟨_, rfl⟩
  rw [hnd]
  have HND := Lib.hid hnd
  clear hf h hnd
  go_enter Tryz.func25, Tryz.ntmps25
  go_wp2_with (at_range; refine wpList_range_is _ rfl _ 48 rfl 114 3 pair_keyed Tryz.underlying48 mb _ f rfl (hm1 _) ?_; intro w2 left0 hr0 hl0 hb2; go_frame)
  generalize hrr : (w.alloc (.map #[] 0)).heap.size = r at hr0 hb2 ⊢
  have hr : w.heap.size < r := by rw [← hrr]; simp
  have H2 : Hid (NeI w mb r w.heap.size c f M left0 c w2) := Lib.hid (by
    rw [← hrr] at hb2
    refine ⟨hr0, ⟨fun _ => none, fun _ _ => false, ?_, ⟨fun a j _ _ => by simp⟩, MetS.start HF.out hl0⟩, ((Below.refl _ _).alloc (Nat.le_refl _) _).trans (hb2.mono (by simp))⟩
    have hz : cntP (fun _ _ => false) = 0 := by unfold cntP; simp
    rw [hz]
    exact (mapIs_made Tryz.prog 114 w).below hb2 (by simp))
  clear hr0 hl0 hb2 hrr hm1 hmm
  generalize hsb : w.heap.size = sb at hr hmb H2 ⊢
  have HSB := Lib.hid hsb
  clear hsb
  go_loopw [] (fun wr => ∃ (left : Lit → Bool) (cnt : Nat), Hid (NeI w mb r sb c f M left cnt wr)) (fun wr => wr.rangeLeft mb r)
  case atStart => exact ⟨left0, c, H2⟩
  case round =>
    clear H2
    obtain ⟨left, cnt, H⟩ := hrel
    go_wp2_with (at_next; refine wpList_next_pair _ rfl _ rfl 114 pair_keyed mb r _ f left cnt rfl H.out.1 ?done ?more)
    case more =>
      intro key v kl w3 cnt3 hkey hlx hfx hr3 hlt hg3 hs3 hen
      obtain ⟨a, b, ha, hb, rfl⟩ := HF.out.only kl v hfx
      obtain rfl := pair_keyed.inj hkey (pair_key (a : Int) (b : Int) (by omega) (by omega))
      have hM : M a (b / 16) (b % 16) ≠ 0 := fun e => by
        rw [HF.out.at_ a b ha hb, if_neg (by simp [e])] at hfx
        cases hfx
      obtain ⟨hR0, ⟨fS, S, hMS, hSM, hMet⟩, hBw⟩ := H.out
      have hmr := hR0.lt
      have hsr := hMS.lt
      have H3 : Hid (MapR Tryz.prog 114 w3 mb r c f (fun z => left z && !z.sameKey (kk a (b : Nat))) cnt3 ∧ MapIs Tryz.prog 114 w3 sb (cntP S) fS ∧ Below w.heap.size w w3) := Lib.hid ⟨hr3, hMS.of_block (hg3.block sb hsr (fun e => by simp at e; omega)), hBw.grown hg3 hBw.size (fun k hk => by have := HSB.out; simp at hk; omega)⟩
      have HSM := Lib.hid hSM
      have HMT := Lib.hid (hMet.step (f := f) ha hb hM)
      have HLT := Lib.hid hlt
      have HSZ : Hid (r < w3.heap.size ∧ sb < w3.heap.size ∧ wr.rangeLeft mb r = cnt) := Lib.hid ⟨by omega, by omega, hR0.left_eq⟩
      clear hr3 hlt hg3 hs3 hkey hlx hfx hR0 hMS hSM hMet hBw hM
      have hb16 : b / 16 < 16 := by omega
      have a0 : (0 : Int) ≤ a := by omega
      have a1 : (a : Int) < 4 := by omega
      have b0 : (0 : Int) ≤ b := by omega
      have b1 : (b : Int) < 256 := by omega
      have hcl := cntP_le S
      repeat ((fail_if_success (with_reducible refine stop_at 12 rfl ?_)); (first | (refine pair_store rfl (.tmp 4) (.tmp 11) rfl w3.heap.size a b 0 0 rfl rfl (heap_alloc_new w3 _) ?_) | go_values | go_skip | go_guarded | go_step | go_upon))
      have hbx : ∀ o : Obj, Below w3.heap.size w3 ((w3.alloc o).setRow w3.heap.size #[.int .i64 (a : Int), .int .i64 (b : Int)]) := fun o => below_setRow ((Below.refl _ _).alloc (Nat.le_refl _) _) (Nat.le_refl _) _
      have hs3 := HSZ.out
      refine gen_world (fun wx => Hid (wx.heap[w3.heap.size]? = some (.cells #[.int .i64 (a : Int), .int .i64 (b : Int)] 114) ∧ MapR Tryz.prog 114 wx mb r c f (fun z => left z && !z.sameKey (kk a (b : Nat))) cnt3 ∧ MapIs Tryz.prog 114 wx sb (cntP S) fS ∧ Below w.heap.size w wx)) (Lib.hid ⟨setRow_heap _ _ _ _ _ (0, 0) (heap_alloc_new w3 _), H3.out.1.kept ((hbx _).block _ (by omega)) ((hbx _).block _ hs3.1), H3.out.2.1.below (hbx _) hs3.2.1, H3.out.2.2.trans ((hbx _).mono H3.out.2.2.size)⟩) ?_
      have hb4 : w.heap.size ≤ w3.heap.size ∧ sb < w3.heap.size ∧ r < w3.heap.size := ⟨H3.out.2.2.size, hs3.2.1, hs3.1⟩
      clear hbx H3 hen hs3
      generalize w3.heap.size = b4 at hb4 ⊢
      intro w4 H4
      try simp only [Act.put]
      obtain ⟨c0, c1, g0, g1⟩ := blk2 H4.out.1
      have HK0 : Hid (kk (a : Int) (((0 : Nat) : Int) - 1) = kk (a : Int) (-1)) := Lib.hid rfl
      have HK1 : Hid (kk (a : Int) (((b / 16 + 1 : Nat) : Int) - 1) = kk (a : Int) ((b : Int) / 16)) := Lib.hid (by congr 1; push_cast; omega)
      have hcl2 := cntP_le (addS S a 0)
      go_wp2_with (at_mapUpdate; refine wpList_store_cnt _ rfl _ _ _ 120 rfl 114 4 pair_keyed Tryz.underlying120 sb (cntP S) fS rfl H4.out.2.2.1 ?hc (.agg #[.int .i64 (a : Int), .int .i64 (-1)]) (.bool true) (kk (a : Int) (-1)) rfl rfl ?hk ?_)
      case hc => unfold maxLen; omega
      case hk => exact pair_key _ _ (by omega) (by omega)
      intro w5 hm5 ht5
      have hk5 : Keeps (fun k => k ≠ sb) w4 w5 := Keeps.of_turned ht5 (by simp)
      have HM5 : Hid (MapIs Tryz.prog 114 w5 sb (cntP (addS S a 0)) (upd fS (kk (a : Int) (-1)) (some (.bool true))) ∧ SM (upd fS (kk (a : Int) (-1)) (some (.bool true))) (addS S a 0)) := Lib.hid (by
        have hs := HSM.out.at_ a 0 ha (by decide)
        have hp := HSM.out.put ha (j := 0) (by decide)
        rw [HK0.out] at hs hp
        refine ⟨?_, hp⟩
        rw [cntP_add S ha (by decide)]
        rw [hs] at hm5
        unfold cntIf at hm5
        cases hq : S a 0 <;> simpa [hq] using hm5)
      have H5 : Hid (w5.heap[b4]? = some (.cells #[.int .i64 (a : Int), .int .i64 (b : Int)] 114) ∧ MapR Tryz.prog 114 w5 mb r c f (fun z => left z && !z.sameKey (kk a (b : Nat))) cnt3 ∧ Below w.heap.size w w5) := Lib.hid ⟨hk5.blk (by omega) H4.out.1, H4.out.2.1.kept (hk5.block _ (by have := H4.out.2.1.lt; omega) (by omega)) (hk5.block _ H4.out.2.1.lt (by omega)), H4.out.2.2.2.trans (hk5.below H4.out.2.2.2.size (fun i hi => by have := HSB.out; omega))⟩
      clear hm5 ht5 hk5 H4 HSM c0 c1 g0 g1
      obtain ⟨c0, c1, g0, g1⟩ := blk2 H5.out.1
      generalize upd fS (kk (a : Int) (-1)) (some (.bool true)) = fS5 at HM5
      go_wp2_with (at_mapUpdate; refine wpList_store_cnt _ rfl _ _ _ 120 rfl 114 4 pair_keyed Tryz.underlying120 sb (cntP (addS S a 0)) fS5 rfl HM5.out.1 ?hc2 (.agg #[.int .i64 (a : Int), .int .i64 ((b : Int) / 16)]) (.bool true) (kk (a : Int) ((b : Int) / 16)) rfl rfl ?hk2 ?_)
      case hc2 => unfold maxLen; omega
      case hk2 => exact pair_key _ _ (by omega) (by omega)
      intro w6 hm6 ht6
      have hk6 : Keeps (fun k => k ≠ sb) w5 w6 := Keeps.of_turned ht6 (by simp)
      have HM6 : Hid (MapIs Tryz.prog 114 w6 sb (cntP (addS (addS S a 0) a (b / 16 + 1))) (upd fS5 (kk (a : Int) ((b : Int) / 16)) (some (.bool true))) ∧ SM (upd fS5 (kk (a : Int) ((b : Int) / 16)) (some (.bool true))) (addS (addS S a 0) a (b / 16 + 1))) := Lib.hid (by
        have hs := HM5.out.2.at_ a (b / 16 + 1) ha (by omega)
        have hp := HM5.out.2.put ha (j := b / 16 + 1) (by omega)
        rw [HK1.out] at hs hp
        refine ⟨?_, hp⟩
        rw [cntP_add (addS S a 0) ha (by omega)]
        rw [hs] at hm6
        unfold cntIf at hm6
        cases hq : addS S a 0 a (b / 16 + 1) <;> simpa [hq] using hm6)
      have H6 : Hid (NeI w mb r sb c f M (fun z => left z && !z.sameKey (kk a (b : Nat))) cnt3 w6) := Lib.hid ⟨H5.out.2.1.kept (hk6.block _ (by have := H5.out.2.1.lt; omega) (by omega)) (hk6.block _ H5.out.2.1.lt (by omega)), ⟨_, _, HM6.out.1, HM6.out.2, HMT.out⟩, H5.out.2.2.trans (hk6.below H5.out.2.2.size (fun i hi => by have := HSB.out; omega))⟩
      clear hm6 ht6 hk6 H5 HM5 HM6 c0 c1 g0 g1
      go_wp2_with fail
      refine ⟨⟨_, cnt3, H6⟩, ?_⟩
      rw [H6.out.1.left_eq, HSZ.out.2.2]; exact HLT.out
    case done =>
      intro hld
      obtain ⟨hR0, ⟨fS, S, hMS, hSM, hMet⟩, hBw⟩ := H.out
      have HMS := Lib.hid hMS
      have HBW := Lib.hid hBw
      have HE : Hid (((cntP S : Nat) : Int) = nd) := Lib.hid (by rw [hMet.done hld]; exact HND.out)
      clear hR0 hMS hSM hMet hBw hld
      go_wp2_with (refine wpList_len_is _ rfl _ 120 rfl 114 4 Tryz.underlying120 sb (cntP S) fS rfl HMS.out ?_)
      go_ret
      exact ⟨by rw [HE.out]; rfl, HBW.out⟩
end Go.Proofs.YtjikpodghmfjcaaGreatDoor
set_option linter.unnecessarySimpa false
namespace Go.Proofs.YtjikpodghmfjcaaGreatDoor
open Go.RowKit Go.Maps Go.MapKept
theorem look_w {P : Program} (w : World) {ops : Array Oper} {rest : List Oper} {o : Oper} {a : Act} {Q : Exit → Act → World → Prop}
    (hw : Region.wanted o (yielded ops a.tmps) = true) (m x : Operand) (t : TypeId) (hop : o.op = Op.lookup t m x false)
    (k e : TypeId) (K : Keyed P k) (ht : P.underlying t = some (.map k e)) (z : Value) (hz : (zeroValue e).run P w = .ok z w) (b c : Nat) (f : Lit → Option Value)
    (hm : a.eval m = .map (some b)) (hown : MapIs P k w b c f) (key : Value) (kl : Lit) (hx : a.eval x = key) (hkey : keyOf P k key = some kl)
    (hK : wpList P ops Q rest (a.put o.dst ((f kl).getD z)) w) : wpList P ops Q (o :: rest) a w := by
  refine wpList_step fun K' hK' => ?_
  rw [if_pos hw]
  have hrun := hown.look K ht hz hkey
  unfold Oper.wp
  simp [execOp, hop, hm, hx, hrun, Result.andThen]
  exact hK' _ _ hK
theorem KM.get {f : Lit → Option Value} {M : Nat → Nat → Nat → Int} (h : KM f M) {a b : Nat} (ha : a < 4) (hb : b < 256) : (f (kk a b)).getD (.int .i64 0) = .int .i64 (M a (b / 16) (b % 16)) := by
  rw [h.at_ a b ha hb]
  by_cases e : M a (b / 16) (b % 16) = 0
  · rw [if_neg (by simp [e]), e]; rfl
  · rw [if_pos e]; rfl
/-- right under way. -/
def RgI (w : World) (N : Nat → Prop) (tb bb n k : Nat) (M : Nat → Nat → Nat → Int) (mb c : Nat) (f : Lit → Option Value) (wx : World) : Prop :=
  RadS N tb bb n k M wx ∧ MapIs Tryz.prog 114 wx mb c f ∧ Below w.heap.size w wx
theorem RgI.below {w : World} {N : Nat → Prop} {tb bb n k : Nat} {M : Nat → Nat → Nat → Int} {mb c : Nat} {f : Lit → Option Value} {wx wy : World} (h : RgI w N tb bb n k M mb c f wx) (hb : Below wx.heap.size wx wy) : RgI w N tb bb n k M mb c f wy :=
  ⟨h.1.below hb, h.2.1.below hb h.2.1.lt, h.2.2.trans (hb.mono h.2.2.size)⟩
set_option maxRecDepth 100000 in
set_option maxHeartbeats 2000000 in
theorem right_any (N : Nat → Prop) (tb bb n k : Nat) (M : Nat → Nat → Nat → Int) (hn : n ≤ 195) (mb c : Nat) (f : Lit → Option Value) (hf : KM f M) (w : World) (h : RadS N tb bb n k M w) (hm : MapIs Tryz.prog 114 w mb c f) :
    Calls Tryz.prog 26 #[.pointer (some ⟨tb, 0, none⟩), .map (some mb)] w fun e w' => e = .returned (.bool true) ∧ Below w.heap.size w w' := by
  have HF := Lib.hid hf
  have H0 : Hid (RgI w N tb bb n k M mb c f w) := Lib.hid ⟨h, hm, Below.refl _ _⟩
  have hzz : ∀ wx : World, (zeroValue 3).run Tryz.prog wx = .ok (.int .i64 0) wx := fun _ => by kernel_rfl
  have HN := Lib.hid hn
  clear hf h hm hn
  go_enter Tryz.func26, Tryz.ntmps26
  go_wp2_with fail
  go_loopw [11] (fun iv wr => ∃ l : Nat, iv = .int .i64 (l : Int) ∧ l ≤ 4 ∧ Hid (RgI w N tb bb n k M mb c f wr)) (fun iv _ => 4 - (intOf iv).toNat)
  case atStart => exact ⟨0, rfl, by omega, H0⟩
  case round =>
    clear H0
    obtain ⟨l, rfl, hl, H⟩ := hrel
    by_cases hl4 : l < 4
    case neg =>
      obtain rfl : l = 4 := by omega
      have hN := rad_nodes HN.out H.out.1
      go_wp2_with fail
      refine hN.mono ?_
      clear hN
      rintro e w2 ⟨rfl, hb2⟩
      have H2 := Lib.hid (H.out.below hb2)
      have hD := need_any mb c f M HF.out w2 H2.out.2.1
      clear hb2 H
      try dsimp only
      obtain ⟨nd, hnd⟩ : ∃ nd, ((needN M : Nat) : Int) = nd := ⟨_, rfl⟩
      rw [hnd] at hD ⊢
      clear hnd
      go_wp2_with fail
      refine hD.mono ?_
      clear hD
      rintro e w3 ⟨rfl, hb3⟩
      have H3 := Lib.hid (H2.out.below hb3)
      clear hb3 H2
      try dsimp only
      go_wp2_with fail
      go_ret
      exact ⟨rfl, H3.out.2.2⟩
    case pos =>
      have l1 : (0 : Int) ≤ l := by omega
      have l2 : (l : Int) < 4 := by omega
      clear hl
      go_wp2_with fail
      go_loopw [6] (fun jv wr => ∃ b : Nat, jv = .int .i64 (b : Int) ∧ b ≤ 260 ∧ Hid (RgI w N tb bb n k M mb c f wr)) (fun jv _ => 261 - (intOf jv).toNat)
      case atStart => exact ⟨0, rfl, by omega, H⟩
      case round =>
        clear H
        obtain ⟨b, rfl, hb, H⟩ := hrel
        have b1 : (0 : Int) ≤ b := by omega
        by_cases hb4 : b < 256
        case neg =>
          have b2 : ¬ ((b : Int) < 256) := by omega
          have b3 : (b : Int) ≤ 260 := by omega
          go_wp2_with fail
          go_roundw
          · exact ⟨l + 1, by push_cast; rfl, by omega, H⟩
          · simp only [intOf]; omega
        case pos =>
          have b2 : (b : Int) < 256 := by omega
          have hG := rad_get HN.out hl4 hb4 H.out.1
          have hkm := HF.out.get hl4 hb4
          obtain ⟨x, hx⟩ : ∃ x, M l (b / 16) (b % 16) = x := ⟨_, rfl⟩
          rw [hx] at hG hkm
          have HKM := Lib.hid hkm
          clear hx hkm
          go_wp2_with fail
          refine hG.mono ?_
          clear hG
          rintro e w2 ⟨rfl, hb2⟩
          have H2 := Lib.hid (H.out.below hb2)
          clear hb2 H
          try dsimp only
          go_wp2_with (first | (at_lookup; refine wpList_look_is _ rfl _ _ 48 rfl 114 3 pair_keyed Tryz.underlying48 (.int .i64 0) (hzz _) mb c f rfl H2.out.2.1 (.agg #[.int .i64 (l : Int), .int .i64 (b : Int)]) (kk l b) rfl (pair_key _ _ (by omega) (by omega)) ?_; rw [HKM.out]) | (refine look_w _ rfl _ _ 48 rfl 114 3 pair_keyed Tryz.underlying48 (.int .i64 0) (hzz _) mb c f rfl H2.out.2.1 (.agg #[.int .i64 (l : Int), .int .i64 (b : Int)]) (kk l b) rfl (pair_key _ _ (by omega) (by omega)) ?_; rw [HKM.out]))
          go_roundw
          · exact ⟨b + (1 + l), by push_cast; rfl, by omega, H2⟩
          · simp only [intOf]; omega
end Go.Proofs.YtjikpodghmfjcaaGreatDoor
set_option linter.unnecessarySimpa false
namespace Go.Proofs.YtjikpodghmfjcaaGreatDoor
open Go.RowKit Go.Maps Go.MapKept
/-- The number of entries behind a delete. -/
def cntDel (b : Bool) (c : Nat) : Nat := if b = true then c - 1 else c
theorem wpList_del_is {P : Program} (w : World) {ops : Array Oper} {rest : List Oper} {o : Oper} {a : Act} {Q : Exit → Act → World → Prop}
    (hg : o.guard = none) (m x : Operand) (t k : TypeId) (hop : o.op = Op.call { callee := Callee.builtin Builtin.delete, args := #[m, x], argTypes := #[t, k] })
    (e : TypeId) (K : Keyed P k) (ht : P.underlying t = some (.map k e)) (b c : Nat) (f : Lit → Option Value)
    (hm : a.eval m = .map (some b)) (hown : MapIs P k w b c f) (key : Value) (kl : Lit) (hx : a.eval x = key) (hkey : keyOf P k key = some kl)
    (hK : ∀ w', MapIs P k w' b (cntDel (f kl).isSome c) (upd f kl none) → w.mapTurned w' b → wpList P ops Q rest (a.put o.dst (.tuple #[])) w') : wpList P ops Q (o :: rest) a w := by
  refine wpList_plain hg fun K' hK' => ?_
  obtain ⟨w', hrun, r1, r2⟩ := hown.del K ht hkey o.type
  unfold Oper.wp
  simp [execOp, hop, resolve, invoke, builtin, hm, hx, hrun, Result.andThen]
  exact hK' _ _ (hK w' r1 r2)
set_option maxRecDepth 100000 in
theorem rset_badx (tb : Nat) (lun block : Int) (hl : 0 ≤ lun ∧ lun < 4) (hb : 0 ≤ block ∧ block < 256) (y : Int) (hy : y < 0 ∨ 16777216 ≤ y) (w : World) : Calls Tryz.prog 21 #[.pointer (some ⟨tb, 0, none⟩), .int .i64 lun, .int .i64 block, .int .i64 y] w fun e w' => (∃ t x, e = .returned (.iface t x) ∧ ErrV w' (.iface t x) 1) ∧ Below w.heap.size w w' := by
  have hS := sound_ok tb lun block hl hb w
  clear hl hb
  by_cases q : y < 0
  · clear hy
    go_enter Tryz.func21, Tryz.ntmps21
    go_wp2_with fail
    refine hS.mono ?_
    rintro e w2 ⟨rfl, rfl⟩
    try dsimp only
    go_wp2_with fail
    refine (woe_num _ 1 _).mono ?_
    rintro e w2 ⟨⟨t, x, rfl, he⟩, hb2⟩
    have HE := Lib.hid he
    clear he
    try dsimp only
    go_wp2_with fail
    go_ret
    exact ⟨⟨t, x, rfl, HE.out⟩, hb2⟩
  · have q1 : 16777216 ≤ y := by omega
    clear hy
    go_enter Tryz.func21, Tryz.ntmps21
    go_wp2_with fail
    refine hS.mono ?_
    rintro e w2 ⟨rfl, rfl⟩
    try dsimp only
    go_wp2_with fail
    refine (woe_num _ 1 _).mono ?_
    rintro e w2 ⟨⟨t, x, rfl, he⟩, hb2⟩
    have HE := Lib.hid he
    clear he
    try dsimp only
    go_wp2_with fail
    go_ret
    exact ⟨⟨t, x, rfl, HE.out⟩, hb2⟩
theorem count_one (p : Nat → Bool) (a n : Nat) : ((List.range n).filter fun i => p i || decide (i = a)).length = ((List.range n).filter p).length + if a < n ∧ p a = false then 1 else 0 := by
  induction n with
  | zero => rw [if_neg (by omega)]; rfl
  | succ m ih =>
    rw [List.range_succ, List.filter_append, List.filter_append, List.length_append, List.length_append, ih]
    by_cases e : m = a
    · subst e
      rw [if_neg (by omega)]
      cases hp : p m <;> simp [hp]
    · have e3 : List.filter (fun i => p i || decide (i = a)) [m] = List.filter p [m] := List.filter_congr (fun q hq => by
        rw [List.mem_singleton.1 hq]
        simp [e])
      rw [e3]
      by_cases hc : a < m ∧ p a = false
      · rw [if_pos hc, if_pos ⟨by omega, hc.2⟩]; omega
      · rw [if_neg hc, if_neg (fun h' => hc ⟨by omega, h'.2⟩)]; omega
theorem has2_lay (M : Nat → Nat → Nat → Int) (l g b : Nat) (hb : b < 16) (x : Int) (hx : x ≠ 0) (l' g' : Nat) : has2 (layM M l g b x) l' g' = (has2 M l' g' || decide (l' = l ∧ g' = g)) := by
  rw [Bool.eq_iff_iff, has2_iff, Bool.or_eq_true, has2_iff, decide_eq_true_eq]
  constructor
  · rintro ⟨b', hb', h⟩
    by_cases e : l' = l ∧ g' = g
    · exact .inr e
    · refine .inl ⟨b', hb', ?_⟩
      unfold layM at h
      rwa [if_neg (fun h' => e ⟨h'.1, h'.2.1⟩)] at h
  · rintro (⟨b', hb', h⟩ | ⟨rfl, rfl⟩)
    · refine ⟨b', hb', ?_⟩
      unfold layM
      split
      · exact hx
      · exact h
    · exact ⟨b, hb, by unfold layM; rw [if_pos ⟨rfl, rfl, rfl⟩]; exact hx⟩
theorem has1_lay (M : Nat → Nat → Nat → Int) (l g b : Nat) (hg : g < 16) (hb : b < 16) (x : Int) (hx : x ≠ 0) (l' : Nat) : has1 (layM M l g b x) l' = (has1 M l' || decide (l' = l)) := by
  have hU : ∀ (M : Nat → Nat → Nat → Int) (l : Nat), has1 M l = true ↔ ∃ g, g < 16 ∧ has2 M l g = true := fun M l => by
    unfold has1
    simp [List.any_eq_true]
  rw [Bool.eq_iff_iff, hU, Bool.or_eq_true, hU, decide_eq_true_eq]
  constructor
  · rintro ⟨g', hg', h⟩
    rw [has2_lay M l g b hb x hx, Bool.or_eq_true, decide_eq_true_eq] at h
    rcases h with h | h
    · exact .inl ⟨g', hg', h⟩
    · exact .inr h.1
  · rintro (⟨g', hg', h⟩ | rfl)
    · exact ⟨g', hg', by rw [has2_lay M l g b hb x hx, h]; rfl⟩
    · exact ⟨g, hg, by rw [has2_lay M l' g b hb x hx]; simp⟩
theorem needN_lay (M : Nat → Nat → Nat → Int) {l g b : Nat} (hl : l < 4) (hg : g < 16) (hb : b < 16) (x : Int) (hx : x ≠ 0) : needN (layM M l g b x) = needN M + moreN M l g := by
  unfold needN cnt1 cnt2 moreN
  have e1 : (List.range 4).filter (has1 (layM M l g b x)) = (List.range 4).filter (fun i => has1 M i || decide (i = l)) := List.filter_congr (fun i _ => has1_lay M l g b hg hb x hx i)
  have e2 : ((List.range 64).filter fun i => has2 (layM M l g b x) (i / 16) (i % 16)) = (List.range 64).filter (fun i => (fun j => has2 M (j / 16) (j % 16)) i || decide (i = 16 * l + g)) := List.filter_congr (fun i _ => by
    rw [has2_lay M l g b hb x hx]
    congr 1
    exact decide_eq_decide.2 ⟨fun h => by omega, fun h => by omega⟩)
  rw [e1, e2, count_one, count_one]
  have h3 : (16 * l + g) / 16 = l := by omega
  have h4 : (16 * l + g) % 16 = g := by omega
  simp only [h3, h4]
  cases has1 M l <;> cases has2 M l g <;> simp [hl, show 16 * l + g < 64 by omega] <;> omega
theorem RadP.need_le {N : Nat → Prop} {tb bb n k : Nat} {M : Nat → Nat → Nat → Int} {wx : World} (h : RadP N tb bb n k M wx) : needN M ≤ n := by
  obtain ⟨B, r1, r2, h1, h2, h3⟩ := h
  rw [← h2.need, ← h2.nodes]
  exact nodesF_le _ _ _
theorem RadP.congr {N : Nat → Prop} {tb bb n k : Nat} {M M' : Nat → Nat → Nat → Int} {wx : World} (h : RadP N tb bb n k M wx) (hM : ∀ l g b, l < 4 → g < 16 → b < 16 → M' l g b = M l g b) : RadP N tb bb n k M' wx := by
  obtain ⟨B, r1, r2, h1, h2, h3⟩ := h
  exact ⟨B, r1, r2, h1, h2.congr (fun _ _ => rfl) hM, h3⟩
/-- What was there is put back. -/
theorem KM.back {f : Lit → Option Value} {M : Nat → Nat → Nat → Int} (h : KM f M) {a b : Nat} (ha : a < 4) (hb : b < 256) (x : Int) (hx : x ≠ 0) (o : Option Value) :
    (M a (b / 16) (b % 16) ≠ 0 → KM (upd (upd f (kk a b) (some (.int .i64 x))) (kk a b) (some (.int .i64 (M a (b / 16) (b % 16))))) M) ∧
    (M a (b / 16) (b % 16) = 0 → KM (upd (upd (upd f (kk a b) (some (.int .i64 x))) (kk a b) o) (kk a b) none) M) := by
  have h1 := h.put ha hb x hx
  refine ⟨fun e => (h1.put ha hb _ e).congr (fun l g c _ _ _ => ?_), fun e => (h1.del ha hb o).congr (fun l g c _ _ _ => ?_)⟩
  · unfold layM
    by_cases q : l = a ∧ g = b / 16 ∧ c = b % 16
    · obtain ⟨rfl, rfl, rfl⟩ := q
      simp
    · simp [q]
  · unfold layM
    by_cases q : l = a ∧ g = b / 16 ∧ c = b % 16
    · obtain ⟨rfl, rfl, rfl⟩ := q
      simp [e]
    · simp [q]
end Go.Proofs.YtjikpodghmfjcaaGreatDoor
set_option linter.unnecessarySimpa false
namespace Go.Proofs.YtjikpodghmfjcaaGreatDoor
open Go.RowKit Go.Maps Go.MapKept
theorem RadU.grow {N N' : Nat → Prop} {tb bb n k : Nat} {M : Nat → Nat → Nat → Int} {wx wy : World} (h : RadU N tb bb n k M wx) (hk : Keeps (fun k => ¬ N k) wx wy) (hn : ∀ i, N' i → i < wy.heap.size ∧ (N i ∨ wx.heap.size ≤ i)) : RadU N' tb bb n k M wy := by
  obtain ⟨B, B0, r1, r2, h1, h2⟩ := h
  exact ⟨B, B0, r1, r2, h1.grow hk hn, h2⟩
/-- The forest and the map of a run: the map's block is kept by the forest. -/
def RnI (N : Nat → Prop) (tb bb n k mb : Nat) (M : Nat → Nat → Nat → Int) (wx : World) : Prop :=
  RadS N tb bb n k M wx ∧ N mb ∧ N 0 ∧ EtAt wx ∧ ∃ c f, MapIs Tryz.prog 114 wx mb c f ∧ KM f M ∧ c ≤ k
theorem RnI.below {N : Nat → Prop} {tb bb n k mb : Nat} {M : Nat → Nat → Nat → Int} {wx wy : World} (h : RnI N tb bb n k mb M wx) (hb : Below wx.heap.size wx wy) : RnI N tb bb n k mb M wy := by
  obtain ⟨h1, h2, h3, h4, c, f, h5, h6, h7⟩ := h
  exact ⟨h1.below hb, h2, h3, h4.below hb h4.pos, c, f, h5.below hb h5.lt, h6, h7⟩
theorem RnI.keep {N N' : Nat → Prop} {tb bb n k mb : Nat} {M : Nat → Nat → Nat → Int} {wx wy : World} (h : RnI N tb bb n k mb M wx) (hb : Below wx.heap.size wx wy) (hn : ∀ i, N' i → i < wy.heap.size ∧ (N i ∨ wx.heap.size ≤ i)) (hm : N' mb) (h0 : N' 0) : RnI N' tb bb n k mb M wy := by
  obtain ⟨h1, h2, h3, h4, c, f, h5, h6, h7⟩ := h
  exact ⟨h1.keep hb hn, hm, h0, h4.below hb h4.pos, c, f, h5.below hb h5.lt, h6, h7⟩
/-- What a call leaves. -/
noncomputable def runM (n : Nat) (M : Nat → Nat → Nat → Int) (lun blk x : Int) : Nat → Nat → Nat → Int :=
  @ite _ (((0 ≤ lun ∧ lun < 4) ∧ (0 ≤ blk ∧ blk < 256)) ∧ (0 ≤ x ∧ x < 16777216) ∧ needN (layM M lun.toNat (blk.toNat / 16) (blk.toNat % 16) x) ≤ n) (Classical.propDecidable _) (layM M lun.toNat (blk.toNat / 16) (blk.toNat % 16) x) M
set_option maxRecDepth 100000 in
set_option maxHeartbeats 4000000 in
theorem run_bad (N : Nat → Prop) (tb bb n k mb : Nat) (M : Nat → Nat → Nat → Int) (hn : n ≤ 195) (lun blk x : Int) (hbad : ¬ ((0 ≤ lun ∧ lun < 4) ∧ (0 ≤ blk ∧ blk < 256))) (w : World) (h : RnI N tb bb n k mb M w) :
    Calls Tryz.prog 23 #[.pointer (some ⟨bb, 0, none⟩), .pointer (some ⟨tb, 0, none⟩), .map (some mb), .int .i64 (n : Int), .agg #[.int .i64 lun, .int .i64 blk, .int .i64 x]] w fun e w' => e = .returned (.bool true) ∧ Below w.heap.size w w' := by
  have hb0 : ∀ o : Obj, Below w.heap.size w (w.alloc o) := fun o => (Below.refl _ _).alloc (Nat.le_refl _) _
  have HE := Lib.hid h.2.2.2.1
  have HG := Lib.hid (fun wx => rget_bad tb lun blk hbad wx)
  have HS := Lib.hid (fun wx => rset_bad tb lun blk x hbad wx)
  have h4 : lun < 0 ∨ (0 ≤ lun ∧ 4 ≤ lun) ∨ (0 ≤ lun ∧ lun < 4 ∧ blk < 0) ∨ (0 ≤ lun ∧ lun < 4 ∧ 0 ≤ blk ∧ 256 ≤ blk) := by omega
  clear h hbad
  rcases h4 with q1 | ⟨q1, q2⟩ | ⟨q1, q2, q3⟩ | ⟨q1, q2, q3, q4⟩
  all_goals
    try have e1 : ¬ (blk < 256) := by omega
    try have e2 : ¬ (0 ≤ blk) := by omega
    try have e3 : ¬ (lun < 4) := by omega
    try have e4 : ¬ (0 ≤ lun) := by omega
    go_enter Tryz.func23, Tryz.ntmps23
    repeat ((fail_if_success (with_reducible refine stop_pos "law.go:60" rfl ?_)); (first | go_values | go_skip | go_guarded | go_step | go_upon))
    refine gen_world (fun wx => Hid (EtAt wx ∧ wx.heap[w.heap.size]? = some (.cells #[.int .i64 lun, .int .i64 blk, .int .i64 x] 50) ∧ Below w.heap.size w wx)) (Lib.hid ⟨HE.out.below (hb0 _) HE.out.pos, heap_alloc_new w _, hb0 _⟩) ?_
    clear hb0
    intro w1 H1
    obtain ⟨z0, z1, z2⟩ := blk3 H1.out.2.1
    go_wp2_with fail
    refine (HG.out w1).mono ?_
    rintro e w2 ⟨⟨t1, x1, rfl, he⟩, hb2⟩
    have hc2 := (hb2.block _ (lt_of_blk H1.out.2.1)).trans H1.out.2.1
    have H2 : Hid (EtAt w2 ∧ w2.heap[w.heap.size]? = some (.cells #[.int .i64 lun, .int .i64 blk, .int .i64 x] 50) ∧ Below w.heap.size w w2) := Lib.hid ⟨H1.out.1.below hb2 H1.out.1.pos, hc2, H1.out.2.2.trans (hb2.mono H1.out.2.2.size)⟩
    have hN := num09_err (.iface t1 x1) 1 w2 he H2.out.1
    clear he hb2 hc2 H1 z0 z1 z2
    obtain ⟨z0, z1, z2⟩ := blk3 H2.out.2.1
    try dsimp only
    go_wp2_with fail
    refine hN.mono ?_
    clear hN
    rintro e w3 ⟨rfl, hb3⟩
    have H3 : Hid (EtAt w3 ∧ w3.heap[w.heap.size]? = some (.cells #[.int .i64 lun, .int .i64 blk, .int .i64 x] 50) ∧ Below w.heap.size w w3) := Lib.hid ⟨H2.out.1.below hb3 H2.out.1.pos, (hb3.block _ (lt_of_blk H2.out.2.1)).trans H2.out.2.1, H2.out.2.2.trans (hb3.mono H2.out.2.2.size)⟩
    clear hb3 H2 z0 z1 z2
    obtain ⟨z0, z1, z2⟩ := blk3 H3.out.2.1
    try dsimp only
    go_wp2_with fail
    refine (HS.out w3).mono ?_
    rintro e w4 ⟨⟨t2, x2, rfl, he⟩, hb4⟩
    have H4 : Hid (EtAt w4 ∧ Below w.heap.size w w4) := Lib.hid ⟨H3.out.1.below hb4 H3.out.1.pos, H3.out.2.2.trans (hb4.mono H3.out.2.2.size)⟩
    have hN := num09_err (.iface t2 x2) 1 w4 he H4.out.1
    clear he hb4 H3 z0 z1 z2
    try dsimp only
    go_wp2_with fail
    refine hN.mono ?_
    clear hN
    rintro e w5 ⟨rfl, hb5⟩
    try dsimp only
    go_wp2_with fail
    go_ret
    exact ⟨rfl, H4.out.2.trans (hb5.mono H4.out.2.size)⟩
end Go.Proofs.YtjikpodghmfjcaaGreatDoor
set_option linter.unnecessarySimpa false
namespace Go.Proofs.YtjikpodghmfjcaaGreatDoor
open Go.RowKit Go.Maps Go.MapKept
/-- What a run keeps: the caller's, the call's and the key's. -/
def NK (N : Nat → Prop) (cb kb : Nat) : Nat → Prop := fun i => (N i ∨ i = cb) ∨ i = kb
set_option maxRecDepth 100000 in
set_option maxHeartbeats 4000000 in
theorem run_badx (N : Nat → Prop) (tb bb n k mb : Nat) (M : Nat → Nat → Nat → Int) (hn : n ≤ 195) (l b : Nat) (hl : l < 4) (hb : b < 256) (x : Int) (hx : x < 0 ∨ 16777216 ≤ x) (w : World) (h : RnI N tb bb n k mb M w) :
    Calls Tryz.prog 23 #[.pointer (some ⟨bb, 0, none⟩), .pointer (some ⟨tb, 0, none⟩), .map (some mb), .int .i64 (n : Int), .agg #[.int .i64 (l : Int), .int .i64 (b : Int), .int .i64 x]] w fun e w' => e = .returned (.bool true) ∧ Below w.heap.size w w' := by
  have hb0 : ∀ o : Obj, Below w.heap.size w (w.alloc o) := fun o => (Below.refl _ _).alloc (Nat.le_refl _) _
  have hzz : ∀ wx : World, (zeroValue 3).run Tryz.prog wx = .ok (.int .i64 0) wx := fun _ => by kernel_rfl
  have H0 := Lib.hid h
  have HNL := Lib.hid h.1.N_lt
  have l1 : (0 : Int) ≤ l := by omega
  have l2 : (l : Int) < 4 := by omega
  have b1 : (0 : Int) ≤ b := by omega
  have b2 : (b : Int) < 256 := by omega
  have HS := Lib.hid (fun wx => rset_badx tb l b ⟨l1, l2⟩ ⟨b1, b2⟩ x hx wx)
  clear h
  go_enter Tryz.func23, Tryz.ntmps23
  repeat ((fail_if_success (with_reducible refine stop_pos "law.go:60" rfl ?_)); (first | go_values | go_skip | go_guarded | go_step | go_upon))
  refine gen_world (fun wx => Hid (RnI (fun i => N i ∨ i = w.heap.size) tb bb n k mb M wx ∧ wx.heap[w.heap.size]? = some (.cells #[.int .i64 (l : Int), .int .i64 (b : Int), .int .i64 x] 50) ∧ Below w.heap.size w wx)) (Lib.hid ⟨H0.out.keep (hb0 _) (fun i hi => by
    rcases hi with hi | rfl
    · exact ⟨by have := HNL.out i hi; simp; omega, .inl hi⟩
    · exact ⟨by simp, .inr (Nat.le_refl _)⟩) (.inl H0.out.2.1) (.inl H0.out.2.2.1), heap_alloc_new w _, hb0 _⟩) ?_
  clear hb0
  intro w1 H1
  obtain ⟨z0, z1, z2⟩ := blk3 H1.out.2.1
  have hG := rad_get hn hl hb H1.out.1.1
  obtain ⟨y, hy⟩ : ∃ y, M l (b / 16) (b % 16) = y := ⟨_, rfl⟩
  rw [hy] at hG
  have HY := Lib.hid hy
  clear hy
  go_wp2_with fail
  refine hG.mono ?_
  clear hG
  rintro e w2 ⟨rfl, hb2⟩
  have H2 : Hid (RnI (fun i => N i ∨ i = w.heap.size) tb bb n k mb M w2 ∧ w2.heap[w.heap.size]? = some (.cells #[.int .i64 (l : Int), .int .i64 (b : Int), .int .i64 x] 50) ∧ Below w.heap.size w w2) := Lib.hid ⟨H1.out.1.below hb2, (hb2.block _ (lt_of_blk H1.out.2.1)).trans H1.out.2.1, H1.out.2.2.trans (hb2.mono H1.out.2.2.size)⟩
  clear hb2 H1 z0 z1 z2
  obtain ⟨z0, z1, z2⟩ := blk3 H2.out.2.1
  try dsimp only
  repeat ((fail_if_success (with_reducible refine stop_at 66 rfl ?_)); (first | (refine pair_store rfl (.tmp 14) (.tmp 65) rfl w2.heap.size l b 0 0 rfl rfl (heap_alloc_new w2 _) ?_) | go_values | go_skip | go_guarded | go_step | go_upon))
  have hbx : ∀ o : Obj, Below w2.heap.size w2 ((w2.alloc o).setRow w2.heap.size #[.int .i64 (l : Int), .int .i64 (b : Int)]) := fun o => below_setRow ((Below.refl _ _).alloc (Nat.le_refl _) _) (Nat.le_refl _) _
  have hro : ((w2.alloc (.cells #[.int .i64 0, .int .i64 0] 114)).setRow w2.heap.size #[.int .i64 (l : Int), .int .i64 (b : Int)]).heap[w2.heap.size]? = some (.cells #[.int .i64 (l : Int), .int .i64 (b : Int)] 114) := setRow_heap _ _ _ _ _ (0, 0) (heap_alloc_new w2 _)
  have hbo := hbx (.cells #[.int .i64 0, .int .i64 0] 114)
  obtain ⟨hRS, hNm, hN0, hET, c, f, hMI, hKM, hck⟩ := H2.out.1
  have hkm := hKM.get hl hb
  rw [HY.out] at hkm
  have HKM := Lib.hid hkm
  have HKF := Lib.hid hKM
  have HCK := Lib.hid hck
  obtain ⟨kb, hkb⟩ : ∃ kb, w2.heap.size = kb := ⟨_, rfl⟩
  have HKB : Hid (w.heap.size < kb) := Lib.hid (by rw [← hkb]; exact lt_of_blk H2.out.2.1)
  refine gen_world (fun wx => Hid (wx.heap[kb]? = some (.cells #[.int .i64 (l : Int), .int .i64 (b : Int)] 114) ∧ wx.heap[w.heap.size]? = some (.cells #[.int .i64 (l : Int), .int .i64 (b : Int), .int .i64 x] 50) ∧ RadS (NK N w.heap.size kb) tb bb n k M wx ∧ MapIs Tryz.prog 114 wx mb c f ∧ EtAt wx ∧ Below w.heap.size w wx)) (Lib.hid (by
    rw [← hkb]
    exact ⟨hro, (hbo.block _ (lt_of_blk H2.out.2.1)).trans H2.out.2.1, hRS.keep hbo (fun i hi => by
      rcases hi with hi | hi
      · exact ⟨Nat.lt_of_lt_of_le (hRS.N_lt i hi) hbo.size, .inl hi⟩
      · rw [hi]; exact ⟨lt_of_blk hro, .inr (Nat.le_refl _)⟩), hMI.below hbo hMI.lt, hET.below hbo hET.pos, H2.out.2.2.trans (hbo.mono H2.out.2.2.size)⟩)) ?_
  rw [hkb]
  clear hbx hro hbo hRS hNm hN0 hET hMI hKM hck hkm hkb H2 z0 z1 z2
  intro w3 H3
  try simp only [Act.put]
  obtain ⟨z0, z1, z2⟩ := blk3 H3.out.2.1
  obtain ⟨c0, c1, g0, g1⟩ := blk2 H3.out.1
  go_wp2_with (first | (at_lookup; refine wpList_look_is _ rfl _ _ 48 rfl 114 3 pair_keyed Tryz.underlying48 (.int .i64 0) (hzz _) mb c f rfl H3.out.2.2.2.1 (.agg #[.int .i64 (l : Int), .int .i64 (b : Int)]) (kk l b) rfl (pair_key _ _ (by omega) (by omega)) ?_; rw [HKM.out]) | (refine look_w _ rfl _ _ 48 rfl 114 3 pair_keyed Tryz.underlying48 (.int .i64 0) (hzz _) mb c f rfl H3.out.2.2.2.1 (.agg #[.int .i64 (l : Int), .int .i64 (b : Int)]) (kk l b) rfl (pair_key _ _ (by omega) (by omega)) ?_; rw [HKM.out]) | (refine pair_load rfl (.tmp 14) rfl kb 0 l b rfl (pair_range H3.out.1) ?_))
  refine (HS.out w3).mono ?_
  clear HS
  rintro e w4 ⟨⟨t1, x1, rfl, he⟩, hb4⟩
  have H4 : Hid (w4.heap[w.heap.size]? = some (.cells #[.int .i64 (l : Int), .int .i64 (b : Int), .int .i64 x] 50) ∧ EtAt w4 ∧ Below w.heap.size w w4) := Lib.hid ⟨(hb4.block _ (lt_of_blk H3.out.2.1)).trans H3.out.2.1, H3.out.2.2.2.2.1.below hb4 H3.out.2.2.2.2.1.pos, H3.out.2.2.2.2.2.trans (hb4.mono H3.out.2.2.2.2.2.size)⟩
  have hN := num09_err (.iface t1 x1) 1 w4 he H4.out.2.1
  clear he hb4 H3 z0 z1 z2 c0 c1 g0 g1
  obtain ⟨z0, z1, z2⟩ := blk3 H4.out.1
  have h4 : x < 0 ∨ (0 ≤ x ∧ 16777216 ≤ x) := by omega
  clear hx
  try dsimp only
  rcases h4 with q1 | ⟨q1, q2⟩
  all_goals
    try have e1 : ¬ (x < 0) := by omega
    go_wp2_with fail
    refine hN.mono ?_
    clear hN
    rintro e w5 ⟨rfl, hb5⟩
    try dsimp only
    go_wp2_with fail
    go_ret
    exact ⟨rfl, H4.out.2.2.trans (hb5.mono H4.out.2.2.size)⟩
end Go.Proofs.YtjikpodghmfjcaaGreatDoor
set_option linter.unnecessarySimpa false
namespace Go.Proofs.YtjikpodghmfjcaaGreatDoor
open Go.RowKit Go.Maps Go.MapKept
/-- Behind Get, ahead of Set. -/
def RnK (N : Nat → Prop) (cb kb tb bb n k mb : Nat) (l b : Nat) (x : Int) (M : Nat → Nat → Nat → Int) (c : Nat) (f : Lit → Option Value) (w wx : World) : Prop :=
  wx.heap[kb]? = some (.cells #[.int .i64 (l : Int), .int .i64 (b : Int)] 114) ∧ wx.heap[cb]? = some (.cells #[.int .i64 (l : Int), .int .i64 (b : Int), .int .i64 x] 50) ∧ RadS (NK N cb kb) tb bb n k M wx ∧ MapIs Tryz.prog 114 wx mb c f ∧ EtAt wx ∧ Keeps (fun i => N i ∧ i ≠ mb) w wx ∧ N mb ∧ N 0 ∧ (mb < cb ∧ cb < kb ∧ mb ≠ 0) ∧ True
theorem EtAt.ne_map {w : World} (h : EtAt w) {k mb c : Nat} {f : Lit → Option Value} (hm : MapIs Tryz.prog k w mb c f) : mb ≠ 0 := by
  rintro rfl
  obtain ⟨D, ⟨es, clock, hb, _⟩, _⟩ := hm
  unfold EtAt at h
  simp [World.cell?, hb] at h
/-- Set where the nodes suffice. -/
theorem rad_put {N : Nat → Prop} {tb bb n k : Nat} {M : Nat → Nat → Nat → Int} {wx : World} (hn : n ≤ 195) {l block : Nat} (hl : l < 4) (hb : block < 256) (x : Int) (hx : 0 ≤ x ∧ x < 16777216) (hroom : needN (layM M l (block / 16) (block % 16) x) ≤ n) (h : RadS N tb bb n k M wx) :
    Calls Tryz.prog 21 #[.pointer (some ⟨tb, 0, none⟩), .int .i64 (l : Int), .int .i64 (block : Int), .int .i64 x] wx fun e wy => e = .returned .nilIface ∧ RadP N tb bb n k (layM M l (block / 16) (block % 16) x) wy ∧ Keeps N wx wy := by
  by_cases q : x = 0
  · subst q
    exact rad_clear hn hl hb h
  · exact rad_set hn hl hb x ⟨by omega, hx.2⟩ (by rw [needN_lay M hl (by omega) (by omega) x q] at hroom; exact hroom) h
/-- A run under way (RadP). -/
structure RRadP (N : Nat → Prop) (cb kb tb bb n k mb : Nat) (l b : Nat) (x : Int) (M : Nat → Nat → Nat → Int) (c : Nat) (f : Lit → Option Value) (w wx : World) : Prop where
  key : wx.heap[kb]? = some (.cells #[.int .i64 (l : Int), .int .i64 (b : Int)] 114)
  call : wx.heap[cb]? = some (.cells #[.int .i64 (l : Int), .int .i64 (b : Int), .int .i64 x] 50)
  rad : RadP (NK N cb kb) tb bb n k M wx
  map : MapIs Tryz.prog 114 wx mb c f
  et : EtAt wx
  keeps : Keeps (fun i => N i ∧ i ≠ mb) w wx
  nmb : N mb
  n0 : N 0
  lt : mb < cb ∧ cb < kb ∧ mb ≠ 0
  nlt : ∀ i, NK N cb kb i → i < wx.heap.size
theorem RRadP.below {N : Nat → Prop} {cb kb tb bb n k mb l b c : Nat} {x : Int} {M : Nat → Nat → Nat → Int} {f : Lit → Option Value} {w wx wy : World} (h : RRadP N cb kb tb bb n k mb l b x M c f w wx) (hb : Below wx.heap.size wx wy) : RRadP N cb kb tb bb n k mb l b x M c f w wy :=
  ⟨(hb.block _ (lt_of_blk h.key)).trans h.key, (hb.block _ (lt_of_blk h.call)).trans h.call, h.rad.below hb, h.map.below hb h.map.lt, h.et.below hb h.et.pos, h.keeps.trans (Keeps.of_below hb), h.nmb, h.n0, h.lt, fun i hi => Nat.lt_of_lt_of_le (h.nlt i hi) hb.size⟩
theorem RRadP.turned {N : Nat → Prop} {cb kb tb bb n k mb l b c c' : Nat} {x : Int} {M : Nat → Nat → Nat → Int} {f f' : Lit → Option Value} {w wx wy : World} (h : RRadP N cb kb tb bb n k mb l b x M c f w wx) (hm : MapIs Tryz.prog 114 wy mb c' f') (ht : wx.mapTurned wy mb) : RRadP N cb kb tb bb n k mb l b x M c' f' w wy := by
  have hk : Keeps (fun i => i ≠ mb) wx wy := Keeps.of_turned ht (by simp)
  obtain ⟨h1, h2, h3⟩ := h.lt
  exact ⟨hk.blk (by omega) h.key, hk.blk (by omega) h.call, h.rad.grow (hk.mono (fun i _ hi e => hi (by rw [e]; exact .inl (.inl h.nmb)))) (fun i hi => ⟨Nat.lt_of_lt_of_le (h.nlt i hi) hk.size, .inl hi⟩), hm, h.et.keeps hk (fun e => h3 e.symm), h.keeps.trans (hk.mono (fun i _ hi => hi.2)), h.nmb, h.n0, h.lt, fun i hi => Nat.lt_of_lt_of_le (h.nlt i hi) hk.size⟩
theorem RRadP.start {N : Nat → Prop} {cb kb tb bb n k mb l b c : Nat} {x : Int} {M M' : Nat → Nat → Nat → Int} {f : Lit → Option Value} {w wx wy : World} (h : RnK N cb kb tb bb n k mb l b x M c f w wx) (hr : RadP (NK N cb kb) tb bb n k M' wy) (hk : Keeps (NK N cb kb) wx wy) : RRadP N cb kb tb bb n k mb l b x M' c f w wy := by
  obtain ⟨h1, h2, h3, h4, h5, h6, h7, h8, h9, h10⟩ := h
  exact ⟨hk.blk (.inr rfl) h1, hk.blk (.inl (.inr rfl)) h2, hr, hk.map (.inl (.inl h7)) h4, h5.keeps hk (.inl (.inl h8)), (h6.trans (hk.mono (fun i _ hi => .inl (.inl hi.1)))), h7, h8, h9, fun i hi => Nat.lt_of_lt_of_le (h3.N_lt i hi) hk.size⟩
/-- A run under way (RadU). -/
structure RRadU (N : Nat → Prop) (cb kb tb bb n k mb : Nat) (l b : Nat) (x : Int) (M : Nat → Nat → Nat → Int) (c : Nat) (f : Lit → Option Value) (w wx : World) : Prop where
  key : wx.heap[kb]? = some (.cells #[.int .i64 (l : Int), .int .i64 (b : Int)] 114)
  call : wx.heap[cb]? = some (.cells #[.int .i64 (l : Int), .int .i64 (b : Int), .int .i64 x] 50)
  rad : RadU (NK N cb kb) tb bb n k M wx
  map : MapIs Tryz.prog 114 wx mb c f
  et : EtAt wx
  keeps : Keeps (fun i => N i ∧ i ≠ mb) w wx
  nmb : N mb
  n0 : N 0
  lt : mb < cb ∧ cb < kb ∧ mb ≠ 0
  nlt : ∀ i, NK N cb kb i → i < wx.heap.size
theorem RRadU.below {N : Nat → Prop} {cb kb tb bb n k mb l b c : Nat} {x : Int} {M : Nat → Nat → Nat → Int} {f : Lit → Option Value} {w wx wy : World} (h : RRadU N cb kb tb bb n k mb l b x M c f w wx) (hb : Below wx.heap.size wx wy) : RRadU N cb kb tb bb n k mb l b x M c f w wy :=
  ⟨(hb.block _ (lt_of_blk h.key)).trans h.key, (hb.block _ (lt_of_blk h.call)).trans h.call, h.rad.below hb, h.map.below hb h.map.lt, h.et.below hb h.et.pos, h.keeps.trans (Keeps.of_below hb), h.nmb, h.n0, h.lt, fun i hi => Nat.lt_of_lt_of_le (h.nlt i hi) hb.size⟩
theorem RRadU.turned {N : Nat → Prop} {cb kb tb bb n k mb l b c c' : Nat} {x : Int} {M : Nat → Nat → Nat → Int} {f f' : Lit → Option Value} {w wx wy : World} (h : RRadU N cb kb tb bb n k mb l b x M c f w wx) (hm : MapIs Tryz.prog 114 wy mb c' f') (ht : wx.mapTurned wy mb) : RRadU N cb kb tb bb n k mb l b x M c' f' w wy := by
  have hk : Keeps (fun i => i ≠ mb) wx wy := Keeps.of_turned ht (by simp)
  obtain ⟨h1, h2, h3⟩ := h.lt
  exact ⟨hk.blk (by omega) h.key, hk.blk (by omega) h.call, h.rad.grow (hk.mono (fun i _ hi e => hi (by rw [e]; exact .inl (.inl h.nmb)))) (fun i hi => ⟨Nat.lt_of_lt_of_le (h.nlt i hi) hk.size, .inl hi⟩), hm, h.et.keeps hk (fun e => h3 e.symm), h.keeps.trans (hk.mono (fun i _ hi => hi.2)), h.nmb, h.n0, h.lt, fun i hi => Nat.lt_of_lt_of_le (h.nlt i hi) hk.size⟩
theorem RRadU.start {N : Nat → Prop} {cb kb tb bb n k mb l b c : Nat} {x : Int} {M M' : Nat → Nat → Nat → Int} {f : Lit → Option Value} {w wx wy : World} (h : RnK N cb kb tb bb n k mb l b x M c f w wx) (hr : RadU (NK N cb kb) tb bb n k M' wy) (hk : Keeps (NK N cb kb) wx wy) : RRadU N cb kb tb bb n k mb l b x M' c f w wy := by
  obtain ⟨h1, h2, h3, h4, h5, h6, h7, h8, h9, h10⟩ := h
  exact ⟨hk.blk (.inr rfl) h1, hk.blk (.inl (.inr rfl)) h2, hr, hk.map (.inl (.inl h7)) h4, h5.keeps hk (.inl (.inl h8)), (h6.trans (hk.mono (fun i _ hi => .inl (.inl hi.1)))), h7, h8, h9, fun i hi => Nat.lt_of_lt_of_le (h3.N_lt i hi) hk.size⟩
end Go.Proofs.YtjikpodghmfjcaaGreatDoor
set_option linter.unnecessarySimpa false
namespace Go.Proofs.YtjikpodghmfjcaaGreatDoor
open Go.RowKit Go.Maps Go.MapKept
set_option maxRecDepth 100000 in
set_option maxHeartbeats 4000000 in
theorem run_fits (N : Nat → Prop) (tb bb n k mb : Nat) (M : Nat → Nat → Nat → Int) (hn : n ≤ 195) (hk : k ≤ 9000) (l b : Nat) (hl : l < 4) (hb : b < 256) (x : Int) (hx : 0 ≤ x ∧ x < 16777216) (hroom : needN (layM M l (b / 16) (b % 16) x) ≤ n) (w : World) (h : RnI N tb bb n k mb M w) :
    Calls Tryz.prog 23 #[.pointer (some ⟨bb, 0, none⟩), .pointer (some ⟨tb, 0, none⟩), .map (some mb), .int .i64 (n : Int), .agg #[.int .i64 (l : Int), .int .i64 (b : Int), .int .i64 x]] w fun e w' => e = .returned (.bool true) ∧ RnI N tb bb n (k + 1) mb (layM M l (b / 16) (b % 16) x) w' ∧ Keeps (fun i => N i ∧ i ≠ mb) w w' := by
  have hb0 : ∀ o : Obj, Below w.heap.size w (w.alloc o) := fun o => (Below.refl _ _).alloc (Nat.le_refl _) _
  have hzz : ∀ wx : World, (zeroValue 3).run Tryz.prog wx = .ok (.int .i64 0) wx := fun _ => by kernel_rfl
  have H0 := Lib.hid h
  have HNL := Lib.hid h.1.N_lt
  have HNM := Lib.hid (And.intro h.2.1 h.2.2.1)
  have l1 : (0 : Int) ≤ l := by omega
  have l2 : (l : Int) < 4 := by omega
  have b1 : (0 : Int) ≤ b := by omega
  have b2 : (b : Int) < 256 := by omega
  have x1 : 0 ≤ x := hx.1
  have x2 : x < 16777216 := hx.2
  have HX := Lib.hid hx
  have HRO := Lib.hid hroom
  clear hx hroom
  clear h
  go_enter Tryz.func23, Tryz.ntmps23
  repeat ((fail_if_success (with_reducible refine stop_pos "law.go:60" rfl ?_)); (first | go_values | go_skip | go_guarded | go_step | go_upon))
  refine gen_world (fun wx => Hid (RnI (fun i => N i ∨ i = w.heap.size) tb bb n k mb M wx ∧ wx.heap[w.heap.size]? = some (.cells #[.int .i64 (l : Int), .int .i64 (b : Int), .int .i64 x] 50) ∧ Below w.heap.size w wx)) (Lib.hid ⟨H0.out.keep (hb0 _) (fun i hi => by
    rcases hi with hi | rfl
    · exact ⟨by have := HNL.out i hi; simp; omega, .inl hi⟩
    · exact ⟨by simp, .inr (Nat.le_refl _)⟩) (.inl H0.out.2.1) (.inl H0.out.2.2.1), heap_alloc_new w _, hb0 _⟩) ?_
  clear hb0
  intro w1 H1
  obtain ⟨z0, z1, z2⟩ := blk3 H1.out.2.1
  have hG := rad_get hn hl hb H1.out.1.1
  obtain ⟨y, hy⟩ : ∃ y, M l (b / 16) (b % 16) = y := ⟨_, rfl⟩
  rw [hy] at hG
  have HY := Lib.hid hy
  clear hy
  go_wp2_with fail
  refine hG.mono ?_
  clear hG
  rintro e w2 ⟨rfl, hb2⟩
  have H2 : Hid (RnI (fun i => N i ∨ i = w.heap.size) tb bb n k mb M w2 ∧ w2.heap[w.heap.size]? = some (.cells #[.int .i64 (l : Int), .int .i64 (b : Int), .int .i64 x] 50) ∧ Below w.heap.size w w2) := Lib.hid ⟨H1.out.1.below hb2, (hb2.block _ (lt_of_blk H1.out.2.1)).trans H1.out.2.1, H1.out.2.2.trans (hb2.mono H1.out.2.2.size)⟩
  clear hb2 H1 z0 z1 z2
  obtain ⟨z0, z1, z2⟩ := blk3 H2.out.2.1
  try dsimp only
  repeat ((fail_if_success (with_reducible refine stop_at 66 rfl ?_)); (first | (refine pair_store rfl (.tmp 14) (.tmp 65) rfl w2.heap.size l b 0 0 rfl rfl (heap_alloc_new w2 _) ?_) | go_values | go_skip | go_guarded | go_step | go_upon))
  have hbx : ∀ o : Obj, Below w2.heap.size w2 ((w2.alloc o).setRow w2.heap.size #[.int .i64 (l : Int), .int .i64 (b : Int)]) := fun o => below_setRow ((Below.refl _ _).alloc (Nat.le_refl _) _) (Nat.le_refl _) _
  have hro : ((w2.alloc (.cells #[.int .i64 0, .int .i64 0] 114)).setRow w2.heap.size #[.int .i64 (l : Int), .int .i64 (b : Int)]).heap[w2.heap.size]? = some (.cells #[.int .i64 (l : Int), .int .i64 (b : Int)] 114) := setRow_heap _ _ _ _ _ (0, 0) (heap_alloc_new w2 _)
  have hbo := hbx (.cells #[.int .i64 0, .int .i64 0] 114)
  obtain ⟨hRS, hNm, hN0, hET, c, f, hMI, hKM, hck⟩ := H2.out.1
  have hkm := hKM.get hl hb
  rw [HY.out] at hkm
  have HKM := Lib.hid hkm
  have HKF := Lib.hid hKM
  have HCK := Lib.hid hck
  obtain ⟨kb, hkb⟩ : ∃ kb, w2.heap.size = kb := ⟨_, rfl⟩
  have HKB : Hid (w.heap.size < kb) := Lib.hid (by rw [← hkb]; exact lt_of_blk H2.out.2.1)
  refine gen_world (fun wx => Hid (wx.heap[kb]? = some (.cells #[.int .i64 (l : Int), .int .i64 (b : Int)] 114) ∧ wx.heap[w.heap.size]? = some (.cells #[.int .i64 (l : Int), .int .i64 (b : Int), .int .i64 x] 50) ∧ RadS (NK N w.heap.size kb) tb bb n k M wx ∧ MapIs Tryz.prog 114 wx mb c f ∧ EtAt wx ∧ Below w.heap.size w wx)) (Lib.hid (by
    rw [← hkb]
    exact ⟨hro, (hbo.block _ (lt_of_blk H2.out.2.1)).trans H2.out.2.1, hRS.keep hbo (fun i hi => by
      rcases hi with hi | hi
      · exact ⟨Nat.lt_of_lt_of_le (hRS.N_lt i hi) hbo.size, .inl hi⟩
      · rw [hi]; exact ⟨lt_of_blk hro, .inr (Nat.le_refl _)⟩), hMI.below hbo hMI.lt, hET.below hbo hET.pos, H2.out.2.2.trans (hbo.mono H2.out.2.2.size)⟩)) ?_
  rw [hkb]
  clear hbx hro hbo hRS hNm hN0 hET hMI hKM hck hkm hkb H2 z0 z1 z2
  intro w3 H3
  try simp only [Act.put]
  obtain ⟨z0, z1, z2⟩ := blk3 H3.out.2.1
  obtain ⟨c0, c1, g0, g1⟩ := blk2 H3.out.1
  go_wp2_with (first | (at_lookup; refine wpList_look_is _ rfl _ _ 48 rfl 114 3 pair_keyed Tryz.underlying48 (.int .i64 0) (hzz _) mb c f rfl H3.out.2.2.2.1 (.agg #[.int .i64 (l : Int), .int .i64 (b : Int)]) (kk l b) rfl (pair_key _ _ (by omega) (by omega)) ?_; rw [HKM.out]) | (refine look_w _ rfl _ _ 48 rfl 114 3 pair_keyed Tryz.underlying48 (.int .i64 0) (hzz _) mb c f rfl H3.out.2.2.2.1 (.agg #[.int .i64 (l : Int), .int .i64 (b : Int)]) (kk l b) rfl (pair_key _ _ (by omega) (by omega)) ?_; rw [HKM.out]) | (refine pair_load rfl (.tmp 14) rfl kb 0 l b rfl (pair_range H3.out.1) ?_))
  have hS := rad_put hn hl hb x HX.out HRO.out H3.out.2.2.1
  refine hS.mono ?_
  clear hS
  rintro e w4 ⟨rfl, hP, hk4⟩
  have H4 : Hid (RRadP N w.heap.size kb tb bb n k mb l b x (layM M l (b / 16) (b % 16) x) c f w w4) := Lib.hid (RRadP.start ⟨H3.out.1, H3.out.2.1, H3.out.2.2.1, H3.out.2.2.2.1, H3.out.2.2.2.2.1, Keeps.of_below H3.out.2.2.2.2.2, HNM.out.1, HNM.out.2, ⟨HNL.out _ HNM.out.1, HKB.out, H3.out.2.2.2.2.1.ne_map H3.out.2.2.2.1⟩, trivial⟩ hP hk4)
  obtain ⟨hd, hhd⟩ : ∃ hd, (f (kk l b)).isSome = hd := ⟨_, rfl⟩
  have HHD := Lib.hid hhd
  clear hhd hP hk4 H3 z0 z1 z2 c0 c1 g0 g1
  obtain ⟨z0, z1, z2⟩ := blk3 H4.out.call
  obtain ⟨c0, c1, g0, g1⟩ := blk2 H4.out.key
  try dsimp only
  go_wp2_with (first | (at_lookup; refine wpList_look_ok_is _ rfl _ _ 48 rfl 114 3 pair_keyed Tryz.underlying48 (.int .i64 0) (hzz _) mb c f rfl H4.out.map (.agg #[.int .i64 (l : Int), .int .i64 (b : Int)]) (kk l b) rfl (pair_key _ _ (by omega) (by omega)) ?_; rw [HKM.out, HHD.out]) | (refine pair_load rfl (.tmp 14) rfl kb 0 l b rfl (pair_range H4.out.key) ?_) | (at_mapUpdate; refine wpList_store_cnt _ rfl _ _ _ 48 rfl 114 3 pair_keyed Tryz.underlying48 mb _ _ rfl H4.out.map ?hc (.agg #[.int .i64 (l : Int), .int .i64 (b : Int)]) (.int .i64 x) (kk l b) rfl rfl ?hk ?_))
  case hc => have := HCK.out; unfold maxLen; omega
  case hk => exact pair_key _ _ (by omega) (by omega)
  intro w5 hm5 ht5
  have H5 := Lib.hid (H4.out.turned hm5 ht5)
  clear hm5 ht5 H4 z0 z1 z2 c0 c1 g0 g1
  obtain ⟨z0, z1, z2⟩ := blk3 H5.out.call
  obtain ⟨c0, c1, g0, g1⟩ := blk2 H5.out.key
  by_cases q : x = 0
  · subst q
    go_wp2_with (first | (refine pair_load rfl (.tmp 14) rfl kb 0 l b rfl (pair_range H5.out.key) ?_) | (at_delete; refine wpList_del_is _ rfl _ _ 48 114 rfl 3 pair_keyed Tryz.underlying48 mb _ _ rfl H5.out.map (.agg #[.int .i64 (l : Int), .int .i64 (b : Int)]) (kk l b) rfl (pair_key _ _ (by omega) (by omega)) ?_))
    intro w6 hm6 ht6
    have H6 := Lib.hid (H5.out.turned hm6 ht6)
    have HK6 : Hid (cntDel (upd f (kk l b) (some (.int .i64 0)) (kk l b)).isSome (cntIf (f (kk l b)).isSome c) ≤ k + 1 ∧ KM (upd (upd f (kk l b) (some (.int .i64 0))) (kk l b) none) (layM M l (b / 16) (b % 16) 0)) := Lib.hid ⟨(by have := HCK.out; unfold cntDel cntIf; split <;> split <;> omega), HKF.out.del hl hb _⟩
    clear hm6 ht6 H5 z0 z1 z2 c0 c1 g0 g1
    obtain ⟨z0, z1, z2⟩ := blk3 H6.out.call
    obtain ⟨c0, c1, g0, g1⟩ := blk2 H6.out.key
    have hD := need_any mb _ _ _ HK6.out.2 w6 H6.out.map
    obtain ⟨nd, hnd⟩ : ∃ nd, ((needN (layM M l (b / 16) (b % 16) 0) : Nat) : Int) = nd := ⟨_, rfl⟩
    rw [hnd] at hD
    have hle : nd ≤ (n : Int) := by have := HRO.out; omega
    have hng : ¬ ((n : Int) < nd) := by omega
    clear hnd
    go_wp2_with fail
    refine hD.mono ?_
    clear hD
    rintro e w7 ⟨rfl, hb7⟩
    have H7 := Lib.hid (H6.out.below hb7)
    clear hb7
    try dsimp only
    have hC := rad_commit hn hk H7.out.rad
    go_wp2_with fail
    refine hC.mono ?_
    clear hC
    rintro e w8 ⟨rfl, hS8, hk8⟩
    have H8 : Hid (RnI N tb bb n (k + 1) mb (layM M l (b / 16) (b % 16) 0) w8 ∧ Keeps (fun i => N i ∧ i ≠ mb) w w8) := Lib.hid ⟨⟨hS8.keep (Below.refl _ _) (fun i hi => ⟨hS8.N_lt i (.inl (.inl hi)), .inl (.inl (.inl hi))⟩), H7.out.nmb, H7.out.n0, H7.out.et.keeps hk8 (.inl (.inl H7.out.n0)), _, _, hk8.map (.inl (.inl H7.out.nmb)) H7.out.map, HK6.out.2, HK6.out.1⟩, H7.out.keeps.trans (hk8.mono (fun i _ hi => .inl (.inl hi.1)))⟩
    clear hS8 hk8
    try dsimp only
    go_wp2_with fail
    go_ret
    exact ⟨rfl, H8.out.1, H8.out.2⟩
  · have q0 : (x == 0) = false := by rw [beq_eq_false_iff_ne]; exact q
    have H6 := H5
    have HK6 : Hid (cntIf (f (kk l b)).isSome c ≤ k + 1 ∧ KM (upd f (kk l b) (some (.int .i64 x))) (layM M l (b / 16) (b % 16) x)) := Lib.hid ⟨(by have := HCK.out; unfold cntIf; split <;> omega), HKF.out.put hl hb x q⟩
    have hD := need_any mb _ _ _ HK6.out.2 w5 H6.out.map
    obtain ⟨nd, hnd⟩ : ∃ nd, ((needN (layM M l (b / 16) (b % 16) x) : Nat) : Int) = nd := ⟨_, rfl⟩
    rw [hnd] at hD
    have hle : nd ≤ (n : Int) := by have := HRO.out; omega
    have hng : ¬ ((n : Int) < nd) := by omega
    clear hnd
    go_wp2_with fail
    refine hD.mono ?_
    clear hD
    rintro e w7 ⟨rfl, hb7⟩
    have H7 := Lib.hid (H6.out.below hb7)
    clear hb7
    try dsimp only
    have hC := rad_commit hn hk H7.out.rad
    go_wp2_with fail
    refine hC.mono ?_
    clear hC
    rintro e w8 ⟨rfl, hS8, hk8⟩
    have H8 : Hid (RnI N tb bb n (k + 1) mb (layM M l (b / 16) (b % 16) x) w8 ∧ Keeps (fun i => N i ∧ i ≠ mb) w w8) := Lib.hid ⟨⟨hS8.keep (Below.refl _ _) (fun i hi => ⟨hS8.N_lt i (.inl (.inl hi)), .inl (.inl (.inl hi))⟩), H7.out.nmb, H7.out.n0, H7.out.et.keeps hk8 (.inl (.inl H7.out.n0)), _, _, hk8.map (.inl (.inl H7.out.nmb)) H7.out.map, HK6.out.2, HK6.out.1⟩, H7.out.keeps.trans (hk8.mono (fun i _ hi => .inl (.inl hi.1)))⟩
    clear hS8 hk8
    try dsimp only
    go_wp2_with fail
    go_ret
    exact ⟨rfl, H8.out.1, H8.out.2⟩
end Go.Proofs.YtjikpodghmfjcaaGreatDoor
set_option linter.unnecessarySimpa false
namespace Go.Proofs.YtjikpodghmfjcaaGreatDoor
open Go.RowKit Go.Maps Go.MapKept
/-- Block i is an error's. -/
def WoeB (w : World) (i : Nat) : Prop := ∃ cs, w.heap[i]? = some (.cells cs 156)
theorem WoeB.lt {w : World} {i : Nat} (h : WoeB w i) : i < w.heap.size := by
  obtain ⟨cs, h⟩ := h
  exact lt_of_blk h
theorem WoeB.not {w : World} {i T : Nat} {cs : Array Value} (h : w.heap[i]? = some (.cells cs T)) (hT : T ≠ 156) : ¬ WoeB w i := by
  rintro ⟨cs', e⟩
  rw [h] at e
  simp only [Option.some.injEq, Obj.cells.injEq] at e
  exact hT e.2.1
theorem WoeB.not_map {P : Program} {w : World} {k b c : Nat} {f : Lit → Option Value} (h : MapIs P k w b c f) : ¬ WoeB w b := by
  rintro ⟨cs', e⟩
  obtain ⟨D, ⟨es, clock, hb, _⟩, _⟩ := h
  rw [hb] at e
  simp at e
theorem WoeB.not_row {w : World} {base e s n : Nat} {v : Value} {xs : List Value} (h : w.ownsRow base e s v n xs) (he : e ≠ 156) (k : Nat) (hk : v.ownBlock = some k) : ¬ WoeB w k := by
  rcases h.2 with ⟨rfl, _⟩ | ⟨g, cap, cur, rfl, _, hg, _⟩
  · simp [Value.ownBlock] at hk
  · simp [Value.ownBlock] at hk
    subst hk
    exact WoeB.not hg he
theorem DiskI.wide {w : World} {db : Nat} {N : Nat → Prop} {d : DiskS} (h : DiskI w db N d) : DiskI w db (fun i => N i ∨ WoeB w i) d := by
  obtain ⟨fb, cv, lb, c, h1, h2, h3, h4, h5, n1, n2, n3, n4, n5, h6⟩ := h
  exact ⟨fb, cv, lb, c, h1, h2, h3, h4, h5, fun q => q.elim n1 (WoeB.not h1 (by decide)), fun q => q.elim n2 (WoeB.not h2 (by decide)), fun q => q.elim n3 (WoeB.not_map h4), fun k hk q => q.elim (n4 k hk) (WoeB.not_row h3 (by decide) k hk), fun i hi => hi.elim (n5 i) WoeB.lt, h6⟩
theorem BookI.wide {w : World} {bb : Nat} {N : Nat → Prop} {B : BookS} (h : BookI w bb N B) : BookI w bb (fun i => N i ∨ WoeB w i) B := by
  obtain ⟨db, rb, nb, ov, hX⟩ := h
  have ho : ∀ k, ovB ov k → ¬ WoeB w k := fun k hk => by
    have h1 := hX.opn
    unfold ovB at hk
    subst hk
    cases hq : B.opn with
    | none => rw [hq] at h1; simp [OpenI] at h1
    | some f =>
      rw [hq] at h1
      obtain ⟨ob, e, hm⟩ := h1
      simp at e
      subst e
      exact WoeB.not_map hm
  have hd := hX.disk.wide
  refine ⟨db, rb, nb, ov, hX.cells, hX.ring, hd.keep (Below.refl _ _) (fun i hi => ⟨?_, .inl ?_⟩), hX.news, hX.opn, hX.ne, ⟨fun q => q.elim hX.nots.1 (WoeB.not hX.cells (by decide)), fun q => q.elim hX.nots.2.1 (WoeB.not hX.ring (by decide)), fun q => q.elim hX.nots.2.2.1 (WoeB.not_map hX.news), fun k hk q => q.elim (hX.nots.2.2.2 k hk) (ho k hk)⟩, hX.ok⟩
  · refine hd.N_lt i ?_
    rcases hi with (hi | hi) | hi
    · exact .inl (.inl hi)
    · exact .inr hi
    · exact .inl (.inr hi)
  · rcases hi with (hi | hi) | hi
    · exact .inl (.inl hi)
    · exact .inr hi
    · exact .inl (.inr hi)
theorem HolI.wide {T : Nat} (hT : T ≠ 156) {w : World} {tb bb first n : Nat} {N : Nat → Prop} {B : BookS} (h : HolI T w tb N bb first n B) : HolI T w tb (fun i => N i ∨ WoeB w i) bb first n B := by
  obtain ⟨h1, h2, h3⟩ := h
  have hl : ∀ i, N i → i < w.heap.size := fun i hi => h2.N_lt i (.inl hi)
  refine ⟨h1, h2.wide.keep (Below.refl _ _) (fun i hi => ⟨?_, .inl ?_⟩), fun q => q.elim h3 (WoeB.not h1 hT)⟩
  · rcases hi with (hi | hi) | hi
    · exact hl i hi
    · exact hi.lt
    · rw [hi]; exact lt_of_blk h1
  · rcases hi with (hi | hi) | hi
    · exact .inl (.inl hi)
    · exact .inr hi
    · exact .inl (.inr hi)
theorem RadU.wide {N : Nat → Prop} {tb bb n k : Nat} {M : Nat → Nat → Nat → Int} {wx : World} (h : RadU N tb bb n k M wx) : RadU (fun i => N i ∨ WoeB wx i) tb bb n k M wx := by
  obtain ⟨B, B0, r1, r2, h1, h2⟩ := h
  exact ⟨B, B0, r1, r2, h1.wide (by decide), h2⟩
/-- An error stays where its blocks stay. -/
theorem ErrAt.stays {w w' : World} (hk : Keeps (WoeB w) w w') : ∀ {k : Nat} {v : Value} {n : Int}, ErrAt w k v n → ErrAt w' k v n
  | 0, _, _, h => h
  | k + 1, _, _, ⟨b, s, e, h1, h2, h3⟩ => ⟨b, s, e, h1, hk.blk ⟨_, h2⟩ h2, ErrAt.stays hk h3⟩
theorem ErrV.stays {w w' : World} (hk : Keeps (WoeB w) w w') {v : Value} {n : Int} (h : ErrV w v n) : ErrV w' v n := by
  obtain ⟨k, h⟩ := h
  exact ⟨k, h.stays hk⟩
end Go.Proofs.YtjikpodghmfjcaaGreatDoor
set_option linter.unnecessarySimpa false
namespace Go.Proofs.YtjikpodghmfjcaaGreatDoor
open Go.RowKit Go.Maps Go.MapKept
/-- A run under way (RadS). -/
structure RRadS (N : Nat → Prop) (cb kb tb bb n k mb : Nat) (l b : Nat) (x : Int) (M : Nat → Nat → Nat → Int) (c : Nat) (f : Lit → Option Value) (w wx : World) : Prop where
  key : wx.heap[kb]? = some (.cells #[.int .i64 (l : Int), .int .i64 (b : Int)] 114)
  call : wx.heap[cb]? = some (.cells #[.int .i64 (l : Int), .int .i64 (b : Int), .int .i64 x] 50)
  rad : RadS (NK N cb kb) tb bb n k M wx
  map : MapIs Tryz.prog 114 wx mb c f
  et : EtAt wx
  keeps : Keeps (fun i => N i ∧ i ≠ mb) w wx
  nmb : N mb
  n0 : N 0
  lt : mb < cb ∧ cb < kb ∧ mb ≠ 0
  nlt : ∀ i, NK N cb kb i → i < wx.heap.size
theorem RRadS.below {N : Nat → Prop} {cb kb tb bb n k mb l b c : Nat} {x : Int} {M : Nat → Nat → Nat → Int} {f : Lit → Option Value} {w wx wy : World} (h : RRadS N cb kb tb bb n k mb l b x M c f w wx) (hb : Below wx.heap.size wx wy) : RRadS N cb kb tb bb n k mb l b x M c f w wy :=
  ⟨(hb.block _ (lt_of_blk h.key)).trans h.key, (hb.block _ (lt_of_blk h.call)).trans h.call, h.rad.below hb, h.map.below hb h.map.lt, h.et.below hb h.et.pos, h.keeps.trans (Keeps.of_below hb), h.nmb, h.n0, h.lt, fun i hi => Nat.lt_of_lt_of_le (h.nlt i hi) hb.size⟩
theorem RRadS.turned {N : Nat → Prop} {cb kb tb bb n k mb l b c c' : Nat} {x : Int} {M : Nat → Nat → Nat → Int} {f f' : Lit → Option Value} {w wx wy : World} (h : RRadS N cb kb tb bb n k mb l b x M c f w wx) (hm : MapIs Tryz.prog 114 wy mb c' f') (ht : wx.mapTurned wy mb) : RRadS N cb kb tb bb n k mb l b x M c' f' w wy := by
  have hk : Keeps (fun i => i ≠ mb) wx wy := Keeps.of_turned ht (by simp)
  obtain ⟨h1, h2, h3⟩ := h.lt
  exact ⟨hk.blk (by omega) h.key, hk.blk (by omega) h.call, h.rad.grow (hk.mono (fun i _ hi e => hi (by rw [e]; exact .inl (.inl h.nmb)))) (fun i hi => ⟨Nat.lt_of_lt_of_le (h.nlt i hi) hk.size, .inl hi⟩), hm, h.et.keeps hk (fun e => h3 e.symm), h.keeps.trans (hk.mono (fun i _ hi => hi.2)), h.nmb, h.n0, h.lt, fun i hi => Nat.lt_of_lt_of_le (h.nlt i hi) hk.size⟩
theorem RRadS.start {N : Nat → Prop} {cb kb tb bb n k mb l b c : Nat} {x : Int} {M M' : Nat → Nat → Nat → Int} {f : Lit → Option Value} {w wx wy : World} (h : RnK N cb kb tb bb n k mb l b x M c f w wx) (hr : RadS (NK N cb kb) tb bb n k M' wy) (hk : Keeps (NK N cb kb) wx wy) : RRadS N cb kb tb bb n k mb l b x M' c f w wy := by
  obtain ⟨h1, h2, h3, h4, h5, h6, h7, h8, h9, h10⟩ := h
  exact ⟨hk.blk (.inr rfl) h1, hk.blk (.inl (.inr rfl)) h2, hr, hk.map (.inl (.inl h7)) h4, h5.keeps hk (.inl (.inl h8)), (h6.trans (hk.mono (fun i _ hi => .inl (.inl hi.1)))), h7, h8, h9, fun i hi => Nat.lt_of_lt_of_le (h3.N_lt i hi) hk.size⟩
theorem RRadS.ofU {N : Nat → Prop} {cb kb tb bb n k mb l b c : Nat} {x : Int} {M : Nat → Nat → Nat → Int} {f : Lit → Option Value} {w wx wy : World} (h : RRadU N cb kb tb bb n k mb l b x M c f w wx) (hr : RadS (fun i => NK N cb kb i ∨ WoeB wx i) tb bb n k M wy) (hk : Keeps (fun i => NK N cb kb i ∨ WoeB wx i) wx wy) : RRadS N cb kb tb bb n k mb l b x M c f w wy := by
  obtain ⟨h1, h2, h3, h4, h5, h6, h7, h8, h9, h10⟩ := h
  exact ⟨hk.blk (.inl (.inr rfl)) h1, hk.blk (.inl (.inl (.inr rfl))) h2, hr.keep (Below.refl _ _) (fun i hi => ⟨hr.N_lt i (.inl hi), .inl (.inl hi)⟩), hk.map (.inl (.inl (.inl h7))) h4, h5.keeps hk (.inl (.inl (.inl h8))), h6.trans (hk.mono (fun i _ hi => .inl (.inl (.inl hi.1)))), h7, h8, h9, fun i hi => Nat.lt_of_lt_of_le (h10 i hi) hk.size⟩
theorem ErrV.turned {w w' : World} {P : Program} {kt mb c : Nat} {f : Lit → Option Value} {v : Value} {n : Int} (h : ErrV w v n) (hm : MapIs P kt w mb c f) (ht : w.mapTurned w' mb) : ErrV w' v n :=
  h.stays ((Keeps.of_turned (N := fun i => i ≠ mb) ht (by simp)).mono (fun i _ hi e => by subst e; exact WoeB.not_map hm hi))
set_option maxRecDepth 100000 in
set_option maxHeartbeats 4000000 in
theorem run_full (N : Nat → Prop) (tb bb n k mb : Nat) (M : Nat → Nat → Nat → Int) (hn : n ≤ 195) (hk : k ≤ 9000) (l b : Nat) (hl : l < 4) (hb : b < 256) (x : Int) (hx : 1 ≤ x ∧ x < 16777216) (hroom : n < needN (layM M l (b / 16) (b % 16) x)) (w : World) (h : RnI N tb bb n k mb M w) :
    Calls Tryz.prog 23 #[.pointer (some ⟨bb, 0, none⟩), .pointer (some ⟨tb, 0, none⟩), .map (some mb), .int .i64 (n : Int), .agg #[.int .i64 (l : Int), .int .i64 (b : Int), .int .i64 x]] w fun e w' => e = .returned (.bool true) ∧ RnI N tb bb n k mb M w' ∧ Keeps (fun i => N i ∧ i ≠ mb) w w' := by
  have hb0 : ∀ o : Obj, Below w.heap.size w (w.alloc o) := fun o => (Below.refl _ _).alloc (Nat.le_refl _) _
  have hzz : ∀ wx : World, (zeroValue 3).run Tryz.prog wx = .ok (.int .i64 0) wx := fun _ => by kernel_rfl
  have H0 := Lib.hid h
  have HNL := Lib.hid h.1.N_lt
  have HNM := Lib.hid (And.intro h.2.1 h.2.2.1)
  have l1 : (0 : Int) ≤ l := by omega
  have l2 : (l : Int) < 4 := by omega
  have b1 : (0 : Int) ≤ b := by omega
  have b2 : (b : Int) < 256 := by omega
  have x1 : 0 ≤ x := by omega
  have x2 : x < 16777216 := hx.2
  have q : x ≠ 0 := by omega
  have q0 : (x == 0) = false := by rw [beq_eq_false_iff_ne]; exact q
  have HX := Lib.hid hx
  have HRO := Lib.hid hroom
  clear hx hroom
  clear h
  go_enter Tryz.func23, Tryz.ntmps23
  repeat ((fail_if_success (with_reducible refine stop_pos "law.go:60" rfl ?_)); (first | go_values | go_skip | go_guarded | go_step | go_upon))
  refine gen_world (fun wx => Hid (RnI (fun i => N i ∨ i = w.heap.size) tb bb n k mb M wx ∧ wx.heap[w.heap.size]? = some (.cells #[.int .i64 (l : Int), .int .i64 (b : Int), .int .i64 x] 50) ∧ Below w.heap.size w wx)) (Lib.hid ⟨H0.out.keep (hb0 _) (fun i hi => by
    rcases hi with hi | rfl
    · exact ⟨by have := HNL.out i hi; simp; omega, .inl hi⟩
    · exact ⟨by simp, .inr (Nat.le_refl _)⟩) (.inl H0.out.2.1) (.inl H0.out.2.2.1), heap_alloc_new w _, hb0 _⟩) ?_
  clear hb0
  intro w1 H1
  obtain ⟨z0, z1, z2⟩ := blk3 H1.out.2.1
  have hG := rad_get hn hl hb H1.out.1.1
  obtain ⟨y, hy⟩ : ∃ y, M l (b / 16) (b % 16) = y := ⟨_, rfl⟩
  rw [hy] at hG
  have HY := Lib.hid hy
  clear hy
  go_wp2_with fail
  refine hG.mono ?_
  clear hG
  rintro e w2 ⟨rfl, hb2⟩
  have H2 : Hid (RnI (fun i => N i ∨ i = w.heap.size) tb bb n k mb M w2 ∧ w2.heap[w.heap.size]? = some (.cells #[.int .i64 (l : Int), .int .i64 (b : Int), .int .i64 x] 50) ∧ Below w.heap.size w w2) := Lib.hid ⟨H1.out.1.below hb2, (hb2.block _ (lt_of_blk H1.out.2.1)).trans H1.out.2.1, H1.out.2.2.trans (hb2.mono H1.out.2.2.size)⟩
  clear hb2 H1 z0 z1 z2
  obtain ⟨z0, z1, z2⟩ := blk3 H2.out.2.1
  try dsimp only
  repeat ((fail_if_success (with_reducible refine stop_at 66 rfl ?_)); (first | (refine pair_store rfl (.tmp 14) (.tmp 65) rfl w2.heap.size l b 0 0 rfl rfl (heap_alloc_new w2 _) ?_) | go_values | go_skip | go_guarded | go_step | go_upon))
  have hbx : ∀ o : Obj, Below w2.heap.size w2 ((w2.alloc o).setRow w2.heap.size #[.int .i64 (l : Int), .int .i64 (b : Int)]) := fun o => below_setRow ((Below.refl _ _).alloc (Nat.le_refl _) _) (Nat.le_refl _) _
  have hro : ((w2.alloc (.cells #[.int .i64 0, .int .i64 0] 114)).setRow w2.heap.size #[.int .i64 (l : Int), .int .i64 (b : Int)]).heap[w2.heap.size]? = some (.cells #[.int .i64 (l : Int), .int .i64 (b : Int)] 114) := setRow_heap _ _ _ _ _ (0, 0) (heap_alloc_new w2 _)
  have hbo := hbx (.cells #[.int .i64 0, .int .i64 0] 114)
  obtain ⟨hRS, hNm, hN0, hET, c, f, hMI, hKM, hck⟩ := H2.out.1
  have hkm := hKM.get hl hb
  rw [HY.out] at hkm
  have HKM := Lib.hid hkm
  have HKF := Lib.hid hKM
  have HCK := Lib.hid hck
  obtain ⟨kb, hkb⟩ : ∃ kb, w2.heap.size = kb := ⟨_, rfl⟩
  have HKB : Hid (w.heap.size < kb) := Lib.hid (by rw [← hkb]; exact lt_of_blk H2.out.2.1)
  refine gen_world (fun wx => Hid (wx.heap[kb]? = some (.cells #[.int .i64 (l : Int), .int .i64 (b : Int)] 114) ∧ wx.heap[w.heap.size]? = some (.cells #[.int .i64 (l : Int), .int .i64 (b : Int), .int .i64 x] 50) ∧ RadS (NK N w.heap.size kb) tb bb n k M wx ∧ MapIs Tryz.prog 114 wx mb c f ∧ EtAt wx ∧ Below w.heap.size w wx)) (Lib.hid (by
    rw [← hkb]
    exact ⟨hro, (hbo.block _ (lt_of_blk H2.out.2.1)).trans H2.out.2.1, hRS.keep hbo (fun i hi => by
      rcases hi with hi | hi
      · exact ⟨Nat.lt_of_lt_of_le (hRS.N_lt i hi) hbo.size, .inl hi⟩
      · rw [hi]; exact ⟨lt_of_blk hro, .inr (Nat.le_refl _)⟩), hMI.below hbo hMI.lt, hET.below hbo hET.pos, H2.out.2.2.trans (hbo.mono H2.out.2.2.size)⟩)) ?_
  rw [hkb]
  clear hbx hro hbo hRS hNm hN0 hET hMI hKM hck hkm hkb H2 z0 z1 z2
  intro w3 H3
  try simp only [Act.put]
  obtain ⟨z0, z1, z2⟩ := blk3 H3.out.2.1
  obtain ⟨c0, c1, g0, g1⟩ := blk2 H3.out.1
  go_wp2_with (first | (at_lookup; refine wpList_look_is _ rfl _ _ 48 rfl 114 3 pair_keyed Tryz.underlying48 (.int .i64 0) (hzz _) mb c f rfl H3.out.2.2.2.1 (.agg #[.int .i64 (l : Int), .int .i64 (b : Int)]) (kk l b) rfl (pair_key _ _ (by omega) (by omega)) ?_; rw [HKM.out]) | (refine look_w _ rfl _ _ 48 rfl 114 3 pair_keyed Tryz.underlying48 (.int .i64 0) (hzz _) mb c f rfl H3.out.2.2.2.1 (.agg #[.int .i64 (l : Int), .int .i64 (b : Int)]) (kk l b) rfl (pair_key _ _ (by omega) (by omega)) ?_; rw [HKM.out]) | (refine pair_load rfl (.tmp 14) rfl kb 0 l b rfl (pair_range H3.out.1) ?_))
  have hS := rad_full hn hl hb x HX.out (by have := HRO.out; rw [needN_lay M hl (by omega) (by omega) x q] at this; exact this) H3.out.2.2.1
  refine hS.mono ?_
  clear hS
  rintro e w4 ⟨⟨v, rfl, he4⟩, hP, hk4⟩
  have H4 : Hid (RRadU N w.heap.size kb tb bb n k mb l b x M c f w w4) := Lib.hid (RRadU.start ⟨H3.out.1, H3.out.2.1, H3.out.2.2.1, H3.out.2.2.2.1, H3.out.2.2.2.2.1, Keeps.of_below H3.out.2.2.2.2.2, HNM.out.1, HNM.out.2, ⟨HNL.out _ HNM.out.1, HKB.out, H3.out.2.2.2.2.1.ne_map H3.out.2.2.2.1⟩, trivial⟩ hP hk4)
  have HE4 := Lib.hid he4
  obtain ⟨hd, hhd⟩ : ∃ hd, (f (kk l b)).isSome = hd := ⟨_, rfl⟩
  have HHD := Lib.hid hhd
  clear hhd hP hk4 H3 z0 z1 z2 c0 c1 g0 g1 he4
  obtain ⟨z0, z1, z2⟩ := blk3 H4.out.call
  obtain ⟨c0, c1, g0, g1⟩ := blk2 H4.out.key
  try dsimp only
  go_wp2_with (first | (at_lookup; refine wpList_look_ok_is _ rfl _ _ 48 rfl 114 3 pair_keyed Tryz.underlying48 (.int .i64 0) (hzz _) mb c f rfl H4.out.map (.agg #[.int .i64 (l : Int), .int .i64 (b : Int)]) (kk l b) rfl (pair_key _ _ (by omega) (by omega)) ?_; rw [HKM.out, HHD.out]) | (refine pair_load rfl (.tmp 14) rfl kb 0 l b rfl (pair_range H4.out.key) ?_) | (at_mapUpdate; refine wpList_store_cnt _ rfl _ _ _ 48 rfl 114 3 pair_keyed Tryz.underlying48 mb _ _ rfl H4.out.map ?hc (.agg #[.int .i64 (l : Int), .int .i64 (b : Int)]) (.int .i64 x) (kk l b) rfl rfl ?hk ?_))
  case hc => have := HCK.out; unfold maxLen; omega
  case hk => exact pair_key _ _ (by omega) (by omega)
  intro w5 hm5 ht5
  have H5 := Lib.hid (H4.out.turned hm5 ht5)
  have HE5 := Lib.hid (HE4.out.turned H4.out.map ht5)
  clear hm5 ht5 H4 HE4 z0 z1 z2 c0 c1 g0 g1
  obtain ⟨z0, z1, z2⟩ := blk3 H5.out.call
  obtain ⟨c0, c1, g0, g1⟩ := blk2 H5.out.key
  have hD := need_any mb _ _ _ (HKF.out.put hl hb x q) w5 H5.out.map
  obtain ⟨nd, hnd⟩ : ∃ nd, ((needN (layM M l (b / 16) (b % 16) x) : Nat) : Int) = nd := ⟨_, rfl⟩
  rw [hnd] at hD
  have hng : (n : Int) < nd := by have := HRO.out; omega
  clear hnd
  go_wp2_with fail
  refine hD.mono ?_
  clear hD
  rintro e w6 ⟨rfl, hb6⟩
  have H6 := Lib.hid (H5.out.below hb6)
  have HE6 := Lib.hid (HE5.out.below hb6)
  clear hb6 H5 HE5 z0 z1 z2 c0 c1 g0 g1
  try dsimp only
  have hU := rad_undo hn H6.out.rad.wide
  go_wp2_with fail
  refine hU.mono ?_
  clear hU
  rintro e w7 ⟨rfl, hS7, hk7⟩
  have H7 := Lib.hid (RRadS.ofU H6.out hS7 hk7)
  have HE7 := Lib.hid (HE6.out.stays (hk7.mono (fun i _ hi => .inr hi)))
  clear hS7 hk7 H6 HE6 hng
  obtain ⟨z0, z1, z2⟩ := blk3 H7.out.call
  obtain ⟨c0, c1, g0, g1⟩ := blk2 H7.out.key
  try dsimp only
  go_wp2_with (first | (refine pair_load rfl (.tmp 14) rfl kb 0 l b rfl (pair_range H7.out.key) ?_) | (at_mapUpdate; refine wpList_store_cnt _ rfl _ _ _ 48 rfl 114 3 pair_keyed Tryz.underlying48 mb _ _ rfl H7.out.map ?hc (.agg #[.int .i64 (l : Int), .int .i64 (b : Int)]) (.int .i64 y) (kk l b) rfl rfl ?hk ?_))
  case hc => have := HCK.out; unfold maxLen cntIf; split <;> omega
  case hk => exact pair_key _ _ (by omega) (by omega)
  intro w8 hm8 ht8
  have H8 := Lib.hid (H7.out.turned hm8 ht8)
  have HE8 := Lib.hid (HE7.out.turned H7.out.map ht8)
  clear hm8 ht8 H7 HE7 z0 z1 z2 c0 c1 g0 g1
  obtain ⟨z0, z1, z2⟩ := blk3 H8.out.call
  obtain ⟨c0, c1, g0, g1⟩ := blk2 H8.out.key
  have hat := HKF.out.at_ l b hl hb
  cases hd with
  | true =>
    have hM : M l (b / 16) (b % 16) ≠ 0 := fun e => by
      have := HHD.out
      rw [hat, if_neg (by simp [e])] at this
      cases this
    have HK := Lib.hid ((HKF.out.back hl hb x q none).1 hM)
    rw [HY.out] at HK
    clear hat hM
    have hN := num09_err v 22 w8 HE8.out H8.out.et
    go_wp2_with fail
    refine hN.mono ?_
    clear hN
    rintro e w9 ⟨rfl, hb9⟩
    have H9 := Lib.hid (H8.out.below hb9)
    clear hb9
    try dsimp only
    go_wp2_with fail
    go_ret
    exact ⟨rfl, ⟨H9.out.rad.keep (Below.refl _ _) (fun i hi => ⟨H9.out.nlt i (.inl (.inl hi)), .inl (.inl (.inl hi))⟩), H9.out.nmb, H9.out.n0, H9.out.et, _, _, H9.out.map, HK.out, by have := HCK.out; rw [upd_same, HHD.out]; simpa [cntIf] using this⟩, H9.out.keeps⟩
  | false =>
    have hM : M l (b / 16) (b % 16) = 0 := Classical.byContradiction fun e => by
      have := HHD.out
      rw [hat, if_pos e] at this
      cases this
    have HK := Lib.hid ((HKF.out.back hl hb x q (some (.int .i64 y))).2 hM)
    clear hat hM
    go_wp2_with (first | (refine pair_load rfl (.tmp 14) rfl kb 0 l b rfl (pair_range H8.out.key) ?_) | (at_delete; refine wpList_del_is _ rfl _ _ 48 114 rfl 3 pair_keyed Tryz.underlying48 mb _ _ rfl H8.out.map (.agg #[.int .i64 (l : Int), .int .i64 (b : Int)]) (kk l b) rfl (pair_key _ _ (by omega) (by omega)) ?_))
    intro w9 hm9 ht9
    have H9 := Lib.hid (H8.out.turned hm9 ht9)
    have HE9 := Lib.hid (HE8.out.turned H8.out.map ht9)
    clear hm9 ht9 H8 HE8 z0 z1 z2 c0 c1 g0 g1
    have hN := num09_err v 22 w9 HE9.out H9.out.et
    go_wp2_with fail
    refine hN.mono ?_
    clear hN
    rintro e w10 ⟨rfl, hb10⟩
    have H10 := Lib.hid (H9.out.below hb10)
    clear hb10
    try dsimp only
    go_wp2_with fail
    go_ret
    exact ⟨rfl, ⟨H10.out.rad.keep (Below.refl _ _) (fun i hi => ⟨H10.out.nlt i (.inl (.inl hi)), .inl (.inl (.inl hi))⟩), H10.out.nmb, H10.out.n0, H10.out.et, _, _, H10.out.map, HK.out, by have := HCK.out; rw [upd_same, upd_same, HHD.out]; simpa [cntIf, cntDel] using this⟩, H10.out.keeps⟩
end Go.Proofs.YtjikpodghmfjcaaGreatDoor
set_option linter.unnecessarySimpa false
namespace Go.Proofs.YtjikpodghmfjcaaGreatDoor
open Go.RowKit Go.Maps Go.MapKept
theorem has2_lay0 (M : Nat → Nat → Nat → Int) (l g b l' g' : Nat) (h : has2 (layM M l g b 0) l' g' = true) : has2 M l' g' = true := by
  obtain ⟨b', hb', h⟩ := (has2_iff _ _ _).1 h
  refine (has2_iff _ _ _).2 ⟨b', hb', fun e => h ?_⟩
  unfold layM
  split
  · rfl
  · exact e
theorem has1_lay0 (M : Nat → Nat → Nat → Int) (l g b l' : Nat) (h : has1 (layM M l g b 0) l' = true) : has1 M l' = true := by
  obtain ⟨g', hg', b', hb', h⟩ := (has1_iff _ _).1 h
  refine (has1_iff _ _).2 ⟨g', hg', b', hb', fun e => h ?_⟩
  unfold layM
  split
  · rfl
  · exact e
theorem needN_lay0 (M : Nat → Nat → Nat → Int) (l g b : Nat) : needN (layM M l g b 0) ≤ needN M := by
  have hm : ∀ (p q : Nat → Bool) (n : Nat), (∀ i, p i = true → q i = true) → ((List.range n).filter p).length ≤ ((List.range n).filter q).length := fun p q n h => by
    rw [← List.countP_eq_length_filter, ← List.countP_eq_length_filter]
    exact List.countP_mono_left (fun i _ hi => h i hi)
  unfold needN cnt1 cnt2
  exact Nat.add_le_add (hm _ _ _ (fun i hi => has1_lay0 M l g b i hi)) (hm _ _ _ (fun i hi => has2_lay0 M l g b _ _ hi))
theorem run_any (N : Nat → Prop) (tb bb n k mb : Nat) (M : Nat → Nat → Nat → Int) (hn : n ≤ 195) (hk : k ≤ 9000) (lun blk x : Int) (w : World) (h : RnI N tb bb n k mb M w) :
    Calls Tryz.prog 23 #[.pointer (some ⟨bb, 0, none⟩), .pointer (some ⟨tb, 0, none⟩), .map (some mb), .int .i64 (n : Int), .agg #[.int .i64 lun, .int .i64 blk, .int .i64 x]] w fun e w' => e = .returned (.bool true) ∧ (∃ k', k' ≤ k + 1 ∧ RnI N tb bb n k' mb (runM n M lun blk x) w') ∧ Keeps (fun i => N i ∧ i ≠ mb) w w' := by
  unfold runM
  by_cases hp : (0 ≤ lun ∧ lun < 4) ∧ (0 ≤ blk ∧ blk < 256)
  case neg =>
    rw [if_neg (fun q => hp q.1)]
    refine (run_bad N tb bb n k mb M hn lun blk x hp w h).mono ?_
    rintro e w' ⟨rfl, hb⟩
    exact ⟨rfl, ⟨k, by omega, h.below hb⟩, Keeps.of_below hb⟩
  case pos =>
    obtain ⟨⟨p1, p2⟩, p3, p4⟩ := id hp
    obtain ⟨l, rfl⟩ := Int.eq_ofNat_of_zero_le p1
    obtain ⟨b, rfl⟩ := Int.eq_ofNat_of_zero_le p3
    have hl : l < 4 := by omega
    have hb : b < 256 := by omega
    by_cases hx : 0 ≤ x ∧ x < 16777216
    case neg =>
      rw [if_neg (fun q => hx q.2.1)]
      refine (run_badx N tb bb n k mb M hn l b hl hb x (by omega) w h).mono ?_
      rintro e w' ⟨rfl, hb⟩
      exact ⟨rfl, ⟨k, by omega, h.below hb⟩, Keeps.of_below hb⟩
    case pos =>
      by_cases hr : needN (layM M l (b / 16) (b % 16) x) ≤ n
      · rw [if_pos ⟨hp, hx, by simpa using hr⟩]
        refine (run_fits N tb bb n k mb M hn hk l b hl hb x hx hr w h).mono ?_
        rintro e w' ⟨rfl, h1, h2⟩
        exact ⟨rfl, ⟨k + 1, by omega, by simpa using h1⟩, h2⟩
      · rw [if_neg (fun q => hr (by simpa using q.2.2))]
        have hx1 : 1 ≤ x := by
          rcases Int.lt_or_le 0 x with q | q
          · omega
          · have : x = 0 := by omega
            subst this
            have h1 := needN_lay0 M l (b / 16) (b % 16)
            have h2 := h.1.need_le
            omega
        refine (run_full N tb bb n k mb M hn hk l b hl hb x ⟨hx1, hx.2⟩ (by omega) w h).mono ?_
        rintro e w' ⟨rfl, h1, h2⟩
        exact ⟨rfl, ⟨k, by omega, h1⟩, h2⟩
end Go.Proofs.YtjikpodghmfjcaaGreatDoor
set_option linter.unnecessarySimpa false
namespace Go.Proofs.YtjikpodghmfjcaaGreatDoor
open Go.RowKit Go.Maps Go.MapKept
theorem info_call : (Tryz.prog.info? 50).map (·.size) = some 3 := by kernel_rfl
/-- Calls in memory: L i, B i, X i. -/
def CallsAt (w : World) (a : Option Addr) (len : Nat) (L B X : Nat → Int) : Prop := ∀ i, i < len → ∃ b off, a = some ⟨b, off, none⟩ ∧ b < w.heap.size ∧ w.rangeAt b (off + i * 3) [.int .i64 (L i), .int .i64 (B i), .int .i64 (X i)]
theorem CallsAt.keeps {w w' : World} {a : Option Addr} {len : Nat} {L B X : Nat → Int} (h : CallsAt w a len L B X) (hk : Keeps (fun k => k < w.heap.size) w w') : CallsAt w' a len L B X := fun i hi => by
  obtain ⟨b, off, ha, hb, hc⟩ := h i hi
  refine ⟨b, off, ha, Nat.lt_of_lt_of_le hb hk.size, fun j v hv => ?_⟩
  have := hc j v hv
  unfold World.cell? at this ⊢
  rw [hk.block b hb hb]
  exact this
theorem call_load {ops : Array Oper} {rest : List Oper} {o : Oper} {a : Act} {w : World} {Q : Exit → Act → World → Prop} (hgd : o.guard = none) (y : Operand) (ho : o.op = .load 50 y) (g off : Nat) (l b x : Int) (hx : a.eval y = .pointer (some ⟨g, off, none⟩)) (hg : w.rangeAt g off [.int .i64 l, .int .i64 b, .int .i64 x])
    (h : wpList Tryz.prog ops Q rest (a.put o.dst (.agg #[.int .i64 l, .int .i64 b, .int .i64 x])) w) : wpList Tryz.prog ops Q (o :: rest) a w :=
  wpList_load_mid hgd 50 y ho g off hx [.int .i64 l, .int .i64 b, .int .i64 x] _ hg Tryz.underlying50 rfl info_call h
theorem call_store {ops : Array Oper} {rest : List Oper} {o : Oper} {a : Act} {w : World} {Q : Exit → Act → World → Prop} (hgd : o.guard = none) (y z : Operand) (ho : o.op = .store 50 y z) (g : Nat) (l b x c0 c1 c2 : Int) (hx : a.eval y = .pointer (some ⟨g, 0, none⟩)) (hy : a.eval z = .agg #[.int .i64 l, .int .i64 b, .int .i64 x])
    (hg : w.heap[g]? = some (.cells #[.int .i64 c0, .int .i64 c1, .int .i64 c2] 50)) (h : wpList Tryz.prog ops Q rest (a.put o.dst undef) (w.setRow g #[.int .i64 l, .int .i64 b, .int .i64 x])) : wpList Tryz.prog ops Q (o :: rest) a w :=
  wpList_store_row hgd _ y z ho g #[.int .i64 l, .int .i64 b, .int .i64 x] hx hy _ #[.int .i64 c0, .int .i64 c1, .int .i64 c2] hg info_call rfl (by simp [Value.oneCell']) h
theorem call_range {w : World} {b T : Nat} {x y z : Value} (h : w.heap[b]? = some (.cells #[x, y, z] T)) : w.rangeAt b 0 [x, y, z] := fun j v hv => by
  rw [cell_of_row w b (0 + j) _ T (0, 0) h]
  simpa using hv
theorem runM_none (n : Nat) (M : Nat → Nat → Nat → Int) (lun blk x : Int) (h : ¬ (((0 ≤ lun ∧ lun < 4) ∧ (0 ≤ blk ∧ blk < 256)) ∧ (0 ≤ x ∧ x < 16777216))) : runM n M lun blk x = M := by
  unfold runM
  rw [if_neg (fun q => h ⟨q.1, q.2.1⟩)]
end Go.Proofs.YtjikpodghmfjcaaGreatDoor
set_option linter.unnecessarySimpa false
namespace Go.Proofs.YtjikpodghmfjcaaGreatDoor
open Go.RowKit Go.Maps Go.MapKept
/-- The blocks that a run keeps: the caller's, and the map's. -/
def NRn (w : World) (mb : Nat) : Nat → Prop := fun i => i < w.heap.size ∨ i = mb
def RrI (w : World) (tb bb n k mb : Nat) (wx : World) : Prop := (∃ M, RnI (NRn w mb) tb bb n k mb M wx) ∧ Keeps (fun i => i < w.heap.size) w wx ∧ w.heap.size ≤ mb
set_option maxRecDepth 100000 in
set_option maxHeartbeats 4000000 in
theorem runs_any (n : Int) (a : Option Addr) (len cap : Nat) (L B X : Nat → Int) (hlen : len ≤ maxLen) (w : World) (hks : CallsAt w a len L B X) (hg : EtAt w) :
    Calls Tryz.prog 5 #[.int .i64 n, .slice a len cap] w fun e w' => e = .returned (.bool true) ∧ Below w.heap.size w w' := by
  have hST := stands09_any (fun k => k < w.heap.size) w (fun i h => h)
  have HKS := Lib.hid hks
  have HET := Lib.hid hg
  have hlen2 : (len : Int) ≤ 9223372036854775807 := by unfold maxLen at hlen; omega
  have hlen0 : (0 : Int) ≤ len := by omega
  have hmm : ∀ wx : World, (Instr.makeMap 48 none).run Tryz.prog wx = .ok (.map (some wx.heap.size)) (wx.alloc (.map #[] 0)) := fun _ => by kernel_rfl
  clear hlen hks hg
  go_enter Tryz.func5, Tryz.ntmps5
  go_wp2_with fail
  refine hST.mono ?_
  clear hST
  rintro e w1 ⟨rfl, hk1⟩
  try dsimp only
  by_cases hout : n < 1 ∨ (1 ≤ n ∧ 100 < n) ∨ (1 ≤ n ∧ n ≤ 100 ∧ 300 < len)
  · have HK := Lib.hid hk1
    clear hk1
    rcases hout with q1 | ⟨q1, q2⟩ | ⟨q1, q2, q3⟩
    all_goals
      try have e1 : ¬ (n < 1) := by omega
      try have e2 : ¬ (100 < n) := by omega
      try have e3 : (300 : Int) < len := by omega
      go_wp2_with fail
      go_ret
      exact ⟨rfl, HK.out.below (Nat.le_refl _) (fun i hi => hi)⟩
  · have n1 : 1 ≤ n := by omega
    have n2 : n ≤ 100 := by omega
    have n3 : (len : Int) ≤ 300 := by omega
    clear hout
    obtain ⟨n', rfl⟩ := Int.eq_ofNat_of_zero_le (show 0 ≤ n by omega)
    have hFR := rad_fresh n' ⟨by omega, by omega⟩ (fun k => k < w.heap.size) w1 (fun i h => Nat.lt_of_lt_of_le h hk1.size)
    go_wp2_with fail
    refine hFR.mono ?_
    clear hFR
    rintro e w2 ⟨⟨bb, tb, rfl, hT⟩, hk2⟩
    have hob : w.heap.size ≤ w2.heap.size := (hk1.trans hk2).size
    have ha2 : ∀ o : Obj, Below w2.heap.size w2 (w2.alloc o) := fun o => (Below.refl _ _).alloc (Nat.le_refl _) _
    have H2 : Hid (RrI w tb bb n' 0 w2.heap.size (w2.alloc (.map #[] 0))) := Lib.hid ⟨⟨fun _ _ _ => 0, hT.keep (ha2 _) (fun k hk => by
      rcases hk with hk | rfl
      · exact ⟨by simp; omega, .inl hk⟩
      · exact ⟨by simp, .inr (Nat.le_refl _)⟩), .inr rfl, .inl HET.out.pos, HET.out.keeps ((hk1.trans hk2).trans (Keeps.of_below (ha2 _))) HET.out.pos, 0, _, mapIs_made _ _ _, KM.start, Nat.le_refl _⟩, (hk1.trans hk2).trans (Keeps.of_below (ha2 _)), hob⟩
    clear hT hk1 hk2 ha2 hob
    try dsimp only
    go_wp2_with fail
    refine gen_code (fun wx => Hid (RrI w tb bb n' 0 w2.heap.size wx)) H2 ?_
    clear H2
    generalize w2.heap.size = mb
    intro w3 H3
    try simp only [Act.put]
    go_loopw [33] (fun iv wr => ∃ i k : Nat, iv = .int .i64 (i : Int) ∧ i ≤ len ∧ k ≤ i ∧ Hid (RrI w tb bb n' k mb wr)) (fun iv _ => 301 - (intOf iv).toNat)
    case atStart => exact ⟨0, 0, rfl, by omega, by omega, H3⟩
    case round =>
      clear H3
      obtain ⟨i, k, rfl, hi, hki, H⟩ := hrel
      have hi0 : (0 : Int) ≤ i := by omega
      by_cases hit : i < len
      case neg =>
        have hi1 : ¬ ((i : Int) < len) := by omega
        obtain ⟨M, hR, hNm, hN0, hEt, c, f, hMI, hKM, hck⟩ := H.out.1
        have hG := right_any _ tb bb n' k M (by omega) mb c f hKM wr hR hMI
        clear hR hNm hN0 hEt hMI hKM hck
        go_wp2_with fail
        refine hG.mono ?_
        clear hG
        rintro e w4 ⟨rfl, hb4⟩
        try dsimp only
        go_wp2_with fail
        go_ret
        exact ⟨rfl, (H.out.2.1.trans (Keeps.of_below hb4)).below (Nat.le_refl _) (fun i hi => hi)⟩
      case pos =>
        have hi1 : (i : Int) < len := by omega
        obtain ⟨b, off, rfl, hbs, hc⟩ := (HKS.out.keeps H.out.2.1) i hit
        have HC := Lib.hid hc
        clear hc
        repeat ((fail_if_success (with_reducible refine stop_at 37 rfl ?_)); (first | (first | (refine call_load rfl (.tmp 35) rfl b (off + i * 3) (L i) (B i) (X i) (by simp [Act.eval]) HC.out ?_) | (refine call_store rfl (.tmp 9) (.tmp 36) rfl wr.heap.size (L i) (B i) (X i) 0 0 0 rfl rfl (heap_alloc_new wr _) ?_)) | go_values | go_skip | go_guarded | go_step | go_upon))
        have hbx : ∀ o : Obj, Below wr.heap.size wr ((wr.alloc o).setRow wr.heap.size #[.int .i64 (L i), .int .i64 (B i), .int .i64 (X i)]) := fun o => below_setRow ((Below.refl _ _).alloc (Nat.le_refl _) _) (Nat.le_refl _) _
        obtain ⟨M, hR⟩ := H.out.1
        refine gen_world (fun wx => Hid (wx.heap[wr.heap.size]? = some (.cells #[.int .i64 (L i), .int .i64 (B i), .int .i64 (X i)] 50) ∧ RnI (NRn w mb) tb bb n' k mb M wx ∧ Keeps (fun i => i < w.heap.size) w wx)) (Lib.hid ⟨setRow_heap _ _ _ _ _ (0, 0) (heap_alloc_new wr _), hR.below (hbx _), H.out.2.1.trans (Keeps.of_below (hbx _))⟩) ?_
        have HMB := Lib.hid H.out.2.2
        clear hbx hR H HC
        generalize wr.heap.size = cb
        intro w4 H4
        try simp only [Act.put]
        have hRun := run_any (NRn w mb) tb bb n' k mb M (by omega) (by omega) (L i) (B i) (X i) w4 H4.out.2.1
        go_wp2_with (refine call_load rfl (.tmp 9) rfl cb 0 (L i) (B i) (X i) rfl (call_range H4.out.1) ?_)
        refine hRun.mono ?_
        clear hRun
        rintro e w5 ⟨rfl, ⟨k', hk', hR5⟩, hk5⟩
        obtain ⟨M', hM'⟩ : ∃ M', runM n' M (L i) (B i) (X i) = M' := ⟨_, rfl⟩
        rw [hM'] at hR5
        have H5 : Hid (RnI (NRn w mb) tb bb n' k' mb M' w5 ∧ Keeps (fun i => i < w.heap.size) w w5) := Lib.hid ⟨hR5, H4.out.2.2.trans (hk5.mono (fun i _ hi => ⟨.inl hi, by have := HMB.out; omega⟩))⟩
        clear hM' hR5 hk5 H4
        try dsimp only
        have hN := rad_nodes (by omega) H5.out.1.1
        obtain ⟨nd, hnd⟩ : ∃ nd, ((needN M' : Nat) : Int) = nd := ⟨_, rfl⟩
        rw [hnd] at hN
        have HND := Lib.hid hnd
        clear hnd
        go_wp2_with fail
        refine hN.mono ?_
        clear hN
        rintro e w6 ⟨rfl, hb6⟩
        have H6 : Hid (RnI (NRn w mb) tb bb n' k' mb M' w6 ∧ Keeps (fun i => i < w.heap.size) w w6) := Lib.hid ⟨H5.out.1.below hb6, H5.out.2.trans (Keeps.of_below hb6)⟩
        clear hb6 H5
        try dsimp only
        obtain ⟨hR, hNm, hN0, hEt, c, f, hMI, hKM, hck⟩ := H6.out.1
        have hD := need_any mb c f M' hKM w6 hMI
        rw [HND.out] at hD
        clear hR hNm hN0 hEt hMI hKM hck
        go_wp2_with fail
        refine hD.mono ?_
        clear hD
        rintro e w7 ⟨rfl, hb7⟩
        have H7 : Hid (RrI w tb bb n' k' mb w7) := Lib.hid ⟨⟨M', H6.out.1.below hb7⟩, H6.out.2.trans (Keeps.of_below hb7), HMB.out⟩
        clear hb7 H6
        try dsimp only
        go_wp2_with fail
        go_roundw
        · exact ⟨i + 1, k', by push_cast; rfl, by omega, by omega, H7⟩
        · simp only [intOf]; omega
end Go.Proofs.YtjikpodghmfjcaaGreatDoor
set_option linter.unnecessarySimpa false
namespace Go.Proofs.YtjikpodghmfjcaaGreatDoor
open Go.RowKit Go.Maps Go.MapKept
theorem mapIs_empty {P : Program} {k : TypeId} {w : World} {b c : Nat} {f : Lit → Option Value} (h : MapIs P k w b c f) (K : Keyed P k) (hf : ∀ kl, f kl = none) : c = 0 := by
  obtain ⟨D, ⟨es, clock, hb, F, hs, rfl⟩, h2, h3⟩ := h
  cases hl : es.toList with
  | nil => rw [← h2, hl]; rfl
  | cons x r =>
    exfalso
    obtain ⟨y, hy⟩ := F.reads x (by rw [hl]; simp)
    have hk := K.key (Go.WideElems.rd_key hy)
    have h0 : Maps.has (.map ((es.toList.map (Go.WideElems.rg P k heldE)).foldr DataW.insert [])) y.1 = false := has_false_of_atKey (fun z => by rw [h3 _ hk z, hf])
    rw [has_eq, List.any_eq_false] at h0
    refine h0 y (mem_sorted.2 (by rw [hl]; simp [Go.WideElems.rg_of hy])) ?_
    exact WideAt.sameKey_self hk
/-- Whatever has a number was set by one of these calls. -/
def Cov (M : Nat → Nat → Nat → Int) (L B : Nat → Int) (lo hi : Nat) : Prop := ∀ l g b, l < 4 → g < 16 → b < 16 → M l g b ≠ 0 → ∃ j, lo ≤ j ∧ j < hi ∧ L j = l ∧ B j = 16 * g + b
theorem Cov.start (L B : Nat → Int) (lo hi : Nat) : Cov (fun _ _ _ => 0) L B lo hi := fun l g b _ _ _ h => absurd rfl h
theorem Cov.up {n : Nat} {M : Nat → Nat → Nat → Int} {L B : Nat → Int} {i : Nat} (h : Cov M L B 0 i) (x : Int) : Cov (runM n M (L i) (B i) x) L B 0 (i + 1) := by
  intro l g b hl hg hb hM
  unfold runM at hM
  split at hM
  · rename_i hc
    obtain ⟨⟨⟨p1, p2⟩, p3, p4⟩, _, _⟩ := hc
    unfold layM at hM
    split at hM
    · rename_i e
      exact ⟨i, Nat.zero_le _, by omega, by omega, by omega⟩
    · obtain ⟨j, h1, h2, h3, h4⟩ := h l g b hl hg hb hM
      exact ⟨j, h1, by omega, h3, h4⟩
  · obtain ⟨j, h1, h2, h3, h4⟩ := h l g b hl hg hb hM
    exact ⟨j, h1, by omega, h3, h4⟩
theorem Cov.down {n : Nat} {M : Nat → Nat → Nat → Int} {L B : Nat → Int} {i hi : Nat} (h : Cov M L B i hi) (hn : needN M ≤ n) : Cov (runM n M (L i) (B i) 0) L B (i + 1) hi := by
  intro l g b hl hg hb hM
  have hcase : M l g b ≠ 0 ∧ ¬ (L i = l ∧ B i = 16 * g + b) := by
    unfold runM at hM
    split at hM
    · rename_i hc
      obtain ⟨⟨⟨p1, p2⟩, p3, p4⟩, _, _⟩ := hc
      unfold layM at hM
      split at hM
      · exact absurd rfl hM
      · rename_i e
        exact ⟨hM, fun q => e ⟨by omega, by omega, by omega⟩⟩
    · rename_i hc
      refine ⟨hM, fun q => hc ⟨⟨⟨by omega, by omega⟩, by omega, by omega⟩, ⟨by omega, by omega⟩, Nat.le_trans (needN_lay0 _ _ _ _) hn⟩⟩
  obtain ⟨j, h1, h2, h3, h4⟩ := h l g b hl hg hb hcase.1
  refine ⟨j, ?_, h2, h3, h4⟩
  rcases Nat.lt_or_ge i j with q | q
  · exact q
  · exact absurd ⟨by rw [show i = j by omega]; exact h3, by rw [show i = j by omega]; exact h4⟩ hcase.2
theorem Cov.none {M : Nat → Nat → Nat → Int} {L B : Nat → Int} {i : Nat} (h : Cov M L B i i) (l g b : Nat) (hl : l < 4) (hg : g < 16) (hb : b < 16) : M l g b = 0 :=
  Classical.byContradiction fun e => by
    obtain ⟨j, h1, h2, _⟩ := h l g b hl hg hb e
    omega
theorem needN_zero {M : Nat → Nat → Nat → Int} (h : ∀ l g b, l < 4 → g < 16 → b < 16 → M l g b = 0) : needN M = 0 := by
  unfold needN cnt1 cnt2
  have h1 : (List.range 4).filter (has1 M) = [] := List.filter_eq_nil_iff.2 (fun l hl q => by
    obtain ⟨g, hg, b, hb, e⟩ := (has1_iff _ _).1 q
    exact e (h l g b (List.mem_range.1 hl) hg hb))
  have h2 : ((List.range 64).filter fun i => has2 M (i / 16) (i % 16)) = [] := List.filter_eq_nil_iff.2 (fun i hi q => by
    obtain ⟨b, hb, e⟩ := (has2_iff _ _ _).1 q
    exact e (h _ _ b (by have := List.mem_range.1 hi; omega) (by omega) hb))
  rw [h1, h2]; rfl
theorem KM.empty {f : Lit → Option Value} {M : Nat → Nat → Nat → Int} (hk : KM f M) (h : ∀ l g b, l < 4 → g < 16 → b < 16 → M l g b = 0) (kl : Lit) : f kl = none := by
  cases hf : f kl with
  | none => rfl
  | some v =>
    obtain ⟨a, b, ha, hb, rfl⟩ := hk.only kl v hf
    rw [hk.at_ a b ha hb, if_neg (by rw [h a _ _ ha (by omega) (by omega)]; simp)] at hf
    cases hf
end Go.Proofs.YtjikpodghmfjcaaGreatDoor
set_option linter.unnecessarySimpa false
namespace Go.Proofs.YtjikpodghmfjcaaGreatDoor
open Go.RowKit Go.Maps Go.MapKept
def ReI (w : World) (tb bb k mb : Nat) (L B : Nat → Int) (lo hi : Nat) (wx : World) : Prop := (∃ M, RnI (NRn w mb) tb bb 90 k mb M wx ∧ Cov M L B lo hi) ∧ Keeps (fun i => i < w.heap.size) w wx ∧ w.heap.size ≤ mb
set_option maxRecDepth 100000 in
set_option maxHeartbeats 4000000 in
theorem empties_any (a : Option Addr) (len cap : Nat) (L B X : Nat → Int) (hlen : len ≤ maxLen) (w : World) (hks : CallsAt w a len L B X) (hg : EtAt w) :
    Calls Tryz.prog 6 #[.slice a len cap] w fun e w' => e = .returned (.bool true) ∧ Below w.heap.size w w' := by
  have hST := stands09_any (fun k => k < w.heap.size) w (fun i h => h)
  have HKS := Lib.hid hks
  have HET := Lib.hid hg
  have hlen2 : (len : Int) ≤ 9223372036854775807 := by unfold maxLen at hlen; omega
  have hlen0 : (0 : Int) ≤ len := by omega
  have hmm : ∀ wx : World, (Instr.makeMap 48 none).run Tryz.prog wx = .ok (.map (some wx.heap.size)) (wx.alloc (.map #[] 0)) := fun _ => by kernel_rfl
  clear hlen hks hg
  go_enter Tryz.func6, Tryz.ntmps6
  go_wp2_with fail
  refine hST.mono ?_
  clear hST
  rintro e w1 ⟨rfl, hk1⟩
  try dsimp only
  by_cases hout : 200 < len
  · have HK := Lib.hid hk1
    clear hk1
    have e3 : (200 : Int) < len := by omega
    go_wp2_with fail
    go_ret
    exact ⟨rfl, HK.out.below (Nat.le_refl _) (fun i hi => hi)⟩
  · have n3 : (len : Int) ≤ 200 := by omega
    have n4 : ¬ ((200 : Int) < len) := by omega
    clear hout
    have hFR := rad_fresh 90 ⟨by omega, by omega⟩ (fun k => k < w.heap.size) w1 (fun i h => Nat.lt_of_lt_of_le h hk1.size)
    go_wp2_with fail
    refine hFR.mono ?_
    clear hFR
    rintro e w2 ⟨⟨bb, tb, rfl, hT⟩, hk2⟩
    have hob : w.heap.size ≤ w2.heap.size := (hk1.trans hk2).size
    have ha2 : ∀ o : Obj, Below w2.heap.size w2 (w2.alloc o) := fun o => (Below.refl _ _).alloc (Nat.le_refl _) _
    have H2 : Hid (ReI w tb bb 0 w2.heap.size L B 0 0 (w2.alloc (.map #[] 0))) := Lib.hid ⟨⟨fun _ _ _ => 0, ⟨hT.keep (ha2 _) (fun k hk => by
      rcases hk with hk | rfl
      · exact ⟨by simp; omega, .inl hk⟩
      · exact ⟨by simp, .inr (Nat.le_refl _)⟩), .inr rfl, .inl HET.out.pos, HET.out.keeps ((hk1.trans hk2).trans (Keeps.of_below (ha2 _))) HET.out.pos, 0, _, mapIs_made _ _ _, KM.start, Nat.le_refl _⟩, Cov.start _ _ _ _⟩, (hk1.trans hk2).trans (Keeps.of_below (ha2 _)), hob⟩
    clear hT hk1 hk2 ha2 hob
    try dsimp only
    go_wp2_with fail
    refine gen_code (fun wx => Hid (ReI w tb bb 0 w2.heap.size L B 0 0 wx)) H2 ?_
    clear H2
    generalize w2.heap.size = mb
    intro w3 H3
    try simp only [Act.put]
    go_loopw [24] (fun iv wr => ∃ i k : Nat, iv = .int .i64 (i : Int) ∧ i ≤ len ∧ k ≤ i ∧ Hid (ReI w tb bb k mb L B 0 i wr)) (fun iv _ => 301 - (intOf iv).toNat)
    case atStart => exact ⟨0, 0, rfl, by omega, by omega, H3⟩
    case round =>
      clear H3
      obtain ⟨i, k, rfl, hi, hki, H⟩ := hrel
      have hi0 : (0 : Int) ≤ i := by omega
      by_cases hit : i < len
      case pos =>
        have hi1 : (i : Int) < len := by omega
        obtain ⟨b, off, rfl, hbs, hc⟩ := (HKS.out.keeps H.out.2.1) i hit
        have HC := Lib.hid hc
        clear hc
        repeat ((fail_if_success (with_reducible refine stop_at 28 rfl ?_)); (first | (first | (refine call_load rfl (.tmp 26) rfl b (off + i * 3) (L i) (B i) (X i) (by simp [Act.eval]) HC.out ?_) | (refine call_store rfl (.tmp 7) (.tmp 27) rfl wr.heap.size (L i) (B i) (X i) 0 0 0 rfl rfl (heap_alloc_new wr _) ?_)) | go_values | go_skip | go_guarded | go_step | go_upon))
        have hbx : ∀ o : Obj, Below wr.heap.size wr ((wr.alloc o).setRow wr.heap.size #[.int .i64 (L i), .int .i64 (B i), .int .i64 (X i)]) := fun o => below_setRow ((Below.refl _ _).alloc (Nat.le_refl _) _) (Nat.le_refl _) _
        obtain ⟨M, hR, hCv⟩ := H.out.1
        have HCV := Lib.hid hCv
        refine gen_world (fun wx => Hid (wx.heap[wr.heap.size]? = some (.cells #[.int .i64 (L i), .int .i64 (B i), .int .i64 (X i)] 50) ∧ RnI (NRn w mb) tb bb 90 k mb M wx ∧ Keeps (fun i => i < w.heap.size) w wx)) (Lib.hid ⟨setRow_heap _ _ _ _ _ (0, 0) (heap_alloc_new wr _), hR.below (hbx _), H.out.2.1.trans (Keeps.of_below (hbx _))⟩) ?_
        have HMB := Lib.hid H.out.2.2
        clear hbx hR H HC hCv
        generalize wr.heap.size = cb
        intro w4 H4
        try simp only [Act.put]
        have hRun := run_any (NRn w mb) tb bb 90 k mb M (by omega) (by omega) (L i) (B i) (X i) w4 H4.out.2.1
        go_wp2_with (refine call_load rfl (.tmp 7) rfl cb 0 (L i) (B i) (X i) rfl (call_range H4.out.1) ?_)
        refine hRun.mono ?_
        clear hRun
        rintro e w5 ⟨rfl, ⟨k', hk', hR5⟩, hk5⟩
        have H5 : Hid (ReI w tb bb k' mb L B 0 (i + 1) w5) := Lib.hid ⟨⟨_, hR5, HCV.out.up _⟩, H4.out.2.2.trans (hk5.mono (fun i _ hi => ⟨.inl hi, by have := HMB.out; omega⟩)), HMB.out⟩
        clear hR5 hk5 H4
        try dsimp only
        go_wp2_with fail
        go_roundw
        · exact ⟨i + 1, k', by push_cast; rfl, by omega, by omega, H5⟩
        · simp only [intOf]; omega
      case neg =>
        have hi1 : ¬ ((i : Int) < len) := by omega
        obtain rfl : i = len := by omega
        go_wp2_with fail
        go_loopw [37] (fun jv wr => ∃ j k : Nat, jv = .int .i64 (j : Int) ∧ j ≤ i ∧ k ≤ i + j ∧ Hid (ReI w tb bb k mb L B j i wr)) (fun jv _ => 301 - (intOf jv).toNat)
        case atStart => exact ⟨0, k, rfl, by omega, by omega, H⟩
        case round =>
          clear H
          obtain ⟨j, k, rfl, hj, hkj, H⟩ := hrel
          have hj0 : (0 : Int) ≤ j := by omega
          by_cases hjt : j < i
          case pos =>
            have hj1 : (j : Int) < i := by omega
            obtain ⟨b, off, rfl, hbs, hc⟩ := (HKS.out.keeps H.out.2.1) j hjt
            have HC := Lib.hid hc
            clear hc
            repeat ((fail_if_success (with_reducible refine stop_at 41 rfl ?_)); (first | (first | (refine call_load rfl (.tmp 39) rfl b (off + j * 3) (L j) (B j) (X j) (by simp [Act.eval]) HC.out ?_) | (refine call_store rfl (.tmp 9) (.tmp 40) rfl wr.heap.size (L j) (B j) (X j) 0 0 0 rfl rfl (heap_alloc_new wr _) ?_)) | go_values | go_skip | go_guarded | go_step | go_upon))
            have hbx : ∀ o : Obj, Below wr.heap.size wr ((wr.alloc o).setRow wr.heap.size #[.int .i64 (L j), .int .i64 (B j), .int .i64 (X j)]) := fun o => below_setRow ((Below.refl _ _).alloc (Nat.le_refl _) _) (Nat.le_refl _) _
            obtain ⟨M, hR, hCv⟩ := H.out.1
            have HCV := Lib.hid hCv
            have hro : ((wr.alloc (.cells #[.int .i64 0, .int .i64 0, .int .i64 0] 50)).setRow wr.heap.size #[.int .i64 (L j), .int .i64 (B j), .int .i64 (X j)]).heap[wr.heap.size]? = some (.cells #[.int .i64 (L j), .int .i64 (B j), .int .i64 (X j)] 50) := setRow_heap _ _ _ _ _ (0, 0) (heap_alloc_new wr _)
            have hbo := hbx (.cells #[.int .i64 0, .int .i64 0, .int .i64 0] 50)
            have hnl : ∀ q, NRn w mb q → q < wr.heap.size := hR.1.N_lt
            have HNE : Hid (wr.heap.size ≠ mb ∧ w.heap.size ≤ wr.heap.size ∧ w.heap.size ≤ mb) := Lib.hid ⟨fun e => by have := hnl mb (.inr rfl); omega, H.out.2.1.size, H.out.2.2⟩
            obtain ⟨cb, hcb⟩ : ∃ cb, wr.heap.size = cb := ⟨_, rfl⟩
            refine gen_world (fun wx => Hid (wx.heap[cb]? = some (.cells #[.int .i64 (L j), .int .i64 (B j), .int .i64 (X j)] 50) ∧ RnI (fun q => NRn w mb q ∨ q = cb) tb bb 90 k mb M wx ∧ Keeps (fun i => i < w.heap.size) w wx)) (Lib.hid (by
              rw [← hcb]
              exact ⟨hro, hR.keep hbo (fun q hq => by
                rcases hq with hq | hq
                · exact ⟨Nat.lt_of_lt_of_le (hnl q hq) hbo.size, .inl hq⟩
                · rw [hq]; exact ⟨lt_of_blk hro, .inr (Nat.le_refl _)⟩) (.inl hR.2.1) (.inl hR.2.2.1), H.out.2.1.trans (Keeps.of_below hbo)⟩)) ?_
            rw [hcb] at HNE ⊢
            clear hbx hro hbo hR H HC hCv hnl hcb
            intro w4 H4
            try simp only [Act.put]
            have hz2 : w4.cell? ⟨cb, 2, none⟩ = some (.int .i64 (X j)) ∧ w4.frozen? ⟨cb, 2, none⟩ = false := by simp [World.cell?, World.frozen?, H4.out.1]
            obtain ⟨z2, g2⟩ := hz2
            repeat ((fail_if_success (with_reducible refine stop_at 42 rfl ?_)); (first | (fail) | go_values | go_skip | go_guarded | go_step | go_upon))
            have hst : (w4.setCell ⟨cb, 2, none⟩ (.int .i64 0)).heap[cb]? = some (.cells #[.int .i64 (L j), .int .i64 (B j), .int .i64 0] 50) := (set_blk H4.out.1 _).trans rfl
            have hks : Keeps (fun q => q ≠ cb) w4 (w4.setCell ⟨cb, 2, none⟩ (.int .i64 0)) := Keeps.set w4 cb 2 _ (by simp)
            refine gen_world (fun wx => Hid (wx.heap[cb]? = some (.cells #[.int .i64 (L j), .int .i64 (B j), .int .i64 0] 50) ∧ RnI (NRn w mb) tb bb 90 k mb M wx ∧ Keeps (fun i => i < w.heap.size) w wx)) (Lib.hid ⟨hst, by
              obtain ⟨h1, h2, h3, h4, c, f, h5, h6, h7⟩ := H4.out.2.1
              obtain ⟨q1, q2, q3⟩ := HNE.out
              have hw0 := HET.out.pos
              exact ⟨h1.grow (hks.mono (fun i _ hi e => hi (.inr e))) (fun i hi => ⟨Nat.lt_of_lt_of_le (h1.N_lt i (.inl hi)) hks.size, .inl (.inl hi)⟩), .inr rfl, .inl hw0, h4.keeps hks (by omega), c, f, hks.map (by omega) h5, h6, h7⟩, H4.out.2.2.trans (hks.mono (fun i _ hi => by have := HNE.out.2.1; omega))⟩) ?_
            clear hst hks H4 z2 g2
            intro w5 H5
            try simp only [Act.put]
            have hnd : needN M ≤ 90 := H5.out.2.1.1.need_le
            have HND := Lib.hid hnd
            have hRun := run_any (NRn w mb) tb bb 90 k mb M (by omega) (by omega) (L j) (B j) 0 w5 H5.out.2.1
            clear hnd
            go_wp2_with (refine call_load rfl (.tmp 9) rfl cb 0 (L j) (B j) 0 rfl (call_range H5.out.1) ?_)
            refine hRun.mono ?_
            clear hRun
            rintro e w6 ⟨rfl, ⟨k', hk', hR6⟩, hk6⟩
            have H6 : Hid (ReI w tb bb k' mb L B (j + 1) i w6) := Lib.hid ⟨⟨_, hR6, HCV.out.down HND.out⟩, H5.out.2.2.trans (hk6.mono (fun i _ hi => ⟨.inl hi, by have := HNE.out; omega⟩)), HNE.out.2.2⟩
            clear hR6 hk6 H5
            try dsimp only
            go_wp2_with fail
            go_roundw
            · exact ⟨j + 1, k', by push_cast; rfl, by omega, by omega, H6⟩
            · simp only [intOf]; omega
          case neg =>
            have hj1 : ¬ ((j : Int) < i) := by omega
            obtain rfl : j = i := by omega
            obtain ⟨M, hR, hCv⟩ := H.out.1
            have hz := hCv.none
            have hN := rad_nodes (by omega) hR.1
            rw [needN_zero hz] at hN
            obtain ⟨hRS, hNm, hN0, hEt, c, f, hMI, hKM, hck⟩ := hR
            have h0 : c = 0 := mapIs_empty hMI pair_keyed (hKM.empty hz)
            subst h0
            have HMI := Lib.hid hMI
            clear hRS hNm hN0 hEt hMI hKM hck hz hCv
            go_wp2_with fail
            refine hN.mono ?_
            clear hN
            rintro e w6 ⟨rfl, hb6⟩
            have HM6 := Lib.hid (HMI.out.below hb6 HMI.out.lt)
            have HK6 := Lib.hid (H.out.2.1.trans (Keeps.of_below hb6))
            clear hb6 H HMI
            try dsimp only
            go_wp2_with (first | (refine len_is_g _ rfl _ 48 rfl 114 3 Tryz.underlying48 mb 0 f rfl HM6.out ?_) | (refine wpList_len_is _ rfl _ 48 rfl 114 3 Tryz.underlying48 mb 0 f rfl HM6.out ?_))
            go_ret
            exact ⟨rfl, HK6.out.below (Nat.le_refl _) (fun i hi => hi)⟩
end Go.Proofs.YtjikpodghmfjcaaGreatDoor
