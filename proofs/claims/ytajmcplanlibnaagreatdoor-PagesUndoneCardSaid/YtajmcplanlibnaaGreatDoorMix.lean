/- A region that draws its order: what only reads is taken first, the rest comes one by one. Each operation that changes the world is the only one that may come up when it does; a condition S on the world, under which all that only reads yields what it yields, holds behind each of them but the last. -/
import Derived.Test.YtajmcplanlibnaaGreatDoorLib
import Derived.OrdersHeld
import Derived.BigQuiet
import Derived.Lib.QuietBelow
namespace Go.Proofs.YtajmcplanlibnaaGreatDoor
set_option linter.unusedSimpArgs false
set_option linter.unusedVariables false
open Go.RowKit
section
variable {P : Program} {ops : Array Oper} {Q : Exit → Act → World → Prop} {md : Region.Mode} {S : World → Prop}

/-- What an operation waits for is listed, where it is listed itself. -/
def Closed (md : Region.Mode) (ops : Array Oper) (listed : Array Bool) : Prop :=
  ∀ k o, ops[k]? = some o → listed.getD k false = true → ∀ e ∈ o.after, Region.binds md e = true → listed.getD e.on false = true

theorem Closed.start (n : Nat) : Closed md ops (Array.replicate n false) := by
  intro k o _ h
  rw [getD_replicate_false'] at h; cases h
where
  getD_replicate_false' {m j : Nat} : (Array.replicate m false).getD j false = false := by
    simp only [Array.getD_eq_getD_getElem?]
    rcases Nat.lt_or_ge j m with h | h
    · simp [h]
    · simp [Array.getElem?_eq_none, h]

theorem Closed.set {listed : Array Bool} {i : Nat} (h : Closed md ops listed) (hi : i ∈ Region.ready md ops listed) : Closed md ops (listed.setIfInBounds i true) := by
  have mono : ∀ k, listed.getD k false = true → (listed.setIfInBounds i true).getD k false = true := by
    intro k hk
    by_cases e : i = k
    · subst e
      rcases Nat.lt_or_ge i listed.size with h' | h'
      · simp [h']
      · simp [Array.getElem?_eq_none h'] at hk
    · rw [getD_set_ne false e]; exact hk
  intro k o ho hk e he hb
  by_cases hki : i = k
  · subst hki
    obtain ⟨_, o', ho', hall⟩ := mem_ready.1 hi
    rw [ho] at ho'
    cases ho'
    exact mono _ (hall e he hb)
  · rw [getD_set_ne false hki] at hk
    exact mono _ (h k o ho hk e he hb)

/-- Those that are waited for, some steps up. -/
def up (md : Region.Mode) (ops : Array Oper) : Nat → List Nat → List Nat
  | 0, l => l
  | n + 1, l => up md ops n (l ++ l.flatMap fun k => match ops[k]? with | some o => (o.after.toList.filter (Region.binds md)).map (·.on) | none => [])

theorem up_listed {listed : Array Bool} (h : Closed md ops listed) : ∀ (n : Nat) (l : List Nat), (∀ k ∈ l, listed.getD k false = true) → ∀ k ∈ up md ops n l, listed.getD k false = true
  | 0, _, hl => hl
  | n + 1, l, hl => up_listed h n _ fun k hk => by
    rw [List.mem_append] at hk
    rcases hk with hk | hk
    · exact hl k hk
    · rw [List.mem_flatMap] at hk
      obtain ⟨q, hq, hk⟩ := hk
      cases ho : ops[q]? with
      | none => simp [ho] at hk
      | some o =>
        simp only [ho, List.mem_map, List.mem_filter] at hk
        obtain ⟨e, ⟨he, hb⟩, rfl⟩ := hk
        exact h q o ho (hl q hq) e (by simpa using he) hb

/-- One operation waits for all others. -/
def lastB (md : Region.Mode) (ops : Array Oper) (last : Nat) : Bool :=
  match ops[last]? with
  | some o => let l := up md ops ops.size ((o.after.toList.filter (Region.binds md)).map (·.on)); (List.range ops.size).all fun i => i == last || l.contains i
  | none => true

theorem lastB_spec {last i : Nat} {listed : Array Bool} (hB : lastB md ops last = true) (hc : Closed md ops listed) (hl : last ∈ Region.ready md ops listed) (hi : i ∈ Region.ready md ops listed) : i = last := by
  obtain ⟨_, o, ho, hall⟩ := mem_ready.1 hl
  obtain ⟨hiu, oi, hoi, _⟩ := mem_ready.1 hi
  have hlt : i < ops.size := (Array.getElem?_eq_some_iff.1 hoi).1
  simp only [lastB, ho, List.all_eq_true, List.mem_range, Bool.or_eq_true, beq_iff_eq] at hB
  rcases hB i hlt with h | h
  · exact h
  · exfalso
    have h2 := up_listed hc ops.size ((o.after.toList.filter (Region.binds md)).map (·.on)) (fun k hk => by
      rw [List.mem_map] at hk
      obtain ⟨e, he, rfl⟩ := hk
      rw [List.mem_filter] at he
      exact hall e (Array.mem_toList_iff.1 he.1) he.2) i (by simpa using h)
    rcases Nat.lt_or_ge i listed.size with h' | h'
    · simp [h'] at h2 hiu; rw [h2] at hiu; cases hiu
    · simp [Array.getElem?_eq_none h'] at h2

def wpAnyG (P : Program) (md : Region.Mode) (ops : Array Oper) (Q : Exit → Act → World → Prop) (S : World → Prop) (last : Nat) : Nat → Array Bool → Act → World → Prop
  | 0, listed, a, w => Region.ready md ops listed = [] ∧ Q .normal a w
  | fuel + 1, listed, a, w =>
    (Region.ready md ops listed = [] → Q .normal a w) ∧
    ∀ i ∈ Region.ready md ops listed, wpOp P ops Q i (fun a' w' => (i ≠ last → S w') ∧ wpAnyG P md ops Q S last fuel (listed.setIfInBounds i true) a' w') a w

theorem wpAny_of_G {last : Nat} : ∀ (fuel : Nat) (listed : Array Bool) (a : Act) (w : World), wpAnyG P md ops Q S last fuel listed a w → wpAny P md ops Q fuel listed a w
  | 0, _, _, _, h => h
  | fuel + 1, _, _, _, h => ⟨h.1, fun i hi => wpOp_mono (fun a' w' h' => wpAny_of_G fuel _ a' w' h'.2) (h.2 i hi)⟩

theorem wpAnyG_first {last i : Nat} {oi : Oper} {v : Value} (hB : lastB md ops last = true) (hi : ops[i]? = some oi) (hsel : ∀ (j : Nat) (o : Oper) cs b, ops[j]? = some o → o.op ≠ .select cs b)
    (hQ : ∀ c a w, Q (.panic c) (a.put oi.dst v) w → Q (.panic c) a w) :
    ∀ (fuel : Nat) (listed : Array Bool) (a : Act) (w : World), Closed md ops listed →
      (∀ j oj, ops[j]? = some oj → j ≠ i → listed.getD j true = false → (∀ e ∈ oj.after, Region.binds md e = true → e.on ≠ i) → oi.apart ops oj = true) →
      i ∈ Region.ready md ops listed → YieldsIf P ops S oi v a → S w →
      wpAnyG P md ops Q S last fuel (listed.setIfInBounds i true) (a.put oi.dst v) w → wpAnyG P md ops Q S last (fuel + 1) listed a w := by
  intro fuel
  induction fuel with
  | zero =>
    intro listed a w _ _ hr hy hS H
    refine ⟨fun h => (by rw [h] at hr; cases hr), fun j hj => ?_⟩
    by_cases hji : j = i
    · subst hji; exact hy.wpOp hi hS ⟨fun _ => hS, H⟩
    · have := ready_mono hj hji
      rw [H.1] at this
      cases this
  | succ fuel ih =>
    intro listed a w hcl hfree hr hy hS H
    refine ⟨fun h => (by rw [h] at hr; cases hr), fun j hj => ?_⟩
    by_cases hji : j = i
    · subst hji; exact hy.wpOp hi hS ⟨fun _ => hS, H⟩
    · have h1 := H.2 j (ready_mono hj hji)
      obtain ⟨hjun, oj, hoj, hall⟩ := mem_ready.1 hj
      have hnot : ∀ e ∈ oj.after, Region.binds md e = true → e.on ≠ i := fun e he hb heq => by
        have h1 := hall e he hb
        have h0 := (mem_ready.1 hr).1
        rw [heq] at h1
        rcases Nat.lt_or_ge i listed.size with h' | h'
        · simp [h'] at h0 h1; rw [h0] at h1; cases h1
        · simp [Array.getElem?_eq_none h'] at h1
      have hjl : j ≠ last := fun e => hji (by subst e; exact (lastB_spec hB hcl hj hr).symm)
      have h2 := wpOp_putIf hoj (hfree j oj hoj hji hjun hnot) (fun cs b => hsel i oi cs b hi) (fun cs b => hsel j oj cs b hoj) hQ hy h1
      have hfree' : ∀ k ok, ops[k]? = some ok → k ≠ i → (listed.setIfInBounds j true).getD k true = false →
          (∀ e ∈ ok.after, Region.binds md e = true → e.on ≠ i) → oi.apart ops ok = true := fun k ok hk hki hun hno => by
        refine hfree k ok hk hki ?_ hno
        by_cases hjk : j = k
        · subst hjk; exact hjun
        · rw [getD_set_ne true hjk] at hun; exact hun
      refine wpOp_mono (fun a' w' h3 => ⟨fun _ => h3.2.1 hjl, ih (listed.setIfInBounds j true) a' w' (hcl.set hj) hfree' (ready_mono hr (Ne.symm hji)) h3.1 (h3.2.1 hjl) ?_⟩) h2
      rw [Array.setIfInBounds_comm _ _ hji]
      exact h3.2.2

/-- An operation that calls no Go function, starts nothing and defers nothing. -/
def plainOp : Op → Bool
  | .move _ | .assign _ | .pick .. | .load .. | .nilCheck _ | .binOp .. | .unOp .. | .convert .. | .slice .. | .fieldAddr .. | .field .. | .indexAddr .. | .index .. | .build .. | .extract .. | .makeInterface .. => true
  | .call { callee := .builtin .len, .. } | .call { callee := .builtin .cap, .. } => true
  | _ => false

theorem map_value_run {α : Type} (f : α → Next) (s : Sem α) (w : World) : (do let x ← s; pure (f x) : Sem Next).run P w = match s.run P w with | .ok x w' => .ok (f x) w' | .halt h w' => .halt h w' := by
  rw [Sem.run_bind]
  cases s.run P w <;> rfl

theorem deref_run (w w' : World) (n : Next) : (runtimePanic .nilDeref : Sem Next).run P w ≠ .ok n w' := by
  intro h
  simp [runtimePanic, goPanic] at h

theorem bind_value {α : Type} {s : Sem α} {f : α → Sem Next} {w w' : World} {n : Next} (hf : ∀ x w n w', (f x).run P w = .ok n w' → ∃ v, n = .value v) (h : (s >>= f).run P w = .ok n w') : ∃ v, n = .value v := by
  rw [Sem.run_bind] at h
  cases hs : s.run P w with
  | ok x w1 => rw [hs] at h; exact hf x w1 n w' h
  | halt x w1 => rw [hs] at h; cases h

/-- Such an operation yields a value, or it dies. -/
theorem plain_value {o : Oper} {ρ : Operand → Value} {w w' : World} {n : Next} (hp : plainOp o.op = true) (h : (execOp ρ o).run P w = .ok n w') : ∃ v, n = .value v := by
  unfold execOp at h
  cases ho : o.op <;> rw [ho] at h hp <;> simp only [plainOp, Bool.false_eq_true] at hp <;> simp only [map_value_run] at h
  all_goals first
    | (simp only [Sem.run_pure, Result.ok.injEq] at h; exact ⟨_, h.1.symm⟩)
    | (split at h <;> first | (simp only [Result.ok.injEq] at h; exact ⟨_, h.1.symm⟩) | (cases h; done))
    | skip
  case nilCheck x =>
    split at h
    case h_1 => exact absurd h (deref_run _ _ _)
    case h_2 => exact absurd h (deref_run _ _ _)
    case h_3 => exact absurd h (deref_run _ _ _)
    case h_5 => simp only [Sem.run_pure, Result.ok.injEq] at h; exact ⟨_, h.1.symm⟩
    case h_4 =>
      split at h
      case h_1 => exact absurd h (deref_run _ _ _)
      case h_3 => simp only [Sem.run_pure, Result.ok.injEq] at h; exact ⟨_, h.1.symm⟩
      case h_2 =>
        refine bind_value (fun x w n w' h => ?_) h
        refine bind_value (fun x w n w' h => ?_) h
        split at h
        · refine bind_value (fun x w n w' h => ?_) h
          simp only [Sem.run_pure, Result.ok.injEq] at h
          exact ⟨_, h.1.symm⟩
        · simp only [Sem.run_pure, Result.ok.injEq] at h
          exact ⟨_, h.1.symm⟩
  case call c =>
    obtain ⟨callee, args, ts⟩ := c
    cases callee with
    | value f => simp [plainOp] at hp
    | invoke r m => simp [plainOp] at hp
    | builtin b =>
      cases b <;> simp only [plainOp, Bool.false_eq_true] at hp
      all_goals
        simp only [resolve, Sem.run_bind, Sem.run_pure, Result.andThen_ok, invoke, builtin] at h
        unfold Result.andThen at h
        split at h <;> first | (simp only [Result.ok.injEq] at h; exact ⟨_, h.1.symm⟩) | (cases h; done)

/-- What the quiet walk shows of such an operation. -/
theorem yieldsIf_of_quiet {o : Oper} {a : Act} {K : Act → Prop} {w : World} (hp : plainOp o.op = true) (hw : Region.wanted o (yielded ops a.tmps) = true) (hS : S w) (h : o.quiet P a S K) : ∃ v, YieldsIf P ops S o v a ∧ K (a.put o.dst v) := by
  obtain ⟨v, h1, h2⟩ := h
  refine ⟨v, .inl ⟨hw, fun w' hw' => ?_⟩, h2⟩
  have h3 := h1 w' hw'
  unfold Oper.quietAt at h3
  cases hr : (execOp a.eval o).run P w' with
  | halt x w2 => rw [hr] at h3; exact h3.elim
  | ok n w2 =>
    obtain ⟨u, rfl⟩ := plain_value hp hr
    rw [hr] at h3
    obtain ⟨e1, e2⟩ := h3
    rw [e1, e2]

/-- The order in which all is taken: quiet ones (true), and those that come alone. -/
def mixB (md : Region.Mode) (ops : Array Oper) : List (Nat × Bool) → Array Bool → Bool
  | [], listed => (Region.ready md ops listed).isEmpty
  | (i, true) :: s, listed => (Region.ready md ops listed).contains i && Region.free md ops listed i && ((ops[i]?).map (plainOp ·.op)).getD false && mixB md ops s (listed.setIfInBounds i true)
  | (i, false) :: s, listed => decide (Region.ready md ops listed = [i]) && mixB md ops s (listed.setIfInBounds i true)

def MixQ (Q : Exit → Act → World → Prop) (K : Act → World → Prop) : Exit → Act → World → Prop
  | .normal, a, w => K a w
  | e, a, w => Q e a w

def wpMix (P : Program) (l : List Oper) (S : World → Prop) (Q : Exit → Act → World → Prop) (last : Nat) : List (Nat × Bool) → Act → World → Prop
  | [], a, w => Q .normal a w
  | (i, true) :: r, a, w => wpQuiet P l.toArray S (fun a' => wpMix P l S Q last r a' w) ((l.drop i).take 1) a
  | (i, false) :: r, a, w => wpList P l.toArray (MixQ Q (fun a' w' => (i ≠ last ∨ r ≠ [] → S w') ∧ wpMix P l S Q last r a' w')) ((l.drop i).take 1) a w

theorem wp_mixQ {o : Oper} {a : Act} {w : World} {K : Act → World → Prop} (h : o.wp P a w (wpList P ops (MixQ Q K) []) (MixQ Q K)) : o.wp P a w K Q := by
  unfold Oper.wp at *
  generalize (execOp a.eval o).run P w = r at *
  cases r with
  | ok n w' => cases n <;> exact h
  | halt x w' => cases x <;> exact h

theorem mix_sound {l : List Oper} {last : Nat} (hL : lastB md l.toArray last = true) (hs : Region.noSelect l.toArray = true) (hQ : ∀ c a d v w, Q (.panic c) (Act.put a d v) w → Q (.panic c) a w) :
    ∀ (s : List (Nat × Bool)) (listed : Array Bool) (a : Act) (w : World), Closed md l.toArray listed → mixB md l.toArray s listed = true → (s ≠ [] → S w) →
      wpMix P l S Q last s a w → wpAnyG P md l.toArray Q S last s.length listed a w
  | [], _, _, _, _, hB, _, h => ⟨by simpa [mixB] using hB, h⟩
  | (i, true) :: r, listed, a, w, hc, hB, hS, h => by
    simp only [mixB, Bool.and_eq_true] at hB
    obtain ⟨⟨⟨hr, hf⟩, hp⟩, hB'⟩ := hB
    have hr' : i ∈ Region.ready md l.toArray listed := by simpa using hr
    obtain ⟨_, o, ho, _⟩ := mem_ready.1 hr'
    rw [ho] at hp
    simp only [Option.map_some, Option.getD_some] at hp
    have hlo : (l.drop i).take 1 = [o] := by
      have : l[i]? = some o := by simpa using ho
      obtain ⟨hlt, he⟩ := List.getElem?_eq_some_iff.1 this
      rw [List.drop_eq_getElem_cons hlt, he]; rfl
    unfold wpMix at h
    rw [hlo] at h
    unfold wpQuiet at h
    have hS0 := hS (by simp)
    have hrest : ∀ v, wpMix P l S Q last r (a.put o.dst v) w → YieldsIf P l.toArray S o v a → wpAnyG P md l.toArray Q S last (r.length + 1) listed a w := fun v hv hy =>
      wpAnyG_first hL ho (Region.noSelect_spec hs) (fun c a w => hQ c a _ _ w) r.length listed a w hc (Region.free_spec ho hf) hr' hy hS0 (mix_sound hL hs hQ r _ _ _ (hc.set hr') hB' (fun _ => hS0) hv)
    split at h
    · rename_i hw
      obtain ⟨v, hy, hk⟩ := yieldsIf_of_quiet hp hw hS0 h
      exact hrest v hk hy
    · rename_i hw
      exact hrest undef h (.inr ⟨by simpa using hw, rfl⟩)
  | (i, false) :: r, listed, a, w, hc, hB, hS, h => by
    simp only [mixB, Bool.and_eq_true, decide_eq_true_eq] at hB
    obtain ⟨hr, hB'⟩ := hB
    have hr' : i ∈ Region.ready md l.toArray listed := by rw [hr]; simp
    obtain ⟨_, o, ho, _⟩ := mem_ready.1 hr'
    have hlo : (l.drop i).take 1 = [o] := by
      have : l[i]? = some o := by simpa using ho
      obtain ⟨hlt, he⟩ := List.getElem?_eq_some_iff.1 this
      rw [List.drop_eq_getElem_cons hlt, he]; rfl
    unfold wpMix at h
    rw [hlo] at h
    refine ⟨fun h0 => (by rw [hr] at h0; cases h0), fun j hj => ?_⟩
    obtain rfl : j = i := by rw [hr] at hj; simpa using hj
    have hk : ∀ a' w', ((j ≠ last ∨ r ≠ [] → S w') ∧ wpMix P l S Q last r a' w') → ((j ≠ last → S w') ∧ wpAnyG P md l.toArray Q S last r.length (listed.setIfInBounds j true) a' w') := fun a' w' hh =>
      ⟨fun hne => hh.1 (.inl hne), mix_sound hL hs hQ r _ _ _ (hc.set hr') hB' (fun hne => hh.1 (.inr hne)) hh.2⟩
    refine wpOp_mono hk ?_
    unfold wpOp
    simp only [ho]
    unfold wpList at h
    split
    · rename_i hw
      rw [if_pos hw] at h
      rcases h with h | h
      · exact .inl (wp_mixQ h)
      · exact .inr h
    · rename_i hw
      rw [if_neg hw] at h
      exact h

/-- **A region that draws its order, in an order of one's own.** -/
theorem wp_region_mix {id : Nat} {a : Act} {w : World} {l : List Oper} (sched : List (Nat × Bool)) (last : Nat) (S : World → Prop) (hm : P.follows .mixedOrders = true)
    (hB : (mixB .any l.toArray sched (Array.replicate l.length false) && lastB .any l.toArray last && Region.noSelect l.toArray && sched.length == l.length) = true)
    (hQ : ∀ c a d v w, Q (.panic c) (Act.put a d v) w → Q (.panic c) a w) (hS : S w.drew) (h : wpMix P l S Q last sched a w.drew) : (Code.region id l.toArray true).wp P Q a w := by
  simp only [Bool.and_eq_true, beq_iff_eq] at hB
  obtain ⟨⟨⟨h1, h2⟩, h3⟩, h4⟩ := hB
  refine wp_region_any hm (wpAny_of_G (S := S) (last := last) _ _ _ _ ?_)
  have h5 : l.toArray.size = sched.length := by simp [h4]
  rw [h5]
  refine mix_sound h2 h3 hQ sched _ a w.drew (Closed.start _) ?_ (fun _ => hS) h
  rw [h4]; exact h1

theorem mix_q {l : List Oper} {last i : Nat} {r : List (Nat × Bool)} {a : Act} {w : World} (h : wpQuiet P l.toArray S (fun a' => wpMix P l S Q last r a' w) ((l.drop i).take 1) a) : wpMix P l S Q last ((i, true) :: r) a w := by
  unfold wpMix; exact h
theorem mix_a {l : List Oper} {last i : Nat} {r : List (Nat × Bool)} {a : Act} {w : World} (h : wpList P l.toArray (MixQ Q (fun a' w' => (i ≠ last ∨ r ≠ [] → S w') ∧ wpMix P l S Q last r a' w')) ((l.drop i).take 1) a w) : wpMix P l S Q last ((i, false) :: r) a w := by
  unfold wpMix; exact h
theorem mix_nil {l : List Oper} {last : Nat} {a : Act} {w : World} (h : Q .normal a w) : wpMix P l S Q last [] a w := by
  unfold wpMix; exact h
theorem mixQ_normal {K : Act → World → Prop} {a : Act} {w : World} (h : K a w) : MixQ Q K .normal a w := h

/-- The class of worlds in which all that was there is as it was. -/
def Grows (W w' : World) : Prop := ∃ p : Regrown, w' = Go.Sort.grow (redrawn W p.d) p.os
theorem grows_of_below {W w' : World} (h : Below W.heap.size W w') : ∃ p : Regrown, w' = Go.Sort.grow (redrawn W p.d) p.os := regrown_of_below h
theorem grows_drew (W : World) : ∃ p : Regrown, W.drew = Go.Sort.grow (redrawn W p.d) p.os := regrown_of_below (Below.refl _ _).drew

end
end Go.Proofs.YtajmcplanlibnaaGreatDoor
