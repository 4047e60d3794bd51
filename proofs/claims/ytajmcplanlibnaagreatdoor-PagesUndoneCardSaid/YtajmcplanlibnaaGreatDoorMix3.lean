/- A region that draws its order, where two operations that are not quiet may come in either order. No condition; no program is named. -/
import Derived.Test.YtajmcplanlibnaaGreatDoorMix2
namespace Go.Proofs.YtajmcplanlibnaaGreatDoor
set_option linter.unusedSimpArgs false
set_option linter.unusedVariables false
open Go.RowKit
section
variable {P : Program} {md : Region.Mode} {Q : Exit → Act → World → Prop} {S : World → Prop}

inductive Plan where
  | nil
  | quiet (i : Nat) (p : Plan)
  | one (i : Nat) (p : Plan)
  | two (i j : Nat) (p q : Plan)

def Plan.depth : Plan → Nat
  | .nil => 0
  | .quiet _ p => p.depth + 1
  | .one _ p => p.depth + 1
  | .two _ _ p _ => p.depth + 1

def planB (md : Region.Mode) (ops : Array Oper) : Plan → Array Bool → Bool
  | .nil, listed => (Region.ready md ops listed).isEmpty
  | .quiet i p, listed => (Region.ready md ops listed).contains i && Region.free md ops listed i && ((ops[i]?).map (plainOp ·.op)).getD false && planB md ops p (listed.setIfInBounds i true)
  | .one i p, listed => decide (Region.ready md ops listed = [i]) && planB md ops p (listed.setIfInBounds i true)
  | .two i j p q, listed => decide (Region.ready md ops listed = [i, j]) && (p.depth == q.depth) && planB md ops p (listed.setIfInBounds i true) && planB md ops q (listed.setIfInBounds j true)

def wpPlan (P : Program) (l : List Oper) (S : World → Prop) (Q : Exit → Act → World → Prop) : Plan → Act → World → Prop
  | .nil, a, w => Q .normal a w
  | .quiet i p, a, w => wpQuiet P l.toArray S (fun a' => wpPlan P l S Q p a' w) ((l.drop i).take 1) a
  | .one i p, a, w => wpList P l.toArray (MixQ Q (fun a' w' => S w' ∧ wpPlan P l S Q p a' w')) ((l.drop i).take 1) a w
  | .two i j p q, a, w => wpList P l.toArray (MixQ Q (fun a' w' => S w' ∧ wpPlan P l S Q p a' w')) ((l.drop i).take 1) a w ∧ wpList P l.toArray (MixQ Q (fun a' w' => S w' ∧ wpPlan P l S Q q a' w')) ((l.drop j).take 1) a w

theorem drop_one {l : List Oper} {i : Nat} {o : Oper} (ho : l.toArray[i]? = some o) : (l.drop i).take 1 = [o] := by
  have : l[i]? = some o := by simpa using ho
  obtain ⟨hlt, he⟩ := List.getElem?_eq_some_iff.1 this
  rw [List.drop_eq_getElem_cons hlt, he]; rfl

theorem op_of_list {l : List Oper} {K K' : Act → World → Prop} {i : Nat} {o : Oper} {a : Act} {w : World} (ho : l.toArray[i]? = some o) (hk : ∀ a' w', K a' w' → K' a' w')
    (h : wpList P l.toArray (MixQ Q K) ((l.drop i).take 1) a w) : wpOp P l.toArray Q i K' a w := by
  rw [drop_one ho] at h
  refine wpOp_mono hk ?_
  unfold wpOp
  simp only [ho]
  unfold wpList at h
  split
  · rename_i hw
    rw [if_pos hw] at h
    rcases h with h | h
    · exact .inl (wp_mixQ h)
    · exact .inr h
  · rename_i hw
    rw [if_neg hw] at h
    exact h

theorem plan_sound {l : List Oper} (hs : Region.noSelect l.toArray = true) (hQ : ∀ c a d v w, Q (.panic c) (Act.put a d v) w → Q (.panic c) a w) :
    ∀ (s : Plan) (listed : Array Bool) (a : Act) (w : World), Closed md l.toArray listed → planB md l.toArray s listed = true → S w →
      wpPlan P l S Q s a w → wpAnyG P md l.toArray Q S l.length s.depth listed a w
  | .nil, _, _, _, _, hB, _, h => ⟨by simpa [planB] using hB, h⟩
  | .quiet i r, listed, a, w, hc, hB, hS, h => by
    simp only [planB, Bool.and_eq_true] at hB
    obtain ⟨⟨⟨hr, hf⟩, hp⟩, hB'⟩ := hB
    have hr' : i ∈ Region.ready md l.toArray listed := by simpa using hr
    obtain ⟨_, o, ho, _⟩ := mem_ready.1 hr'
    rw [ho] at hp
    simp only [Option.map_some, Option.getD_some] at hp
    have hL : lastB md l.toArray l.length = true := by unfold lastB; simp
    unfold wpPlan at h
    rw [drop_one ho] at h
    unfold wpQuiet at h
    have hrest : ∀ v, wpPlan P l S Q r (a.put o.dst v) w → YieldsIf P l.toArray S o v a → wpAnyG P md l.toArray Q S l.length (r.depth + 1) listed a w := fun v hv hy =>
      wpAnyG_first hL ho (Region.noSelect_spec hs) (fun c a w => hQ c a _ _ w) r.depth listed a w hc (Region.free_spec ho hf) hr' hy hS (plan_sound hs hQ r _ _ _ (hc.set hr') hB' hS hv)
    split at h
    · rename_i hw
      obtain ⟨v, hy, hk⟩ := yieldsIf_of_quiet hp hw hS h
      exact hrest v hk hy
    · rename_i hw
      exact hrest undef h (.inr ⟨by simpa using hw, rfl⟩)
  | .one i r, listed, a, w, hc, hB, hS, h => by
    simp only [planB, Bool.and_eq_true, decide_eq_true_eq] at hB
    obtain ⟨hr, hB'⟩ := hB
    have hr' : i ∈ Region.ready md l.toArray listed := by rw [hr]; simp
    obtain ⟨_, o, ho, _⟩ := mem_ready.1 hr'
    unfold wpPlan at h
    refine ⟨fun h0 => (by rw [hr] at h0; cases h0), fun j hj => ?_⟩
    obtain rfl : j = i := by rw [hr] at hj; simpa using hj
    exact op_of_list ho (fun a' w' hh => ⟨fun _ => hh.1, plan_sound hs hQ r _ _ _ (hc.set hr') hB' hh.1 hh.2⟩) h
  | .two i k r q, listed, a, w, hc, hB, hS, h => by
    simp only [planB, Bool.and_eq_true, decide_eq_true_eq, beq_iff_eq] at hB
    obtain ⟨⟨⟨hr, hd⟩, hB1⟩, hB2⟩ := hB
    unfold wpPlan at h
    refine ⟨fun h0 => (by rw [hr] at h0; cases h0), fun j hj => ?_⟩
    have hj' := hj
    obtain ⟨_, o, ho, _⟩ := mem_ready.1 hj
    rw [hr] at hj
    simp only [List.mem_cons, List.not_mem_nil, or_false] at hj
    rcases hj with rfl | rfl
    · exact op_of_list ho (fun a' w' hh => ⟨fun _ => hh.1, plan_sound hs hQ r _ _ _ (hc.set hj') hB1 hh.1 hh.2⟩) h.1
    · exact op_of_list ho (fun a' w' hh => ⟨fun _ => hh.1, hd ▸ plan_sound hs hQ q _ _ _ (hc.set hj') hB2 hh.1 hh.2⟩) h.2

theorem wp_region_plan {id : Nat} {a : Act} {w : World} {l : List Oper} (plan : Plan) (S : World → Prop) (hm : P.follows .mixedOrders = true)
    (hB : (planB .any l.toArray plan (Array.replicate l.length false) && Region.noSelect l.toArray && plan.depth == l.length) = true)
    (hQ : ∀ c a d v w, Q (.panic c) (Act.put a d v) w → Q (.panic c) a w) (hS : S w.drew) (h : wpPlan P l S Q plan a w.drew) : (Code.region id l.toArray true).wp P Q a w := by
  simp only [Bool.and_eq_true, beq_iff_eq] at hB
  obtain ⟨⟨h1, h3⟩, h4⟩ := hB
  refine wp_region_any hm (wpAny_of_G (S := S) (last := l.length) _ _ _ _ ?_)
  have h5 : l.toArray.size = plan.depth := by simp [h4]
  rw [h5]
  refine plan_sound h3 hQ plan _ a w.drew (Closed.start _) ?_ hS h
  rw [h4]; exact h1

theorem plan_q {l : List Oper} {i : Nat} {r : Plan} {a : Act} {w : World} (h : wpQuiet P l.toArray S (fun a' => wpPlan P l S Q r a' w) ((l.drop i).take 1) a) : wpPlan P l S Q (.quiet i r) a w := by
  unfold wpPlan; exact h
theorem plan_a {l : List Oper} {i : Nat} {r : Plan} {a : Act} {w : World} (h : wpList P l.toArray (MixQ Q (fun a' w' => S w' ∧ wpPlan P l S Q r a' w')) ((l.drop i).take 1) a w) : wpPlan P l S Q (.one i r) a w := by
  unfold wpPlan; exact h
theorem plan_two {l : List Oper} {i j : Nat} {r q : Plan} {a : Act} {w : World} (h : wpList P l.toArray (MixQ Q (fun a' w' => S w' ∧ wpPlan P l S Q r a' w')) ((l.drop i).take 1) a w)
    (h' : wpList P l.toArray (MixQ Q (fun a' w' => S w' ∧ wpPlan P l S Q q a' w')) ((l.drop j).take 1) a w) : wpPlan P l S Q (.two i j r q) a w := by
  unfold wpPlan; exact ⟨h, h'⟩
theorem plan_nil {l : List Oper} {a : Act} {w : World} (h : Q .normal a w) : wpPlan P l S Q .nil a w := by
  unfold wpPlan; exact h
theorem gen_plan {l : List Oper} {r : Plan} {a : Act} {w : World} (F : World → Prop) (h : F w) (k : ∀ w', F w' → wpPlan P l S Q r a w') : wpPlan P l S Q r a w := k w h
end
end Go.Proofs.YtajmcplanlibnaaGreatDoor
