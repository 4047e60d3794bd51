/- Small lemmas of my own on worlds, for the walks of this seat. No condition. -/
import Derived.WalkKit
import Derived.WalkSpells
import Derived.WalkLawsBesides
import Derived.Lib.Hide
import Derived.OrdersHeld
import Derived.BigQuiet
import Derived.Lib.QuietBelow
import Derived.Laws.AppendOwnNone
import Derived.Deep.RegionLaw
import Derived.Deep.RegionLawGrows
import Derived.Deep.MidRow
import Derived.Great.BuildSlice
import Derived.Test.YtajmcplanlibnaaGreatDoorProg
import Derived.Maps.OwnSet
import Derived.Maps.RangeWalk
import Derived.DeepKeys
set_option linter.unusedSimpArgs false
set_option linter.unusedVariables false
set_option linter.unnecessarySimpa false
namespace Go.Proofs.YtajmcplanlibnaaGreatDoor
open Go.RowKit
theorem hZ {p : Prop} (h : p) : Go.RowKit.Hid p := h
theorem bZ {w : World} {o : Obj} : Below w.heap.size w (w.alloc o) := (Below.refl _ _).alloc (Nat.le_refl _) _
theorem qd1 {α : Type} {a : α} {l : List α} {i : Nat} : (a :: l).drop (i + 1) = l.drop i := rfl
theorem qd0 {α : Type} {l : List α} : l.drop 0 = l := rfl
theorem qt1 {α : Type} {a : α} {l : List α} {i : Nat} : (a :: l).take (i + 1) = a :: l.take i := rfl
theorem qt0 {α : Type} {l : List α} : l.take 0 = [] := rfl
theorem qs0 {α : Type} {l : List α} {i : Nat} {a : α} : l.toArray.setIfInBounds i a = (l.set i a).toArray := List.setIfInBounds_toArray _ _ _
theorem qs1 {α : Type} {a b : α} {l : List α} : (a :: l).set 0 b = b :: l := rfl
theorem qs2 {α : Type} {a b : α} {l : List α} {i : Nat} : (a :: l).set (i + 1) b = a :: l.set i b := rfl
theorem bcell {B : Nat} {W w1 : World} (hb : Below B W w1) : (∀ b o, b < B → w1.cell? ⟨b, o, none⟩ = W.cell? ⟨b, o, none⟩) ∧ (∀ b o, b < B → w1.frozen? ⟨b, o, none⟩ = W.frozen? ⟨b, o, none⟩) ∧ W.heap.size ≤ w1.heap.size :=
  ⟨fun b o h => hb.cell (p := ⟨b, o, none⟩) h, fun b o h => hb.frozen (p := ⟨b, o, none⟩) h, hb.size⟩
theorem Qz2 {B : Nat} {a w : World} (h : Below B a w) (n : Nat) : Below B a (w.drewN n) := ⟨h.os, h.tape, h.output, h.size, h.block⟩
theorem box5 {w w1 : World} {c0 c1 c2 c3 c4 : Value} {T : Nat} (hb : Below (w.heap.size + 1) (w.alloc (.cells #[c0, c1, c2, c3, c4] T)) w1) :
    w1.cell? ⟨w.heap.size, 0, none⟩ = some c0 ∧ w1.cell? ⟨w.heap.size, 1, none⟩ = some c1 ∧ w1.cell? ⟨w.heap.size, 2, none⟩ = some c2 ∧ w1.cell? ⟨w.heap.size, 3, none⟩ = some c3 ∧ w1.cell? ⟨w.heap.size, 4, none⟩ = some c4 := by
  refine ⟨?_, ?_, ?_, ?_, ?_⟩ <;> rw [hb.cell (by simp)] <;> simp
def Jz4 (w : World) (a : Option Addr) (ks : List (Int × Int)) : Prop :=
  ∀ i (h : i < ks.length), ∃ b off, a = some ⟨b, off, none⟩ ∧ b < w.heap.size ∧ w.cell? ⟨b, off + i * 2, none⟩ = some (.int .i64 ks[i].1) ∧ w.cell? ⟨b, off + i * 2 + 1, none⟩ = some (.int .u64 ks[i].2)
theorem Jz4.below {w w' : World} {a : Option Addr} {ks : List (Int × Int)} (h : Jz4 w a ks) (hb : Below w.heap.size w w') : Jz4 w' a ks := fun i hi =>
  let ⟨b, off, ha, hs, c1, c2⟩ := h i hi
  ⟨b, off, ha, Nat.lt_of_lt_of_le hs hb.size, (hb.cell (p := ⟨b, off + i * 2, none⟩) hs).trans c1, (hb.cell (p := ⟨b, off + i * 2 + 1, none⟩) hs).trans c2⟩
theorem Jz4.nil (w : World) (a : Option Addr) : Jz4 w a [] := fun i h => by simp at h
def Wzb (w : World) (a : Option Addr) (ns : List Int) : Prop :=
  ∀ i (h : i < ns.length), ∃ b off, a = some ⟨b, off, none⟩ ∧ b < w.heap.size ∧ w.cell? ⟨b, off + i, none⟩ = some (.int .i64 ns[i]) ∧ ∃ cur, w.heap[b]? = some (.cells cur 3)
theorem Wzb.below {w w' : World} {a : Option Addr} {ns : List Int} (h : Wzb w a ns) (hb : Below w.heap.size w w') : Wzb w' a ns := fun i hi =>
  let ⟨b, off, ha, hs, c1, cur, hc⟩ := h i hi
  ⟨b, off, ha, Nat.lt_of_lt_of_le hs hb.size, (hb.cell (p := ⟨b, off + i, none⟩) hs).trans c1, cur, (hb.block b hs).trans hc⟩
theorem Jz4.grown {w w' : World} {a : Option Addr} {ks : List (Int × Int)} {B T : Nat} {c0 c1 c4 : Value} {x y : Int} (h : Jz4 w a ks) (hg : w.grownBy w' (some B)) (hB : w.heap[B]? = some (.cells #[c0, c1, .int .i64 x, .int .i64 y, c4] T))
    (h0 : ∀ v, c0 ≠ .int .i64 v) (h1 : ∀ v, c1 ≠ .int .i64 v) (h4 : ∀ v, c4 ≠ .int .u64 v) : Jz4 w' a ks := fun i hi =>
  let ⟨b, off, ha, hs, e1, e2⟩ := h i hi
  have hne : b ≠ B := fun e => by
    subst e
    simp only [World.cell?, hB] at e1 e2
    generalize off + i * 2 = o at e1 e2
    match o with
    | 0 => simp at e1; exact h0 _ e1
    | 1 => simp at e1; exact h1 _ e1
    | 2 => simp at e2
    | 3 => simp at e2; exact h4 _ e2
    | 4 => simp at e2
    | n + 5 => simp at e1
  have hk := hg.block b hs (by simpa using hne)
  ⟨b, off, ha, Nat.lt_of_lt_of_le hs hg.size, (World.cell?_of_block hk).trans e1, (World.cell?_of_block hk).trans e2⟩
theorem own_apart {w : World} {b1 b2 e1 e2 s1 s2 n1 n2 : Nat} {v1 v2 : Value} {x1 x2 : List Value} (h1 : w.ownsRow b1 e1 s1 v1 n1 x1) (h2 : w.ownsRow b2 e2 s2 v2 n2 x2) (he : e1 ≠ e2) : v1.ownBlock = none ∨ v1.ownBlock ≠ v2.ownBlock := by
  rcases h1.2 with ⟨rfl, _⟩ | ⟨g, c, cur, rfl, _, hg, _⟩
  · left; rfl
  · right
    rcases h2.2 with ⟨rfl, _⟩ | ⟨g', c', cur', rfl, _, hg', _⟩
    · simp [Value.ownBlock]
    · simp only [Value.ownBlock, ne_eq, Option.some.injEq]
      rintro rfl
      rw [hg] at hg'
      simp only [Option.some.injEq, Obj.cells.injEq] at hg'
      exact he hg'.2.1
theorem Xz2 {a b c : World} {r : Option Nat} (h : a.grownBy b r) (k : b.grownBy c r) : a.grownBy c r :=
  ⟨k.os.trans h.os, k.tape.trans h.tape, k.output.trans h.output, Nat.le_trans h.size k.size, fun i hi hr => (k.block i (Nat.lt_of_lt_of_le hi h.size) hr).trans (h.block i hi hr)⟩
theorem Zz2 {a b : World} (h : Below a.heap.size a b) (r : Option Nat) : a.grownBy b r :=
  ⟨h.os, h.tape, h.output, h.size, fun i hi _ => h.block i hi⟩
theorem Zz4 (a : World) (B off : Nat) (v : Value) : a.grownBy (a.setCell ⟨B, off, none⟩ v) (some B) :=
  ⟨rfl, rfl, rfl, by simp [World.setCell], fun i _ hr => Below.heap_setCell _ _ _ _ (by intro e; exact hr (by rw [e]))⟩
def flat (ks : List (Int × Int)) : List Value := ks.flatMap fun r => [.int .i64 r.1, .int .u64 r.2]
theorem flat_append (a b : List (Int × Int)) : flat (a ++ b) = flat a ++ flat b := by simp [flat]
theorem flat_get (ks : List (Int × Int)) : ∀ i (h : i < ks.length), (flat ks)[i * 2]? = some (.int .i64 ks[i].1) ∧ (flat ks)[i * 2 + 1]? = some (.int .u64 ks[i].2) := by
  induction ks with
  | nil => intro i h; simp at h
  | cons r l ih =>
    intro i h
    cases i with
    | zero => simp [flat]
    | succ i =>
      have h' : i < l.length := by simpa using h
      have e1 : (i + 1) * 2 = i * 2 + 2 := by omega
      obtain ⟨a, b⟩ := ih i h'
      have ec : flat (r :: l) = .int .i64 r.1 :: .int .u64 r.2 :: flat l := rfl
      rw [e1, ec]
      exact ⟨by simpa using a, by simpa using b⟩
theorem Jz4.of_own {w : World} {base e : Nat} {a : Option Addr} {cap : Nat} {ks : List (Int × Int)} (h : w.ownsRow base e 2 (.slice a ks.length cap) ks.length (flat ks)) : Jz4 w a ks := by
  intro i hi
  rcases h.2 with ⟨hv, hn⟩ | ⟨g, c, cur, hv, _, hg, _, _, hs, ht⟩
  · rw [hn] at hi; omega
  · simp only [Value.slice.injEq] at hv
    obtain ⟨rfl, _, _⟩ := hv
    obtain ⟨c1, c2⟩ := flat_get ks i hi
    refine ⟨g, 0, rfl, (Array.getElem?_eq_some_iff.1 hg).1, ?_, ?_⟩
    · rw [cell_of_row w g _ cur e (0, 0) hg]
      rw [← ht, List.getElem?_take] at c1
      split at c1
      · simpa using c1
      · cases c1
    · rw [cell_of_row w g _ cur e (0, 0) hg]
      rw [← ht, List.getElem?_take] at c2
      split at c2
      · simpa using c2
      · cases c2
theorem Wzb.of_own {w : World} {base : Nat} {a : Option Addr} {cap : Nat} {ns : List Int} (h : w.ownsRow base 3 1 (.slice a ns.length cap) ns.length (ns.map (Value.int .i64))) : Wzb w a ns := by
  intro i hi
  rcases h.2 with ⟨hv, hn⟩ | ⟨g, c, cur, hv, _, hg, _, _, hs, ht⟩
  · rw [hn] at hi; omega
  · simp only [Value.slice.injEq] at hv
    obtain ⟨rfl, _, _⟩ := hv
    refine ⟨g, 0, rfl, (Array.getElem?_eq_some_iff.1 hg).1, ?_, cur, hg⟩
    have c1 : (ns.map (Value.int .i64))[i]? = some (.int .i64 ns[i]) := by simp [hi]
    rw [cell_of_row w g _ cur _ (0, 0) hg]
    rw [← ht, List.getElem?_take] at c1
    split at c1
    · simpa using c1
    · cases c1
theorem Kz3 {w : World} {base e s n : Nat} {v : Value} {xs : List Value} (h : w.ownsRow base e s v n xs) : ∃ a cap, v = .slice a n cap := by
  rcases h.2 with ⟨rfl, rfl⟩ | ⟨g, c, cur, rfl, _⟩
  · exact ⟨_, _, rfl⟩
  · exact ⟨_, _, rfl⟩
theorem own_ne {w : World} {base e sz n B T : Nat} {v : Value} {xs : List Value} {cs : Array Value} (h : w.ownsRow base e sz v n xs) (hB : w.heap[B]? = some (.cells cs T)) (hT : T ≠ e) : v.ownBlock = none ∨ v.ownBlock ≠ some B := by
  rcases h.2 with ⟨rfl, _⟩ | ⟨g, c, cur, rfl, _, hg, _⟩
  · left; rfl
  · right
    simp only [Value.ownBlock, ne_eq, Option.some.injEq]
    rintro rfl
    rw [hg] at hB
    simp only [Option.some.injEq, Obj.cells.injEq] at hB
    exact hT hB.2.1.symm
theorem chain4 (a b c d : Bool) : a = true ∨ (a = false ∧ b = true) ∨ (a = false ∧ b = false ∧ c = true) ∨ (a = false ∧ b = false ∧ c = false ∧ d = true) ∨ (a = false ∧ b = false ∧ c = false ∧ d = false) := by
  cases a <;> cases b <;> cases c <;> cases d <;> simp
open Go.RowKit
section
variable {P : Program} {ops : Array Oper} {Q : Exit → Act → World → Prop} {md : Region.Mode} {S : World → Prop}
def Xzj (md : Region.Mode) (ops : Array Oper) (listed : Array Bool) : Prop :=
  ∀ k o, ops[k]? = some o → listed.getD k false = true → ∀ e ∈ o.after, Region.binds md e = true → listed.getD e.on false = true
theorem Xzj.start (n : Nat) : Xzj md ops (Array.replicate n false) := by
  intro k o _ h
  rw [getD_replicate_false'] at h; cases h
where
  getD_replicate_false' {m j : Nat} : (Array.replicate m false).getD j false = false := by
    simp only [Array.getD_eq_getD_getElem?]
    rcases Nat.lt_or_ge j m with h | h
    · simp [h]
    · simp [Array.getElem?_eq_none, h]
theorem Xzj.set {listed : Array Bool} {i : Nat} (h : Xzj md ops listed) (hi : i ∈ Region.ready md ops listed) : Xzj md ops (listed.setIfInBounds i true) := by
  have mono : ∀ k, listed.getD k false = true → (listed.setIfInBounds i true).getD k false = true := by
    intro k hk
    by_cases e : i = k
    · subst e
      rcases Nat.lt_or_ge i listed.size with h' | h'
      · simp [h']
      · simp [Array.getElem?_eq_none h'] at hk
    · rw [getD_set_ne false e]; exact hk
  intro k o ho hk e he hb
  by_cases hki : i = k
  · subst hki
    obtain ⟨_, o', ho', hall⟩ := mem_ready.1 hi
    rw [ho] at ho'
    cases ho'
    exact mono _ (hall e he hb)
  · rw [getD_set_ne false hki] at hk
    exact mono _ (h k o ho hk e he hb)
def up (md : Region.Mode) (ops : Array Oper) : Nat → List Nat → List Nat
  | 0, l => l
  | n + 1, l => up md ops n (l ++ l.flatMap fun k => match ops[k]? with | some o => (o.after.toList.filter (Region.binds md)).map (·.on) | none => [])
theorem up_listed {listed : Array Bool} (h : Xzj md ops listed) : ∀ (n : Nat) (l : List Nat), (∀ k ∈ l, listed.getD k false = true) → ∀ k ∈ up md ops n l, listed.getD k false = true
  | 0, _, hl => hl
  | n + 1, l, hl => up_listed h n _ fun k hk => by
    rw [List.mem_append] at hk
    rcases hk with hk | hk
    · exact hl k hk
    · rw [List.mem_flatMap] at hk
      obtain ⟨q, hq, hk⟩ := hk
      cases ho : ops[q]? with
      | none => simp [ho] at hk
      | some o =>
        simp only [ho, List.mem_map, List.mem_filter] at hk
        obtain ⟨e, ⟨he, hb⟩, rfl⟩ := hk
        exact h q o ho (hl q hq) e (by simpa using he) hb
def lastB (md : Region.Mode) (ops : Array Oper) (last : Nat) : Bool :=
  match ops[last]? with
  | some o => let l := up md ops ops.size ((o.after.toList.filter (Region.binds md)).map (·.on)); (List.range ops.size).all fun i => i == last || l.contains i
  | none => true
theorem lastB_spec {last i : Nat} {listed : Array Bool} (hB : lastB md ops last = true) (hc : Xzj md ops listed) (hl : last ∈ Region.ready md ops listed) (hi : i ∈ Region.ready md ops listed) : i = last := by
  obtain ⟨_, o, ho, hall⟩ := mem_ready.1 hl
  obtain ⟨hiu, oi, hoi, _⟩ := mem_ready.1 hi
  have hlt : i < ops.size := (Array.getElem?_eq_some_iff.1 hoi).1
  simp only [lastB, ho, List.all_eq_true, List.mem_range, Bool.or_eq_true, beq_iff_eq] at hB
  rcases hB i hlt with h | h
  · exact h
  · exfalso
    have h2 := up_listed hc ops.size ((o.after.toList.filter (Region.binds md)).map (·.on)) (fun k hk => by
      rw [List.mem_map] at hk
      obtain ⟨e, he, rfl⟩ := hk
      rw [List.mem_filter] at he
      exact hall e (Array.mem_toList_iff.1 he.1) he.2) i (by simpa using h)
    rcases Nat.lt_or_ge i listed.size with h' | h'
    · simp [h'] at h2 hiu; rw [h2] at hiu; cases hiu
    · simp [Array.getElem?_eq_none h'] at h2
def wpAnyG (P : Program) (md : Region.Mode) (ops : Array Oper) (Q : Exit → Act → World → Prop) (S : World → Prop) (last : Nat) : Nat → Array Bool → Act → World → Prop
  | 0, listed, a, w => Region.ready md ops listed = [] ∧ Q .normal a w
  | fuel + 1, listed, a, w =>
    (Region.ready md ops listed = [] → Q .normal a w) ∧
    ∀ i ∈ Region.ready md ops listed, wpOp P ops Q i (fun a' w' => (i ≠ last → S w') ∧ wpAnyG P md ops Q S last fuel (listed.setIfInBounds i true) a' w') a w
theorem wpAny_of_G {last : Nat} : ∀ (fuel : Nat) (listed : Array Bool) (a : Act) (w : World), wpAnyG P md ops Q S last fuel listed a w → wpAny P md ops Q fuel listed a w
  | 0, _, _, _, h => h
  | fuel + 1, _, _, _, h => ⟨h.1, fun i hi => wpOp_mono (fun a' w' h' => wpAny_of_G fuel _ a' w' h'.2) (h.2 i hi)⟩
theorem wpAnyG_first {last i : Nat} {oi : Oper} {v : Value} (hB : lastB md ops last = true) (hi : ops[i]? = some oi) (hsel : ∀ (j : Nat) (o : Oper) cs b, ops[j]? = some o → o.op ≠ .select cs b)
    (hQ : ∀ c a w, Q (.panic c) (a.put oi.dst v) w → Q (.panic c) a w) :
    ∀ (fuel : Nat) (listed : Array Bool) (a : Act) (w : World), Xzj md ops listed →
      (∀ j oj, ops[j]? = some oj → j ≠ i → listed.getD j true = false → (∀ e ∈ oj.after, Region.binds md e = true → e.on ≠ i) → oi.apart ops oj = true) →
      i ∈ Region.ready md ops listed → YieldsIf P ops S oi v a → S w →
      wpAnyG P md ops Q S last fuel (listed.setIfInBounds i true) (a.put oi.dst v) w → wpAnyG P md ops Q S last (fuel + 1) listed a w := by
  intro fuel
  induction fuel with
  | zero =>
    intro listed a w _ _ hr hy hS H
    refine ⟨fun h => (by rw [h] at hr; cases hr), fun j hj => ?_⟩
    by_cases hji : j = i
    · subst hji; exact hy.wpOp hi hS ⟨fun _ => hS, H⟩
    · have := ready_mono hj hji
      rw [H.1] at this
      cases this
  | succ fuel ih =>
    intro listed a w hcl hfree hr hy hS H
    refine ⟨fun h => (by rw [h] at hr; cases hr), fun j hj => ?_⟩
    by_cases hji : j = i
    · subst hji; exact hy.wpOp hi hS ⟨fun _ => hS, H⟩
    · have h1 := H.2 j (ready_mono hj hji)
      obtain ⟨hjun, oj, hoj, hall⟩ := mem_ready.1 hj
      have hnot : ∀ e ∈ oj.after, Region.binds md e = true → e.on ≠ i := fun e he hb heq => by
        have h1 := hall e he hb
        have h0 := (mem_ready.1 hr).1
        rw [heq] at h1
        rcases Nat.lt_or_ge i listed.size with h' | h'
        · simp [h'] at h0 h1; rw [h0] at h1; cases h1
        · simp [Array.getElem?_eq_none h'] at h1
      have hjl : j ≠ last := fun e => hji (by subst e; exact (lastB_spec hB hcl hj hr).symm)
      have h2 := wpOp_putIf hoj (hfree j oj hoj hji hjun hnot) (fun cs b => hsel i oi cs b hi) (fun cs b => hsel j oj cs b hoj) hQ hy h1
      have hfree' : ∀ k ok, ops[k]? = some ok → k ≠ i → (listed.setIfInBounds j true).getD k true = false →
          (∀ e ∈ ok.after, Region.binds md e = true → e.on ≠ i) → oi.apart ops ok = true := fun k ok hk hki hun hno => by
        refine hfree k ok hk hki ?_ hno
        by_cases hjk : j = k
        · subst hjk; exact hjun
        · rw [getD_set_ne true hjk] at hun; exact hun
      refine wpOp_mono (fun a' w' h3 => ⟨fun _ => h3.2.1 hjl, ih (listed.setIfInBounds j true) a' w' (hcl.set hj) hfree' (ready_mono hr (Ne.symm hji)) h3.1 (h3.2.1 hjl) ?_⟩) h2
      rw [Array.setIfInBounds_comm _ _ hji]
      exact h3.2.2
def plainOp : Op → Bool
  | .move _ | .assign _ | .pick .. | .load .. | .nilCheck _ | .binOp .. | .unOp .. | .convert .. | .slice .. | .fieldAddr .. | .field .. | .indexAddr .. | .index .. | .build .. | .extract .. | .makeInterface .. => true
  | .call { callee := .builtin .len, .. } | .call { callee := .builtin .cap, .. } => true
  | _ => false
theorem map_value_run {α : Type} (f : α → Next) (s : Sem α) (w : World) : (do let x ← s; pure (f x) : Sem Next).run P w = match s.run P w with | .ok x w' => .ok (f x) w' | .halt h w' => .halt h w' := by
  rw [Sem.run_bind]
  cases s.run P w <;> rfl
theorem deref_run (w w' : World) (n : Next) : (runtimePanic .nilDeref : Sem Next).run P w ≠ .ok n w' := by
  intro h
  simp [runtimePanic, goPanic] at h
theorem bind_value {α : Type} {s : Sem α} {f : α → Sem Next} {w w' : World} {n : Next} (hf : ∀ x w n w', (f x).run P w = .ok n w' → ∃ v, n = .value v) (h : (s >>= f).run P w = .ok n w') : ∃ v, n = .value v := by
  rw [Sem.run_bind] at h
  cases hs : s.run P w with
  | ok x w1 => rw [hs] at h; exact hf x w1 n w' h
  | halt x w1 => rw [hs] at h; cases h
theorem plain_value {o : Oper} {ρ : Operand → Value} {w w' : World} {n : Next} (hp : plainOp o.op = true) (h : (execOp ρ o).run P w = .ok n w') : ∃ v, n = .value v := by
  unfold execOp at h
  cases ho : o.op <;> rw [ho] at h hp <;> simp only [plainOp, Bool.false_eq_true] at hp <;> simp only [map_value_run] at h
  all_goals first
    | (simp only [Sem.run_pure, Result.ok.injEq] at h; exact ⟨_, h.1.symm⟩)
    | (split at h <;> first | (simp only [Result.ok.injEq] at h; exact ⟨_, h.1.symm⟩) | (cases h; done))
    | skip
  case nilCheck x =>
    split at h
    case h_1 => exact absurd h (deref_run _ _ _)
    case h_2 => exact absurd h (deref_run _ _ _)
    case h_3 => exact absurd h (deref_run _ _ _)
    case h_5 => simp only [Sem.run_pure, Result.ok.injEq] at h; exact ⟨_, h.1.symm⟩
    case h_4 =>
      split at h
      case h_1 => exact absurd h (deref_run _ _ _)
      case h_3 => simp only [Sem.run_pure, Result.ok.injEq] at h; exact ⟨_, h.1.symm⟩
      case h_2 =>
        refine bind_value (fun x w n w' h => ?_) h
        refine bind_value (fun x w n w' h => ?_) h
        split at h
        · refine bind_value (fun x w n w' h => ?_) h
          simp only [Sem.run_pure, Result.ok.injEq] at h
          exact ⟨_, h.1.symm⟩
        · simp only [Sem.run_pure, Result.ok.injEq] at h
          exact ⟨_, h.1.symm⟩
  case call c =>
    obtain ⟨callee, args, ts⟩ := c
    cases callee with
    | value f => simp [plainOp] at hp
    | invoke r m => simp [plainOp] at hp
    | builtin b =>
      cases b <;> simp only [plainOp, Bool.false_eq_true] at hp
      all_goals
        simp only [resolve, Sem.run_bind, Sem.run_pure, Result.andThen_ok, invoke, builtin] at h
        unfold Result.andThen at h
        split at h <;> first | (simp only [Result.ok.injEq] at h; exact ⟨_, h.1.symm⟩) | (cases h; done)
theorem Qzi {o : Oper} {a : Act} {K : Act → Prop} {w : World} (hp : plainOp o.op = true) (hw : Region.wanted o (yielded ops a.tmps) = true) (hS : S w) (h : o.quiet P a S K) : ∃ v, YieldsIf P ops S o v a ∧ K (a.put o.dst v) := by
  obtain ⟨v, h1, h2⟩ := h
  refine ⟨v, .inl ⟨hw, fun w' hw' => ?_⟩, h2⟩
  have h3 := h1 w' hw'
  unfold Oper.quietAt at h3
  cases hr : (execOp a.eval o).run P w' with
  | halt x w2 => rw [hr] at h3; exact h3.elim
  | ok n w2 =>
    obtain ⟨u, rfl⟩ := plain_value hp hr
    rw [hr] at h3
    obtain ⟨e1, e2⟩ := h3
    rw [e1, e2]
def mixB (md : Region.Mode) (ops : Array Oper) : List (Nat × Bool) → Array Bool → Bool
  | [], listed => (Region.ready md ops listed).isEmpty
  | (i, true) :: s, listed => (Region.ready md ops listed).contains i && Region.free md ops listed i && ((ops[i]?).map (plainOp ·.op)).getD false && mixB md ops s (listed.setIfInBounds i true)
  | (i, false) :: s, listed => decide (Region.ready md ops listed = [i]) && mixB md ops s (listed.setIfInBounds i true)
def MixQ (Q : Exit → Act → World → Prop) (K : Act → World → Prop) : Exit → Act → World → Prop
  | .normal, a, w => K a w
  | e, a, w => Q e a w
def wpMix (P : Program) (l : List Oper) (S : World → Prop) (Q : Exit → Act → World → Prop) (last : Nat) : List (Nat × Bool) → Act → World → Prop
  | [], a, w => Q .normal a w
  | (i, true) :: r, a, w => wpQuiet P l.toArray S (fun a' => wpMix P l S Q last r a' w) ((l.drop i).take 1) a
  | (i, false) :: r, a, w => wpList P l.toArray (MixQ Q (fun a' w' => (i ≠ last ∨ r ≠ [] → S w') ∧ wpMix P l S Q last r a' w')) ((l.drop i).take 1) a w
theorem wp_mixQ {o : Oper} {a : Act} {w : World} {K : Act → World → Prop} (h : o.wp P a w (wpList P ops (MixQ Q K) []) (MixQ Q K)) : o.wp P a w K Q := by
  unfold Oper.wp at *
  generalize (execOp a.eval o).run P w = r at *
  cases r with
  | ok n w' => cases n <;> exact h
  | halt x w' => cases x <;> exact h
theorem mix_sound {l : List Oper} {last : Nat} (hL : lastB md l.toArray last = true) (hs : Region.noSelect l.toArray = true) (hQ : ∀ c a d v w, Q (.panic c) (Act.put a d v) w → Q (.panic c) a w) :
    ∀ (s : List (Nat × Bool)) (listed : Array Bool) (a : Act) (w : World), Xzj md l.toArray listed → mixB md l.toArray s listed = true → (s ≠ [] → S w) →
      wpMix P l S Q last s a w → wpAnyG P md l.toArray Q S last s.length listed a w
  | [], _, _, _, _, hB, _, h => ⟨by simpa [mixB] using hB, h⟩
  | (i, true) :: r, listed, a, w, hc, hB, hS, h => by
    simp only [mixB, Bool.and_eq_true] at hB
    obtain ⟨⟨⟨hr, hf⟩, hp⟩, hB'⟩ := hB
    have hr' : i ∈ Region.ready md l.toArray listed := by simpa using hr
    obtain ⟨_, o, ho, _⟩ := mem_ready.1 hr'
    rw [ho] at hp
    simp only [Option.map_some, Option.getD_some] at hp
    have hlo : (l.drop i).take 1 = [o] := by
      have : l[i]? = some o := by simpa using ho
      obtain ⟨hlt, he⟩ := List.getElem?_eq_some_iff.1 this
      rw [List.drop_eq_getElem_cons hlt, he]; rfl
    unfold wpMix at h
    rw [hlo] at h
    unfold wpQuiet at h
    have hS0 := hS (by simp)
    have hrest : ∀ v, wpMix P l S Q last r (a.put o.dst v) w → YieldsIf P l.toArray S o v a → wpAnyG P md l.toArray Q S last (r.length + 1) listed a w := fun v hv hy =>
      wpAnyG_first hL ho (Region.noSelect_spec hs) (fun c a w => hQ c a _ _ w) r.length listed a w hc (Region.free_spec ho hf) hr' hy hS0 (mix_sound hL hs hQ r _ _ _ (hc.set hr') hB' (fun _ => hS0) hv)
    split at h
    · rename_i hw
      obtain ⟨v, hy, hk⟩ := Qzi hp hw hS0 h
      exact hrest v hk hy
    · rename_i hw
      exact hrest undef h (.inr ⟨by simpa using hw, rfl⟩)
  | (i, false) :: r, listed, a, w, hc, hB, hS, h => by
    simp only [mixB, Bool.and_eq_true, decide_eq_true_eq] at hB
    obtain ⟨hr, hB'⟩ := hB
    have hr' : i ∈ Region.ready md l.toArray listed := by rw [hr]; simp
    obtain ⟨_, o, ho, _⟩ := mem_ready.1 hr'
    have hlo : (l.drop i).take 1 = [o] := by
      have : l[i]? = some o := by simpa using ho
      obtain ⟨hlt, he⟩ := List.getElem?_eq_some_iff.1 this
      rw [List.drop_eq_getElem_cons hlt, he]; rfl
    unfold wpMix at h
    rw [hlo] at h
    refine ⟨fun h0 => (by rw [hr] at h0; cases h0), fun j hj => ?_⟩
    obtain rfl : j = i := by rw [hr] at hj; simpa using hj
    have hk : ∀ a' w', ((j ≠ last ∨ r ≠ [] → S w') ∧ wpMix P l S Q last r a' w') → ((j ≠ last → S w') ∧ wpAnyG P md l.toArray Q S last r.length (listed.setIfInBounds j true) a' w') := fun a' w' hh =>
      ⟨fun hne => hh.1 (.inl hne), mix_sound hL hs hQ r _ _ _ (hc.set hr') hB' (fun hne => hh.1 (.inr hne)) hh.2⟩
    refine wpOp_mono hk ?_
    unfold wpOp
    simp only [ho]
    unfold wpList at h
    split
    · rename_i hw
      rw [if_pos hw] at h
      rcases h with h | h
      · exact .inl (wp_mixQ h)
      · exact .inr h
    · rename_i hw
      rw [if_neg hw] at h
      exact h
theorem Vz0 {id : Nat} {a : Act} {w : World} {l : List Oper} (sched : List (Nat × Bool)) (last : Nat) (S : World → Prop) (hm : P.follows .mixedOrders = true)
    (hB : (mixB .any l.toArray sched (Array.replicate l.length false) && lastB .any l.toArray last && Region.noSelect l.toArray && sched.length == l.length) = true)
    (hQ : ∀ c a d v w, Q (.panic c) (Act.put a d v) w → Q (.panic c) a w) (hS : S w.drew) (h : wpMix P l S Q last sched a w.drew) : (Code.region id l.toArray true).wp P Q a w := by
  simp only [Bool.and_eq_true, beq_iff_eq] at hB
  obtain ⟨⟨⟨h1, h2⟩, h3⟩, h4⟩ := hB
  refine wp_region_any hm (wpAny_of_G (S := S) (last := last) _ _ _ _ ?_)
  have h5 : l.toArray.size = sched.length := by simp [h4]
  rw [h5]
  refine mix_sound h2 h3 hQ sched _ a w.drew (Xzj.start _) ?_ (fun _ => hS) h
  rw [h4]; exact h1
theorem mix_q {l : List Oper} {last i : Nat} {r : List (Nat × Bool)} {a : Act} {w : World} (h : wpQuiet P l.toArray S (fun a' => wpMix P l S Q last r a' w) ((l.drop i).take 1) a) : wpMix P l S Q last ((i, true) :: r) a w := by
  unfold wpMix; exact h
theorem mix_a {l : List Oper} {last i : Nat} {r : List (Nat × Bool)} {a : Act} {w : World} (h : wpList P l.toArray (MixQ Q (fun a' w' => (i ≠ last ∨ r ≠ [] → S w') ∧ wpMix P l S Q last r a' w')) ((l.drop i).take 1) a w) : wpMix P l S Q last ((i, false) :: r) a w := by
  unfold wpMix; exact h
theorem Wz1 {l : List Oper} {last : Nat} {a : Act} {w : World} (h : Q .normal a w) : wpMix P l S Q last [] a w := by
  unfold wpMix; exact h
theorem Qz0 {K : Act → World → Prop} {a : Act} {w : World} (h : K a w) : MixQ Q K .normal a w := h
theorem Jz0 {W w' : World} (h : Below W.heap.size W w') : ∃ p : Regrown, w' = Go.Sort.grow (redrawn W p.d) p.os := regrown_of_below h
theorem Vz2 (W : World) : ∃ p : Regrown, W.drew = Go.Sort.grow (redrawn W p.d) p.os := regrown_of_below (Below.refl _ _).drew
end
open Go.RowKit
structure RegrownB where
  d : Nat
  os : Array Obj
  o : Obj
  deriving Inhabited
def setO (w : World) (R : Nat) (o : Obj) : World := { w with heap := w.heap.setIfInBounds R o }
theorem Qz5 {W w' : World} {R : Nat} (hR : R < W.heap.size) (h : W.grownBy w' (some R)) : ∃ p : RegrownB, w' = setO (Go.Sort.grow (redrawn W p.d) p.os) R p.o := by
  have hRs : R < w'.heap.size := Nat.lt_of_lt_of_le hR h.size
  refine ⟨⟨w'.drawn, w'.heap.extract W.heap.size w'.heap.size, w'.heap[R]⟩, ?_⟩
  obtain ⟨heap', tape', drawn', os', output'⟩ := w'
  have e1 : os' = W.os := h.os
  have e2 : tape' = W.tape := h.tape
  have e3 : output' = W.output := h.output
  have hs : W.heap.size ≤ heap'.size := h.size
  have hb : ∀ k, k < W.heap.size → some k ≠ some R → heap'[k]? = W.heap[k]? := h.block
  have hR' : R < heap'.size := hRs
  subst e1 e2 e3
  simp only [setO, Go.Sort.grow, redrawn]
  congr 1
  apply Array.ext_getElem?
  intro k
  rw [Array.getElem?_setIfInBounds]
  by_cases hk : R = k
  · subst hk
    rw [if_pos rfl, if_pos (by simp; omega)]
    simp [hR']
  · rw [if_neg hk]
    by_cases hlt : k < W.heap.size
    · rw [Array.getElem?_append_left hlt]; exact hb k hlt (by simpa using fun e => hk e.symm)
    · rw [Array.getElem?_append_right (by omega), Array.getElem?_extract]
      by_cases hk2 : k < heap'.size
      · rw [if_pos (by omega)]; congr 1; omega
      · rw [if_neg (by omega), Array.getElem?_eq_none (by omega)]
theorem cellB {W : World} {a : Addr} {v : Value} {R : Nat} (h : W.cell? a = some v) (hne : a.block ≠ R) (d : Nat) (os : Array Obj) (o : Obj) : (setO (Go.Sort.grow (redrawn W d) os) R o).cell? a = some v := by
  have hlt := World.block_lt_of_cell? W _ h
  have e : (setO (Go.Sort.grow (redrawn W d) os) R o).heap[a.block]? = W.heap[a.block]? := by
    simp only [setO, Go.Sort.grow, redrawn]
    rw [Array.getElem?_setIfInBounds, if_neg (fun e => hne e.symm), Array.getElem?_append_left hlt]
  rw [World.cell?_of_block e]; exact h
theorem Kz6 {W : World} {R : Nat} (hR : R < W.heap.size) : ∃ p : RegrownB, W.drew = setO (Go.Sort.grow (redrawn W p.d) p.os) R p.o :=
  Qz5 hR ⟨rfl, rfl, rfl, Nat.le_refl _, fun _ _ _ => rfl⟩
theorem grown_drew (W : World) (r : Option Nat) : W.grownBy W.drew r := ⟨rfl, rfl, rfl, Nat.le_refl _, fun _ _ _ => rfl⟩
open Go.RowKit
section
variable {P : Program} {md : Region.Mode} {Q : Exit → Act → World → Prop} {S : World → Prop}
inductive Plan where
  | nil
  | quiet (i : Nat) (p : Plan)
  | one (i : Nat) (p : Plan)
  | two (i j : Nat) (p q : Plan)
def Plan.depth : Plan → Nat
  | .nil => 0
  | .quiet _ p => p.depth + 1
  | .one _ p => p.depth + 1
  | .two _ _ p _ => p.depth + 1
def planB (md : Region.Mode) (ops : Array Oper) : Plan → Array Bool → Bool
  | .nil, listed => (Region.ready md ops listed).isEmpty
  | .quiet i p, listed => (Region.ready md ops listed).contains i && Region.free md ops listed i && ((ops[i]?).map (plainOp ·.op)).getD false && planB md ops p (listed.setIfInBounds i true)
  | .one i p, listed => decide (Region.ready md ops listed = [i]) && planB md ops p (listed.setIfInBounds i true)
  | .two i j p q, listed => decide (Region.ready md ops listed = [i, j]) && (p.depth == q.depth) && planB md ops p (listed.setIfInBounds i true) && planB md ops q (listed.setIfInBounds j true)
def Qz9 (P : Program) (l : List Oper) (S : World → Prop) (Q : Exit → Act → World → Prop) : Plan → Act → World → Prop
  | .nil, a, w => Q .normal a w
  | .quiet i p, a, w => wpQuiet P l.toArray S (fun a' => Qz9 P l S Q p a' w) ((l.drop i).take 1) a
  | .one i p, a, w => wpList P l.toArray (MixQ Q (fun a' w' => S w' ∧ Qz9 P l S Q p a' w')) ((l.drop i).take 1) a w
  | .two i j p q, a, w => wpList P l.toArray (MixQ Q (fun a' w' => S w' ∧ Qz9 P l S Q p a' w')) ((l.drop i).take 1) a w ∧ wpList P l.toArray (MixQ Q (fun a' w' => S w' ∧ Qz9 P l S Q q a' w')) ((l.drop j).take 1) a w
theorem drop_one {l : List Oper} {i : Nat} {o : Oper} (ho : l.toArray[i]? = some o) : (l.drop i).take 1 = [o] := by
  have : l[i]? = some o := by simpa using ho
  obtain ⟨hlt, he⟩ := List.getElem?_eq_some_iff.1 this
  rw [List.drop_eq_getElem_cons hlt, he]; rfl
theorem op_of_list {l : List Oper} {K K' : Act → World → Prop} {i : Nat} {o : Oper} {a : Act} {w : World} (ho : l.toArray[i]? = some o) (hk : ∀ a' w', K a' w' → K' a' w')
    (h : wpList P l.toArray (MixQ Q K) ((l.drop i).take 1) a w) : wpOp P l.toArray Q i K' a w := by
  rw [drop_one ho] at h
  refine wpOp_mono hk ?_
  unfold wpOp
  simp only [ho]
  unfold wpList at h
  split
  · rename_i hw
    rw [if_pos hw] at h
    rcases h with h | h
    · exact .inl (wp_mixQ h)
    · exact .inr h
  · rename_i hw
    rw [if_neg hw] at h
    exact h
theorem Vzi {l : List Oper} (hs : Region.noSelect l.toArray = true) (hQ : ∀ c a d v w, Q (.panic c) (Act.put a d v) w → Q (.panic c) a w) :
    ∀ (s : Plan) (listed : Array Bool) (a : Act) (w : World), Xzj md l.toArray listed → planB md l.toArray s listed = true → S w →
      Qz9 P l S Q s a w → wpAnyG P md l.toArray Q S l.length s.depth listed a w
  | .nil, _, _, _, _, hB, _, h => ⟨by simpa [planB] using hB, h⟩
  | .quiet i r, listed, a, w, hc, hB, hS, h => by
    simp only [planB, Bool.and_eq_true] at hB
    obtain ⟨⟨⟨hr, hf⟩, hp⟩, hB'⟩ := hB
    have hr' : i ∈ Region.ready md l.toArray listed := by simpa using hr
    obtain ⟨_, o, ho, _⟩ := mem_ready.1 hr'
    rw [ho] at hp
    simp only [Option.map_some, Option.getD_some] at hp
    have hL : lastB md l.toArray l.length = true := by unfold lastB; simp
    unfold Qz9 at h
    rw [drop_one ho] at h
    unfold wpQuiet at h
    have hrest : ∀ v, Qz9 P l S Q r (a.put o.dst v) w → YieldsIf P l.toArray S o v a → wpAnyG P md l.toArray Q S l.length (r.depth + 1) listed a w := fun v hv hy =>
      wpAnyG_first hL ho (Region.noSelect_spec hs) (fun c a w => hQ c a _ _ w) r.depth listed a w hc (Region.free_spec ho hf) hr' hy hS (Vzi hs hQ r _ _ _ (hc.set hr') hB' hS hv)
    split at h
    · rename_i hw
      obtain ⟨v, hy, hk⟩ := Qzi hp hw hS h
      exact hrest v hk hy
    · rename_i hw
      exact hrest undef h (.inr ⟨by simpa using hw, rfl⟩)
  | .one i r, listed, a, w, hc, hB, hS, h => by
    simp only [planB, Bool.and_eq_true, decide_eq_true_eq] at hB
    obtain ⟨hr, hB'⟩ := hB
    have hr' : i ∈ Region.ready md l.toArray listed := by rw [hr]; simp
    obtain ⟨_, o, ho, _⟩ := mem_ready.1 hr'
    unfold Qz9 at h
    refine ⟨fun h0 => (by rw [hr] at h0; cases h0), fun j hj => ?_⟩
    obtain rfl : j = i := by rw [hr] at hj; simpa using hj
    exact op_of_list ho (fun a' w' hh => ⟨fun _ => hh.1, Vzi hs hQ r _ _ _ (hc.set hr') hB' hh.1 hh.2⟩) h
  | .two i k r q, listed, a, w, hc, hB, hS, h => by
    simp only [planB, Bool.and_eq_true, decide_eq_true_eq, beq_iff_eq] at hB
    obtain ⟨⟨⟨hr, hd⟩, hB1⟩, hB2⟩ := hB
    unfold Qz9 at h
    refine ⟨fun h0 => (by rw [hr] at h0; cases h0), fun j hj => ?_⟩
    have hj' := hj
    obtain ⟨_, o, ho, _⟩ := mem_ready.1 hj
    rw [hr] at hj
    simp only [List.mem_cons, List.not_mem_nil, or_false] at hj
    rcases hj with rfl | rfl
    · exact op_of_list ho (fun a' w' hh => ⟨fun _ => hh.1, Vzi hs hQ r _ _ _ (hc.set hj') hB1 hh.1 hh.2⟩) h.1
    · exact op_of_list ho (fun a' w' hh => ⟨fun _ => hh.1, hd ▸ Vzi hs hQ q _ _ _ (hc.set hj') hB2 hh.1 hh.2⟩) h.2
theorem Jz8 {id : Nat} {a : Act} {w : World} {l : List Oper} (plan : Plan) (S : World → Prop) (hm : P.follows .mixedOrders = true)
    (hB : (planB .any l.toArray plan (Array.replicate l.length false) && Region.noSelect l.toArray && plan.depth == l.length) = true)
    (hQ : ∀ c a d v w, Q (.panic c) (Act.put a d v) w → Q (.panic c) a w) (hS : S w.drew) (h : Qz9 P l S Q plan a w.drew) : (Code.region id l.toArray true).wp P Q a w := by
  simp only [Bool.and_eq_true, beq_iff_eq] at hB
  obtain ⟨⟨h1, h3⟩, h4⟩ := hB
  refine wp_region_any hm (wpAny_of_G (S := S) (last := l.length) _ _ _ _ ?_)
  have h5 : l.toArray.size = plan.depth := by simp [h4]
  rw [h5]
  refine Vzi h3 hQ plan _ a w.drew (Xzj.start _) ?_ hS h
  rw [h4]; exact h1
theorem Jz6 {l : List Oper} {i : Nat} {r : Plan} {a : Act} {w : World} (h : wpQuiet P l.toArray S (fun a' => Qz9 P l S Q r a' w) ((l.drop i).take 1) a) : Qz9 P l S Q (.quiet i r) a w := by
  unfold Qz9; exact h
theorem Kz8 {l : List Oper} {i : Nat} {r : Plan} {a : Act} {w : World} (h : wpList P l.toArray (MixQ Q (fun a' w' => S w' ∧ Qz9 P l S Q r a' w')) ((l.drop i).take 1) a w) : Qz9 P l S Q (.one i r) a w := by
  unfold Qz9; exact h
theorem Kze {l : List Oper} {i j : Nat} {r q : Plan} {a : Act} {w : World} (h : wpList P l.toArray (MixQ Q (fun a' w' => S w' ∧ Qz9 P l S Q r a' w')) ((l.drop i).take 1) a w)
    (h' : wpList P l.toArray (MixQ Q (fun a' w' => S w' ∧ Qz9 P l S Q q a' w')) ((l.drop j).take 1) a w) : Qz9 P l S Q (.two i j r q) a w := by
  unfold Qz9; exact ⟨h, h'⟩
theorem plan_nil {l : List Oper} {a : Act} {w : World} (h : Q .normal a w) : Qz9 P l S Q .nil a w := by
  unfold Qz9; exact h
theorem Xz7 {l : List Oper} {r : Plan} {a : Act} {w : World} (F : World → Prop) (h : F w) (k : ∀ w', F w' → Qz9 P l S Q r a w') : Qz9 P l S Q r a w := k w h
end
open Go.RowKit
section
variable {P : Program} {Q : Exit → Act → World → Prop} {S : World → Prop}
theorem quiet_append {ops : Array Oper} {C : World → Prop} {K : Act → Prop} : ∀ (l1 l2 : List Oper) (a : Act), wpQuiet P ops C K (l1 ++ l2) a = wpQuiet P ops C (wpQuiet P ops C K l2) l1 a
  | [], _, _ => rfl
  | o :: l1, l2, a => by
    have e : wpQuiet P ops C K (l1 ++ l2) = wpQuiet P ops C (wpQuiet P ops C K l2) l1 := funext (quiet_append l1 l2)
    simp only [List.cons_append, wpQuiet, e]
theorem quiet_imp {ops : Array Oper} {C : World → Prop} {K K' : Act → Prop} (h : ∀ a, K a → K' a) : ∀ (l : List Oper) (a : Act), wpQuiet P ops C K l a → wpQuiet P ops C K' l a
  | [], a, hh => h a hh
  | o :: l, a, hh => by
    unfold wpQuiet at hh ⊢
    split
    · rename_i hw
      rw [if_pos hw] at hh
      exact Oper.quiet_mono (quiet_imp h l) hh
    · rename_i hw
      rw [if_neg hw] at hh
      exact quiet_imp h l _ hh
def firstN : Nat → Nat → List (Nat × Bool)
  | i, 0 => [(i, false)]
  | i, k + 1 => (i, true) :: firstN (i + 1) k
theorem mix_of_quiet {l : List Oper} {last : Nat} {w : World} : ∀ (k i : Nat) (a : Act), i + k < l.length →
    wpQuiet P l.toArray S (fun a' => wpMix P l S Q last [(i + k, false)] a' w) ((l.drop i).take k) a → wpMix P l S Q last (firstN i k) a w
  | 0, i, a, _, h => by simpa [firstN, wpQuiet] using h
  | k + 1, i, a, hl, h => by
    unfold firstN
    refine mix_q ?_
    have hi : i < l.length := by omega
    have e : (l.drop i).take (k + 1) = (l.drop i).take 1 ++ (l.drop (i + 1)).take k := by
      rw [List.drop_eq_getElem_cons hi]; rfl
    rw [e, quiet_append] at h
    refine quiet_imp (fun a' h' => mix_of_quiet k (i + 1) a' (by omega) ?_) _ _ h
    rw [show i + 1 + k = i + (k + 1) by omega]
    exact h'
theorem Zz3 {id : Nat} {a : Act} {w : World} {l : List Oper} (n : Nat) (S : World → Prop) (hm : P.follows .mixedOrders = true)
    (hB : (mixB .any l.toArray (firstN 0 n) (Array.replicate l.length false) && lastB .any l.toArray n && Region.noSelect l.toArray && (firstN 0 n).length == l.length && decide (n < l.length)) = true)
    (hQ : ∀ c a d v w, Q (.panic c) (Act.put a d v) w → Q (.panic c) a w) (hS : S w.drew)
    (h : wpQuiet P l.toArray S (fun a' => wpMix P l S Q n [(n, false)] a' w.drew) (l.take n) a) : (Code.region id l.toArray true).wp P Q a w := by
  rw [Bool.and_eq_true] at hB
  refine Vz0 (firstN 0 n) n S hm hB.1 hQ hS (mix_of_quiet n 0 a (by simpa using hB.2) ?_)
  simpa using h
end
open Go.RowKit
theorem blk5 {w : World} {B : Nat} {c0 c1 c2 c3 c4 : Value} {T : Nat} (h : w.heap[B]? = some (.cells #[c0, c1, c2, c3, c4] T)) :
    w.cell? ⟨B, 0, none⟩ = some c0 ∧ w.cell? ⟨B, 1, none⟩ = some c1 ∧ w.cell? ⟨B, 2, none⟩ = some c2 ∧ w.cell? ⟨B, 3, none⟩ = some c3 ∧ w.cell? ⟨B, 4, none⟩ = some c4 ∧
    w.frozen? ⟨B, 0, none⟩ = false ∧ w.frozen? ⟨B, 1, none⟩ = false ∧ w.frozen? ⟨B, 2, none⟩ = false ∧ w.frozen? ⟨B, 3, none⟩ = false ∧ w.frozen? ⟨B, 4, none⟩ = false := by
  simp [World.cell?, World.frozen?, h]
theorem heap_at1 (w : World) (o o1 : Obj) : ((w.alloc o).alloc o1).heap[w.heap.size]? = some o := by
  rw [heap_alloc_old _ _ (by simp)]; exact heap_alloc_new w o
theorem heap_at2 (w : World) (o o1 : Obj) : ((w.alloc o).alloc o1).heap[w.heap.size + 1]? = some o1 := by
  have h := heap_alloc_new (w.alloc o) o1
  simpa using h
theorem own_mono {w : World} {b b' e s n : Nat} {v : Value} {xs : List Value} (h : w.ownsRow b e s v n xs) (hb : b' ≤ b) : w.ownsRow b' e s v n xs := by
  refine ⟨h.1, ?_⟩
  rcases h.2 with hn | ⟨g, c, cur, hv, hg, r⟩
  · exact .inl hn
  · exact .inr ⟨g, c, cur, hv, Nat.le_trans hb hg, r⟩
theorem Vz4 {w w' : World} {b e s n : Nat} {v : Value} {xs : List Value} (h : w.ownsRow b e s v n xs) (hb : Below w.heap.size w w') : w'.ownsRow b e s v n xs :=
  h.kept (Zz2 hb none) (by cases v.ownBlock <;> simp)
theorem Qz1 {w w' : World} (h : ∃ p : Regrown, w' = Go.Sort.grow (redrawn w p.d) p.os) : Below w.heap.size w w' := by
  obtain ⟨p, rfl⟩ := h; exact below_regrown w p.d p.os
theorem Xz3 {w : World} {B i T : Nat} {cs : Array Value} (h : w.heap[B]? = some (.cells cs T)) (x : Value) : (w.setCell ⟨B, i, none⟩ x).heap[B]? = some (.cells (cs.setIfInBounds i x) T) := by
  simp [World.setCell, Array.getElem?_modify, h]
open Go.RowKit
def SrcIs (w : World) (x : Value) (m size : Nat) (news : List Value) : Prop :=
  (x = .slice none 0 0 ∧ m = 0 ∧ news = []) ∨ ∃ ad c, x = .slice (some ad) m c ∧ news.length = m * size ∧ (∀ j u, news[j]? = some u → w.cell? (ad.add j) = some u) ∧ (∀ u ∈ news, u.oneCell' = true)
theorem step_append_src {P : Program} {ops : Array Oper} {o : Oper} {a : Act} {w : World} {K : Act → World → Prop} {Q : Exit → Act → World → Prop} {E : Prop}
    (hg : o.guard = none) (s x : Operand) (t : TypeId) (ho : o.op = Op.call { callee := Callee.builtin Builtin.append, args := #[s, x], argTypes := #[t, t] })
    (base : Nat) (e : TypeId) (i : TypeInfo) (z : Value) (size bytes : Nat) (ht : P.underlying t = some (.slice e)) (hi : P.info? e = some i) (hz : i.zero = some z)
    (hsize : i.size = size) (hby : i.bytes = bytes) (hzs : z.cells.size = size) (hsz : 0 < size)
    (v : Value) (n : Nat) (xs : List Value) (hs : a.eval s = v) (hown : w.ownsRow base e size v n xs)
    (X : Value) (m : Nat) (news : List Value) (hx : a.eval x = X) (hX : SrcIs w X m size news)
    (h63 : n + m ≤ maxLen) (hbytes : (n + m) * bytes ≤ 140737488355328) (hbase : base ≤ w.heap.size)
    (h : ∀ v' w', w'.ownsRow base e size v' (n + m) (xs ++ news) → w.grownBy w' v.ownBlock → K (a.put o.dst v') w') :
    if Region.wanted o (yielded ops a.tmps) = true then Oper.wp P o a w K Q else E := by
  have hw : Region.wanted o (yielded ops a.tmps) = true := by simp [Region.wanted, hg]
  rw [if_pos hw]
  rcases hX with ⟨rfl, rfl, rfl⟩ | ⟨ad, c, rfl, hl, hnews, h1⟩
  · have hrun := run_append_owned_none (P := P) (w := w) base t o.type e i size ht hi v n xs hown
    unfold Oper.wp
    simp [execOp, ho, resolve, invoke, builtin, hs, hx, hrun, Result.andThen]
    exact h v w (by simpa using hown) ⟨rfl, rfl, rfl, Nat.le_refl _, fun _ _ _ => rfl⟩
  · exact wp_append_own w s x t ho base e i z size bytes ht hi hz hsize hby hzs hsz v n xs hs hown ad m c news hx hl hnews h1 h63 hbytes hbase (fun v' w' a b _ => h v' w' a b)
theorem Jz2 {P : Program} {ops : Array Oper} {rest : List Oper} {o : Oper} {a : Act} {w : World} {Q : Exit → Act → World → Prop}
    (hg : o.guard = none) (s x : Operand) (t : TypeId) (ho : o.op = Op.call { callee := Callee.builtin Builtin.append, args := #[s, x], argTypes := #[t, t] })
    (base : Nat) (e : TypeId) (i : TypeInfo) (z : Value) (size bytes : Nat) (ht : P.underlying t = some (.slice e)) (hi : P.info? e = some i) (hz : i.zero = some z)
    (hsize : i.size = size) (hby : i.bytes = bytes) (hzs : z.cells.size = size) (hsz : 0 < size)
    (v : Value) (n : Nat) (xs : List Value) (hs : a.eval s = v) (hown : w.ownsRow base e size v n xs)
    (X : Value) (m : Nat) (news : List Value) (hx : a.eval x = X) (hX : SrcIs w X m size news)
    (h63 : n + m ≤ maxLen) (hbytes : (n + m) * bytes ≤ 140737488355328) (hbase : base ≤ w.heap.size)
    (h : ∀ v' w', w'.ownsRow base e size v' (n + m) (xs ++ news) → w.grownBy w' v.ownBlock → wpList P ops Q rest (a.put o.dst v') w') : wpList P ops Q (o :: rest) a w :=
  wpList_step fun K hK => step_append_src (E := K (a.put o.dst undef) w) hg s x t ho base e i z size bytes ht hi hz hsize hby hzs hsz v n xs hs hown X m news hx hX h63 hbytes hbase (fun v' w' h1 h2 => hK _ _ (h v' w' h1 h2))
theorem own_one2 (w : World) (c0 c1 : Value) (e base : Nat) (hb : base ≤ w.heap.size) : (w.alloc (.cells #[c0, c1] e)).ownsRow base e 2 (.slice (some ⟨w.heap.size, 0, none⟩) 1 1) 1 [c0, c1] :=
  ⟨rfl, .inr ⟨w.heap.size, 1, #[c0, c1], rfl, hb, heap_alloc_new w _, Nat.le_refl _, by unfold maxLen; omega, rfl, rfl⟩⟩
theorem Kz1 (n : Nat) {P : Program} {ops : Array Oper} {Q : Exit → Act → World → Prop} {o : Oper} {rest : List Oper} {a : Act} {w : World} (ho : o.dst = some n) (h : wpList P ops Q (o :: rest) a w) : wpList P ops Q (o :: rest) a w := h
theorem Vz1 (s : String) {P : Program} {ops : Array Oper} {Q : Exit → Act → World → Prop} {o : Oper} {rest : List Oper} {a : Act} {w : World} (ho : o.pos = s) (h : wpList P ops Q (o :: rest) a w) : wpList P ops Q (o :: rest) a w := h
open Go.RowKit
theorem quiet_of_run {P : Program} {o : Oper} {a : Act} {C : World → Prop} {K : Act → Prop} (v : Value) (h : ∀ w, C w → (execOp a.eval o).run P w = .ok (.value v) w) (hk : K (a.put o.dst v)) : o.quiet P a C K :=
  ⟨v, fun w hw => by unfold Oper.quietAt; rw [h w hw]; exact ⟨rfl, rfl⟩, hk⟩
open Go.RowKit
theorem Xz0 {P : Program} {ops : Array Oper} {Q : Exit → Act → World → Prop} {l : List Oper} {a : Act} {w : World} (F : World → Prop) (h : F w) (k : ∀ w', F w' → wpList P ops Q l a w') : wpList P ops Q l a w := k w h
theorem Kz0 {P : Program} {c : Code} {Q : Exit → Act → World → Prop} {a : Act} {w : World} (F : World → Prop) (h : F w) (k : ∀ w', F w' → Code.wp P c Q a w') : Code.wp P c Q a w := k w h
theorem Zz1 {w : World} {B i k : Nat} {v : Value} {o : Option Obj} (hb : B ≠ i) (h : w.heap[i]? = o) : (w.setCell ⟨B, k, none⟩ v).heap[i]? = o := by
  rw [← h]; simp [World.setCell, Array.getElem?_modify, hb]
theorem blk2 {w : World} {B : Nat} {c0 c1 : Value} {T : Nat} (h : w.heap[B]? = some (.cells #[c0, c1] T)) : w.cell? ⟨B, 0, none⟩ = some c0 ∧ w.cell? ⟨B, 1, none⟩ = some c1 ∧ w.frozen? ⟨B, 0, none⟩ = false ∧ w.frozen? ⟨B, 1, none⟩ = false := by simp [World.cell?, World.frozen?, h]
theorem Zz0 {w : World} {B : Nat} {o : Obj} (h : w.heap[B]? = some o) : B < w.heap.size := (Array.getElem?_eq_some_iff.1 h).1
open Go.RowKit
theorem fold_set (off : Nat) : ∀ (l : List Value) (k : Nat) (cells : Array Value), off + k + l.length ≤ cells.size →
    ((l.zipIdx k).foldl (fun cs (x : Value × Nat) => cs.setIfInBounds (off + x.2) x.1) cells).toList = cells.toList.take (off + k) ++ (l ++ cells.toList.drop (off + k + l.length))
  | [], k, cells, _ => by simp
  | v :: l, k, cells, h => by
    rw [List.zipIdx_cons, List.foldl_cons]
    have ih := fold_set off l (k + 1) (cells.setIfInBounds (off + k) v) (by simp at h ⊢; omega)
    rw [ih]
    have hk : off + k < cells.toList.length := by simp at h ⊢; omega
    rw [Array.toList_setIfInBounds, show off + (k + 1) = off + k + 1 by omega, List.take_succ_eq_append_getElem (by simpa using hk), List.take_set_of_le (Nat.le_refl _), List.getElem_set_self, List.drop_set_of_lt (by omega)]
    simp only [List.append_assoc, List.singleton_append, List.cons_append, List.nil_append, List.length_cons]
    rw [show off + k + 1 + l.length = off + k + (l.length + 1) by omega]
theorem fold_arr (off : Nat) (xs cells : Array Value) (h : off + xs.size ≤ cells.size) :
    xs.zipIdx.foldl (fun cs (x : Value × Nat) => cs.setIfInBounds (off + x.2) x.1) cells = (cells.toList.take off ++ (xs.toList ++ cells.toList.drop (off + xs.size))).toArray := by
  apply Array.ext'
  have := fold_set off xs.toList 0 cells (by simpa using h)
  rw [← Array.foldl_toList, Array.toList_zipIdx]
  simpa using this
theorem Jzb {P : Program} {t : TypeId} {it : TypeInfo} {z : Value} {fields : Array Field} {places : List (Nat × Nat)} (h1 : P.info? t = some it) (h2 : P.underlying t = some (.struct fields)) (h3 : it.zero = some z)
    (h4 : fields.toList.mapM (fun f => (P.info? f.type).map fun i => (f.offset, i.size)) = some places) (parts : List (Nat × Value)) : P.built t parts = Instr.fill (places.toArray[·]?) z.cells parts := by
  simp [Program.built, h1, h2, h3, h4]
theorem Qz7 {place : Nat → Option (Nat × Nat)} {cells : Array Value} {i off : Nat} {v : Value} {rest : List (Nat × Value)} (h : place i = some (off, v.cells.size)) (hs : off + v.cells.size ≤ cells.size) :
    Instr.fill place cells ((i, v) :: rest) = Instr.fill place (cells.toList.take off ++ (v.cells.toList ++ cells.toList.drop (off + v.cells.size))).toArray rest := by
  rw [Instr.fill, h]
  simp only
  rw [if_neg (by simp; omega)]
  have e := fold_arr off v.cells cells hs
  rw [← e]
theorem Zzd {P : Program} {o : Oper} {a : Act} {C : World → Prop} {K : Act → Prop} (t : TypeId) (parts : Array (Nat × Operand)) (ho : o.op = .build t parts)
    (cs : Array Value) (hb : P.built t (parts.map fun (i, x) => (i, a.eval x)).toList = some cs) (h : K (a.put o.dst (.agg cs))) : o.quiet P a C K :=
  quiet_of_run _ (fun w _ => by
    unfold execOp
    simp only [ho, Sem.run_bind, run_build w t _ cs hb, Result.andThen_ok]
    rfl) h
theorem Kz5 {P : Program} {ops : Array Oper} {rest : List Oper} {o : Oper} {a : Act} {w : World} {Q : Exit → Act → World → Prop} (hg : o.guard = none) (t e : TypeId) (x : Operand) (ho : o.op = .buildSlice t 1 #[(0, x)])
    (ie : TypeInfo) (z : Value) (hu : P.underlying t = some (.slice e)) (hie : P.info? e = some ie) (hz : ie.zero = some z) (n : Nat) (hn : ie.size = n) (hsmall : n ≤ 16777216) (hpos : 0 < n)
    (v : Value) (hv : a.eval x = v) (cs : Array Value) (hx : v.cells = cs) (hcs : cs.size = n)
    (h : wpList P ops Q rest (a.put o.dst (.slice (some ⟨w.heap.size, 0, none⟩) 1 1)) (w.alloc (.cells cs e))) : wpList P ops Q (o :: rest) a w := by
  subst hn
  refine wpList_buildSlice hg t e 1 #[(0, x)] ho cs ie z hu hie hz (by omega) (by omega) ?_ h
  simp only [List.map_toArray, List.map_cons, List.map_nil, hv]
  rw [Qz7 (off := 0) (by rw [hx, hcs]; simp) (by rw [hx, hcs]; simp)]
  simp only [Instr.fill, Option.some.injEq]
  apply Array.ext'
  rw [hx]
  simp [hcs]
theorem Jz1 {P : Program} {op : Oper} {a : Act} {C : World → Prop} {K : Act → Prop} (ty : TypeId) (x : Operand) (ho : op.op = .load ty x)
    (b o : Nat) (hx : a.eval x = .pointer (some ⟨b, o, none⟩)) (cs : List Value) (d : TypeDesc) (hS : ∀ w, C w → w.rangeAt b o cs)
    (hu : P.underlying ty = some d) (hd : d.isRow = true) (hi : (P.info? ty).map (·.size) = some cs.length)
    (h : K (a.put op.dst (.agg cs.toArray))) : op.quiet P a C K :=
  quiet_of_run _ (fun w hw => by
    unfold execOp
    simp only [ho, hx, Instr.loadAt, Instr.sureAddr, Sem.run_bind, Sem.run_pure, Result.andThen_ok, run_loadVar_mid w b o ty cs d (hS w hw) hu hd hi]) h
theorem blkB {W : World} {k R : Nat} {ob : Obj} (h : W.heap[k]? = some ob) (hne : k ≠ R) (d : Nat) (os : Array Obj) (o : Obj) : (setO (Go.Sort.grow (redrawn W d) os) R o).heap[k]? = some ob := by
  have hlt := Zz0 h
  simp only [setO, Go.Sort.grow, redrawn]
  rw [Array.getElem?_setIfInBounds, if_neg (fun e => hne e.symm), Array.getElem?_append_left hlt]
  exact h
open Go Go.Maps Go.WideShapes Go.MapKept Go.RowKit
open Go.WideElems (Fit rd rg pl rd_val elemAt)
noncomputable def upd (f : Lit → Option Value) (kl : Lit) (v : Option Value) : Lit → Option Value := fun x => @ite _ (x = kl) (Classical.propDecidable _) v (f x)
theorem upd_same (f : Lit → Option Value) (kl : Lit) (v : Option Value) : upd f kl v kl = v := if_pos rfl
theorem upd_other (f : Lit → Option Value) {x kl : Lit} (h : x ≠ kl) (v : Option Value) : upd f kl v x = f x := if_neg h
def heldE : Value → Option (DataW Value × List MemPlace) := fun v => some (.held v, [])
def MapIs (P : Program) (k : TypeId) (w : World) (b c : Nat) (f : Lit → Option Value) : Prop :=
  ∃ D, w.ownsMap P k heldE b c D ∧ Maps.size D = c ∧ ∀ kl, WideAt.IsKeyLit kl → ∀ z, D.atKey kl z = (match f kl with | some v => .held v | none => z)
theorem owns_tight {P : Program} {k : TypeId} {w : World} {b n : Nat} {D : DataW Value} (h : w.ownsMap P k heldE b n D) : w.ownsMap P k heldE b (Maps.size D) D := by
  obtain ⟨es, clock, hb, F, hs, rfl⟩ := h
  exact ⟨es, clock, hb, F, by simp [Maps.size, length_sorted], rfl⟩
section
variable {P : Program} {k : TypeId} {w : World} {b c : Nat} {f : Lit → Option Value}
theorem mapIs_made (P : Program) (k : TypeId) (w : World) : MapIs P k (w.alloc (.map #[] 0)) w.heap.size 0 (fun _ => none) :=
  ⟨.map [], World.ownsMap_made _ _ _ _, rfl, fun _ _ _ => rfl⟩
theorem MapIs.lt (h : MapIs P k w b c f) : b < w.heap.size := by
  obtain ⟨D, h1, _⟩ := h
  exact h1.lt
theorem MapIs.alloc (h : MapIs P k w b c f) (o : Obj) : MapIs P k (w.alloc o) b c f := by
  obtain ⟨D, h1, h2⟩ := h
  exact ⟨D, h1.alloc o, h2⟩
theorem MapIs.drew (h : MapIs P k w b c f) : MapIs P k w.drew b c f := by
  obtain ⟨D, h1, h2⟩ := h
  exact ⟨D, h1.drew, h2⟩
theorem MapIs.of_block {w' : World} (h : MapIs P k w b c f) (hb : w'.heap[b]? = w.heap[b]?) : MapIs P k w' b c f := by
  obtain ⟨D, ⟨es, clock, hbl, F, hs, hD⟩, h2⟩ := h
  exact ⟨D, ⟨es, clock, hb.trans hbl, F, hs, hD⟩, h2⟩
theorem MapIs.setCell (h : MapIs P k w b c f) {a : Addr} (ha : b ≠ a.block) (u : Value) : MapIs P k (w.setCell a u) b c f := by
  obtain ⟨D, h1, h2⟩ := h
  exact ⟨D, h1.setCell ha u, h2⟩
theorem MapIs.below {B : Nat} {w' : World} (h : MapIs P k w b c f) (hb : Below B w w') (hlt : b < B) : MapIs P k w' b c f :=
  h.of_block (hb.block b hlt)
theorem MapIs.look {t e : TypeId} (h : MapIs P k w b c f) (K : Keyed P k) (ht : P.underlying t = some (.map k e)) {z : Value} (hz : (zeroValue e).run P w = .ok z w)
    {key : Value} {kl : Lit} (hkey : keyOf P k key = some kl) : (Instr.lookup t (.map (some b)) key false).run P w = .ok ((f kl).getD z) w := by
  obtain ⟨D, h1, _, h3⟩ := h
  obtain ⟨v, ps, hrun, hv⟩ := h1.lookup K ht hz (zd := .held z) (zp := []) rfl hkey
  rw [h3 kl (K.key hkey)] at hv
  rw [hrun]
  cases hf : f kl with
  | none => rw [hf] at hv; simp [heldE] at hv; rw [hv.1]; rfl
  | some x => rw [hf] at hv; simp [heldE] at hv; rw [hv.1]; rfl
theorem MapIs.has {kl : Lit} {D : DataW Value} (h3 : ∀ z, D.atKey kl z = (match f kl with | some v => .held v | none => z)) : Maps.has D kl = (f kl).isSome := by
  cases hf : f kl with
  | none => rw [hf] at h3; exact has_false_of_atKey h3
  | some x => rw [hf] at h3; exact has_true_of_atKey h3
theorem MapIs.look_ok {t e : TypeId} (h : MapIs P k w b c f) (K : Keyed P k) (ht : P.underlying t = some (.map k e)) {z : Value} (hz : (zeroValue e).run P w = .ok z w)
    {key : Value} {kl : Lit} (hkey : keyOf P k key = some kl) : (Instr.lookup t (.map (some b)) key true).run P w = .ok (.tuple #[(f kl).getD z, .bool (f kl).isSome]) w := by
  obtain ⟨D, h1, _, h3⟩ := h
  obtain ⟨v, ps, hrun, hv⟩ := h1.look_ok K ht hz (zd := .held z) (zp := []) rfl hkey
  rw [MapIs.has (h3 kl (K.key hkey))] at hrun
  rw [h3 kl (K.key hkey)] at hv
  rw [hrun]
  cases hf : f kl with
  | none => rw [hf] at hv; simp [heldE] at hv; rw [hv.1]; rfl
  | some x => rw [hf] at hv; simp [heldE] at hv; rw [hv.1]; rfl
theorem MapIs.store {t e : TypeId} (h : MapIs P k w b c f) (K : Keyed P k) (ht : P.underlying t = some (.map k e)) (hc : c < maxLen) {key : Value} (val : Value) {kl : Lit} (hkey : keyOf P k key = some kl) :
    ∃ w', (Instr.mapUpdate t (.map (some b)) key val).run P w = .ok () w' ∧ MapIs P k w' b (if (f kl).isSome then c else c + 1) (upd f kl (some val)) ∧ w.mapTurned w' b := by
  obtain ⟨D, h1, h2, h3⟩ := h
  obtain ⟨w', hrun, h4, h5⟩ := h1.store K ht hc hkey (val := val) (d := .held val) (ps := []) rfl
  have hs : Maps.size (D.put kl (.held val)) = if (f kl).isSome then c else c + 1 := by
    rw [size_put (h1.tidy K), MapIs.has (h3 kl (K.key hkey)), h2]
  refine ⟨w', hrun, ⟨_, ?_, hs, fun x hx z => ?_⟩, h5⟩
  · rw [← hs]; exact owns_tight h4
  · by_cases e : x = kl
    · subst e
      rw [atKey_put_same h1.isMap hx, upd_same]
    · rw [atKey_put_other e, h3 x hx, upd_other _ e]
end
theorem wpList_look_is {P : Program} (w : World) {ops : Array Oper} {rest : List Oper} {o : Oper} {a : Act} {Q : Exit → Act → World → Prop}
    (hg : o.guard = none) (m x : Operand) (t : TypeId) (hop : o.op = Op.lookup t m x false)
    (k e : TypeId) (K : Keyed P k) (ht : P.underlying t = some (.map k e)) (z : Value) (hz : (zeroValue e).run P w = .ok z w) (b c : Nat) (f : Lit → Option Value)
    (hm : a.eval m = .map (some b)) (hown : MapIs P k w b c f) (key : Value) (kl : Lit) (hx : a.eval x = key) (hkey : keyOf P k key = some kl)
    (hK : wpList P ops Q rest (a.put o.dst ((f kl).getD z)) w) : wpList P ops Q (o :: rest) a w := by
  refine wpList_plain hg fun K' hK' => ?_
  have hrun := hown.look K ht hz hkey
  unfold Oper.wp
  simp [execOp, hop, hm, hx, hrun, Result.andThen]
  exact hK' _ _ hK
theorem Zzc {P : Program} (w : World) {ops : Array Oper} {rest : List Oper} {o : Oper} {a : Act} {Q : Exit → Act → World → Prop}
    (hg : o.guard = none) (m x : Operand) (t : TypeId) (hop : o.op = Op.lookup t m x true)
    (k e : TypeId) (K : Keyed P k) (ht : P.underlying t = some (.map k e)) (z : Value) (hz : (zeroValue e).run P w = .ok z w) (b c : Nat) (f : Lit → Option Value)
    (hm : a.eval m = .map (some b)) (hown : MapIs P k w b c f) (key : Value) (kl : Lit) (hx : a.eval x = key) (hkey : keyOf P k key = some kl)
    (hK : wpList P ops Q rest (a.put o.dst (.tuple #[(f kl).getD z, .bool (f kl).isSome])) w) : wpList P ops Q (o :: rest) a w := by
  refine wpList_plain hg fun K' hK' => ?_
  have hrun := hown.look_ok K ht hz hkey
  unfold Oper.wp
  simp [execOp, hop, hm, hx, hrun, Result.andThen]
  exact hK' _ _ hK
theorem wpList_store_is {P : Program} (w : World) {ops : Array Oper} {rest : List Oper} {o : Oper} {a : Act} {Q : Exit → Act → World → Prop}
    (hg : o.guard = none) (m x v : Operand) (t : TypeId) (hop : o.op = Op.mapUpdate t m x v)
    (k e : TypeId) (K : Keyed P k) (ht : P.underlying t = some (.map k e)) (b c : Nat) (f : Lit → Option Value)
    (hm : a.eval m = .map (some b)) (hown : MapIs P k w b c f) (hc : c < maxLen) (key val : Value) (kl : Lit) (hx : a.eval x = key) (hv : a.eval v = val) (hkey : keyOf P k key = some kl)
    (hK : ∀ w', MapIs P k w' b (if (f kl).isSome then c else c + 1) (upd f kl (some val)) → w.mapTurned w' b → wpList P ops Q rest (a.put o.dst undef) w') : wpList P ops Q (o :: rest) a w := by
  refine wpList_plain hg fun K' hK' => ?_
  obtain ⟨w', hrun, r1, r2⟩ := hown.store K ht hc val hkey
  unfold Oper.wp
  simp [execOp, hop, hm, hx, hv, hrun, Result.andThen]
  exact hK' _ _ (hK w' r1 r2)
theorem wpList_len_is {P : Program} (w : World) {ops : Array Oper} {rest : List Oper} {o : Oper} {a : Act} {Q : Exit → Act → World → Prop}
    (hg : o.guard = none) (m : Operand) (t : TypeId) (hop : o.op = Op.call { callee := Callee.builtin Builtin.len, args := #[m], argTypes := #[t] })
    (k e : TypeId) (ht : P.underlying t = some (.map k e)) (b c : Nat) (f : Lit → Option Value) (hm : a.eval m = .map (some b)) (hown : MapIs P k w b c f)
    (hK : wpList P ops Q rest (a.put o.dst (.int .i64 c)) w) : wpList P ops Q (o :: rest) a w := by
  obtain ⟨D, h1, h2, _⟩ := hown
  exact wpList_len_own w hg m t hop k e ht heldE b c D hm h1 (by rw [h2]; exact hK)
open Go.RowKit Go.ChangeMaps Go.MapKept Go.Maps
structure Keeps (N : Nat → Prop) (w w' : World) : Prop where
  os : w'.os = w.os
  tape : w'.tape = w.tape
  output : w'.output = w.output
  size : w.heap.size ≤ w'.heap.size
  block : ∀ k, k < w.heap.size → N k → w'.heap[k]? = w.heap[k]?
theorem Keeps.refl (N : Nat → Prop) (w : World) : Keeps N w w := ⟨rfl, rfl, rfl, Nat.le_refl _, fun _ _ _ => rfl⟩
theorem Keeps.trans {N : Nat → Prop} {a b c : World} (h : Keeps N a b) (k : Keeps N b c) : Keeps N a c :=
  ⟨k.os.trans h.os, k.tape.trans h.tape, k.output.trans h.output, Nat.le_trans h.size k.size, fun i hi hn => (k.block i (Nat.lt_of_lt_of_le hi h.size) hn).trans (h.block i hi hn)⟩
theorem Keeps.mono {N N' : Nat → Prop} {a b : World} (h : Keeps N a b) (hn : ∀ k, k < a.heap.size → N' k → N k) : Keeps N' a b := ⟨h.os, h.tape, h.output, h.size, fun i hi hk => h.block i hi (hn i hi hk)⟩
theorem Keeps.of_below {N : Nat → Prop} {a b : World} (h : Below a.heap.size a b) : Keeps N a b := ⟨h.os, h.tape, h.output, h.size, fun i hi _ => h.block i hi⟩
theorem Keeps.of_grown {N : Nat → Prop} {a b : World} {row : Option Nat} (h : a.grownBy b row) (hr : ∀ k, row = some k → ¬ N k) : Keeps N a b :=
  ⟨h.os, h.tape, h.output, h.size, fun i hi hn => h.block i hi (fun e => hr i e.symm hn)⟩
theorem Keeps.of_turned {N : Nat → Prop} {a b : World} {m : Nat} (h : a.mapTurned b m) (hm : ¬ N m) : Keeps N a b :=
  by
  obtain ⟨es, cl, es', cl', hb, rfl⟩ := h
  exact ⟨rfl, rfl, rfl, by simp [setBlock], fun i _ hi => heap_setBlock_other hb _ (fun e => hm (by rw [← e]; exact hi))⟩
theorem Keeps.below {N : Nat → Prop} {a b : World} {B : Nat} (h : Keeps N a b) (hB : B ≤ a.heap.size) (hn : ∀ i, i < B → N i) : Below B a b :=
  ⟨h.os, h.tape, h.output, h.size, fun i hi => h.block i (Nat.lt_of_lt_of_le hi hB) (hn i hi)⟩
theorem Keeps.set {N : Nat → Prop} (w : World) (b i : Nat) (v : Value) (hb : ¬ N b) : Keeps N w (w.setCell ⟨b, i, none⟩ v) := Keeps.of_grown (Zz4 w b i v) (fun k hk => by cases hk; exact hb)
theorem Keeps.alloc (N : Nat → Prop) (w : World) (o : Obj) : Keeps N w (w.alloc o) := Keeps.of_below (bZ)
theorem Keeps.drew (N : Nat → Prop) (w : World) : Keeps N w w.drew := Keeps.of_below (Below.refl _ _).drew
theorem Keeps.blk {N : Nat → Prop} {a b : World} (h : Keeps N a b) {i : Nat} (hn : N i) {o : Obj} (hi : a.heap[i]? = some o) : b.heap[i]? = some o := (h.block i (Zz0 hi) hn).trans hi
theorem Keeps.map {N : Nat → Prop} {a b : World} (h : Keeps N a b) {P : Program} {k m c : Nat} {f : Lit → Option Value} (hn : N m) (hm : MapIs P k a m c f) : MapIs P k b m c f := hm.of_block (h.block m hm.lt hn)
theorem Xz5 {w w' : World} {base e s n : Nat} {v : Value} {xs : List Value} (h : w.ownsRow base e s v n xs) (hb : ∀ k, v.ownBlock = some k → w'.heap[k]? = w.heap[k]?) : w'.ownsRow base e s v n xs := by
  refine ⟨h.1, ?_⟩
  rcases h.2 with h1 | ⟨g, c, cur, hv, h1, hg, h2⟩
  · exact .inl h1
  · exact .inr ⟨g, c, cur, hv, h1, (hb g (by rw [hv]; rfl)).trans hg, h2⟩
theorem Keeps.own {N : Nat → Prop} {a b : World} (h : Keeps N a b) {base e s n : Nat} {v : Value} {xs : List Value} (ho : a.ownsRow base e s v n xs) (hn : ∀ k, v.ownBlock = some k → N k) : b.ownsRow base e s v n xs :=
  Xz5 ho (fun k hk => h.block k (ho.lt k hk).2 (hn k hk))
theorem Zze {w : World} {i j T U : Nat} {cs ds : Array Value} (hi : w.heap[i]? = some (.cells cs T)) (hj : w.heap[j]? = some (.cells ds U)) (h : T ≠ U) : i ≠ j := fun e => by
  subst e; rw [hi] at hj; simp only [Option.some.injEq, Obj.cells.injEq] at hj; exact h hj.2.1
theorem Vz5 {w : World} {i T e s n base k : Nat} {cs : Array Value} {v : Value} {xs : List Value} (hi : w.heap[i]? = some (.cells cs T)) (ho : w.ownsRow base e s v n xs) (h : T ≠ e) (hk : v.ownBlock = some k) : k ≠ i := fun e' => by
  subst e'
  rcases own_ne ho hi h with h1 | h1
  · rw [h1] at hk; cases hk
  · exact h1 hk
theorem Xz4 {P : Program} {w : World} {i T k m c : Nat} {cs : Array Value} {f : Lit → Option Value} (hi : w.heap[i]? = some (.cells cs T)) (hm : MapIs P k w m c f) : m ≠ i := fun e => by
  subst e
  obtain ⟨D, ⟨es, cl, hb, _⟩, _⟩ := hm
  rw [hb] at hi; cases hi
theorem heap3 (w : World) (a b c : Obj) :
    (((w.alloc a).alloc b).alloc c).heap[w.heap.size]? = some a ∧ (((w.alloc a).alloc b).alloc c).heap[w.heap.size + 1]? = some b ∧ (((w.alloc a).alloc b).alloc c).heap[w.heap.size + 1 + 1]? = some c := by
  have h0 := heap_alloc_new w a
  have h1 := heap_alloc_new (w.alloc a) b
  have h2 := heap_alloc_new ((w.alloc a).alloc b) c
  simp only [World.size_alloc] at h1 h2
  refine ⟨?_, ?_, h2⟩
  · rw [heap_alloc_old _ _ (by first | (simp; done) | (simp; omega)), heap_alloc_old _ _ (by simp), h0]
  · rw [heap_alloc_old _ _ (by simp), h1]
open Go.RowKit Go.ChangeMaps Go.MapKept Go.Maps
open Go.WideElems (Fit rd rg pl rd_val elemAt)
theorem run_clear_is {P : Program} {k t e : TypeId} {w : World} {b c : Nat} {f : Lit → Option Value} (ht : P.underlying t = some (.map k e)) (h : MapIs P k w b c f) (ty : TypeId) :
    ∃ w', (Builtin.clear_ #[t] ty #[.map (some b)]).run P w = .ok (.tuple #[]) w' ∧ MapIs P k w' b 0 (fun _ => none) ∧ w.mapTurned w' b := by
  obtain ⟨D, ⟨es, clock, hb, F, hs, hD⟩, _⟩ := h
  refine ⟨setBlock w b (.map #[] clock), ?_, ⟨.map [], ⟨#[], clock, heap_setBlock_same hb _, ⟨by simp, stamped_empty clock, by simp⟩, Nat.le_refl _, rfl⟩, rfl, fun _ _ _ => rfl⟩, ⟨es, clock, #[], clock, hb, rfl⟩⟩
  simp [Builtin.clear_, run_underlying ht, MapKept.run_getObj_map hb, MapKept.run_setObj_map _ hb, Result.andThen, setBlock]
theorem wpList_clear_is {P : Program} (w : World) {ops : Array Oper} {rest : List Oper} {o : Oper} {a : Act} {Q : Exit → Act → World → Prop}
    (hg : o.guard = none) (m : Operand) (t : TypeId) (hop : o.op = Op.call { callee := Callee.builtin Builtin.clear, args := #[m], argTypes := #[t] })
    (k e : TypeId) (ht : P.underlying t = some (.map k e)) (b c : Nat) (f : Lit → Option Value) (hm : a.eval m = .map (some b)) (hown : MapIs P k w b c f)
    (hK : ∀ w', MapIs P k w' b 0 (fun _ => none) → w.mapTurned w' b → wpList P ops Q rest (a.put o.dst (.tuple #[])) w') : wpList P ops Q (o :: rest) a w := by
  refine wpList_plain hg fun K' hK' => ?_
  obtain ⟨w', hrun, r1, r2⟩ := run_clear_is ht hown o.type
  unfold Oper.wp
  simp [execOp, hop, resolve, invoke, builtin, hm, hrun, Result.andThen]
  exact hK' _ _ (hK w' r1 r2)
theorem Jz7 (b : Nat) : ∀ (vs : List Value) (o : Nat) (w : World), w.grownBy (w.setCells b o vs) (some b)
  | [], o, w => Zz2 (Below.refl _ _) _
  | v :: vs, o, w => Xz2 (Zz4 w b o v) (Jz7 b vs (o + 1) _)
theorem setCells_blk (b : Nat) : ∀ (vs : List Value) (k o : Nat) (w : World) (cs : Array Value) (T : Nat), w.heap[b]? = some (.cells cs T) →
    (w.setCells b (o + k) vs).heap[b]? = some (.cells ((vs.zipIdx k).foldl (fun cs (x : Value × Nat) => cs.setIfInBounds (o + x.2) x.1) cs) T)
  | [], k, o, w, cs, T, h => h
  | v :: vs, k, o, w, cs, T, h => by
    have ih := setCells_blk b vs (k + 1) o (w.setCell ⟨b, o + k, none⟩ v) (cs.setIfInBounds (o + k) v) T (Xz3 h v)
    rw [List.zipIdx_cons, List.foldl_cons]
    exact ih
theorem Qzb {b o T : Nat} {vs : List Value} {w : World} {cs : List Value} (h : w.heap[b]? = some (.cells cs.toArray T)) (hs : o + vs.length ≤ cs.length) :
    (w.setCells b o vs).heap[b]? = some (.cells (cs.take o ++ (vs ++ cs.drop (o + vs.length))).toArray T) := by
  have h1 := setCells_blk b vs 0 o w cs.toArray T h
  rw [Nat.add_zero] at h1
  rw [h1]
  congr 2
  apply Array.ext'
  have := fold_set o vs 0 cs.toArray (by simpa using hs)
  simpa using this
theorem flat_set : ∀ (l : List (List Int)) (i : Nat) (p : List Int), (∀ q ∈ l, q.length = 64) → i < l.length → p.length = 64 → (l.set i p).flatten = l.flatten.take (i * 64) ++ (p ++ l.flatten.drop (i * 64 + 64))
  | [], i, p, _, h, _ => by simp at h
  | q :: l, 0, p, h, _, hp => by
    have hq := h q (by simp)
    simp only [List.set_cons_zero, List.flatten_cons, Nat.zero_mul, List.take_zero, List.nil_append, Nat.zero_add]
    rw [List.drop_append_of_le_length (by omega), List.drop_of_length_le (by omega), List.nil_append]
  | q :: l, i + 1, p, h, hi, hp => by
    have hq := h q (by simp)
    have ih := flat_set l i p (fun x hx => h x (by simp [hx])) (by simpa using hi) hp
    simp only [List.set_cons_succ, List.flatten_cons]
    rw [ih, show (i + 1) * 64 = q.length + i * 64 by omega, List.take_length_add_append, show q.length + i * 64 + 64 = q.length + (i * 64 + 64) by omega, List.drop_length_add_append]
    simp
open Go.RowKit
theorem run_append_at {P : Program} (w : World) (t ty e : TypeId) (i : TypeInfo) (z : Value) (size bytes : Nat) (ht : P.underlying t = some (.slice e)) (hi : P.info? e = some i) (hz : i.zero = some z)
    (hsize : i.size = size) (hby : i.bytes = bytes) (hzs : z.cells.size = size) (hsz : 0 < size)
    (v : Value) (n : Nat) (xs : List Value) (hown : w.ownsRow 0 e size v n xs)
    (a : Addr) (m c : Nat) (news : List Value) (hl : news.length = m * size) (hnews : ∀ j u, news[j]? = some u → w.cell? (a.add j) = some u) (h1 : ∀ u ∈ news, u.oneCell' = true)
    (h63 : n + m ≤ maxLen) (hbytes : (n + m) * bytes ≤ 140737488355328) :
    ∃ v' w', (Builtin.append_ #[t, t] ty #[v, .slice (some a) m c]).run P w = .ok v' w' ∧ w'.ownsRow 0 e size v' (n + m) (xs ++ news) ∧ w.grownBy w' v.ownBlock ∧ (∀ k, v'.ownBlock = some k → v.ownBlock = some k ∨ w.heap.size ≤ k) := by
  obtain ⟨v', w', hr, h2, h3, _⟩ := run_append_own (P := P) w 0 t ty e i z size bytes ht hi hz hsize hby hzs hsz v n xs hown a m c news hl hnews h1 h63 hbytes (Nat.zero_le _)
  refine ⟨v', w', hr, h2, h3, fun k hk => ?_⟩
  rcases hown.2 with ⟨rfl, rfl⟩ | ⟨g, cap, cur, rfl, _, hg, hnc, hcm, hcs, htake⟩
  · right
    have hx : xs = [] := List.eq_nil_of_length_eq_zero (by simpa using hown.1)
    subst hx
    obtain ⟨v2, w2, hr2, g2, _, _⟩ := run_append_own (P := P) w w.heap.size t ty e i z size bytes ht hi hz hsize hby hzs hsz (.slice none 0 0) 0 [] (World.ownsRow_nil _ _ _ _) a m c news hl hnews h1 h63 hbytes (Nat.le_refl _)
    rw [hr] at hr2
    simp only [Result.ok.injEq] at hr2
    obtain ⟨rfl, rfl⟩ := hr2
    exact (g2.lt k hk).1
  · by_cases hroom : n + m ≤ cap
    · left
      subst hsize
      have hfit : n * i.size + news.length ≤ cur.size := by rw [hl, hcs, ← Nat.add_mul]; exact Nat.mul_le_mul_right _ hroom
      have hr2 := run_append_room (P := P) w t ty e i ht hi g n cap cur hg a m c news hl hnews h1 hroom hfit
      rw [hr] at hr2
      simp only [Result.ok.injEq] at hr2
      rw [hr2.1] at hk
      exact hk
    · right
      subst hsize
      subst hby
      have holds : ∀ j u, xs[j]? = some u → w.cell? ((⟨g, 0, none⟩ : Addr).add j) = some u := hown.cells (g := g) rfl
      have hr2 := run_append_grow (P := P) w t ty e i z ht hi hz ⟨g, 0, none⟩ n cap xs hown.1 holds a m c news hl hnews (by omega) (by simp only [maxLen] at h63; omega) (growslice_fits (by omega) hbytes)
      rw [hr] at hr2
      simp only [Result.ok.injEq] at hr2
      rw [hr2.1] at hk
      simp only [Value.ownBlock, Option.some.injEq] at hk
      omega
theorem Xz6 {P : Program} {ops : Array Oper} {rest : List Oper} {o : Oper} {a : Act} {w : World} {Q : Exit → Act → World → Prop}
    (hg : o.guard = none) (s x : Operand) (t : TypeId) (ho : o.op = Op.call { callee := Callee.builtin Builtin.append, args := #[s, x], argTypes := #[t, t] })
    (e : TypeId) (i : TypeInfo) (z : Value) (size bytes : Nat) (ht : P.underlying t = some (.slice e)) (hi : P.info? e = some i) (hz : i.zero = some z)
    (hsize : i.size = size) (hby : i.bytes = bytes) (hzs : z.cells.size = size) (hsz : 0 < size)
    (v : Value) (n : Nat) (xs : List Value) (hs : a.eval s = v) (hown : w.ownsRow 0 e size v n xs)
    (X : Value) (m : Nat) (news : List Value) (hx : a.eval x = X) (hX : SrcIs w X m size news)
    (h63 : n + m ≤ maxLen) (hbytes : (n + m) * bytes ≤ 140737488355328)
    (h : ∀ v' w', w'.ownsRow 0 e size v' (n + m) (xs ++ news) → w.grownBy w' v.ownBlock → (∀ k, v'.ownBlock = some k → v.ownBlock = some k ∨ w.heap.size ≤ k) → wpList P ops Q rest (a.put o.dst v') w') : wpList P ops Q (o :: rest) a w := by
  refine wpList_plain hg fun K hK => ?_
  rcases hX with ⟨rfl, rfl, rfl⟩ | ⟨ad, c, rfl, hl, hnews, h1⟩
  · have hrun := run_append_owned_none (P := P) (w := w) 0 t o.type e i size ht hi v n xs hown
    unfold Oper.wp
    simp [execOp, ho, resolve, invoke, builtin, hs, hx, hrun, Result.andThen]
    exact hK _ _ (h v w (by simpa using hown) ⟨rfl, rfl, rfl, Nat.le_refl _, fun _ _ _ => rfl⟩ (fun k hk => .inl hk))
  · obtain ⟨v', w', hr, h2, h3, h4⟩ := run_append_at (P := P) w t o.type e i z size bytes ht hi hz hsize hby hzs hsz v n xs hown ad m c news hl hnews h1 h63 hbytes
    unfold Oper.wp execOp
    simp only [ho, resolve, invoke, builtin, Sem.run_bind, Sem.run_pure, Result.andThen_ok, List.map_toArray, List.map_cons, List.map_nil, hs, hx, hr]
    exact hK _ _ (h v' w' h2 h3 h4)
open Go.RowKit
theorem tail_cut {T G : Prop} (main : T → G) (tail : T) : G := main tail
open Go Go.Maps Go.WideShapes Go.MapKept Go.RowKit
def MapR (P : Program) (k : TypeId) (w : World) (b r c : Nat) (f : Lit → Option Value) (left : Lit → Bool) (cnt : Nat) : Prop :=
  ∃ D, w.ranges P k heldE b r c D left cnt ∧ Maps.size D = c ∧ ∀ kl, WideAt.IsKeyLit kl → ∀ z, D.atKey kl z = (match f kl with | some v => .held v | none => z)
section
variable {P : Program} {k : TypeId} {w : World} {b r c cnt : Nat} {f : Lit → Option Value} {left : Lit → Bool}
theorem MapR.left_eq (h : MapR P k w b r c f left cnt) : w.rangeLeft b r = cnt := by
  obtain ⟨D, h1, _⟩ := h
  exact h1.left_eq
theorem MapR.lt (h : MapR P k w b r c f left cnt) : r < w.heap.size := by
  obtain ⟨D, h1, _⟩ := h
  exact h1.lt
theorem MapR.kept {w' : World} (h : MapR P k w b r c f left cnt) (hb : w'.heap[b]? = w.heap[b]?) (hr : w'.heap[r]? = w.heap[r]?) : MapR P k w' b r c f left cnt := by
  obtain ⟨D, ⟨es, clock, since, seen, c0, q1, F, hs, hD, q2, rest⟩, h2⟩ := h
  exact ⟨D, ⟨es, clock, since, seen, c0, hb.trans q1, F, hs, hD, hr.trans q2, rest⟩, h2⟩
theorem MapR.iter (h : MapR P k w b r c f left cnt) : ∃ m s seen c0, w.heap[r]? = some (.mapIter m s seen c0) := by
  obtain ⟨D, ⟨es, clock, since, seen, c0, q1, F, hs, hD, q2, rest⟩, h2⟩ := h
  exact ⟨_, _, _, _, q2⟩
end
theorem wpList_range_is {P : Program} (w : World) {ops : Array Oper} {rest : List Oper} {o : Oper} {a : Act} {Q : Exit → Act → World → Prop} (hg : o.guard = none) (m : Operand) (t : TypeId) (hop : o.op = Op.range t m) (k e : TypeId) (K : Keyed P k) (ht : P.underlying t = some (.map k e)) (b c : Nat) (f : Lit → Option Value)
    (hm : a.eval m = .map (some b)) (hown : MapIs P k w b c f)
    (hK : ∀ w' left, MapR P k w' b w.heap.size c f left c → (∀ kl, WideAt.IsKeyLit kl → left kl = (f kl).isSome) → Below w.heap.size w w' → wpList P ops Q rest (a.put o.dst (.pointer (some ⟨w.heap.size, 0, none⟩))) w') :
    wpList P ops Q (o :: rest) a w := by
  obtain ⟨D, h1, h2, h3⟩ := hown
  refine wpList_range_own w hg m t hop k e K ht heldE b c D hm h1 (fun w' r1 r2 r3 => ?_)
  rw [h2] at r1
  exact hK w' _ ⟨D, r1, h2, h3⟩ (fun kl hkl => MapIs.has (h3 kl hkl)) ⟨r2.os, r2.tape, r2.output, r2.size, fun i hi => r2.block i hi (by simp)⟩
theorem wpList_next_is {P : Program} (w : World) {ops : Array Oper} {rest : List Oper} {o : Oper} {a : Act} {Q : Exit → Act → World → Prop} (hg : o.guard = none) (it : Operand) (hop : o.op = Op.next it false) (k : TypeId) (qk : IntKind) (K : Keyed P k) (hk : P.underlying k = some (.int qk))
    (b r c : Nat) (f : Lit → Option Value) (left : Lit → Bool) (cnt : Nat) (hit : a.eval it = .pointer (some ⟨r, 0, none⟩)) (h : MapR P k w b r c f left cnt)
    (hDone : (∀ kl, left kl = false) → wpList P ops Q rest (a.put o.dst (.tuple #[.bool false])) w)
    (hMore : ∀ (x : Int) (v : Value) (w' : World) (cnt' : Nat), keyOf P k (.int qk x) = some (.int qk x) → left (.int qk x) = true → f (.int qk x) = some v → MapR P k w' b r c f (fun z => left z && !z.sameKey (.int qk x)) cnt' → cnt' < cnt →
      w.grownBy w' (some r) → w'.heap.size = w.heap.size → (Instr.entry (.pointer (some ⟨r, 0, none⟩))).run P w' = .ok (.tuple #[.int qk x, v]) w' → wpList P ops Q rest (a.put o.dst (.tuple #[.bool true, .int qk x, v])) w') :
    wpList P ops Q (o :: rest) a w := by
  obtain ⟨D, h1, h2, h3⟩ := h
  refine wpList_next_ranges w hg it hop k K heldE (Value.int qk) (fun v : Value => v) (fun key kl hkey => by obtain ⟨x, rfl, _⟩ := Maps.keyOf_int_inv hk hkey; exact ⟨x, rfl⟩) (fun v y _ => ⟨v, rfl⟩) b r c D left cnt hit h1 (fun _ hl => hDone hl) ?_
  intro x v kl y w' cnt' hkey hlk hv hat hrg hlt hgr hsz hen
  obtain ⟨x', ex, rfl, hwx⟩ := Maps.keyOf_int_inv hk hkey
  cases ex
  simp only [heldE, Option.some.injEq] at hv
  subst hv
  have hf : f (.int qk x) = some v := by
    have := h3 _ (K.key hkey)
    cases hfx : f (.int qk x) with
    | none =>
      rw [hfx] at this
      have q1 := hat (.held .nilIface)
      have q2 := hat (.held (.bool true))
      rw [this] at q1 q2
      rw [← q2] at q1
      cases q1
    | some u =>
      rw [hfx] at this
      have q1 := hat (.held .nilIface)
      rw [this] at q1
      simp only [DataW.held.injEq] at q1
      rw [q1]
  exact hMore x v w' cnt' hkey hlk hf ⟨D, hrg, h2, h3⟩ hlt hgr hsz hen
def Met (qk : IntKind) (f : Lit → Option Value) (left : Lit → Bool) (l : List Int) : Prop :=
  l.Nodup ∧ ∀ x, (Lit.int qk x).wf = true → (x ∈ l ↔ (f (.int qk x)).isSome = true ∧ left (.int qk x) = false)
theorem Met.start {qk : IntKind} {f : Lit → Option Value} {left : Lit → Bool} (h : ∀ kl, WideAt.IsKeyLit kl → left kl = (f kl).isSome) (hk : ∀ x, (Lit.int qk x).wf = true → WideAt.IsKeyLit (.int qk x)) : Met qk f left [] :=
  ⟨List.nodup_nil, fun x hx => by rw [h _ (hk x hx)]; cases f (.int qk x) <;> simp⟩
theorem sameKey_int (qk : IntKind) (x y : Int) : (Lit.int qk x).sameKey (.int qk y) = decide (x = y) := by
  by_cases h : x = y
  · subst h; simp [Lit.sameKey]
  · simp [Lit.sameKey, h]
theorem Met.step {qk : IntKind} {f : Lit → Option Value} {left : Lit → Bool} {l : List Int} {x : Int} {v : Value} (h : Met qk f left l) (hx : (Lit.int qk x).wf = true) (hl : left (.int qk x) = true) (hf : f (.int qk x) = some v) (hu : ∀ y ∈ l, (Lit.int qk y).wf = true) :
    Met qk f (fun z => left z && !z.sameKey (.int qk x)) (l ++ [x]) := by
  have hn : x ∉ l := fun hm => by have := ((h.2 x hx).1 hm).2; rw [hl] at this; cases this
  refine ⟨List.nodup_append.2 ⟨h.1, by simp, fun a ha b hb => by rw [List.mem_singleton] at hb; rintro rfl; exact hn (hb ▸ ha)⟩, fun y hy => ?_⟩
  rw [List.mem_append, List.mem_singleton, h.2 y hy]
  dsimp only
  rw [sameKey_int]
  by_cases e : y = x
  · subst e; simp [hf]
  · simp [e]
theorem keys_sorted {l : List Int} {p : Nat → Bool} {n : Nat} (hn : l.Nodup) (hm : ∀ x, x ∈ l ↔ ∃ i : Nat, x = i ∧ i < n ∧ p i = true) :
    (l.mergeSort fun x y => decide (x ≤ y)) = ((List.range n).filter p).map (fun i : Nat => (i : Int)) := by
  have h1 : (l.mergeSort fun x y => decide (x ≤ y)).Pairwise (fun x y => x ≤ y) := by
    have := List.pairwise_mergeSort (le := fun x y : Int => decide (x ≤ y)) (fun a b c hab hbc => by simp at *; omega) (fun a b => by simp; omega) l
    exact this.imp (fun h => by simpa using h)
  have h2 : (((List.range n).filter p).map (fun i : Nat => (i : Int))).Pairwise (fun x y => x < y) := by
    rw [List.pairwise_map]
    exact (List.pairwise_lt_range.filter p).imp (fun h => by omega)
  refine List.Perm.eq_of_pairwise (le := fun x y : Int => x ≤ y) (fun a b _ _ h h' => by omega) h1 (h2.imp (fun h => by omega)) ((List.mergeSort_perm _ _).trans ?_)
  refine (List.perm_ext_iff_of_nodup hn (h2.imp (fun h => by omega))).2 (fun x => ?_)
  rw [hm x]
  simp only [List.mem_map, List.mem_filter, List.mem_range]
  constructor
  · rintro ⟨i, rfl, h1, h2⟩; exact ⟨i, ⟨h1, h2⟩, rfl⟩
  · rintro ⟨i, ⟨h1, h2⟩, rfl⟩; exact ⟨i, rfl, h1, h2⟩
open Go.RowKit Go.Maps
theorem eqItems_u8 {P : Program} {e : TypeId} (he : P.plainKey e = true) (hu : P.underlying e = some (.int .u8)) (d : Nat) (w : World) (x y : List Int) (hl : x.length = y.length) : ∀ is : List Nat, (∀ i ∈ is, i < x.length) →
    (Op.eqItems (d + 1) e 1 (x.map (Value.int .u8)).toArray (y.map (Value.int .u8)).toArray is).run P w = .ok (is.all fun i => x.getD i 0 == y.getD i 0) w
  | [], _ => by simp [Op.eqItems]
  | i :: is, h => by
    have hi := h i (by simp)
    have hx : (x.map (Value.int IntKind.u8)).toArray[i * 1]? = some (.int .u8 (x.getD i 0)) := by simp [hi]
    have hy : (y.map (Value.int IntKind.u8)).toArray[i * 1]? = some (.int .u8 (y.getD i 0)) := by simp [hl ▸ hi]
    have ih := eqItems_u8 he hu d w x y hl is (fun j hj => h j (by simp [hj]))
    simp only [Op.eqItems, Sem.run_bind, run_part_plain w he hx, run_part_plain w he hy, Result.andThen_ok, run_equalIn_int w d e .u8 .u8 _ _ hu, List.all_cons]
    cases hb : (x.getD i 0 == y.getD i 0)
    · simp
    · simp [ih]
theorem run_eql_u8 {P : Program} {t e : TypeId} {n : Nat} {i : TypeInfo} (ht : P.underlying t = some (.array n e)) (hi : P.info? e = some i) (hc : P.cellsOf e = 1) (he : P.plainKey e = true) (hu : P.underlying e = some (.int .u8)) (w : World) (x y : List Int) (hx : x.length = n) (hy : y.length = n) :
    (binOp .eql t (.agg (x.map (Value.int .u8)).toArray) (.agg (y.map (Value.int .u8)).toArray)).run P w = .ok (.bool (decide (x = y))) w := by
  rw [run_eql_struct w, show (10000 : Nat) = 9999 + 1 from rfl, run_equalIn_array w 9999 _ _ ht hi, hc, show (9999 : Nat) = 9998 + 1 from rfl, eqItems_u8 he hu 9998 w x y (by omega) _ (fun i h => by rw [List.mem_range] at h; omega)]
  simp only [Result.andThen_ok]
  congr 2
  rw [Bool.eq_iff_iff, List.all_eq_true, decide_eq_true_iff]
  constructor
  · intro h
    refine List.ext_getElem (by omega) (fun i h1 h2 => ?_)
    have := h i (by rw [List.mem_range]; omega)
    simpa [h1, h2] using this
  · rintro rfl i _
    simp
theorem quiet_eql_to {P : Program} {op : Oper} {a : Act} {C : World → Prop} {K : Act → Prop} (t t2 : TypeId) (x y : Operand) (ho : op.op = .binOp .eql t x y t2) (xs ys : Array Value) (b : Bool)
    (hx : a.eval x = .agg xs) (hy : a.eval y = .agg ys) (hm : P.eqGuardType P.depth t = false) (hr : ∀ w, (binOp .eql t (.agg xs) (.agg ys)).run P w = .ok (.bool b) w) (h : K (a.put op.dst (.bool b))) : op.quiet P a C K :=
  quiet_of_run _ (fun w _ => by
    unfold execOp
    simp only [ho, hx, hy, Sem.run_bind, run_eqGuard_agg w .eql t x y xs ys hm, hr, Result.andThen_ok]
    rfl) h
end Go.Proofs.YtajmcplanlibnaaGreatDoor
