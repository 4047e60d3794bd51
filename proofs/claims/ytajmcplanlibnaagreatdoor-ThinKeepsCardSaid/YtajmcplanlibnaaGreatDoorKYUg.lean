/- A book in order, of which only harmless pages of the first 256 are under way. -/
import Derived.Test.YtajmcplanlibnaaGreatDoorKYVC
import Derived.Test.YtajmcplanlibnaaGreatDoorKYS2
import Derived.Test.YtajmcplanlibnaaGreatDoorKYM6
import Derived.Test.YtajmcplanlibnaaGreatDoorKYE4
set_option linter.unusedSimpArgs false
set_option linter.unusedVariables false
set_option linter.unnecessarySimpa false
namespace Go.Proofs.YtajmcplanlibnaaGreatDoor
open Go.RowKit Go.Maps
theorem wrOk_le {B : BookS} {k : Nat} (h : B.cnt ≤ k) (hk : k < 60) (i : Nat) (p : List Int) : WrOk B i p := .inr (.inr (by show B.cnt ≠ 60; omega))
theorem BookS.wrote_ok {B : BookS} (h : B.ok) {i : Nat} (hi : i < B.n) {p : List Int} (hp : PgOk p) : (B.wrote i p).ok := by
  unfold BookS.wrote
  split
  · exact ⟨h.size, h.n, h.room, h.gen, h.news, fun f hf => by cases hf; exact (BookS.f_map h).put hi hp, h.pl, h.num, h.last, h.used, h.disk⟩
  · exact ⟨h.size, h.n, h.room, h.gen, h.news, fun f hf => by cases hf; exact BookS.f_map h, h.pl, h.num, h.last, h.used, h.disk⟩
structure Geo where
  size : Nat
  n : Nat
  S : Nat
  db : Nat
  fs : Nat
open Go.RowKit Go.Maps
abbrev En := List Int × Int × Int
def EnOk (e : En) : Prop := (e.1.length = 32 ∧ U8s e.1) ∧ (0 ≤ e.2.1 ∧ e.2.1 < 256) ∧ 1 ≤ e.2.2 ∧ e.2.2 ≤ 15
def pgE : Option En → List Int
  | none => zer 64
  | some e => setP e.1 e.2.1 e.2.2
def setM (M : Nat → Option En) (k : Nat) (e : Option En) : Nat → Option En := fun p => if p = k then e else M p
section
variable {fs : Nat} {B : BookS} {n : Nat} {M : Nat → Option En}
def fQ (M : Nat → Option En) (d : List Int) (p : Nat) : Bool := match M p with
  | none => false
  | some e => decide (e.1 = d) && decide (e.2.2 < 15)
def cntM (M : Nat → Option En) (n : Nat) : Nat := ((List.range n).filter fun p => (M p).isSome).length
theorem cntM_le (M : Nat → Option En) (n : Nat) : cntM M n ≤ n := by
  have := List.length_filter_le (fun p => (M p).isSome) (List.range n)
  rwa [List.length_range] at this
theorem cntM_set (M : Nat → Option En) (n k : Nat) (e : Option En) (hk : k < n) : cntM (setM M k e) n + (if (M k).isSome then 1 else 0) = cntM M n + (if e.isSome then 1 else 0) := by
  unfold cntM
  have key : ∀ m, ((List.range m).filter fun p => (setM M k e p).isSome).length + (if k < m ∧ (M k).isSome = true then 1 else 0) = ((List.range m).filter fun p => (M p).isSome).length + (if k < m ∧ e.isSome = true then 1 else 0) := by
    intro m
    induction m with
    | zero => simp
    | succ m ih =>
      rw [List.range_succ, List.filter_append, List.filter_append, List.length_append, List.length_append]
      by_cases em : m = k
      · subst em
        have h1 : setM M m e m = e := by unfold setM; rw [if_pos rfl]
        cases he : e.isSome <;> cases hm : (M m).isSome <;> simp [h1, he, hm] at ih ⊢ <;> omega
      · have h1 : setM M k e m = M m := by unfold setM; rw [if_neg em]
        have h2 : (k < m + 1) ↔ k < m := by omega
        cases hm : (M m).isSome <;> simp [h1, hm, h2] at ih ⊢ <;> omega
  have := key n
  simpa [hk] using this
end
open Go.RowKit Go.Maps
section
variable {ops : Array Oper} {rest : List Oper} {o : Oper} {a : Act} {w : World} {Q : Exit → Act → World → Prop}
theorem ent_fr {w : World} {B T : Nat} {cs : Array Value} (h : w.heap[B]? = some (.cells cs T)) (i : Nat) : w.frozen? ⟨B, i, none⟩ = false := by
  simp [World.frozen?, h]
theorem set_tail2 (l : List Value) (a b c : Value) (h : l.length = 32) : ((l ++ [a, b]).toArray).setIfInBounds 33 c = (l ++ [a, c]).toArray := by
  rw [List.setIfInBounds_toArray]
  congr 1
  rw [List.set_append_right _ _ (by omega), h]
  rfl
theorem ent_rf_set {w : World} {B T : Nat} {dg : List Int} {sl rf : Int} (hl : dg.length = 32) (h : w.heap[B]? = some (.cells (entC dg sl rf) T)) (r : Int) : (w.setCell ⟨B, 33, none⟩ (.int .i64 r)).heap[B]? = some (.cells (entC dg sl r) T) := by
  have hv : (v8 dg).length = 32 := by rw [Wz0, hl]
  have e : (entC dg sl rf).setIfInBounds 33 (.int .i64 r) = entC dg sl r := set_tail2 (v8 dg) _ _ _ hv
  rw [Xz3 h, e]
end
end Go.Proofs.YtajmcplanlibnaaGreatDoor
