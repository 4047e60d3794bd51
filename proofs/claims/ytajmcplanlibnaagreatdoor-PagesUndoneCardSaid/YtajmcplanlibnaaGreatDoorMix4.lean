/- A region that draws its order: what only reads, and one operation behind all of it. No condition; no program is named. -/
import Derived.Test.YtajmcplanlibnaaGreatDoorMix3
namespace Go.Proofs.YtajmcplanlibnaaGreatDoor
set_option linter.unusedSimpArgs false
set_option linter.unusedVariables false
open Go.RowKit
section
variable {P : Program} {Q : Exit → Act → World → Prop} {S : World → Prop}
theorem quiet_append {ops : Array Oper} {C : World → Prop} {K : Act → Prop} : ∀ (l1 l2 : List Oper) (a : Act), wpQuiet P ops C K (l1 ++ l2) a = wpQuiet P ops C (wpQuiet P ops C K l2) l1 a
  | [], _, _ => rfl
  | o :: l1, l2, a => by
    have e : wpQuiet P ops C K (l1 ++ l2) = wpQuiet P ops C (wpQuiet P ops C K l2) l1 := funext (quiet_append l1 l2)
    simp only [List.cons_append, wpQuiet, e]
theorem quiet_imp {ops : Array Oper} {C : World → Prop} {K K' : Act → Prop} (h : ∀ a, K a → K' a) : ∀ (l : List Oper) (a : Act), wpQuiet P ops C K l a → wpQuiet P ops C K' l a
  | [], a, hh => h a hh
  | o :: l, a, hh => by
    unfold wpQuiet at hh ⊢
    split
    · rename_i hw
      rw [if_pos hw] at hh
      exact Oper.quiet_mono (quiet_imp h l) hh
    · rename_i hw
      rw [if_neg hw] at hh
      exact quiet_imp h l _ hh
/-- i, i + 1, .., each quiet; then the last one. -/
def firstN : Nat → Nat → List (Nat × Bool)
  | i, 0 => [(i, false)]
  | i, k + 1 => (i, true) :: firstN (i + 1) k
theorem mix_of_quiet {l : List Oper} {last : Nat} {w : World} : ∀ (k i : Nat) (a : Act), i + k < l.length →
    wpQuiet P l.toArray S (fun a' => wpMix P l S Q last [(i + k, false)] a' w) ((l.drop i).take k) a → wpMix P l S Q last (firstN i k) a w
  | 0, i, a, _, h => by simpa [firstN, wpQuiet] using h
  | k + 1, i, a, hl, h => by
    unfold firstN
    refine mix_q ?_
    have hi : i < l.length := by omega
    have e : (l.drop i).take (k + 1) = (l.drop i).take 1 ++ (l.drop (i + 1)).take k := by
      rw [List.drop_eq_getElem_cons hi]; rfl
    rw [e, quiet_append] at h
    refine quiet_imp (fun a' h' => mix_of_quiet k (i + 1) a' (by omega) ?_) _ _ h
    rw [show i + 1 + k = i + (k + 1) by omega]
    exact h'
theorem wp_region_qlast {id : Nat} {a : Act} {w : World} {l : List Oper} (n : Nat) (S : World → Prop) (hm : P.follows .mixedOrders = true)
    (hB : (mixB .any l.toArray (firstN 0 n) (Array.replicate l.length false) && lastB .any l.toArray n && Region.noSelect l.toArray && (firstN 0 n).length == l.length && decide (n < l.length)) = true)
    (hQ : ∀ c a d v w, Q (.panic c) (Act.put a d v) w → Q (.panic c) a w) (hS : S w.drew)
    (h : wpQuiet P l.toArray S (fun a' => wpMix P l S Q n [(n, false)] a' w.drew) (l.take n) a) : (Code.region id l.toArray true).wp P Q a w := by
  rw [Bool.and_eq_true] at hB
  refine wp_region_mix (firstN 0 n) n S hm hB.1 hQ hS (mix_of_quiet n 0 a (by simpa using hB.2) ?_)
  simpa using h
end
end Go.Proofs.YtajmcplanlibnaaGreatDoor
