/- What preempt of the reference of layer 10 names, step by step. No condition; no program is named. -/
import Derived.Test.YtopakonpfbbldaaFnsB
namespace Go.Proofs.Ytopakonpfbbldaa
set_option linter.unusedSimpArgs false
set_option linter.unusedVariables false
theorem rsome_append (tk : Bool) (n other : Int) : ∀ (i : Nat) (K L : List Int), rsome tk n other i (K ++ L) = rsome tk n other i K ++ rsome tk n other (i + K.length) L
  | i, [], L => by simp [rsome]
  | i, k :: l, L => by simp [rsome, rsome_append tk n other (i + 1) l L, Nat.add_assoc, Nat.add_comm 1]
theorem rsome_take (tk : Bool) (n other : Int) (K : List Int) (k : Nat) (hk : k < K.length) :
    rsome tk n other 0 (K.take (k + 1)) = rsome tk n other 0 (K.take k) ++ [if tk && (k : Int) == n then false else K[k] != 0 && (K[k] == other || tk && other == 0)] := by
  rw [List.take_succ_eq_append_getElem hk, rsome_append]
  simp [rsome, Nat.min_eq_left (Nat.le_of_lt hk)]
end Go.Proofs.Ytopakonpfbbldaa
