/- What an order makes of a table: how it lies in memory. -/
import Derived.Test.YtopakonpfbbldaaW6
import Derived.Test.YtopakonpfbbldaaLib4
import Derived.Test.YtopakonpfbbldaaMix2
namespace Go.Proofs.Ytopakonpfbbldaa
set_option linter.unusedSimpArgs false
set_option linter.unusedVariables false
open Go.RowKit

def ActPost (r : Tab × Int × List Int) (w : World) (e : Ending) (w' : World) : Prop :=
  ∃ a' cap' b c, e = .returned (.tuple #[.agg #[.int .u32 r.1.g, .slice a' r.1.ks.length cap', .int .i64 r.1.h, .int .i64 r.1.ty, .bool r.1.ap], .int .i64 r.2.1, .slice b r.2.2.length c]) ∧
    KeysIn w' a' r.1.ks ∧ (a' = none → cap' = 0) ∧ IntsIn w' b r.2.2 ∧ Below w.heap.size w w'

theorem own_none {w : World} {base e s n cap : Nat} {a : Option Addr} {xs : List Value} (h : w.ownsRow base e s (.slice a n cap) n xs) (ha : a = none) : cap = 0 := by
  rcases h.2 with ⟨hv, _⟩ | ⟨g, c, cur, hv, _⟩
  · simp only [Value.slice.injEq] at hv; exact hv.2.2
  · simp only [Value.slice.injEq] at hv; rw [ha] at hv; cases hv.1

theorem without_cell {B : Nat} {g h ty : Int} {ap : Bool} {ks : List (Int × Int)} {p : Int × Int → Bool} {w : World} {e : Ending} {w' : World} (hw : WithoutPost B g h ty ap ks p w e w') {c : Nat} {v : Value} (hne : c ≠ B) (hc : w.cell? ⟨c, 0, none⟩ = some v) : w'.cell? ⟨c, 0, none⟩ = some v := by
  obtain ⟨_, _, _, _, _, _, _, hg⟩ := hw
  exact hg.cell hc (by simpa using hne)

end Go.Proofs.Ytopakonpfbbldaa
