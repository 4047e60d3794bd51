/- What Same and Sound answer of one table. The list of registrations has a length that an int can tell. -/
import Derived.Test.YtopakonpfbbldaaR5
import Derived.Test.YtopakonpfbbldaaW2
import Derived.Test.YtopakonpfbbldaaFnsC
namespace Go.Proofs.Ytopakonpfbbldaa
set_option linter.unusedSimpArgs false
set_option linter.unusedVariables false
open Go.RowKit

theorem same_yes (t : Tab) (a b : Option Addr) (c d : Nat) (w : World) (hl : t.ks.length ≤ 9223372036854775807) (ha : KeysIn w a t.ks) (hb : KeysIn w b t.ks) :
    Calls Try.prog 17 #[.agg #[.int .u32 t.g, .slice a t.ks.length c, .int .i64 t.h, .int .i64 t.ty, .bool t.ap], .agg #[.int .u32 t.g, .slice b t.ks.length d, .int .i64 t.h, .int .i64 t.ty, .bool t.ap]] w fun e w' => e = .returned (.bool true) ∧ Below w.heap.size w w' := by
  have h0 := rSame_any t.g t.h t.ty t.ap a t.ks c t.g t.h t.ty t.ap b t.ks d w hl hl ha hb
  rw [show (t.g == t.g && t.h == t.h && t.ty == t.ty && t.ap == t.ap && t.ks == t.ks) = true by simp] at h0
  exact h0
theorem sound_yes (t : Tab) (a : Option Addr) (c : Nat) (w : World) (hl : t.ks.length ≤ 9223372036854775807) (ha : KeysIn w a t.ks) (hs : soundT t = true) :
    Calls Try.prog 19 #[.agg #[.int .u32 t.g, .slice a t.ks.length c, .int .i64 t.h, .int .i64 t.ty, .bool t.ap]] w fun e w' => e = .returned (.bool true) ∧ Below w.heap.size w w' := by
  have h0 := Sound_any t.g t.h t.ty t.ap a t.ks c w hl ha
  rw [show soundF t.ks t.h t.ty = true by rw [sound_same]; exact hs] at h0
  exact h0
end Go.Proofs.Ytopakonpfbbldaa
