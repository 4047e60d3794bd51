/- What remove of the reference of layer 10 makes, whole. -/
import Derived.Test.YtopakonpfbbldaaR9
import Derived.Test.YtopakonpfbbldaaR8
import Derived.Test.YtopakonpfbbldaaR8d
import Derived.Test.YtopakonpfbbldaaW7a
namespace Go.Proofs.Ytopakonpfbbldaa
set_option linter.unusedSimpArgs false
set_option linter.unusedVariables false
open Go.RowKit

theorem rremove_any (t : Tab) (S : List Bool) (but : Int) (a : Option Addr) (cap : Nat) (w : World) (hlen : t.ks.length ≤ 9223372036854775807) (hS : S.length = 8) (hh : t.h < 8)
   (hk : KeysIn w a t.ks) :
    Calls Try.prog 38 #[.agg #[.int .u32 t.g, .slice a t.ks.length cap, .int .i64 t.h, .int .i64 t.ty, .bool t.ap], .agg (S.map Value.bool).toArray, .int .i64 but] w (RemPost (rremoveF t S but) w) := by
  cases g0 : decide (0 ≤ t.h) with
  | false => exact rrem_a t S but a cap w hlen hS hh hk g0
  | true =>
    cases g1 : ((rmvK S (keysF t.ks)).getD t.h.toNat 0 == 0) with
    | false => exact rrem_b t S but a cap w hlen hS hh hk g0 g1
    | true =>
      cases c7 : (t.ty == 7) with
      | true =>
        cases gl : regsF 0 (rmvK S (keysF t.ks)) with
        | nil => exact rrem_n0 t S but a cap w hlen hS hh hk g0 g1 gl c7
        | cons r0 l0 => exact rrem_c0 t S but a cap w hlen hS hh hk r0 l0 g0 g1 gl c7
      | false =>
        cases c8 : (t.ty == 8) with
        | false => exact rrem_d t S but a cap w hlen hS hh hk g0 g1 c7 c8
        | true =>
          cases gl : regsF 0 (rmvK S (keysF t.ks)) with
          | nil => exact rrem_n1 t S but a cap w hlen hS hh hk g0 g1 gl c7 c8
          | cons r0 l0 => exact rrem_c1 t S but a cap w hlen hS hh hk r0 l0 g0 g1 gl c7 c8

end Go.Proofs.Ytopakonpfbbldaa
