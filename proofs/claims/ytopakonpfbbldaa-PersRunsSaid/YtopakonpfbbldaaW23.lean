/- What Act of layer 10 (pers) makes of a table. The list of registrations has at most a million entries. -/
import Derived.Test.YtopakonpfbbldaaW10
import Derived.Test.YtopakonpfbbldaaW11
import Derived.Test.YtopakonpfbbldaaW12
import Derived.Test.YtopakonpfbbldaaW13
import Derived.Test.YtopakonpfbbldaaW14
import Derived.Test.YtopakonpfbbldaaW15
import Derived.Test.YtopakonpfbbldaaW16
import Derived.Test.YtopakonpfbbldaaW17
import Derived.Test.YtopakonpfbbldaaW18
import Derived.Test.YtopakonpfbbldaaW19
import Derived.Test.YtopakonpfbbldaaW20
import Derived.Test.YtopakonpfbbldaaW21
import Derived.Test.YtopakonpfbbldaaW22
namespace Go.Proofs.Ytopakonpfbbldaa
set_option linter.unusedSimpArgs false
set_option linter.unusedVariables false
open Go.RowKit
theorem act_any (t : Tab) (n ac oty key other : Int) (oap : Bool) (aw : Option Addr) (cw : Nat) (w : World) (hlen : t.ks.length ≤ 1000000)
    (hkw : KeysIn w aw t.ks) (hnw : aw = none → cw = 0) :
    Calls Try.prog 16 #[.agg #[.int .u32 t.g, .slice aw t.ks.length cw, .int .i64 t.h, .int .i64 t.ty, .bool t.ap], .int .i64 n,
      .agg #[.int .i64 ac, .int .i64 oty, .int .u64 key, .int .u64 other, .bool oap]] w (ActPost (actF t n ac oty key other oap) w) := by
  by_cases hin : (decide (0 ≤ ac) && decide (ac ≤ 6)) = true
  · have hc : ac = 0 ∨ ac = 6 ∨ ac = 1 ∨ ac = 2 ∨ ac = 3 ∨ ac = 4 ∨ ac = 5 := by simp at hin; omega
    cases hr : (keyF t.ks n).2
    · rcases hc with rfl | rfl | rfl | rfl | rfl | rfl | rfl
      · cases hk : (key != 0)
        · cases ho : (other == 0)
          · cases hp : (putF t.ks n other).2
            · exact act0_b2 t n oty key other oap aw cw w hlen hkw hnw hr ho hp hk
            · exact act0_k2 t n oty key other oap aw cw w hlen hkw hnw hr ho hp hk
          · exact act0_n t n oty key other oap aw cw w hlen hkw hnw hr hk ho
        · exact act0_c2 t n oty key other oap aw cw w hlen hkw hnw hr hk
      · cases ho : (other == 0)
        · cases hp : (putF t.ks n other).2
          · exact act6_b2 t n oty key other oap aw cw w hlen hkw hnw hr ho hp
          · exact act6_k2 t n oty key other oap aw cw w hlen hkw hnw hr ho hp
        · exact act6_n t n oty key other oap aw cw w hlen hkw hnw hr ho
      · exact act1_c1 t n oty key other oap aw cw w hlen hkw hnw hr
      · exact act2_c1 t n oty key other oap aw cw w hlen hkw hnw hr
      · exact act3_c1 t n oty key other oap aw cw w hlen hkw hnw hr
      · exact act4_c1 t n oty key other oap aw cw w hlen hkw hnw hr
      · exact act5_c1 t n oty key other oap aw cw w hlen hkw hnw hr
    · rcases hc with rfl | rfl | hc
      · cases hk : (key != (keyF t.ks n).1)
        · cases ho : (other == 0)
          · cases hp : (putF t.ks n other).2
            · exact act0_b1 t n oty key other oap aw cw w hlen hkw hnw hr ho hp hk
            · exact act0_k1 t n oty key other oap aw cw w hlen hkw hnw hr ho hp hk
          · exact act0_z t n oty key other oap aw cw w hlen hkw hnw hr (by simpa using ho) hk
        · exact act0_c1 t n oty key other oap aw cw w hlen hkw hnw hr hk
      · cases ho : (other == 0)
        · cases hp : (putF t.ks n other).2
          · exact act6_b1 t n oty key other oap aw cw w hlen hkw hnw hr ho hp
          · exact act6_k1 t n oty key other oap aw cw w hlen hkw hnw hr ho hp
        · exact act6_z t n oty key other oap aw cw w hlen hkw hnw hr (by simpa using ho)
      · cases hk : (key != (keyF t.ks n).1)
        · rcases hc with rfl | rfl | rfl | rfl | rfl
          · cases h1 : knownF oty
            · exact act1_t t n oty key other oap aw cw w hlen hkw hnw hr hk h1
            · cases h2 : (t.ty == 0)
              · cases h3 : holdsF t.ks t.h t.ty n
                · exact act1_h t n oty key other oap aw cw w hlen hkw hnw hr hk h1 h2 h3
                · cases h4 : (t.ty != oty)
                  · exact act1_s t n oty key other oap aw cw w hlen hkw hnw hr hk h1 h2 h3 h4
                  · exact act1_d t n oty key other oap aw cw w hlen hkw hnw hr hk h1 h2 h3 h4
              · exact act1_f t n oty key other oap aw cw w hlen hkw hnw hr hk h1 h2
          · cases h2 : (t.ty == 0)
            · cases h3 : holdsF t.ks t.h t.ty n
              · exact act2_u2 t n oty key other oap aw cw w hlen hkw hnw hr hk h2 h3
              · cases h4 : (t.ty != oty)
                · exact act2_r t n oty key other oap aw cw w hlen hkw hnw hr hk h2 h3 h4
                · exact act2_d t n oty key other oap aw cw w hlen hkw hnw hr hk h2 h3 h4
            · exact act2_u1 t n oty key other oap aw cw w hlen hkw hnw hr hk h2
          · exact act3 t n oty key other oap aw cw w hlen hkw hnw hr hk
          · exact act4 t n oty key other oap aw cw w hlen hkw hnw hr hk
          · exact act5 t n oty key other oap aw cw w hlen hkw hnw hr hk
        · rcases hc with rfl | rfl | rfl | rfl | rfl
          · exact act1_c2 t n oty key other oap aw cw w hlen hkw hnw hr hk
          · exact act2_c2 t n oty key other oap aw cw w hlen hkw hnw hr hk
          · exact act3_c2 t n oty key other oap aw cw w hlen hkw hnw hr hk
          · exact act4_c2 t n oty key other oap aw cw w hlen hkw hnw hr hk
          · exact act5_c2 t n oty key other oap aw cw w hlen hkw hnw hr hk
  · exact act_no t n ac oty key other oap aw cw w hlen hkw hnw (by simpa using hin)
end Go.Proofs.Ytopakonpfbbldaa
