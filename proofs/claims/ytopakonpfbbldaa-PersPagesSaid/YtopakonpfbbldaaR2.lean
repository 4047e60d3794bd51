/- What Sound, Holds, Bars of the reference of layer 10 answer. -/
import Derived.Test.YtopakonpfbbldaaR1
namespace Go.Proofs.Ytopakonpfbbldaa
set_option linter.unusedSimpArgs false
set_option linter.unusedVariables false
open Go.RowKit

theorem idx8 (l : List Int) (hl : l.length = 8) (n : Int) (h0 : 0 ≤ n) (h8 : n < 8) (w : World) : (Instr.index 57 (arr8 l) (.int .i64 n)).run Try.prog w = .ok (.int .u64 (l.getD n.toNat 0)) w := by
  obtain ⟨a, b, c, d, e, f, g, i, rfl⟩ := list8 l hl
  have : n = 0 ∨ n = 1 ∨ n = 2 ∨ n = 3 ∨ n = 4 ∨ n = 5 ∨ n = 6 ∨ n = 7 := by omega
  rcases this with rfl | rfl | rfl | rfl | rfl | rfl | rfl | rfl
  all_goals rfl

set_option maxRecDepth 100000 in
set_option maxHeartbeats 4000000 in
theorem rHolds_any (g h ty n : Int) (ap : Bool) (a : Option Addr) (ks : List (Int × Int)) (cap : Nat) (w : World) (hlen : ks.length ≤ 9223372036854775807)
   (hk : KeysIn w a ks) :
    Calls Try.prog 13 #[.agg #[.int .u32 g, .slice a ks.length cap, .int .i64 h, .int .i64 ty, .bool ap], .int .i64 n] w fun e w' => e = .returned (.bool (rholdsF ks h ty n)) ∧ Below w.heap.size w w' := by
  have HK := Lib.hid hk; clear hk
  by_cases hn : 0 ≤ n ∧ n < 8
  · obtain ⟨h0, h8⟩ := hn
    have hidx := fun w => idx8 (keysF ks) (keysF_length ks) n h0 h8 w
    go_enter Try.func13, Try.ntmps13
    go_wp2_with (first | (go_at_call 26; refine (keys_any _ _ _ _ _ _ _ _ hlen (HK.out.below (by repeat (first | with_reducible assumption | (with_reducible refine Below.setCell ?_ (by first | omega | (simp; done) | (simp; omega)) _) | (with_reducible refine Below.alloc ?_ (by first | omega | (simp; done) | (simp; omega)) _) | (with_reducible refine Below.drew ?_) | (with_reducible refine below_dN ?_ _) | with_reducible exact Below.refl _ _ | (with_reducible refine Below.trans ?_ (Below.mono (by assumption) (by first | omega | (simp; done) | (simp; omega)))))))).mono ?_; rintro e w1 ⟨rfl, hb⟩; obtain ⟨hc, hf, hz⟩ := bcell hb))
    all_goals go_ret
    all_goals refine ⟨?_, by repeat (first | with_reducible assumption | (with_reducible refine Below.setCell ?_ (by first | omega | (simp; done) | (simp; omega)) _) | (with_reducible refine Below.alloc ?_ (by first | omega | (simp; done) | (simp; omega)) _) | (with_reducible refine Below.drew ?_) | (with_reducible refine below_dN ?_ _) | with_reducible exact Below.refl _ _ | (with_reducible refine Below.trans ?_ (Below.mono (by assumption) (by first | omega | (simp; done) | (simp; omega)))))⟩
    all_goals first | (simp [rholdsF, *]; done) | (simp [rholdsF, *]; omega) | (simp_all [rholdsF]; done) | (simp_all [rholdsF]; omega)
  · have hn' : n < 0 ∨ 8 ≤ n := by omega
    rcases hn' with h0 | h0
    all_goals
      go_enter Try.func13, Try.ntmps13
      go_wp2
      go_ret
      refine ⟨?_, by repeat (first | with_reducible assumption | (with_reducible refine Below.setCell ?_ (by first | omega | (simp; done) | (simp; omega)) _) | (with_reducible refine Below.alloc ?_ (by first | omega | (simp; done) | (simp; omega)) _) | (with_reducible refine Below.drew ?_) | (with_reducible refine below_dN ?_ _) | with_reducible exact Below.refl _ _ | (with_reducible refine Below.trans ?_ (Below.mono (by assumption) (by first | omega | (simp; done) | (simp; omega)))))⟩
      first | (simp [rholdsF, *]; done) | (simp [rholdsF, *]; omega) | (simp [rholdsF]; omega)
end Go.Proofs.Ytopakonpfbbldaa
