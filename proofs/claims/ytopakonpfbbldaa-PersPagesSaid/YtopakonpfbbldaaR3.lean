/- What Bars of the reference of layer 10 answers. -/
import Derived.Test.YtopakonpfbbldaaR2
namespace Go.Proofs.Ytopakonpfbbldaa
set_option linter.unusedSimpArgs false
set_option linter.unusedVariables false
open Go.RowKit

set_option maxRecDepth 100000 in
set_option maxHeartbeats 20000000 in
theorem rBars_any (g h ty n d : Int) (ap : Bool) (a : Option Addr) (ks : List (Int × Int)) (cap : Nat) (w : World) (hlen : ks.length ≤ 9223372036854775807)
   (hk : KeysIn w a ks) :
    Calls Try.prog 15 #[.agg #[.int .u32 g, .slice a ks.length cap, .int .i64 h, .int .i64 ty, .bool ap], .int .i64 n, .int .i64 d] w fun e w' => e = .returned (.bool (rbarsF ks h ty n d)) ∧ Below w.heap.size w w' := by
  have HK := Lib.hid hk; clear hk
  by_cases hn : 0 ≤ n ∧ n < 8
  · obtain ⟨h0, h8⟩ := hn
    have hidx := fun w => idx8 (keysF ks) (keysF_length ks) n h0 h8 w
    go_enter Try.func15, Try.ntmps15
    go_wp2_with (first | (go_at_call 13; refine (rHolds_any _ _ _ _ _ _ _ _ _ hlen (HK.out.below (by repeat (first | with_reducible assumption | (with_reducible refine Below.setCell ?_ (by first | omega | (simp; done) | (simp; omega)) _) | (with_reducible refine Below.alloc ?_ (by first | omega | (simp; done) | (simp; omega)) _) | (with_reducible refine Below.drew ?_) | (with_reducible refine below_dN ?_ _) | with_reducible exact Below.refl _ _ | (with_reducible refine Below.trans ?_ (Below.mono (by assumption) (by first | omega | (simp; done) | (simp; omega)))))))).mono ?_; rintro e w1 ⟨rfl, hb⟩; obtain ⟨hc, hf, hz⟩ := bcell hb) | (go_at_call 26; refine (keys_any _ _ _ _ _ _ _ _ hlen (HK.out.below (by repeat (first | with_reducible assumption | (with_reducible refine Below.setCell ?_ (by first | omega | (simp; done) | (simp; omega)) _) | (with_reducible refine Below.alloc ?_ (by first | omega | (simp; done) | (simp; omega)) _) | (with_reducible refine Below.drew ?_) | (with_reducible refine below_dN ?_ _) | with_reducible exact Below.refl _ _ | (with_reducible refine Below.trans ?_ (Below.mono (by assumption) (by first | omega | (simp; done) | (simp; omega)))))))).mono ?_; rintro e w2 ⟨rfl, hb2⟩; have hbt2 := Below.trans hb (Below.mono hb2 (by first | exact Below.size hb | omega | (have hs := Below.size hb; simp at hs; omega))); obtain ⟨hc2, hf2, hz2⟩ := bcell hbt2))
    all_goals go_ret
    all_goals refine ⟨?_, by repeat (first | with_reducible assumption | (with_reducible refine Below.setCell ?_ (by first | omega | (simp; done) | (simp; omega)) _) | (with_reducible refine Below.alloc ?_ (by first | omega | (simp; done) | (simp; omega)) _) | (with_reducible refine Below.drew ?_) | (with_reducible refine below_dN ?_ _) | with_reducible exact Below.refl _ _ | (with_reducible refine Below.trans ?_ (Below.mono (by assumption) (by first | omega | (simp; done) | (simp; omega)))))⟩
    all_goals (try clear hb hc hf hz HK)
    all_goals (try clear hb2 hbt2 hc2 hf2 hz2)
    all_goals first | (simp [rbarsF, *]; done) | (simp [rbarsF, *]; omega) | (simp_all [rbarsF]; done) | (simp_all [rbarsF]; omega)
  · have hn' : n < 0 ∨ 8 ≤ n := by omega
    rcases hn' with h0 | h0
    all_goals
      go_enter Try.func15, Try.ntmps15
      go_wp2_with (first | (go_at_call 13; refine (rHolds_any _ _ _ _ _ _ _ _ _ hlen (HK.out.below (by repeat (first | with_reducible assumption | (with_reducible refine Below.setCell ?_ (by first | omega | (simp; done) | (simp; omega)) _) | (with_reducible refine Below.alloc ?_ (by first | omega | (simp; done) | (simp; omega)) _) | (with_reducible refine Below.drew ?_) | (with_reducible refine below_dN ?_ _) | with_reducible exact Below.refl _ _ | (with_reducible refine Below.trans ?_ (Below.mono (by assumption) (by first | omega | (simp; done) | (simp; omega)))))))).mono ?_; rintro e w1 ⟨rfl, hb⟩; obtain ⟨hc, hf, hz⟩ := bcell hb))
      all_goals go_ret
      all_goals refine ⟨?_, by repeat (first | with_reducible assumption | (with_reducible refine Below.setCell ?_ (by first | omega | (simp; done) | (simp; omega)) _) | (with_reducible refine Below.alloc ?_ (by first | omega | (simp; done) | (simp; omega)) _) | (with_reducible refine Below.drew ?_) | (with_reducible refine below_dN ?_ _) | with_reducible exact Below.refl _ _ | (with_reducible refine Below.trans ?_ (Below.mono (by assumption) (by first | omega | (simp; done) | (simp; omega)))))⟩
      all_goals (try clear hb hc hf hz HK)
      all_goals first | (simp [rbarsF, *]; done) | (simp [rbarsF, *]; omega) | (simp_all [rbarsF]; done) | (simp_all [rbarsF]; omega)

end Go.Proofs.Ytopakonpfbbldaa
