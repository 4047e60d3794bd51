/- What the small functions of layer 10 (pers) answer. Each list of registrations has a length that an int can tell. -/
import Derived.Test.YtopakonpfbbldaaRows
import Derived.Test.YtopakonpfbbldaaLib
import Derived.Test.YtopakonpfbbldaaFns
import Derived.BigQuiet
namespace Go.Proofs.Ytopakonpfbbldaa
set_option linter.unusedSimpArgs false
set_option linter.unusedVariables false
open Go.RowKit

set_option maxRecDepth 100000 in
set_option maxHeartbeats 400000 in
theorem key_any (g h ty n : Int) (ap : Bool) (a : Option Addr) (ks : List (Int × Int)) (cap : Nat) (w : World) (hlen : ks.length ≤ 9223372036854775807)
   (hk : KeysIn w a ks) :
    Calls Try.prog 27 #[.agg #[.int .u32 g, .slice a ks.length cap, .int .i64 h, .int .i64 ty, .bool ap], .int .i64 n] w fun e w' => e = .returned (.tuple #[.int .u64 (keyF ks n).1, .bool (keyF ks n).2]) ∧ Below w.heap.size w w' := by
  have HK := Lib.hid hk; clear hk
  go_enter Try.func27, Try.ntmps27
  go_wp2
  go_loopw [11] (fun i wr => ∃ k : Nat, k ≤ ks.length ∧ i = .int .i64 k ∧ keyF ks n = keyF (ks.drop k) n ∧ w.heap.size < wr.heap.size ∧ Below w.heap.size w wr) (fun i _ => ks.length - (intOf i).toNat)
  case atStart => exact ⟨0, Nat.zero_le _, rfl, rfl, by simp, (Below.refl _ _).alloc (Nat.le_refl _) _⟩
  case round =>
    obtain ⟨k, hk, rfl, hf, hsz, hbel⟩ := hrel
    have HF := Lib.hid hf; clear hf
    by_cases hlt : k < ks.length
    · obtain ⟨b, off, rfl, hb, c1, c2⟩ := HK.out k hlt
      have d1 := (hbel.cell (p := ⟨b, off + k * 2, none⟩) hb).trans c1
      have d2 := (hbel.cell (p := ⟨b, off + k * 2 + 1, none⟩) hb).trans c2
      clear c1 c2
      have hit := keyF_hit ks k hlt n
      have miss := keyF_miss ks k hlt n
      have HH := Lib.hid (And.intro hit miss); clear hit miss
      go_wp2
      · go_ret2
        exact ⟨by simp [HF.out, HH.out.1 (by simp_all)], hbel.alloc (by omega) _⟩
      · go_roundw
        case rel => exact ⟨k + 1, by omega, by go_num, by rw [HF.out, HH.out.2 (by simp_all)], by simp; omega, hbel.alloc (by omega) _⟩
        case measure => simp [intOf]; omega
    · obtain rfl : k = ks.length := by omega
      go_wp2
      go_ret2
      exact ⟨by rw [HF.out]; simp [keyF], hbel⟩

theorem forAll_any (t : Int) (w : World) : Calls Try.prog 28 #[.int .i64 t] w fun e w' => e = .returned (.bool (forAllF t)) ∧ w = w' := by
  go_enter Try.func28, Try.ntmps28
  go_wp2
  all_goals go_ret
  all_goals exact ⟨by simp_all [forAllF], rfl⟩

theorem known_any (t : Int) (w : World) : Calls Try.prog 31 #[.int .i64 t] w fun e w' => e = .returned (.bool (knownF t)) ∧ w = w' := by
  go_enter Try.func31, Try.ntmps31
  go_wp2
  all_goals go_ret
  all_goals exact ⟨by simp_all [knownF]; try omega, rfl⟩

theorem rknown_any (t : Int) (w : World) : Calls Try.prog 25 #[.int .i64 t] w fun e w' => e = .returned (.bool (knownF t)) ∧ w = w' := by
  go_enter Try.func25, Try.ntmps25
  go_wp2
  all_goals go_ret
  all_goals refine ⟨?_, rfl⟩
  all_goals first | exact congrArg (fun b => Ending.returned (.bool b)) (rknownF_eq t) | (rw [← rknownF_eq]; simp_all)

set_option maxRecDepth 100000 in
set_option maxHeartbeats 400000 in
theorem Holds_any (g h ty n : Int) (ap : Bool) (a : Option Addr) (ks : List (Int × Int)) (cap : Nat) (w : World) (hlen : ks.length ≤ 9223372036854775807)
   (hk : KeysIn w a ks) :
    Calls Try.prog 12 #[.agg #[.int .u32 g, .slice a ks.length cap, .int .i64 h, .int .i64 ty, .bool ap], .int .i64 n] w fun e w' => e = .returned (.bool (holdsF ks h ty n)) ∧ Below w.heap.size w w' := by
  have HK := Lib.hid hk; clear hk
  go_enter Try.func12, Try.ntmps12
  go_wp2_with (first | (go_at_call 27; refine (key_any _ _ _ _ _ _ _ _ _ hlen (HK.out.below ((Below.refl _ _).alloc (Nat.le_refl _) _))).mono ?_; rintro e w1 ⟨rfl, hb⟩; obtain ⟨hc, hf, hz⟩ := bcell hb) | (go_at_call 28; refine (forAll_any _ _).mono ?_; rintro e w2 ⟨rfl, rfl⟩))
  all_goals go_ret
  all_goals refine ⟨by simp_all [holdsF], ?_⟩
  all_goals repeat (first | with_reducible assumption | (with_reducible refine Below.setCell ?_ (by first | omega | (simp; done) | (simp; omega)) _) | (with_reducible refine Below.alloc ?_ (by first | omega | (simp; done) | (simp; omega)) _) | (with_reducible refine Below.drew ?_) | (with_reducible refine below_dN ?_ _) | with_reducible exact Below.refl _ _ | (with_reducible refine Below.trans ?_ (Below.mono (by assumption) (by first | omega | (simp; done) | (simp; omega)))))

set_option maxRecDepth 100000 in
set_option maxHeartbeats 400000 in
theorem Bars_any (g h ty n d : Int) (ap : Bool) (a : Option Addr) (ks : List (Int × Int)) (cap : Nat) (w : World) (hlen : ks.length ≤ 9223372036854775807)
   (hk : KeysIn w a ks) :
    Calls Try.prog 14 #[.agg #[.int .u32 g, .slice a ks.length cap, .int .i64 h, .int .i64 ty, .bool ap], .int .i64 n, .int .i64 d] w fun e w' => e = .returned (.bool (barsF ks h ty n d)) ∧ Below w.heap.size w w' := by
  have HK := Lib.hid hk; clear hk
  go_enter Try.func14, Try.ntmps14
  go_wp2_with (first | (go_at_call 12; refine (Holds_any _ _ _ _ _ _ _ _ _ hlen (HK.out.below (by repeat (first | with_reducible assumption | (with_reducible refine Below.setCell ?_ (by first | omega | (simp; done) | (simp; omega)) _) | (with_reducible refine Below.alloc ?_ (by first | omega | (simp; done) | (simp; omega)) _) | (with_reducible refine Below.drew ?_) | (with_reducible refine below_dN ?_ _) | with_reducible exact Below.refl _ _ | (with_reducible refine Below.trans ?_ (Below.mono (by assumption) (by first | omega | (simp; done) | (simp; omega)))))))).mono ?_; rintro e w1 ⟨rfl, hb⟩; obtain ⟨hc, hf, hz⟩ := bcell hb) | (go_at_call 27; refine (key_any _ _ _ _ _ _ _ _ _ hlen (HK.out.below (by repeat (first | with_reducible assumption | (with_reducible refine Below.setCell ?_ (by first | omega | (simp; done) | (simp; omega)) _) | (with_reducible refine Below.alloc ?_ (by first | omega | (simp; done) | (simp; omega)) _) | (with_reducible refine Below.drew ?_) | (with_reducible refine below_dN ?_ _) | with_reducible exact Below.refl _ _ | (with_reducible refine Below.trans ?_ (Below.mono (by assumption) (by first | omega | (simp; done) | (simp; omega)))))))).mono ?_; rintro e w2 ⟨rfl, hb2⟩; have hbt2 := Below.trans hb (Below.mono hb2 (by first | exact Below.size hb | omega | (have hs := Below.size hb; simp at hs; omega))); obtain ⟨hc2, hf2, hz2⟩ := bcell hbt2))
  all_goals go_ret
  all_goals refine ⟨?_, by repeat (first | with_reducible assumption | (with_reducible refine Below.setCell ?_ (by first | omega | (simp; done) | (simp; omega)) _) | (with_reducible refine Below.alloc ?_ (by first | omega | (simp; done) | (simp; omega)) _) | (with_reducible refine Below.drew ?_) | (with_reducible refine below_dN ?_ _) | with_reducible exact Below.refl _ _ | (with_reducible refine Below.trans ?_ (Below.mono (by assumption) (by first | omega | (simp; done) | (simp; omega)))))⟩
  all_goals first | (simp [barsF, *]; done) | (simp [barsF, *]; omega) | (simp_all [barsF]; done) | (simp_all [barsF]; omega)
end Go.Proofs.Ytopakonpfbbldaa
