/- What pers.Sound answers. The list of registrations has a length that an int can tell. -/
import Derived.Test.YtopakonpfbbldaaW1
import Derived.BigQuiet
import Derived.Deep.DeepMust
namespace Go.Proofs.Ytopakonpfbbldaa
set_option linter.unusedSimpArgs false
set_option linter.unusedVariables false
open Go.RowKit

theorem head_cases {len : Nat} {h ty : Int} (hh : headF len h ty = false) : len ≤ 6 ∧ ((ty = 0 ∧ h = -1) ∨ ((ty == 0) = false ∧ (ty != 0) = true ∧ (h == -1) = false ∧ knownF ty = true ∧ 0 ≤ h ∧ h < 8)) := by
  simp only [headF, Bool.or_eq_false_iff, decide_eq_false_iff_not, Bool.and_eq_false_iff, Bool.not_eq_false'] at hh
  obtain ⟨⟨⟨⟨t1, t2⟩, t3⟩, t4⟩, t5⟩ := hh
  refine ⟨by omega, ?_⟩
  by_cases e : ty = 0
  · subst e; left; simp at t4; exact ⟨rfl, t4⟩
  · right
    have t6 : (ty == 0) = false := by simpa using e
    have t7 : knownF ty = true := by simpa [e] using t5
    have t8 : (h == -1) = false := by rw [t6] at t4; simpa using t4
    have t9 : ¬ h = -1 := by simpa using t8
    exact ⟨t6, by simpa using e, t8, t7, by omega, by omega⟩

set_option maxRecDepth 100000 in
set_option maxHeartbeats 4000000 in
theorem Sound_good (g h ty : Int) (ap : Bool) (a : Option Addr) (ks : List (Int × Int)) (cap : Nat) (w : World)
   (hk : KeysIn w a ks) (hh : headF ks.length h ty = false) :
    Calls Try.prog 19 #[.agg #[.int .u32 g, .slice a ks.length cap, .int .i64 h, .int .i64 ty, .bool ap]] w fun e w' => e = .returned (.bool (soundF ks h ty)) ∧ Below w.heap.size w w' := by
  have HK := Lib.hid hk; clear hk
  have HS : Hid (soundF ks h ty = (okF (-1) ks && (h == -1 || (keyF ks h).2))) := Lib.hid (by simp [soundF, hh])
  obtain ⟨t1, h1⟩ := head_cases hh
  clear hh
  rcases h1 with ⟨rfl, rfl⟩ | ⟨e1, e1', e2, e3, e4, e5⟩
  all_goals
    go_enter Try.func19, Try.ntmps19
    go_wp2_with (first | (go_at_call 31; refine (known_any _ _).mono ?_; rintro e w2 ⟨rfl, rfl⟩))
    go_loopw [3, 44] (fun _ i wr => ∃ k : Nat, k ≤ ks.length ∧ i = .int .i64 k ∧ okF (-1) ks = okF (lastF ks k) (ks.drop k) ∧ w.heap.size < wr.heap.size ∧ Below w.heap.size w wr ∧ Below (w.heap.size + 1) (w.alloc (Obj.cells #[Value.int IntKind.u32 g, Value.slice a ks.length cap, Value.int IntKind.i64 _, Value.int IntKind.i64 _, Value.bool ap] 25)) wr) (fun _ i _ => ks.length - (intOf i).toNat)
    case atStart => exact ⟨0, Nat.zero_le _, rfl, rfl, by simp, (Below.refl _ _).alloc (Nat.le_refl _) _, Below.refl _ _⟩
    case round =>
      obtain ⟨k, hk, rfl, hf, hsz, hbel, hbel1⟩ := hrel
      have HF := Lib.hid hf; clear hf
      by_cases hlt : k < ks.length
      · obtain ⟨b, off, rfl, hb, c1, c2⟩ := HK.out k hlt
        have d1 := (hbel.cell (p := ⟨b, off + k * 2, none⟩) hb).trans c1
        have d2 := (hbel.cell (p := ⟨b, off + k * 2 + 1, none⟩) hb).trans c2
        clear c1 c2
        have d3 : 0 < k → wr.cell? ⟨b, off + (k - 1) * 2, none⟩ = some (.int .i64 (lastF ks k)) := fun h0 => by
          obtain ⟨b', off', e', hb', c1', _⟩ := HK.out (k - 1) (by omega)
          simp only [Option.some.injEq, Addr.mk.injEq, and_true] at e'
          obtain ⟨rfl, rfl⟩ := e'
          rw [hbel.cell (p := ⟨b, off + (k - 1) * 2, none⟩) hb', c1']
          obtain ⟨j, rfl⟩ : ∃ j, k = j + 1 := ⟨k - 1, by omega⟩
          simp [lastF, show j < ks.length by omega]
        have HD := Lib.hid d3; clear d3
        have hst := okF_step ks k hlt
        have HT := Lib.hid hst; clear hst
        rcases chain4 (decide (ks[k].1 < 0)) (decide (8 ≤ ks[k].1)) (ks[k].2 == 0) (decide (0 < k)) with q1 | ⟨q1, q2⟩ | ⟨q1, q2, q3⟩ | ⟨q1, q2, q3, q4⟩ | ⟨q1, q2, q3, q4⟩
        · go_wp2
          go_quiet (fail)
          go_wp2
          go_ret
          refine ⟨?_, ?_⟩
          · rw [HS.out, HF.out, HT.out]; simp at q1; simp [show ¬ 0 ≤ ks[k].1 by omega]
          · repeat (first | with_reducible assumption | (with_reducible refine Below.setCell ?_ (by first | omega | (simp; done) | (simp; omega)) _) | (with_reducible refine Below.alloc ?_ (by first | omega | (simp; done) | (simp; omega)) _) | (with_reducible refine Below.drew ?_) | (with_reducible refine below_dN ?_ _) | with_reducible exact Below.refl _ _ | (with_reducible refine Below.trans ?_ (Below.mono (by assumption) (by first | omega | (simp; done) | (simp; omega)))))
        · go_wp2
          go_quiet (fail)
          go_wp2
          go_ret
          refine ⟨?_, ?_⟩
          · rw [HS.out, HF.out, HT.out]; simp at q2; simp [show ¬ ks[k].1 < 8 by omega]
          · repeat (first | with_reducible assumption | (with_reducible refine Below.setCell ?_ (by first | omega | (simp; done) | (simp; omega)) _) | (with_reducible refine Below.alloc ?_ (by first | omega | (simp; done) | (simp; omega)) _) | (with_reducible refine Below.drew ?_) | (with_reducible refine below_dN ?_ _) | with_reducible exact Below.refl _ _ | (with_reducible refine Below.trans ?_ (Below.mono (by assumption) (by first | omega | (simp; done) | (simp; omega)))))
        · go_wp2
          go_quiet (fail)
          go_wp2
          go_ret
          refine ⟨?_, ?_⟩
          · rw [HS.out, HF.out, HT.out]; simp at q3; simp [q3]
          · repeat (first | with_reducible assumption | (with_reducible refine Below.setCell ?_ (by first | omega | (simp; done) | (simp; omega)) _) | (with_reducible refine Below.alloc ?_ (by first | omega | (simp; done) | (simp; omega)) _) | (with_reducible refine Below.drew ?_) | (with_reducible refine below_dN ?_ _) | with_reducible exact Below.refl _ _ | (with_reducible refine Below.trans ?_ (Below.mono (by assumption) (by first | omega | (simp; done) | (simp; omega)))))
        · have d3 := HD.out (by simpa using q4)
          obtain ⟨B0, B1, B2, B3, B4⟩ := box5 hbel1
          have hbw : b < wr.heap.size := by omega
          have k0 : 0 < k := by simpa using q4
          have k1 : (1 : Int) ≤ (k : Int) := by omega
          have k2 : (k : Int) - 1 < (ks.length : Int) := by omega
          cases q5 : decide (ks[k].1 ≤ lastF ks k)
          · go_wp2
            go_quiet (fail)
            go_wp2
            go_roundw
            case rel =>
              refine ⟨k + 1, by omega, by go_num, ?_, by simp; omega, by repeat (first | with_reducible assumption | (with_reducible refine Below.setCell ?_ (by first | omega | (simp; done) | (simp; omega)) _) | (with_reducible refine Below.alloc ?_ (by first | omega | (simp; done) | (simp; omega)) _) | (with_reducible refine Below.drew ?_) | (with_reducible refine below_dN ?_ _) | with_reducible exact Below.refl _ _ | (with_reducible refine Below.trans ?_ (Below.mono (by assumption) (by first | omega | (simp; done) | (simp; omega))))), by repeat (first | with_reducible assumption | (with_reducible refine Below.setCell ?_ (by first | omega | (simp; done) | (simp; omega)) _) | (with_reducible refine Below.alloc ?_ (by first | omega | (simp; done) | (simp; omega)) _) | (with_reducible refine Below.drew ?_) | (with_reducible refine below_dN ?_ _) | with_reducible exact Below.refl _ _ | (with_reducible refine Below.trans ?_ (Below.mono (by assumption) (by first | omega | (simp; done) | (simp; omega)))))⟩
              rw [HF.out, HT.out]; simp at q1 q2 q3 q5; simp [show 0 ≤ ks[k].1 by omega, show ks[k].1 < 8 by omega, q3, q5]
            case measure => simp [intOf]; omega
          · go_wp2
            go_quiet (fail)
            go_wp2
            go_ret
            refine ⟨?_, ?_⟩
            · rw [HS.out, HF.out, HT.out]; simp at q5; simp [show ¬ lastF ks k < ks[k].1 by omega]
            · repeat (first | with_reducible assumption | (with_reducible refine Below.setCell ?_ (by first | omega | (simp; done) | (simp; omega)) _) | (with_reducible refine Below.alloc ?_ (by first | omega | (simp; done) | (simp; omega)) _) | (with_reducible refine Below.drew ?_) | (with_reducible refine below_dN ?_ _) | with_reducible exact Below.refl _ _ | (with_reducible refine Below.trans ?_ (Below.mono (by assumption) (by first | omega | (simp; done) | (simp; omega)))))
        · go_wp2
          go_quiet (fail)
          go_wp2
          go_roundw
          case rel =>
            refine ⟨k + 1, by omega, by go_num, ?_, by simp; omega, by repeat (first | with_reducible assumption | (with_reducible refine Below.setCell ?_ (by first | omega | (simp; done) | (simp; omega)) _) | (with_reducible refine Below.alloc ?_ (by first | omega | (simp; done) | (simp; omega)) _) | (with_reducible refine Below.drew ?_) | (with_reducible refine below_dN ?_ _) | with_reducible exact Below.refl _ _ | (with_reducible refine Below.trans ?_ (Below.mono (by assumption) (by first | omega | (simp; done) | (simp; omega))))), by repeat (first | with_reducible assumption | (with_reducible refine Below.setCell ?_ (by first | omega | (simp; done) | (simp; omega)) _) | (with_reducible refine Below.alloc ?_ (by first | omega | (simp; done) | (simp; omega)) _) | (with_reducible refine Below.drew ?_) | (with_reducible refine below_dN ?_ _) | with_reducible exact Below.refl _ _ | (with_reducible refine Below.trans ?_ (Below.mono (by assumption) (by first | omega | (simp; done) | (simp; omega)))))⟩
            rw [HF.out]; simp at q1 q2 q3; exact okF_go ks k hlt (by omega) (by omega) q3 (fun h0 => by simp at q4; omega)
          case measure => simp [intOf]; omega
      · obtain rfl : k = ks.length := by omega
        obtain ⟨B0, B1, B2, B3, B4⟩ := box5 hbel1
        have hok : Hid (okF (-1) ks = true) := Lib.hid (by rw [HF.out]; simp [okF])
        go_wp2_with (go_at_call 27; go_must (refine (key_any _ _ _ _ _ _ _ _ _ (by omega) (HK.out.below (by repeat (first | with_reducible assumption | (with_reducible refine Below.setCell ?_ (by first | omega | (simp; done) | (simp; omega)) _) | (with_reducible refine Below.alloc ?_ (by first | omega | (simp; done) | (simp; omega)) _) | (with_reducible refine Below.drew ?_) | (with_reducible refine below_dN ?_ _) | with_reducible exact Below.refl _ _ | (with_reducible refine Below.trans ?_ (Below.mono (by assumption) (by first | omega | (simp; done) | (simp; omega)))))))).mono ?_); rintro e w1 ⟨rfl, hb⟩; have hbt2 := Below.trans hbel1 (Below.mono hb (by first | exact Below.size hbel1 | omega | (have hs := Below.size hbel1; simp at hs; omega))); obtain ⟨hc2, hf2, hz2⟩ := bcell hbt2)
        all_goals go_ret
        all_goals refine ⟨?_, by repeat (first | with_reducible assumption | (with_reducible refine Below.setCell ?_ (by first | omega | (simp; done) | (simp; omega)) _) | (with_reducible refine Below.alloc ?_ (by first | omega | (simp; done) | (simp; omega)) _) | (with_reducible refine Below.drew ?_) | (with_reducible refine below_dN ?_ _) | with_reducible exact Below.refl _ _ | (with_reducible refine Below.trans ?_ (Below.mono (by assumption) (by first | omega | (simp; done) | (simp; omega)))))⟩
        all_goals rw [HS.out, hok.out]
        all_goals simp [*]

set_option maxRecDepth 100000 in
set_option maxHeartbeats 4000000 in
theorem Sound_bad (g h ty : Int) (ap : Bool) (a : Option Addr) (ks : List (Int × Int)) (cap : Nat) (w : World) (hlen : ks.length ≤ 9223372036854775807)
   (hh : headF ks.length h ty = true) :
    Calls Try.prog 19 #[.agg #[.int .u32 g, .slice a ks.length cap, .int .i64 h, .int .i64 ty, .bool ap]] w fun e w' => e = .returned (.bool (soundF ks h ty)) ∧ Below w.heap.size w w' := by
  have HS : Hid (soundF ks h ty = false) := Lib.hid (by simp [soundF, hh])
  have HH := Lib.hid hh; clear hh
  go_enter Try.func19, Try.ntmps19
  go_wp2_with (first | (go_at_call 31; refine (known_any _ _).mono ?_; rintro e w2 ⟨rfl, rfl⟩))
  all_goals first | (go_ret; exact ⟨by simp [HS.out], by repeat (first | with_reducible assumption | (with_reducible refine Below.setCell ?_ (by first | omega | (simp; done) | (simp; omega)) _) | (with_reducible refine Below.alloc ?_ (by first | omega | (simp; done) | (simp; omega)) _) | (with_reducible refine Below.drew ?_) | (with_reducible refine below_dN ?_ _) | with_reducible exact Below.refl _ _ | (with_reducible refine Below.trans ?_ (Below.mono (by assumption) (by first | omega | (simp; done) | (simp; omega)))))⟩) | (exfalso; have hh := HH.out; unfold headF at hh; simp_all; try omega)

theorem Sound_any (g h ty : Int) (ap : Bool) (a : Option Addr) (ks : List (Int × Int)) (cap : Nat) (w : World) (hlen : ks.length ≤ 9223372036854775807)
   (hk : KeysIn w a ks) :
    Calls Try.prog 19 #[.agg #[.int .u32 g, .slice a ks.length cap, .int .i64 h, .int .i64 ty, .bool ap]] w fun e w' => e = .returned (.bool (soundF ks h ty)) ∧ Below w.heap.size w w' := by
  cases hh : headF ks.length h ty
  · exact Sound_good g h ty ap a ks cap w hk hh
  · exact Sound_bad g h ty ap a ks cap w hlen hh

end Go.Proofs.Ytopakonpfbbldaa
