/- What Sound of the reference of layer 10 answers. -/
import Derived.Test.YtopakonpfbbldaaR3
namespace Go.Proofs.Ytopakonpfbbldaa
set_option linter.unusedSimpArgs false
set_option linter.unusedVariables false
open Go.RowKit

theorem rknown_below (t : Int) (w : World) : Calls Try.prog 25 #[.int .i64 t] w fun e w' => e = .returned (.bool (knownF t)) ∧ Below w.heap.size w w' :=
  (rknown_any t w).mono fun e w' h => ⟨h.1, h.2 ▸ Below.refl _ _⟩

set_option maxRecDepth 100000 in
set_option maxHeartbeats 4000000 in
theorem rSound_any (g h ty : Int) (ap : Bool) (a : Option Addr) (ks : List (Int × Int)) (cap : Nat) (w : World) (hlen : ks.length ≤ 9223372036854775807)
   (hk : KeysIn w a ks) :
    Calls Try.prog 11 #[.agg #[.int .u32 g, .slice a ks.length cap, .int .i64 h, .int .i64 ty, .bool ap]] w fun e w' => e = .returned (.bool (rsoundF ks h ty)) ∧ Below w.heap.size w w' := by
  have HK := Lib.hid hk; clear hk
  go_enter Try.func11, Try.ntmps11
  by_cases h6 : (6 : Int) < (ks.length : Int)
  · go_wp2
    go_ret
    exact ⟨by simp [rsoundF]; omega, by repeat (first | with_reducible assumption | (with_reducible refine Below.setCell ?_ (by first | omega | (simp; done) | (simp; omega)) _) | (with_reducible refine Below.alloc ?_ (by first | omega | (simp; done) | (simp; omega)) _) | (with_reducible refine Below.drew ?_) | (with_reducible refine below_dN ?_ _) | with_reducible exact Below.refl _ _ | (with_reducible refine Below.trans ?_ (Below.mono (by assumption) (by first | omega | (simp; done) | (simp; omega)))))⟩
  · have HL6 : Hid (decide (ks.length ≤ 6) = true) := Lib.hid (by simp; omega)
    go_wp2
    go_loopw [3, 4] (fun l i wr => ∃ k : Nat, k ≤ ks.length ∧ i = .int .i64 k ∧ l = .int .i64 (lastF ks k) ∧ -1 ≤ lastF ks k ∧ okF (-1) ks = okF (lastF ks k) (ks.drop k) ∧ Below (w.heap.size + 1) (w.alloc (Obj.cells #[Value.int IntKind.u32 g, Value.slice a ks.length cap, Value.int IntKind.i64 h, Value.int IntKind.i64 ty, Value.bool ap] 25)) wr) (fun _ i _ => ks.length - (intOf i).toNat)
    case atStart => exact ⟨0, Nat.zero_le _, rfl, rfl, by simp [lastF], rfl, Below.refl _ _⟩
    case round =>
      obtain ⟨k, hk, rfl, rfl, hlast, hf, hbel1⟩ := hrel
      have HF := Lib.hid hf; clear hf
      have hsz := hbel1.size
      simp only [World.size_alloc] at hsz
      have hbel : Below w.heap.size w wr := Below.trans (Below.alloc (Below.refl _ _) (Nat.le_refl _) _) (hbel1.mono (Nat.le_succ _))
      obtain ⟨B0, B1, B2, B3, B4⟩ := box5 hbel1
      have HBL := Lib.hid hbel1
      clear hbel1
      by_cases hlt : k < ks.length
      · obtain ⟨b, off, rfl, hb, c1, c2⟩ := HK.out k hlt
        have d1 := (hbel.cell (p := ⟨b, off + k * 2, none⟩) hb).trans c1
        have d2 := (hbel.cell (p := ⟨b, off + k * 2 + 1, none⟩) hb).trans c2
        have hi0 : (0 : Int) ≤ k := by omega
        have hi1 : (k : Int) < ks.length := by omega
        have hst := okF_step ks k hlt
        have HT := Lib.hid hst
        have hl1 : Hid (lastF ks (k + 1) = ks[k].1) := Lib.hid (by simp [lastF, hlt])
        clear c1 c2 hst
        cases q1 : decide (ks[k].1 ≤ lastF ks k) <;> cases q2 : decide (7 < ks[k].1) <;> cases q3 : (ks[k].2 == 0)
        all_goals
          have Q := Lib.hid (And.intro q1 (And.intro q2 q3))
          go_wp2
        all_goals first
          | (go_roundw
             case rel =>
               obtain ⟨q1, q2, q3⟩ := Q.out
               simp at q1 q2 q3
               refine ⟨k + 1, by omega, by go_num, by rw [hl1.out], by rw [hl1.out]; omega, ?_, HBL.out⟩
               rw [HF.out, HT.out]; simp [show 0 ≤ ks[k].1 by omega, show ks[k].1 < 8 by omega, q3, show lastF ks k < ks[k].1 by omega]
             case measure => simp [intOf]; omega)
          | (go_ret
             refine ⟨?_, by repeat (first | with_reducible assumption | (with_reducible refine Below.setCell ?_ (by first | omega | (simp; done) | (simp; omega)) _) | (with_reducible refine Below.alloc ?_ (by first | omega | (simp; done) | (simp; omega)) _) | (with_reducible refine Below.drew ?_) | (with_reducible refine below_dN ?_ _) | with_reducible exact Below.refl _ _ | (with_reducible refine Below.trans ?_ (Below.mono (by assumption) (by first | omega | (simp; done) | (simp; omega)))))⟩
             obtain ⟨q1, q2, q3⟩ := Q.out
             simp at q1 q2 q3
             simp only [rsoundF, HF.out, HT.out]
             first | (simp [q3]; done) | (simp [show ¬ ks[k].1 < 8 by omega]; done) | (simp [show ¬ lastF ks k < ks[k].1 by omega]; done))
      · obtain rfl : k = ks.length := by omega
        have hok : Hid (okF (-1) ks = true) := Lib.hid (by rw [HF.out]; simp [okF])
        cases qt : (ty == 0)
        · have HF0 : Hid (decide (ks.length ≤ 6) = true ∧ okF (-1) ks = true ∧ (ty == 0) = false) := Lib.hid ⟨HL6.out, hok.out, qt⟩
          cases q : knownF ty
          all_goals
            cases g0 : decide (0 ≤ h)
            all_goals
              cases g8 : decide (h < 8)
              all_goals
                have hidx : decide (0 ≤ h) = true → decide (h < 8) = true → ∀ w, (Instr.index 57 (arr8 (keysF ks)) (.int .i64 h)).run Try.prog w = .ok (.int .u64 ((keysF ks).getD h.toNat 0)) w := fun a b w => idx8 (keysF ks) (keysF_length ks) h (by simpa using a) (by simpa using b) w
                try simp only [g0, g8, forall_const, Bool.false_eq_true, false_implies, implies_true] at hidx
                have HQ := Lib.hid (And.intro q (And.intro g0 g8))
                have k2 := cell_regrown B2
                have k3 := cell_regrown B3
                have k0 := cell_regrown B0
                have k1 := cell_regrown B1
                have k4 := cell_regrown B4
                have hkn := fun (d : Nat) (os : Array Obj) => Calls.regrown_of (rknown_below ty (Go.Sort.grow (redrawn wr d) os))
                have hky := fun (d : Nat) (os : Array Obj) => Calls.regrown_of (keys_any g h ty ap a ks cap (Go.Sort.grow (redrawn wr d) os) hlen ((HK.out.below hbel).below (below_regrown wr d os)))
                simp only [q] at hkn
                have HKN := Lib.hid hkn
                have HKY := Lib.hid hky
                clear hkn hky
                go_wp2
                refine wp_region_quiet_below (by kernel_rfl) (by kernel_rfl) ?_
                (repeat (go_big_quiet_step ((first | exact HKN.out _ _ | exact HKY.out _ _))))
                refine wpQuiet_nil ?_
                intro wq hwq
                have hq := below_of_regrown hwq
                clear hwq
                clear k0 k1 k2 k3 k4
                go_wp2
                go_ret
                refine ⟨?_, by repeat (first | with_reducible assumption | (with_reducible refine Below.setCell ?_ (by first | omega | (simp; done) | (simp; omega)) _) | (with_reducible refine Below.alloc ?_ (by first | omega | (simp; done) | (simp; omega)) _) | (with_reducible refine Below.drew ?_) | (with_reducible refine below_dN ?_ _) | with_reducible exact Below.refl _ _ | (with_reducible refine Below.trans ?_ (Below.mono (by assumption) (by first | omega | (simp; done) | (simp; omega)))))⟩
                obtain ⟨q, g0, g8⟩ := HQ.out
                simp [rsoundF, HF0.out.1, HF0.out.2.1, HF0.out.2.2, q, g0, g8]
        · go_wp2
          go_ret
          refine ⟨?_, by repeat (first | with_reducible assumption | (with_reducible refine Below.setCell ?_ (by first | omega | (simp; done) | (simp; omega)) _) | (with_reducible refine Below.alloc ?_ (by first | omega | (simp; done) | (simp; omega)) _) | (with_reducible refine Below.drew ?_) | (with_reducible refine below_dN ?_ _) | with_reducible exact Below.refl _ _ | (with_reducible refine Below.trans ?_ (Below.mono (by assumption) (by first | omega | (simp; done) | (simp; omega)))))⟩
          simp [rsoundF, hok.out, HL6.out, qt]
end Go.Proofs.Ytopakonpfbbldaa
