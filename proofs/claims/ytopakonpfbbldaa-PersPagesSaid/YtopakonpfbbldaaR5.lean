/- What Same of the reference of layer 10 answers. -/
import Derived.Test.YtopakonpfbbldaaR3
namespace Go.Proofs.Ytopakonpfbbldaa
set_option linter.unusedSimpArgs false
set_option linter.unusedVariables false
open Go.RowKit

set_option maxRecDepth 100000 in
set_option maxHeartbeats 4000000 in
theorem rSame_any (g h ty : Int) (ap : Bool) (a : Option Addr) (ks : List (Int × Int)) (cap : Nat) (g' h' ty' : Int) (ap' : Bool) (a' : Option Addr) (ks' : List (Int × Int)) (cap' : Nat) (w : World) (hlen : ks.length ≤ 9223372036854775807) (hlen' : ks'.length ≤ 9223372036854775807)
   (hk : KeysIn w a ks) (hk' : KeysIn w a' ks') :
    Calls Try.prog 17 #[.agg #[.int .u32 g, .slice a ks.length cap, .int .i64 h, .int .i64 ty, .bool ap], .agg #[.int .u32 g', .slice a' ks'.length cap', .int .i64 h', .int .i64 ty', .bool ap']] w fun e w' =>
      e = .returned (.bool (g == g' && h == h' && ty == ty' && ap == ap' && ks == ks')) ∧ Below w.heap.size w w' := by
  have HK := Lib.hid hk; clear hk
  have HK' := Lib.hid hk'; clear hk'
  go_enter Try.func17, Try.ntmps17
  cases hl : ((ks.length : Int) != (ks'.length : Int))
  · have hl' : ks.length = ks'.length := by have := hl; simp at this; omega
    cases hg : (g == g' && h == h' && ty == ty' && ap == ap')
    · have HG := Lib.hid hg
      go_wp2
      all_goals first
        | (exfalso; simp_all; done)
        | (go_ret; refine ⟨?_, by repeat (first | with_reducible assumption | (with_reducible refine Below.setCell ?_ (by first | omega | (simp; done) | (simp; omega)) _) | (with_reducible refine Below.alloc ?_ (by first | omega | (simp; done) | (simp; omega)) _) | (with_reducible refine Below.drew ?_) | (with_reducible refine below_dN ?_ _) | with_reducible exact Below.refl _ _ | (with_reducible refine Below.trans ?_ (Below.mono (by assumption) (by first | omega | (simp; done) | (simp; omega)))))⟩; simp_all; done)
    · simp only [Bool.and_eq_true, beq_iff_eq] at hg
      obtain ⟨⟨⟨rfl, rfl⟩, rfl⟩, rfl⟩ := hg
      have HR : Hid ((g == g && h == h && ty == ty && ap == ap && ks == ks') = (ks == ks')) := Lib.hid (by simp)
      go_wp2
      go_loopw [5] (fun i wr => ∃ k : Nat, k ≤ ks.length ∧ i = .int .i64 k ∧ (∀ j (hj : j < ks.length) (hj' : j < ks'.length), j < k → ks[j] = ks'[j]) ∧ Below (w.heap.size + 2) ((w.alloc (.cells #[.int .u32 g, .slice a ks'.length cap, .int .i64 h, .int .i64 ty, .bool ap] 25)).alloc (.cells #[.int .u32 g, .slice a' ks'.length cap', .int .i64 h, .int .i64 ty, .bool ap] 25)) wr) (fun i _ => ks.length - (intOf i).toNat)
      case atStart => exact ⟨0, Nat.zero_le _, rfl, fun _ _ _ h => absurd h (by omega), Below.refl _ _⟩
      case round =>
        obtain ⟨k, hk, rfl, heq, hbel1⟩ := hrel
        have hsz := hbel1.size
        simp only [World.size_alloc] at hsz
        have hbel : Below w.heap.size w wr := Below.trans (Below.alloc (Below.alloc (Below.refl _ _) (Nat.le_refl _) _) (by simp) _) (hbel1.mono (by omega))
        obtain ⟨z0, z1, z2, z3, z4, _⟩ := blk5 ((hbel1.block w.heap.size (by omega)).trans (heap_at1 _ _ _))
        obtain ⟨r0, r1, r2, r3, r4, _⟩ := blk5 ((hbel1.block (w.heap.size + 1) (by omega)).trans (heap_at2 _ _ _))
        have HEQ := Lib.hid heq
        have HBL := Lib.hid hbel1
        clear heq hbel1
        by_cases hlt : k < ks.length
        · have hlt' : k < ks'.length := by omega
          obtain ⟨b, off, rfl, hb, c1, c2⟩ := HK.out k hlt
          obtain ⟨b', off', rfl, hb', c1', c2'⟩ := HK'.out k hlt'
          have d1 := (hbel.cell (p := ⟨b, off + k * 2, none⟩) hb).trans c1
          have d2 := (hbel.cell (p := ⟨b, off + k * 2 + 1, none⟩) hb).trans c2
          have d1' := (hbel.cell (p := ⟨b', off' + k * 2, none⟩) hb').trans c1'
          have d2' := (hbel.cell (p := ⟨b', off' + k * 2 + 1, none⟩) hb').trans c2'
          have hi0 : (0 : Int) ≤ k := by omega
          have hi1 : (k : Int) < ks.length := by omega
          have hi2 : (k : Int) < ks'.length := by omega
          clear c1 c2 c1' c2'
          by_cases e1 : ks[k].1 = ks'[k].1
          · by_cases e2 : ks[k].2 = ks'[k].2
            · have HE : Hid (ks[k] = ks'[k]) := Lib.hid (Prod.ext e1 e2)
              go_wp2
              go_quiet (fail)
              go_wp2
              go_roundw
              case rel =>
                refine ⟨k + 1, by omega, by go_num, fun j h1 h2 h3 => ?_, below_dN HBL.out nq⟩
                by_cases e : j = k
                · subst e; exact HE.out
                · exact HEQ.out j h1 h2 (by omega)
              case measure => simp [intOf]; omega
            · have HE : Hid ((ks == ks') = false) := Lib.hid (by simp; rintro rfl; exact e2 rfl)
              go_wp2
              go_quiet (fail)
              go_wp2
              go_ret
              refine ⟨?_, by repeat (first | with_reducible assumption | (with_reducible refine Below.setCell ?_ (by first | omega | (simp; done) | (simp; omega)) _) | (with_reducible refine Below.alloc ?_ (by first | omega | (simp; done) | (simp; omega)) _) | (with_reducible refine Below.drew ?_) | (with_reducible refine below_dN ?_ _) | with_reducible exact Below.refl _ _ | (with_reducible refine Below.trans ?_ (Below.mono (by assumption) (by first | omega | (simp; done) | (simp; omega)))))⟩
              simp [HE.out]
          · have HE : Hid ((ks == ks') = false) := Lib.hid (by simp; rintro rfl; exact e1 rfl)
            go_wp2
            go_quiet (fail)
            go_wp2
            go_ret
            refine ⟨?_, by repeat (first | with_reducible assumption | (with_reducible refine Below.setCell ?_ (by first | omega | (simp; done) | (simp; omega)) _) | (with_reducible refine Below.alloc ?_ (by first | omega | (simp; done) | (simp; omega)) _) | (with_reducible refine Below.drew ?_) | (with_reducible refine below_dN ?_ _) | with_reducible exact Below.refl _ _ | (with_reducible refine Below.trans ?_ (Below.mono (by assumption) (by first | omega | (simp; done) | (simp; omega)))))⟩
            simp [HE.out]
        · obtain rfl : k = ks.length := by omega
          go_wp2
          go_ret
          refine ⟨?_, by repeat (first | with_reducible assumption | (with_reducible refine Below.setCell ?_ (by first | omega | (simp; done) | (simp; omega)) _) | (with_reducible refine Below.alloc ?_ (by first | omega | (simp; done) | (simp; omega)) _) | (with_reducible refine Below.drew ?_) | (with_reducible refine below_dN ?_ _) | with_reducible exact Below.refl _ _ | (with_reducible refine Below.trans ?_ (Below.mono (by assumption) (by first | omega | (simp; done) | (simp; omega)))))⟩
          have : ks = ks' := List.ext_getElem hl' (fun i h1 h2 => HEQ.out i h1 h2 h1)
          subst this
          simp
  · have HL : Hid ((ks == ks') = false) := Lib.hid (by simp; rintro rfl; simp at hl)
    go_wp2
    all_goals go_ret
    all_goals refine ⟨?_, by repeat (first | with_reducible assumption | (with_reducible refine Below.setCell ?_ (by first | omega | (simp; done) | (simp; omega)) _) | (with_reducible refine Below.alloc ?_ (by first | omega | (simp; done) | (simp; omega)) _) | (with_reducible refine Below.drew ?_) | (with_reducible refine below_dN ?_ _) | with_reducible exact Below.refl _ _ | (with_reducible refine Below.trans ?_ (Below.mono (by assumption) (by first | omega | (simp; done) | (simp; omega)))))⟩
    all_goals rw [HL.out]
    all_goals simp [*]
end Go.Proofs.Ytopakonpfbbldaa
