/- Who registers and unregisters leaves all others, and a reservation of another one, as they were. The list of registrations has a length that an int can tell. -/
import Derived.Test.YtopakonpfbbldaaS1
import Derived.Test.YtopakonpfbbldaaR4
import Derived.Test.YtopakonpfbbldaaR5
import Derived.Test.YtopakonpfbbldaaFnsD
import Derived.Test.YtopakonpfbbldaaW28
namespace Go.Proofs.Ytopakonpfbbldaa
set_option linter.unusedSimpArgs false
set_option linter.unusedVariables false
open Go.RowKit

set_option maxRecDepth 100000 in
set_option maxHeartbeats 4000000 in
theorem PersJoins_bad (g h ty n k : Int) (ap : Bool) (a : Option Addr) (ks : List (Int × Int)) (cap : Nat) (w : World) (hlen : ks.length ≤ 9223372036854775807)
   (hk : KeysIn w a ks) (b : Bool) (hs : rsoundF ks h ty = b) (hbad : b = false ∨ (b = true ∧ decide (n < 0) = true) ∨ (b = true ∧ decide (n < 0) = false ∧ decide (7 < n) = true) ∨
     (b = true ∧ decide (n < 0) = false ∧ decide (7 < n) = false ∧ (k == 0) = true) ∨ (b = true ∧ decide (n < 0) = false ∧ decide (7 < n) = false ∧ (k == 0) = false ∧ ((ks.length : Int) == 6) = true)) :
    Calls Try.prog 5 #[.agg #[.int .u32 g, .slice a ks.length cap, .int .i64 h, .int .i64 ty, .bool ap], .int .i64 n, .int .u64 k] w fun e w' => e = .returned (.bool true) ∧ Below w.heap.size w w' := by
  have HK := Lib.hid hk; clear hk
  rcases hbad with rfl | ⟨rfl, h1⟩ | ⟨rfl, h1, h2⟩ | ⟨rfl, h1, h2, h3⟩ | ⟨rfl, h1, h2, h3, h4⟩
  all_goals
    go_enter Try.func5, Try.ntmps5
    go_wp2_with fail
    have b0 := heap_alloc_new w (.cells #[.int .u32 g, .slice a ks.length cap, .int .i64 h, .int .i64 ty, .bool ap] 25)
    refine (stands_any _).mono ?_
    rintro e w1 ⟨rfl, hb1⟩
    have c1 := (hb1.block w.heap.size (by simp)).trans b0
    have hbw : Below w.heap.size w w1 := by repeat (first | with_reducible assumption | (with_reducible refine Below.setCell ?_ (by first | omega | (simp; done) | (simp; omega)) _) | (with_reducible refine Below.alloc ?_ (by first | omega | (simp; done) | (simp; omega)) _) | (with_reducible refine Below.drew ?_) | (with_reducible refine below_dN ?_ _) | with_reducible exact Below.refl _ _ | (with_reducible refine Below.trans ?_ (Below.mono (by assumption) (by first | omega | (simp; done) | (simp; omega)))))
    have hsound := rSound_any g h ty ap a ks cap w1 hlen (HK.out.below hbw)
    rw [hs] at hsound
    have HSD := Lib.hid hsound
    have HC := Lib.hid c1
    obtain ⟨z0, z1, z2, z3, z4, _⟩ := blk5 c1
    have hsz := hb1.size
    simp only [World.size_alloc] at hsz
    clear b0 hsound c1 hb1 hs
    dsimp only
    go_wp2_with (go_at_call 11; refine HSD.out.mono ?_; rintro e w2 ⟨rfl, hb2⟩; obtain ⟨z0, z1, z2, z3, z4, _⟩ := blk5 ((hb2.block _ (by omega)).trans HC.out))
    go_ret
    exact ⟨rfl, by repeat (first | with_reducible assumption | (with_reducible refine Below.setCell ?_ (by first | omega | (simp; done) | (simp; omega)) _) | (with_reducible refine Below.alloc ?_ (by first | omega | (simp; done) | (simp; omega)) _) | (with_reducible refine Below.drew ?_) | (with_reducible refine below_dN ?_ _) | with_reducible exact Below.refl _ _ | (with_reducible refine Below.trans ?_ (Below.mono (by assumption) (by first | omega | (simp; done) | (simp; omega)))))⟩

set_option maxRecDepth 100000 in
set_option maxHeartbeats 4000000 in
theorem PersJoins_good (g h ty n k : Int) (ap : Bool) (a : Option Addr) (ks : List (Int × Int)) (cap : Nat) (w : World) (hlen : ks.length ≤ 9223372036854775807)
   (hk : KeysIn w a ks) (hna : a = none → cap = 0) (hs : rsoundF ks h ty = true) (h1 : decide (n < 0) = false) (h2 : decide (7 < n) = false) (h3 : (k == 0) = false) (h4 : ((ks.length : Int) == 6) = false) :
    Calls Try.prog 5 #[.agg #[.int .u32 g, .slice a ks.length cap, .int .i64 h, .int .i64 ty, .bool ap], .int .i64 n, .int .u64 k] w fun e w' => e = .returned (.bool true) ∧ Below w.heap.size w w' := by
  have HK := Lib.hid hk; clear hk
  have HNA := Lib.hid hna; clear hna
  have HS : Hid (soundT ⟨g, ks, h, ty, ap⟩ = true) := Lib.hid hs
  have hl6 : ks.length ≤ 6 := (sound_inv HS.out).1
  go_enter Try.func5, Try.ntmps5
  go_wp2_with fail
  have b0 := heap_alloc_new w (.cells #[.int .u32 g, .slice a ks.length cap, .int .i64 h, .int .i64 ty, .bool ap] 25)
  refine (stands_any _).mono ?_
  rintro e w1 ⟨rfl, hb1⟩
  have c1 := (hb1.block w.heap.size (by simp)).trans b0
  have hbw : Below w.heap.size w w1 := by repeat (first | with_reducible assumption | (with_reducible refine Below.setCell ?_ (by first | omega | (simp; done) | (simp; omega)) _) | (with_reducible refine Below.alloc ?_ (by first | omega | (simp; done) | (simp; omega)) _) | (with_reducible refine Below.drew ?_) | (with_reducible refine below_dN ?_ _) | with_reducible exact Below.refl _ _ | (with_reducible refine Below.trans ?_ (Below.mono (by assumption) (by first | omega | (simp; done) | (simp; omega)))))
  have hsound := rSound_any g h ty ap a ks cap w1 hlen (HK.out.below hbw)
  rw [hs] at hsound
  have HSD := Lib.hid hsound
  have HC := Lib.hid c1
  obtain ⟨z0, z1, z2, z3, z4, _⟩ := blk5 c1
  have hsz := hb1.size
  simp only [World.size_alloc] at hsz
  clear b0 hsound c1 hb1 hs
  dsimp only
  go_wp2_with (go_at_call 11; refine HSD.out.mono ?_; rintro e w2 ⟨rfl, hb2⟩; have hs2 := hb2.size; obtain ⟨z0, z1, z2, z3, z4, _⟩ := blk5 ((hb2.block _ (by omega)).trans HC.out))
  have hb02 : Below w.heap.size w w2 := hbw.trans (hb2.mono hbw.size)
  have HT2 := Lib.hid ((hb2.block w.heap.size (by omega)).trans HC.out)
  have hw2 : w.heap.size < w2.heap.size := by omega
  have HB02 := Lib.hid hb02
  clear hb02 hb2 hbw z0 z1 z2 z3 z4
  go_loopw [41] (fun i wr => ∃ j : Nat, j ≤ ks.length ∧ i = .int .i64 j ∧ (∀ l (hl : l < ks.length), l < j → ks[l].1 ≠ n) ∧ Below w2.heap.size w2 wr) (fun i _ => ks.length - (intOf i).toNat)
  case atStart => exact ⟨0, by omega, rfl, fun _ _ h => absurd h (by omega), Below.refl _ _⟩
  case round =>
    obtain ⟨j, hj, rfl, hno, hbel⟩ := hrel
    have hsr := hbel.size
    have HNO := Lib.hid hno; clear hno
    have hb0r : Below w.heap.size w wr := HB02.out.trans (hbel.mono HB02.out.size)
    by_cases hlt : j < ks.length
    · obtain ⟨b, off, rfl, hbs, e1, e2⟩ := HK.out j hlt
      have d1 := (hb0r.cell (p := ⟨b, off + j * 2, none⟩) hbs).trans e1
      have d2 := (hb0r.cell (p := ⟨b, off + j * 2 + 1, none⟩) hbs).trans e2
      have hlt2 : decide ((j : Int) < (ks.length : Int)) = true := by rw [decide_eq_true_eq]; omega
      clear e1 e2
      by_cases hq : ks[j].1 = n
      · go_wp2
        go_ret
        exact ⟨rfl, by repeat (first | with_reducible assumption | (with_reducible refine Below.setCell ?_ (by first | omega | (simp; done) | (simp; omega)) _) | (with_reducible refine Below.alloc ?_ (by first | omega | (simp; done) | (simp; omega)) _) | (with_reducible refine Below.drew ?_) | (with_reducible refine below_dN ?_ _) | with_reducible exact Below.refl _ _ | (with_reducible refine Below.trans ?_ (Below.mono (by assumption) (by first | omega | (simp; done) | (simp; omega)))))⟩
      · have HQ := Lib.hid hq
        go_wp2
        go_roundw
        case rel =>
          refine ⟨j + 1, by omega, by go_num, fun l hl hlj => ?_, by repeat (first | with_reducible assumption | (with_reducible refine Below.setCell ?_ (by first | omega | (simp; done) | (simp; omega)) _) | (with_reducible refine Below.alloc ?_ (by first | omega | (simp; done) | (simp; omega)) _) | (with_reducible refine Below.drew ?_) | (with_reducible refine below_dN ?_ _) | with_reducible exact Below.refl _ _ | (with_reducible refine Below.trans ?_ (Below.mono (by assumption) (by first | omega | (simp; done) | (simp; omega)))))⟩
          by_cases e : l = j
          · subst e; exact HQ.out
          · exact HNO.out l hl (by omega)
        case measure => simp [intOf]; omega
    · obtain rfl : j = ks.length := by omega
      have hT := (hbel.block w.heap.size hw2).trans HT2.out
      have hwr : w.heap.size < wr.heap.size := by omega
      obtain ⟨z0, z1, z2, z3, z4, y0, y1, y2, y3, y4⟩ := blk5 hT
      have hkno : (keyF ks n).2 = false := keyF_no ks n (fun i hi => HNO.out i hi hi)
      have hk0 : k ≠ 0 := by simpa using h3
      have hl6' : ks.length ≠ 6 := by have h5 := h4; rw [beq_eq_false_iff_ne] at h5; omega
      have HJ := Lib.hid (join_is ⟨g, ks, h, ty, ap⟩ HS.out n k hkno hk0 hl6')
      have HKN := Lib.hid hkno
      have HTR := Lib.hid hT
      have HB0R := Lib.hid hb0r
      have HKR := Lib.hid (HK.out.below hb0r)
      clear hkno hk0 hl6' hT hbel hb0r
      have hp : Hid ((putF ks n k).2 = true) := Lib.hid (by simp [putF, HKN.out, show ks.length ≠ 6 by have h5 := h4; rw [beq_eq_false_iff_ne] at h5; omega])
      go_wp2_with fail
      refine (post_to (act0_k2 ⟨g, ks, h, ty, ap⟩ n 0 0 k ap a cap wr (show ks.length ≤ 1000000 by omega) HKR.out HNA.out HKN.out h3 hp.out rfl) HJ.out.1).mono ?_
      rintro e w3 ⟨a3, c3, b3, d3, rfl, hk3, hn3, hi3, hb3⟩
      have hj := HJ.out
      generalize insF ks n k = ks2 at hk3 hj ⊢
      have HJ2 := Lib.hid hj
      have hT3 := (hb3.block w.heap.size hwr).trans HTR.out
      have hs3 := hb3.size
      have hw3 : w.heap.size < w3.heap.size := by omega
      have H3 := Lib.hid (And.intro hk3 (And.intro hn3 (And.intro hT3 (HB0R.out.trans (hb3.mono HB0R.out.size)))))
      have HK3 := Lib.hid (HKR.out.below hb3)
      clear z0 z1 z2 z3 z4 y0 y1 y2 y3 y4 hj hk3 hn3 hi3 hb3
      obtain ⟨z0, z1, z2, z3, z4, y0, y1, y2, y3, y4⟩ := blk5 hT3
      clear hT3
      go_wp2_with fail
      have hU4 := heap_alloc_new w3 (.cells #[.int .u32 (u32 (g + 1)), .slice a3 ks2.length c3, .int .i64 h, .int .i64 ty, .bool ap] 25)
      have hb4 : Below w3.heap.size w3 (w3.alloc (.cells #[.int .u32 (u32 (g + 1)), .slice a3 ks2.length c3, .int .i64 h, .int .i64 ty, .bool ap] 25)) := by repeat (first | with_reducible assumption | (with_reducible refine Below.setCell ?_ (by first | omega | (simp; done) | (simp; omega)) _) | (with_reducible refine Below.alloc ?_ (by first | omega | (simp; done) | (simp; omega)) _) | (with_reducible refine Below.drew ?_) | (with_reducible refine below_dN ?_ _) | with_reducible exact Below.refl _ _ | (with_reducible refine Below.trans ?_ (Below.mono (by assumption) (by first | omega | (simp; done) | (simp; omega)))))
      have hs4 : w3.heap.size < (w3.alloc (.cells #[.int .u32 (u32 (g + 1)), .slice a3 ks2.length c3, .int .i64 h, .int .i64 ty, .bool ap] 25)).heap.size := by simp
      generalize w3.alloc (.cells #[.int .u32 (u32 (g + 1)), .slice a3 ks2.length c3, .int .i64 h, .int .i64 ty, .bool ap] 25) = w4 at hU4 hb4 hs4 ⊢
      have hkk : (k != (keyF ks2 n).1) = false := by rw [HJ2.out.2.2.1]; simp
      refine (post_to (act0_z ⟨u32 (g + 1), ks2, h, ty, ap⟩ n 0 k 0 ap a3 c3 w4 (show ks2.length ≤ 1000000 by have := HJ2.out.2.1; omega) (H3.out.1.below hb4) H3.out.2.1 (by rw [HJ2.out.2.2.1]) rfl hkk) HJ2.out.2.2.2).mono ?_
      rintro e w5 ⟨a5, c5, b5, d5, rfl, hk5, hn5, hi5, hb5⟩
      have hb35 := hb4.trans (hb5.mono hb4.size)
      have hU5 := (hb5.block w3.heap.size hs4).trans hU4
      have hT5 := (hb35.block w.heap.size hw3).trans H3.out.2.2.1
      have hs5 := hb5.size
      have H5 := Lib.hid (And.intro hk5 (And.intro hn5 (And.intro hT5 (And.intro hU5 (And.intro (H3.out.2.2.2.trans (hb35.mono H3.out.2.2.2.size)) (HK3.out.below hb35))))))
      clear z0 z1 z2 z3 z4 y0 y1 y2 y3 y4 hU4 hb4 hkk hk5 hn5 hi5 hb5 hb35
      generalize hU : w3.heap.size = U at hs4 hU5 hs3 hw3 H5 ⊢
      have hU5' : U < w5.heap.size := by omega
      have hw5 : w.heap.size < w5.heap.size := by omega
      have hne1 : ¬ U = w.heap.size := by omega
      have hne2 : ¬ w.heap.size = U := by omega
      obtain ⟨z0, z1, z2, z3, z4, y0, y1, y2, y3, y4⟩ := blk5 hT5
      obtain ⟨q0, q1, q2, q3, q4, _⟩ := blk5 hU5
      clear hT5 hU5
      have hl2 : ((ks2.length : Int) == (ks.length : Int) + 1) = true := by have := HJ2.out.2.1; rw [beq_iff_eq]; omega
      go_wp2_with fail
      have hgA := grown_set w5 w.heap.size 0 (.int .u32 ((g + 2) % 4294967296))
      have hkA := H5.out.2.2.2.2.2.grown hgA H5.out.2.2.1 (by simp) (by simp) (by simp)
      have hkB := H5.out.1.grown hgA H5.out.2.2.1 (by simp) (by simp) (by simp)
      have hbA := H5.out.2.2.2.2.1.grown hgA (by omega) (fun k' hk' => by cases hk'; omega)
      have hzA := hgA.size
      generalize w5.setCell ⟨w.heap.size, 0, none⟩ (.int .u32 ((g + 2) % 4294967296)) = w6 at hkA hkB hbA hzA ⊢
      have hb6 : Below w6.heap.size w6 (w6.alloc (.cells #[.int .u32 (u32 (g + 2)), .slice a5 ks.length c5, .int .i64 h, .int .i64 ty, .bool ap] 25)) := by repeat (first | with_reducible assumption | (with_reducible refine Below.setCell ?_ (by first | omega | (simp; done) | (simp; omega)) _) | (with_reducible refine Below.alloc ?_ (by first | omega | (simp; done) | (simp; omega)) _) | (with_reducible refine Below.drew ?_) | (with_reducible refine below_dN ?_ _) | with_reducible exact Below.refl _ _ | (with_reducible refine Below.trans ?_ (Below.mono (by assumption) (by first | omega | (simp; done) | (simp; omega)))))
      refine (rSame_any ((g + 2) % 4294967296) h ty ap a ks cap (u32 (g + 2)) h ty ap a5 ks c5 _ hlen hlen (hkA.below hb6) (hkB.below hb6)).mono ?_
      rintro e w7 ⟨rfl, hb7⟩
      have hsame : ((g + 2) % 4294967296 == u32 (g + 2) && h == h && ty == ty && ap == ap && ks == ks) = true := by simp [u32]
      rw [hsame]
      dsimp only
      go_wp2
      go_ret
      exact ⟨rfl, hbA.trans ((hb6.trans (hb7.mono hb6.size)).mono hbA.size)⟩

theorem PersJoins_any (g h ty n k : Int) (ap : Bool) (a : Option Addr) (ks : List (Int × Int)) (cap : Nat) (w : World) (hlen : ks.length ≤ 9223372036854775807)
   (hk : KeysIn w a ks) (hna : a = none → cap = 0) :
    Calls Try.prog 5 #[.agg #[.int .u32 g, .slice a ks.length cap, .int .i64 h, .int .i64 ty, .bool ap], .int .i64 n, .int .u64 k] w fun e w' => e = .returned (.bool true) ∧ Below w.heap.size w w' := by
  cases hs : rsoundF ks h ty
  · exact PersJoins_bad g h ty n k ap a ks cap w hlen hk false hs (.inl rfl)
  · cases h1 : decide (n < 0)
    · cases h2 : decide (7 < n)
      · cases h3 : (k == 0)
        · cases h4 : ((ks.length : Int) == 6)
          · exact PersJoins_good g h ty n k ap a ks cap w hlen hk hna hs h1 h2 h3 h4
          · exact PersJoins_bad g h ty n k ap a ks cap w hlen hk true hs (.inr (.inr (.inr (.inr ⟨rfl, h1, h2, h3, h4⟩))))
        · exact PersJoins_bad g h ty n k ap a ks cap w hlen hk true hs (.inr (.inr (.inr (.inl ⟨rfl, h1, h2, h3⟩))))
      · exact PersJoins_bad g h ty n k ap a ks cap w hlen hk true hs (.inr (.inr (.inl ⟨rfl, h1, h2⟩)))
    · exact PersJoins_bad g h ty n k ap a ks cap w hlen hk true hs (.inr (.inl ⟨rfl, h1⟩))
end Go.Proofs.Ytopakonpfbbldaa
