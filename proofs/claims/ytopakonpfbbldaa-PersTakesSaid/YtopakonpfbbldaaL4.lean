/- Who preempts the holder of a reservation holds it then; whoever is registered no more is barred as one who never was. The list of registrations has a length that an int can tell. -/
import Derived.Test.YtopakonpfbbldaaS1
import Derived.Test.YtopakonpfbbldaaR4
import Derived.Test.YtopakonpfbbldaaR5
import Derived.Test.YtopakonpfbbldaaFnsT
import Derived.Test.YtopakonpfbbldaaW27
namespace Go.Proofs.Ytopakonpfbbldaa
set_option linter.unusedSimpArgs false
set_option linter.unusedVariables false
open Go.RowKit

theorem idx6 (k : Int) : 0 ≤ (wrap64 (k.tmod 6 + 6)).tmod 6 ∧ (wrap64 (k.tmod 6 + 6)).tmod 6 < 6 := by
  have h1 := Int.natAbs_tmod k 6
  have h2 := Nat.mod_lt k.natAbs (show 0 < (6 : Int).natAbs by decide)
  have h3 : wrap64 (k.tmod 6 + 6) = k.tmod 6 + 6 := by unfold wrap64; omega
  rw [h3]
  have h4 : 0 ≤ k.tmod 6 + 6 := by omega
  rw [Int.tmod_eq_emod_of_nonneg h4]
  exact ⟨Int.emod_nonneg _ (by omega), Int.emod_lt_of_pos _ (by omega)⟩
theorem typ_ok (k : Int) : ∃ typ, knownF typ = true ∧ ∀ w, (Instr.index 40 (.agg #[.int .i64 1, .int .i64 3, .int .i64 5, .int .i64 6, .int .i64 7, .int .i64 8]) (.int .i64 ((wrap64 (k.tmod 6 + 6)).tmod 6))).run Try.prog w = .ok (.int .i64 typ) w := by
  obtain ⟨h0, h6⟩ := idx6 k
  generalize (wrap64 (k.tmod 6 + 6)).tmod 6 = e at h0 h6 ⊢
  have : e = 0 ∨ e = 1 ∨ e = 2 ∨ e = 3 ∨ e = 4 ∨ e = 5 := by omega
  rcases this with rfl | rfl | rfl | rfl | rfl | rfl
  · exact ⟨1, rfl, fun w => rfl⟩
  · exact ⟨3, rfl, fun w => rfl⟩
  · exact ⟨5, rfl, fun w => rfl⟩
  · exact ⟨6, rfl, fun w => rfl⟩
  · exact ⟨7, rfl, fun w => rfl⟩
  · exact ⟨8, rfl, fun w => rfl⟩

set_option maxRecDepth 100000 in
set_option maxHeartbeats 4000000 in
theorem PersTakes_bad (g h ty n k : Int) (ap : Bool) (a : Option Addr) (ks : List (Int × Int)) (cap : Nat) (w : World) (hlen : ks.length ≤ 9223372036854775807)
   (hk : KeysIn w a ks) (b : Bool) (hs : rsoundF ks h ty = b) (hbad : b = false ∨ (b = true ∧ (ty == 0) = true) ∨ (b = true ∧ (ty == 0) = false ∧ decide (6 < ty) = true) ∨
     (b = true ∧ (ty == 0) = false ∧ decide (6 < ty) = false ∧ decide (n < 0) = true) ∨ (b = true ∧ (ty == 0) = false ∧ decide (6 < ty) = false ∧ decide (n < 0) = false ∧ decide (7 < n) = true)) :
    Calls Try.prog 6 #[.agg #[.int .u32 g, .slice a ks.length cap, .int .i64 h, .int .i64 ty, .bool ap], .int .i64 n, .int .i64 k] w fun e w' => e = .returned (.bool true) ∧ Below w.heap.size w w' := by
  have HK := Lib.hid hk; clear hk
  rcases hbad with rfl | ⟨rfl, h1⟩ | ⟨rfl, h1, h2⟩ | ⟨rfl, h1, h2, h3⟩ | ⟨rfl, h1, h2, h3, h4⟩
  all_goals
    go_enter Try.func6, Try.ntmps6
    go_wp2_with fail
    have b0 := heap_alloc_new w (.cells #[.int .u32 g, .slice a ks.length cap, .int .i64 h, .int .i64 ty, .bool ap] 25)
    refine (stands_any _).mono ?_
    rintro e w1 ⟨rfl, hb1⟩
    have c1 := (hb1.block w.heap.size (by simp)).trans b0
    have hbw : Below w.heap.size w w1 := by repeat (first | with_reducible assumption | (with_reducible refine Below.setCell ?_ (by first | omega | (simp; done) | (simp; omega)) _) | (with_reducible refine Below.alloc ?_ (by first | omega | (simp; done) | (simp; omega)) _) | (with_reducible refine Below.drew ?_) | (with_reducible refine below_dN ?_ _) | with_reducible exact Below.refl _ _ | (with_reducible refine Below.trans ?_ (Below.mono (by assumption) (by first | omega | (simp; done) | (simp; omega)))))
    have hsound := rSound_any g h ty ap a ks cap w1 hlen (HK.out.below hbw)
    rw [hs] at hsound
    have HSD := Lib.hid hsound
    have HC := Lib.hid c1
    obtain ⟨z0, z1, z2, z3, z4, _⟩ := blk5 c1
    have hsz := hb1.size
    simp only [World.size_alloc] at hsz
    clear b0 hsound c1 hb1 hs
    dsimp only
    go_wp2_with (go_at_call 11; refine HSD.out.mono ?_; rintro e w2 ⟨rfl, hb2⟩; obtain ⟨z0, z1, z2, z3, z4, _⟩ := blk5 ((hb2.block _ (by omega)).trans HC.out))
    go_ret
    exact ⟨rfl, by repeat (first | with_reducible assumption | (with_reducible refine Below.setCell ?_ (by first | omega | (simp; done) | (simp; omega)) _) | (with_reducible refine Below.alloc ?_ (by first | omega | (simp; done) | (simp; omega)) _) | (with_reducible refine Below.drew ?_) | (with_reducible refine below_dN ?_ _) | with_reducible exact Below.refl _ _ | (with_reducible refine Below.trans ?_ (Below.mono (by assumption) (by first | omega | (simp; done) | (simp; omega)))))⟩

set_option maxRecDepth 100000 in
set_option maxHeartbeats 4000000 in
theorem PersTakes_good (g h ty n k : Int) (ap : Bool) (a : Option Addr) (ks : List (Int × Int)) (cap : Nat) (w : World) (hlen : ks.length ≤ 9223372036854775807)
   (hk : KeysIn w a ks) (hna : a = none → cap = 0) (hs : rsoundF ks h ty = true) (h1 : (ty == 0) = false) (h2 : decide (6 < ty) = false) (h3 : decide (n < 0) = false) (h4 : decide (7 < n) = false) :
    Calls Try.prog 6 #[.agg #[.int .u32 g, .slice a ks.length cap, .int .i64 h, .int .i64 ty, .bool ap], .int .i64 n, .int .i64 k] w fun e w' => e = .returned (.bool true) ∧ Below w.heap.size w w' := by
  have HK := Lib.hid hk; clear hk
  have HNA := Lib.hid hna; clear hna
  have HS : Hid (soundT ⟨g, ks, h, ty, ap⟩ = true) := Lib.hid hs
  have hl6 : ks.length ≤ 6 := (sound_inv HS.out).1
  go_enter Try.func6, Try.ntmps6
  go_wp2_with fail
  have b0 := heap_alloc_new w (.cells #[.int .u32 g, .slice a ks.length cap, .int .i64 h, .int .i64 ty, .bool ap] 25)
  refine (stands_any _).mono ?_
  rintro e w1 ⟨rfl, hb1⟩
  have c1 := (hb1.block w.heap.size (by simp)).trans b0
  have hbw : Below w.heap.size w w1 := by repeat (first | with_reducible assumption | (with_reducible refine Below.setCell ?_ (by first | omega | (simp; done) | (simp; omega)) _) | (with_reducible refine Below.alloc ?_ (by first | omega | (simp; done) | (simp; omega)) _) | (with_reducible refine Below.drew ?_) | (with_reducible refine below_dN ?_ _) | with_reducible exact Below.refl _ _ | (with_reducible refine Below.trans ?_ (Below.mono (by assumption) (by first | omega | (simp; done) | (simp; omega)))))
  have hsound := rSound_any g h ty ap a ks cap w1 hlen (HK.out.below hbw)
  rw [hs] at hsound
  have HSD := Lib.hid hsound
  have HC := Lib.hid c1
  obtain ⟨z0, z1, z2, z3, z4, _⟩ := blk5 c1
  have hsz := hb1.size
  simp only [World.size_alloc] at hsz
  clear b0 hsound c1 hb1 hs
  dsimp only
  go_wp2_with (go_at_call 11; refine HSD.out.mono ?_; rintro e w2 ⟨rfl, hb2⟩; have hs2 := hb2.size; obtain ⟨z0, z1, z2, z3, z4, _⟩ := blk5 ((hb2.block _ (by omega)).trans HC.out))
  have hb02 : Below w.heap.size w w2 := hbw.trans (hb2.mono hbw.size)
  have HT2 := Lib.hid ((hb2.block w.heap.size (by omega)).trans HC.out)
  have hw2 : w.heap.size < w2.heap.size := by omega
  have HB02 := Lib.hid hb02
  have HOK := Lib.hid (soundT_ok HS.out)
  clear hb02 hb2 hbw z0 z1 z2 z3 z4
  go_loopw [7, 8, 42] (fun m o i wr => ∃ j : Nat, j ≤ ks.length ∧ i = .int .i64 j ∧ m = .int .u64 (keyF (ks.take j) n).1 ∧ o = .int .u64 (keyF (ks.take j) h).1 ∧ Below w2.heap.size w2 wr) (fun _ _ i _ => ks.length - (intOf i).toNat)
  case atStart => exact ⟨0, by omega, rfl, rfl, rfl, Below.refl _ _⟩
  case round =>
    obtain ⟨j, hj, rfl, rfl, rfl, hbel⟩ := hrel
    have hsr := hbel.size
    have hb0r : Below w.heap.size w wr := HB02.out.trans (hbel.mono HB02.out.size)
    have hT := (hbel.block w.heap.size hw2).trans HT2.out
    have hwr : w.heap.size < wr.heap.size := by omega
    obtain ⟨z0, z1, z2, z3, z4, y0, y1, y2, y3, y4⟩ := blk5 hT
    by_cases hlt : j < ks.length
    · obtain ⟨b, off, rfl, hbs, e1, e2⟩ := HK.out j hlt
      have d1 := (hb0r.cell (p := ⟨b, off + j * 2, none⟩) hbs).trans e1
      have d2 := (hb0r.cell (p := ⟨b, off + j * 2 + 1, none⟩) hbs).trans e2
      have hlt2 : decide ((j : Int) < (ks.length : Int)) = true := by rw [decide_eq_true_eq]; omega
      have HKN := Lib.hid (key_take ks HOK.out n j hlt)
      have HKH := Lib.hid (key_take ks HOK.out h j hlt)
      generalize (keyF (ks.take j) n).1 = m0 at HKN ⊢
      generalize (keyF (ks.take j) h).1 = o0 at HKH ⊢
      obtain ⟨⟨kn, kk⟩, hkj⟩ : ∃ x, x = ks[j] := ⟨_, rfl⟩
      rw [← hkj] at d1 d2 HKN HKH
      simp only at d1 d2
      clear e1 e2 hT hkj
      cases q1 : (kn == n)
      all_goals
        cases q2 : (kn == h)
        all_goals
          have Q := Lib.hid (And.intro q1 q2)
          go_wp2
          go_roundw
          case rel =>
            obtain ⟨q1, q2⟩ := Q.out
            refine ⟨j + 1, by omega, by go_num, ?_, ?_, by repeat (first | with_reducible assumption | (with_reducible refine Below.setCell ?_ (by first | omega | (simp; done) | (simp; omega)) _) | (with_reducible refine Below.alloc ?_ (by first | omega | (simp; done) | (simp; omega)) _) | (with_reducible refine Below.drew ?_) | (with_reducible refine below_dN ?_ _) | with_reducible exact Below.refl _ _ | (with_reducible refine Below.trans ?_ (Below.mono (by assumption) (by first | omega | (simp; done) | (simp; omega)))))⟩
            · rw [HKN.out]; simp only [beq_eq_false_iff_ne, beq_iff_eq, ne_eq] at q1; simp [q1]
            · rw [HKH.out]; simp only [beq_eq_false_iff_ne, beq_iff_eq, ne_eq] at q2; simp [q2]
          case measure => simp [intOf]; omega
    · obtain rfl : j = ks.length := by omega
      have htk : ks.take ks.length = ks := List.take_length
      rw [htk]
      obtain ⟨typ, hkt, hidx⟩ := typ_ok k
      have HKT := Lib.hid hkt
      have HB0R := Lib.hid hb0r
      have HKR := Lib.hid (HK.out.below hb0r)
      have HTR := Lib.hid hT
      clear hkt htk hT hb0r hbel
      cases hr : (keyF ks n).2
      · have hm0 : (keyF ks n).1 = 0 := keyF_zero ks n hr
        rw [hm0]
        have HNB := Lib.hid (nobody_is ⟨g, ks, h, ty, ap⟩ n typ (keyF ks h).1 false hr)
        have HR := Lib.hid hr
        clear hr
        go_wp2_with fail
        refine (post_to (act4_c1 ⟨g, ks, h, ty, ap⟩ n typ 0 (keyF ks h).1 false a cap wr (show ks.length ≤ 1000000 by omega) HKR.out HNA.out HR.out) HNB.out).mono ?_
        rintro e w3 ⟨a3, c3, b3, d3, rfl, hk3, hn3, hi3, hb3⟩
        have hT3 := (hb3.block w.heap.size hwr).trans HTR.out
        have hs3 := hb3.size
        have hw3 : w.heap.size < w3.heap.size := by omega
        have H3 := Lib.hid (And.intro hk3 (And.intro (HKR.out.below hb3) (HB0R.out.trans (hb3.mono HB0R.out.size))))
        clear z0 z1 z2 z3 z4 y0 y1 y2 y3 y4 hk3 hn3 hi3 hb3 hidx
        obtain ⟨z0, z1, z2, z3, z4, _⟩ := blk5 hT3
        clear hT3
        go_wp2_with fail
        have hb4 : Below w3.heap.size w3 (w3.alloc (.cells #[.int .u32 g, .slice a3 ks.length c3, .int .i64 h, .int .i64 ty, .bool ap] 25)) := by repeat (first | with_reducible assumption | (with_reducible refine Below.setCell ?_ (by first | omega | (simp; done) | (simp; omega)) _) | (with_reducible refine Below.alloc ?_ (by first | omega | (simp; done) | (simp; omega)) _) | (with_reducible refine Below.drew ?_) | (with_reducible refine below_dN ?_ _) | with_reducible exact Below.refl _ _ | (with_reducible refine Below.trans ?_ (Below.mono (by assumption) (by first | omega | (simp; done) | (simp; omega)))))
        refine (rSame_any g h ty ap a ks cap g h ty ap a3 ks c3 _ hlen hlen (H3.out.2.1.below hb4) (H3.out.1.below hb4)).mono ?_
        rintro e w7 ⟨rfl, hb7⟩
        have hsame : (g == g && h == h && ty == ty && ap == ap && ks == ks) = true := by simp
        rw [hsame]
        have hbw7 := H3.out.2.2.trans ((hb4.trans (hb7.mono hb4.size)).mono H3.out.2.2.size)
        dsimp only
        go_wp2
        go_ret
        exact ⟨rfl, hbw7⟩
      · obtain ⟨L, G, hact, htk, hty, hfa, hoz, hkL, hG, hLl, hGl⟩ := takes_is ⟨g, ks, h, ty, ap⟩ HS.out n typ false h1 h2 hr HKT.out
        have hmk := (okF_mem ks (-1) n HOK.out hr).2.2.2
        have hmz : ((keyF ks n).1 == 0) = false := by simpa using hmk
        have HX := Lib.hid (And.intro hkL (And.intro hG (And.intro hLl hGl)))
        have HA := Lib.hid (fun wx hk hn => post_to (act4_t ⟨g, ks, h, ty, ap⟩ n typ (keyF ks n).1 (keyF ks h).1 false a cap wx (show ks.length ≤ 1000000 by omega) hk hn htk hty HKT.out hfa (by simp) hoz hr (by simp)) hact)
        clear hact htk hty hfa hoz hkL hG hmk hr hLl hGl
        generalize (keyF ks n).1 = m0 at HA hmz ⊢
        generalize (keyF ks h).1 = o0 at HA ⊢
        go_wp2_with fail
        refine (HA.out wr HKR.out HNA.out).mono ?_
        rintro e w3 ⟨a3, c3, b3, d3, rfl, hk3, hn3, hi3, hb3⟩
        have hs3 := hb3.size
        have H3 := Lib.hid (And.intro hk3 (And.intro hn3 (And.intro hi3 (HB0R.out.trans (hb3.mono HB0R.out.size)))))
        clear z0 z1 z2 z3 z4 y0 y1 y2 y3 y4 hk3 hn3 hi3 hb3 hidx
        go_wp2_with fail
        have hU4 := heap_alloc_new w3 (.cells #[.int .u32 (u32 (g + 1)), .slice a3 L.length c3, .int .i64 n, .int .i64 typ, .bool ap] 25)
        have hb4 : Below w3.heap.size w3 (w3.alloc (.cells #[.int .u32 (u32 (g + 1)), .slice a3 L.length c3, .int .i64 n, .int .i64 typ, .bool ap] 25)) := by repeat (first | with_reducible assumption | (with_reducible refine Below.setCell ?_ (by first | omega | (simp; done) | (simp; omega)) _) | (with_reducible refine Below.alloc ?_ (by first | omega | (simp; done) | (simp; omega)) _) | (with_reducible refine Below.drew ?_) | (with_reducible refine below_dN ?_ _) | with_reducible exact Below.refl _ _ | (with_reducible refine Below.trans ?_ (Below.mono (by assumption) (by first | omega | (simp; done) | (simp; omega)))))
        have hs4 : w3.heap.size < (w3.alloc (.cells #[.int .u32 (u32 (g + 1)), .slice a3 L.length c3, .int .i64 n, .int .i64 typ, .bool ap] 25)).heap.size := by simp
        generalize w3.alloc (.cells #[.int .u32 (u32 (g + 1)), .slice a3 L.length c3, .int .i64 n, .int .i64 typ, .bool ap] 25) = w4 at hU4 hb4 hs4 ⊢
        have hho : holdsF L n typ n = true := by
          have hk0 : (typ != 0) = true := by
            have := HKT.out
            cases h : (typ == 0)
            · simp [bne, h]
            · have : typ = 0 := by simpa using h
              subst this; simp [knownF] at *
          simp [holdsF, hk0, HX.out.1]
        have hH := Holds_any (u32 (g + 1)) n typ n ap a3 L c3 w4 (show L.length ≤ 9223372036854775807 by have := HX.out.2.2.1; omega) (H3.out.1.below hb4)
        rw [hho] at hH
        refine hH.mono ?_
        rintro e w5 ⟨rfl, hb5⟩
        have hU5 := (hb5.block w3.heap.size hs4).trans hU4
        have hb35 := hb4.trans (hb5.mono hb4.size)
        have hs5 := hb5.size
        have H5 := Lib.hid (And.intro (H3.out.1.below hb35) (And.intro (H3.out.2.2.1.below hb35) (And.intro hU5 (H3.out.2.2.2.trans (hb35.mono H3.out.2.2.2.size)))))
        clear hho hH hU4 hb4 hb5 hb35
        generalize hU : w3.heap.size = U at hs4 hU5 hs3 H5 ⊢
        have hU5' : U < w5.heap.size := by omega
        obtain ⟨q0, q1, q2, q3, q4, _⟩ := blk5 hU5
        clear hU5
        dsimp only
        go_wp2_with fail
        go_loopw [15, 108] (fun _ i wr => ∃ j : Nat, j ≤ G.length ∧ i = .int .i64 j ∧ Below w5.heap.size w5 wr) (fun _ i _ => G.length - (intOf i).toNat)
        case atStart => exact ⟨0, by omega, rfl, Below.refl _ _⟩
        case round =>
          obtain ⟨j, hj, rfl, hbel⟩ := hrel
          have hsr := hbel.size
          have hGl := HX.out.2.2.2
          by_cases hlt : j < G.length
          · obtain ⟨bb, off, rfl, hbs, e1, _⟩ := H5.out.2.1 j hlt
            have d1 := (hbel.cell (p := ⟨bb, off + j, none⟩) hbs).trans e1
            have hnot := HX.out.2.1 G[j] (List.getElem_mem hlt)
            generalize G[j] = m at d1 hnot ⊢
            have hlt2 : decide ((j : Int) < (G.length : Int)) = true := by rw [decide_eq_true_eq]; omega
            have hji : (j : Int) < (G.length : Int) := by omega
            obtain ⟨q0, q1, q2, q3, q4, _⟩ := blk5 ((hbel.block U hU5').trans H5.out.2.2.1)
            clear e1
            cases hB : barsF L n typ m 7
            · have HM : Hid ((∀ wx, Below w5.heap.size w5 wx → Calls Try.prog 12 #[.agg #[.int .u32 (u32 (g + 1)), .slice a3 L.length c3, .int .i64 n, .int .i64 typ, .bool ap], .int .i64 m] wx fun e w' => e = .returned (.bool false) ∧ Below wx.heap.size wx w') ∧
                  (∀ wx, Below w5.heap.size w5 wx → Calls Try.prog 14 #[.agg #[.int .u32 (u32 (g + 1)), .slice a3 L.length c3, .int .i64 n, .int .i64 typ, .bool ap], .int .i64 m, .int .i64 7] wx fun e w' => e = .returned (.bool (barsF L n typ m 7)) ∧ Below wx.heap.size wx w') ∧
                  (∀ wx, Calls Try.prog 14 #[.agg #[.int .u32 0, .slice none 0 0, .int .i64 (-1), .int .i64 0, .bool false], .int .i64 m, .int .i64 7] wx fun e w' => e = .returned (.bool false) ∧ Below wx.heap.size wx w')) := Lib.hid ⟨fun wx hx => by
                    have h0 := Holds_any (u32 (g + 1)) n typ m ap a3 L c3 wx (show L.length ≤ 9223372036854775807 by have := HX.out.2.2.1; omega) (H5.out.1.below hx)
                    rw [show holdsF L n typ m = false by simp [holdsF, hnot]] at h0; exact h0,
                  fun wx hx => Bars_any (u32 (g + 1)) n typ m 7 ap a3 L c3 wx (show L.length ≤ 9223372036854775807 by have := HX.out.2.2.1; omega) (H5.out.1.below hx),
                  fun wx => bars_to 0 (-1) 0 m 7 false [] false (by simp [barsF]) none 0 wx (by simp) (KeysIn.nil _ _)⟩
              rw [hB] at HM
              clear hB hnot
              go_wp2_with fail
              refine (HM.out.1 _ hbel).mono ?_
              rintro e wa ⟨rfl, hba⟩
              have hsa := hba.size
              have hxa : Below w5.heap.size w5 wa := by repeat (first | with_reducible assumption | (with_reducible refine Below.setCell ?_ (by first | omega | (simp; done) | (simp; omega)) _) | (with_reducible refine Below.alloc ?_ (by first | omega | (simp; done) | (simp; omega)) _) | (with_reducible refine Below.drew ?_) | (with_reducible refine below_dN ?_ _) | with_reducible exact Below.refl _ _ | (with_reducible refine Below.trans ?_ (Below.mono (by assumption) (by first | omega | (simp; done) | (simp; omega)))))
              clear q0 q1 q2 q3 q4
              obtain ⟨q0, q1, q2, q3, q4, _⟩ := blk5 ((hxa.block U hU5').trans H5.out.2.2.1)
              dsimp only
              go_wp2_with fail
              refine (HM.out.2.1 _ hxa).mono ?_
              rintro e wb ⟨rfl, hbb⟩
              have hsb := hbb.size
              have hxb : Below w5.heap.size w5 wb := by repeat (first | with_reducible assumption | (with_reducible refine Below.setCell ?_ (by first | omega | (simp; done) | (simp; omega)) _) | (with_reducible refine Below.alloc ?_ (by first | omega | (simp; done) | (simp; omega)) _) | (with_reducible refine Below.drew ?_) | (with_reducible refine below_dN ?_ _) | with_reducible exact Below.refl _ _ | (with_reducible refine Below.trans ?_ (Below.mono (by assumption) (by first | omega | (simp; done) | (simp; omega)))))
              clear q0 q1 q2 q3 q4
              obtain ⟨q0, q1, q2, q3, q4, _⟩ := blk5 ((hxb.block U hU5').trans H5.out.2.2.1)
              dsimp only
              go_wp2_with fail
              refine (None_any _).mono ?_
              rintro e wc ⟨rfl, hbc⟩
              have hsc := hbc.size
              have hxc : Below w5.heap.size w5 wc := by repeat (first | with_reducible assumption | (with_reducible refine Below.setCell ?_ (by first | omega | (simp; done) | (simp; omega)) _) | (with_reducible refine Below.alloc ?_ (by first | omega | (simp; done) | (simp; omega)) _) | (with_reducible refine Below.drew ?_) | (with_reducible refine below_dN ?_ _) | with_reducible exact Below.refl _ _ | (with_reducible refine Below.trans ?_ (Below.mono (by assumption) (by first | omega | (simp; done) | (simp; omega)))))
              clear q0 q1 q2 q3 q4
              obtain ⟨q0, q1, q2, q3, q4, _⟩ := blk5 ((hxc.block U hU5').trans H5.out.2.2.1)
              dsimp only
              go_wp2_with fail
              refine (HM.out.2.2 _).mono ?_
              rintro e wd ⟨rfl, hbd⟩
              have hsd := hbd.size
              have hxd : Below w5.heap.size w5 wd := by repeat (first | with_reducible assumption | (with_reducible refine Below.setCell ?_ (by first | omega | (simp; done) | (simp; omega)) _) | (with_reducible refine Below.alloc ?_ (by first | omega | (simp; done) | (simp; omega)) _) | (with_reducible refine Below.drew ?_) | (with_reducible refine below_dN ?_ _) | with_reducible exact Below.refl _ _ | (with_reducible refine Below.trans ?_ (Below.mono (by assumption) (by first | omega | (simp; done) | (simp; omega)))))
              clear q0 q1 q2 q3 q4
              obtain ⟨q0, q1, q2, q3, q4, _⟩ := blk5 ((hxd.block U hU5').trans H5.out.2.2.1)
              dsimp only
              go_wp2
              go_roundw
              case rel => exact ⟨j + 1, by omega, by go_num, by repeat (first | with_reducible assumption | (with_reducible refine Below.setCell ?_ (by first | omega | (simp; done) | (simp; omega)) _) | (with_reducible refine Below.alloc ?_ (by first | omega | (simp; done) | (simp; omega)) _) | (with_reducible refine Below.drew ?_) | (with_reducible refine below_dN ?_ _) | with_reducible exact Below.refl _ _ | (with_reducible refine Below.trans ?_ (Below.mono (by assumption) (by first | omega | (simp; done) | (simp; omega)))))⟩
              case measure => simp [intOf]; omega
            · have HM : Hid ((∀ wx, Below w5.heap.size w5 wx → Calls Try.prog 12 #[.agg #[.int .u32 (u32 (g + 1)), .slice a3 L.length c3, .int .i64 n, .int .i64 typ, .bool ap], .int .i64 m] wx fun e w' => e = .returned (.bool false) ∧ Below wx.heap.size wx w') ∧
                  (∀ wx, Below w5.heap.size w5 wx → Calls Try.prog 14 #[.agg #[.int .u32 (u32 (g + 1)), .slice a3 L.length c3, .int .i64 n, .int .i64 typ, .bool ap], .int .i64 m, .int .i64 7] wx fun e w' => e = .returned (.bool (barsF L n typ m 7)) ∧ Below wx.heap.size wx w') ∧
                  (∀ wx, Calls Try.prog 14 #[.agg #[.int .u32 0, .slice none 0 0, .int .i64 (-1), .int .i64 0, .bool false], .int .i64 m, .int .i64 7] wx fun e w' => e = .returned (.bool false) ∧ Below wx.heap.size wx w')) := Lib.hid ⟨fun wx hx => by
                    have h0 := Holds_any (u32 (g + 1)) n typ m ap a3 L c3 wx (show L.length ≤ 9223372036854775807 by have := HX.out.2.2.1; omega) (H5.out.1.below hx)
                    rw [show holdsF L n typ m = false by simp [holdsF, hnot]] at h0; exact h0,
                  fun wx hx => Bars_any (u32 (g + 1)) n typ m 7 ap a3 L c3 wx (show L.length ≤ 9223372036854775807 by have := HX.out.2.2.1; omega) (H5.out.1.below hx),
                  fun wx => bars_to 0 (-1) 0 m 7 false [] false (by simp [barsF]) none 0 wx (by simp) (KeysIn.nil _ _)⟩
              rw [hB] at HM
              clear hB hnot
              go_wp2_with fail
              refine (HM.out.1 _ hbel).mono ?_
              rintro e wa ⟨rfl, hba⟩
              have hsa := hba.size
              have hxa : Below w5.heap.size w5 wa := by repeat (first | with_reducible assumption | (with_reducible refine Below.setCell ?_ (by first | omega | (simp; done) | (simp; omega)) _) | (with_reducible refine Below.alloc ?_ (by first | omega | (simp; done) | (simp; omega)) _) | (with_reducible refine Below.drew ?_) | (with_reducible refine below_dN ?_ _) | with_reducible exact Below.refl _ _ | (with_reducible refine Below.trans ?_ (Below.mono (by assumption) (by first | omega | (simp; done) | (simp; omega)))))
              clear q0 q1 q2 q3 q4
              obtain ⟨q0, q1, q2, q3, q4, _⟩ := blk5 ((hxa.block U hU5').trans H5.out.2.2.1)
              dsimp only
              go_wp2_with fail
              refine (HM.out.2.1 _ hxa).mono ?_
              rintro e wb ⟨rfl, hbb⟩
              have hsb := hbb.size
              have hxb : Below w5.heap.size w5 wb := by repeat (first | with_reducible assumption | (with_reducible refine Below.setCell ?_ (by first | omega | (simp; done) | (simp; omega)) _) | (with_reducible refine Below.alloc ?_ (by first | omega | (simp; done) | (simp; omega)) _) | (with_reducible refine Below.drew ?_) | (with_reducible refine below_dN ?_ _) | with_reducible exact Below.refl _ _ | (with_reducible refine Below.trans ?_ (Below.mono (by assumption) (by first | omega | (simp; done) | (simp; omega)))))
              clear q0 q1 q2 q3 q4
              obtain ⟨q0, q1, q2, q3, q4, _⟩ := blk5 ((hxb.block U hU5').trans H5.out.2.2.1)
              dsimp only
              go_wp2_with fail
              refine (None_any _).mono ?_
              rintro e wc ⟨rfl, hbc⟩
              have hsc := hbc.size
              have hxc : Below w5.heap.size w5 wc := by repeat (first | with_reducible assumption | (with_reducible refine Below.setCell ?_ (by first | omega | (simp; done) | (simp; omega)) _) | (with_reducible refine Below.alloc ?_ (by first | omega | (simp; done) | (simp; omega)) _) | (with_reducible refine Below.drew ?_) | (with_reducible refine below_dN ?_ _) | with_reducible exact Below.refl _ _ | (with_reducible refine Below.trans ?_ (Below.mono (by assumption) (by first | omega | (simp; done) | (simp; omega)))))
              clear q0 q1 q2 q3 q4
              obtain ⟨q0, q1, q2, q3, q4, _⟩ := blk5 ((hxc.block U hU5').trans H5.out.2.2.1)
              dsimp only
              go_wp2_with fail
              refine (HM.out.2.2 _).mono ?_
              rintro e wd ⟨rfl, hbd⟩
              have hsd := hbd.size
              have hxd : Below w5.heap.size w5 wd := by repeat (first | with_reducible assumption | (with_reducible refine Below.setCell ?_ (by first | omega | (simp; done) | (simp; omega)) _) | (with_reducible refine Below.alloc ?_ (by first | omega | (simp; done) | (simp; omega)) _) | (with_reducible refine Below.drew ?_) | (with_reducible refine below_dN ?_ _) | with_reducible exact Below.refl _ _ | (with_reducible refine Below.trans ?_ (Below.mono (by assumption) (by first | omega | (simp; done) | (simp; omega)))))
              clear q0 q1 q2 q3 q4
              obtain ⟨q0, q1, q2, q3, q4, _⟩ := blk5 ((hxd.block U hU5').trans H5.out.2.2.1)
              dsimp only
              go_wp2_with fail
              refine (HM.out.2.1 _ hxd).mono ?_
              rintro e wf ⟨rfl, hbf⟩
              have hsf := hbf.size
              have hxf : Below w5.heap.size w5 wf := by repeat (first | with_reducible assumption | (with_reducible refine Below.setCell ?_ (by first | omega | (simp; done) | (simp; omega)) _) | (with_reducible refine Below.alloc ?_ (by first | omega | (simp; done) | (simp; omega)) _) | (with_reducible refine Below.drew ?_) | (with_reducible refine below_dN ?_ _) | with_reducible exact Below.refl _ _ | (with_reducible refine Below.trans ?_ (Below.mono (by assumption) (by first | omega | (simp; done) | (simp; omega)))))
              clear q0 q1 q2 q3 q4
              obtain ⟨q0, q1, q2, q3, q4, _⟩ := blk5 ((hxf.block U hU5').trans H5.out.2.2.1)
              dsimp only
              go_wp2
              go_roundw
              case rel => exact ⟨j + 1, by omega, by go_num, by repeat (first | with_reducible assumption | (with_reducible refine Below.setCell ?_ (by first | omega | (simp; done) | (simp; omega)) _) | (with_reducible refine Below.alloc ?_ (by first | omega | (simp; done) | (simp; omega)) _) | (with_reducible refine Below.drew ?_) | (with_reducible refine below_dN ?_ _) | with_reducible exact Below.refl _ _ | (with_reducible refine Below.trans ?_ (Below.mono (by assumption) (by first | omega | (simp; done) | (simp; omega)))))⟩
              case measure => simp [intOf]; omega
          · obtain rfl : j = G.length := by omega
            have hbw := H5.out.2.2.2.trans (hbel.mono H5.out.2.2.2.size)
            go_wp2
            go_ret
            exact ⟨rfl, hbw⟩

theorem PersTakes_any (g h ty n k : Int) (ap : Bool) (a : Option Addr) (ks : List (Int × Int)) (cap : Nat) (w : World) (hlen : ks.length ≤ 9223372036854775807)
   (hk : KeysIn w a ks) (hna : a = none → cap = 0) :
    Calls Try.prog 6 #[.agg #[.int .u32 g, .slice a ks.length cap, .int .i64 h, .int .i64 ty, .bool ap], .int .i64 n, .int .i64 k] w fun e w' => e = .returned (.bool true) ∧ Below w.heap.size w w' := by
  cases hs : rsoundF ks h ty
  · exact PersTakes_bad g h ty n k ap a ks cap w hlen hk false hs (.inl rfl)
  · cases h1 : (ty == 0)
    · cases h2 : decide (6 < ty)
      · cases h3 : decide (n < 0)
        · cases h4 : decide (7 < n)
          · exact PersTakes_good g h ty n k ap a ks cap w hlen hk hna hs h1 h2 h3 h4
          · exact PersTakes_bad g h ty n k ap a ks cap w hlen hk true hs (.inr (.inr (.inr (.inr ⟨rfl, h1, h2, h3, h4⟩))))
        · exact PersTakes_bad g h ty n k ap a ks cap w hlen hk true hs (.inr (.inr (.inr (.inl ⟨rfl, h1, h2, h3⟩))))
      · exact PersTakes_bad g h ty n k ap a ks cap w hlen hk true hs (.inr (.inr (.inl ⟨rfl, h1, h2⟩)))
    · exact PersTakes_bad g h ty n k ap a ks cap w hlen hk true hs (.inr (.inl ⟨rfl, h1⟩))
end Go.Proofs.Ytopakonpfbbldaa
