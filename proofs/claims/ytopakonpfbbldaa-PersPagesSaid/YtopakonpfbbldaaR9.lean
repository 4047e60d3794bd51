/- What remove of the reference of layer 10 makes, where the holder goes. -/
import Derived.Test.YtopakonpfbbldaaR7
import Derived.Test.YtopakonpfbbldaaR3
import Derived.Test.YtopakonpfbbldaaFnsB
import Derived.Test.YtopakonpfbbldaaStop
namespace Go.Proofs.Ytopakonpfbbldaa
set_option linter.unusedSimpArgs false
set_option linter.unusedVariables false
open Go.RowKit

set_option maxRecDepth 100000 in
set_option maxHeartbeats 4000000 in
theorem rrem_c0 (t : Tab) (S : List Bool) (but : Int) (a : Option Addr) (cap : Nat) (w : World) (hlen : t.ks.length ≤ 9223372036854775807) (hS : S.length = 8) (hh : t.h < 8)
   (hk : KeysIn w a t.ks) (r0 : Int × Int) (l0 : List (Int × Int)) (g0 : decide (0 ≤ t.h) = true) (g1 : ((rmvK S (keysF t.ks)).getD t.h.toNat 0 == 0) = true) (gl : regsF 0 (rmvK S (keysF t.ks)) = r0 :: l0) (c7 : (t.ty == 7) = true) :
    Calls Try.prog 38 #[.agg #[.int .u32 t.g, .slice a t.ks.length cap, .int .i64 t.h, .int .i64 t.ty, .bool t.ap], .agg (S.map Value.bool).toArray, .int .i64 but] w (RemPost (rremoveF t S but) w) := by
  have HK := Lib.hid hk; clear hk
  have GX := Lib.hid g1; clear g1
  have GL := Lib.hid gl; clear gl
  go_enter Try.func38, Try.ntmps38
  go_wp2_with fail
  obtain ⟨b0, b1, b2⟩ := heap3 w (.cells #[.int .u32 t.g, .slice a t.ks.length cap, .int .i64 t.h, .int .i64 t.ty, .bool t.ap] 25) (.cells (S.map Value.bool).toArray 71) (.cells #[.int .u32 0, .slice none 0 0, .int .i64 0, .int .i64 0, .bool false] 25)
  refine (keys_any _ _ _ _ _ _ _ _ hlen (HK.out.below (by repeat (first | with_reducible assumption | (with_reducible refine Below.setCell ?_ (by first | omega | (simp; done) | (simp; omega)) _) | (with_reducible refine Below.alloc ?_ (by first | omega | (simp; done) | (simp; omega)) _) | (with_reducible refine Below.drew ?_) | (with_reducible refine below_dN ?_ _) | with_reducible exact Below.refl _ _ | (with_reducible refine Below.trans ?_ (Below.mono (by assumption) (by first | omega | (simp; done) | (simp; omega)))))))).mono ?_
  rintro e w1 ⟨rfl, hb⟩
  have hz1 := hb.size
  simp only [World.size_alloc] at hz1
  have c0 := (hb.block _ (by first | (simp; done) | (simp; omega))).trans b0
  have c1 := (hb.block _ (by first | (simp; done) | (simp; omega))).trans b1
  have c2 := (hb.block _ (by first | (simp; done) | (simp; omega))).trans b2
  have hbw : Below w.heap.size w w1 := by repeat (first | with_reducible assumption | (with_reducible refine Below.setCell ?_ (by first | omega | (simp; done) | (simp; omega)) _) | (with_reducible refine Below.alloc ?_ (by first | omega | (simp; done) | (simp; omega)) _) | (with_reducible refine Below.drew ?_) | (with_reducible refine below_dN ?_ _) | with_reducible exact Below.refl _ _ | (with_reducible refine Below.trans ?_ (Below.mono (by assumption) (by first | omega | (simp; done) | (simp; omega)))))
  clear b0 b1 b2 hb
  obtain ⟨k0, k1, k2, k3, k4, k5, k6, k7, hl8⟩ := list8 (keysF t.ks) (keysF_length t.ks)
  unfold arr8
  rw [hl8]
  simp only [List.map_cons, List.map_nil]
  go_wp2
  have d3 := heap_alloc_new w1 (.cells #[.int .u64 k0, .int .u64 k1, .int .u64 k2, .int .u64 k3, .int .u64 k4, .int .u64 k5, .int .u64 k6, .int .u64 k7] 57)
  have d0 := (heap_alloc_old w1 (.cells #[.int .u64 k0, .int .u64 k1, .int .u64 k2, .int .u64 k3, .int .u64 k4, .int .u64 k5, .int .u64 k6, .int .u64 k7] 57) (r := w.heap.size) (by omega)).trans c0
  have d1 := (heap_alloc_old w1 (.cells #[.int .u64 k0, .int .u64 k1, .int .u64 k2, .int .u64 k3, .int .u64 k4, .int .u64 k5, .int .u64 k6, .int .u64 k7] 57) (r := w.heap.size + 1) (by omega)).trans c1
  have d2 := (heap_alloc_old w1 (.cells #[.int .u64 k0, .int .u64 k1, .int .u64 k2, .int .u64 k3, .int .u64 k4, .int .u64 k5, .int .u64 k6, .int .u64 k7] 57) (r := w.heap.size + 1 + 1) (by omega)).trans c2
  have hd3 : (w1.alloc (.cells #[.int .u64 k0, .int .u64 k1, .int .u64 k2, .int .u64 k3, .int .u64 k4, .int .u64 k5, .int .u64 k6, .int .u64 k7] 57)).heap[w1.heap.size]? = some (.cells ((keysF t.ks).map (Value.int .u64)).toArray 57) := by rw [d3, hl8]; rfl
  have hbw2 : Below w.heap.size w (w1.alloc (.cells #[.int .u64 k0, .int .u64 k1, .int .u64 k2, .int .u64 k3, .int .u64 k4, .int .u64 k5, .int .u64 k6, .int .u64 k7] 57)) := by repeat (first | with_reducible assumption | (with_reducible refine Below.setCell ?_ (by first | omega | (simp; done) | (simp; omega)) _) | (with_reducible refine Below.alloc ?_ (by first | omega | (simp; done) | (simp; omega)) _) | (with_reducible refine Below.drew ?_) | (with_reducible refine below_dN ?_ _) | with_reducible exact Below.refl _ _ | (with_reducible refine Below.trans ?_ (Below.mono (by assumption) (by first | omega | (simp; done) | (simp; omega)))))
  have hsz2 : w1.heap.size + 1 = (w1.alloc (.cells #[.int .u64 k0, .int .u64 k1, .int .u64 k2, .int .u64 k3, .int .u64 k4, .int .u64 k5, .int .u64 k6, .int .u64 k7] 57)).heap.size := by simp
  generalize w1.alloc (.cells #[.int .u64 k0, .int .u64 k1, .int .u64 k2, .int .u64 k3, .int .u64 k4, .int .u64 k5, .int .u64 k6, .int .u64 k7] 57) = w2 at d0 d1 d2 hd3 hbw2 hsz2 ⊢
  generalize w1.heap.size = A at hz1 hd3 hsz2 ⊢
  clear d3 c0 c1 c2 hbw hl8
  have HKL := Lib.hid (keysF_length t.ks)
  obtain ⟨K, hK⟩ : ∃ x, x = keysF t.ks := ⟨_, rfl⟩
  have HKK := Lib.hid hK
  rw [← hK] at hd3
  have HKL : Hid (K.length = 8) := Lib.hid (by rw [hK]; exact HKL.out)
  clear hK
  have HD := Lib.hid (And.intro d0 (And.intro d1 (And.intro d2 (And.intro hd3 hbw2))))
  clear d0 d1 d2 hd3 hbw2
  obtain ⟨j0, hj, hy0, hy1, hy2⟩ := info_parts info_int
  go_loopw [9, 10] (fun v i wr => ∃ k : Nat, k ≤ 8 ∧ i = .int .i64 k ∧ wr.heap[w.heap.size]? = some (.cells #[.int .u32 t.g, .slice a t.ks.length cap, .int .i64 t.h, .int .i64 t.ty, .bool t.ap] 25) ∧ wr.heap[w.heap.size + 1]? = some (.cells (S.map Value.bool).toArray 71) ∧
    wr.heap[w.heap.size + 1 + 1]? = some (.cells #[.int .u32 0, .slice none 0 0, .int .i64 0, .int .i64 0, .bool false] 25) ∧ wr.heap[A]? = some (.cells ((rmvK (S.take k) K).map (Value.int .u64)).toArray 57) ∧
    wr.ownsRow (A + 1) 3 1 v (goneK 0 (S.take k) K but).length ((goneK 0 (S.take k) K but).map (Value.int .i64)) ∧ Below w.heap.size w wr) (fun _ i _ => 8 - (intOf i).toNat)
  case atStart => exact ⟨0, by omega, rfl, HD.out.1, HD.out.2.1, HD.out.2.2.1, by simpa [rmvK] using HD.out.2.2.2.1, by simpa [goneK] using World.ownsRow_nil _ _ _ _, HD.out.2.2.2.2⟩
  case round =>
    obtain ⟨k, hk, rfl, d0, d1, d2, d3, hown, hbel⟩ := hrel
    have hA : A < wr.heap.size := (Array.getElem?_eq_some_iff.1 d3).1
    have HE := Lib.hid (And.intro d0 (And.intro d1 (And.intro d2 (And.intro d3 hbel))))
    have HO := Lib.hid hown
    by_cases hlt : k < 8
    · have hkS : k < S.length := by omega
      have hkK : k < K.length := by rw [HKL.out]; exact hlt
      have f1 : wr.cell? ⟨w.heap.size + 1, k, none⟩ = some (.bool S[k]) := by simp [World.cell?, d1, hkS]
      obtain ⟨f2, f3⟩ := arr_cell d3 k (by rw [rmvK_length]; exact hkK)
      rw [rmv_at, show K.getD k 0 = K[k] by simp [hkK]] at f2
      have HR := Lib.hid (rmv_take k S K hkS hkK)
      have HG := Lib.hid (gone_take k 0 S K but hkS hkK)
      have hgl : (goneK 0 (S.take k) K but).length ≤ 8 := Nat.le_trans (goneK_le _ _ _ _) (by rw [List.length_take]; omega)
      clear d0 d1 d2 d3 hown hbel
      cases q1 : S[k]
      · go_wp2
        go_roundw
        case rel =>
          refine ⟨k + 1, by omega, by go_num, HE.out.1, HE.out.2.1, HE.out.2.2.1, ?_, ?_, HE.out.2.2.2.2⟩
          · rw [HR.out, q1]; exact HE.out.2.2.2.1
          · rw [HG.out, q1]; simpa using HO.out
        case measure => simp [intOf]; omega
      · cases q2 : (K[k] == 0)
        · have q2' : (K[k] != 0) = true := by simpa using q2
          cases q3 : ((k : Int) != but)
          · go_wp2
            go_roundw
            case rel =>
              have hgs := grown_set wr A k (.int .u64 0)
              refine ⟨k + 1, by omega, by go_num, (hgs.block _ (by omega) (by first | (simp; done) | (simp; omega))).trans HE.out.1, (hgs.block _ (by omega) (by first | (simp; done) | (simp; omega))).trans HE.out.2.1, (hgs.block _ (by omega) (by first | (simp; done) | (simp; omega))).trans HE.out.2.2.1, ?_, ?_, HE.out.2.2.2.2.grown hgs (by omega) (fun k' hk' => by cases hk'; omega)⟩
              · rw [HR.out, q1, q2']; exact arr_set HE.out.2.2.2.1 _ _
              · rw [HG.out, q1, q2', Nat.zero_add, q3]
                simpa using HO.out.kept hgs (own_ne HO.out HE.out.2.2.2.1 (by decide))
            case measure => simp [intOf]; omega
          · have hgs := grown_set wr A k (.int .u64 0)
            have HE0 := Lib.hid ((hgs.block w.heap.size (by omega) (by first | (simp; done) | (simp; omega))).trans HE.out.1)
            have HE1 := Lib.hid ((hgs.block (w.heap.size + 1) (by omega) (by first | (simp; done) | (simp; omega))).trans HE.out.2.1)
            have HE2 := Lib.hid ((hgs.block (w.heap.size + 1 + 1) (by omega) (by first | (simp; done) | (simp; omega))).trans HE.out.2.2.1)
            have HE3 := Lib.hid (arr_set HE.out.2.2.2.1 k 0)
            have HE4 := Lib.hid (HE.out.2.2.2.2.grown hgs (by omega) (fun k' hk' => by cases hk'; omega))
            have o1 := HO.out.kept hgs (own_ne HO.out HE.out.2.2.2.1 (by decide))
            have hz := hgs.size
            clear hgs
            go_wp2_with (at_builtin; refine wpList_append_own _ rfl _ _ 33 rfl (A + 1) 3 j0 (.int .i64 0) 1 8 Try.underlying33 hj hy0 hy1 hy2 rfl (by decide) _ _ _ rfl (o1.alloc _) ⟨wr.heap.size, 0, none⟩ 1 1 [.int .i64 k] rfl rfl ?c1 ?c2 ?c3 ?c4 ?c5 ?_)
            case c1 =>
              intro j u hu
              have h := cell_one_new (wr.setCell ⟨A, k, none⟩ (.int .u64 0)) (.int .i64 k) 3 j u hu
              simpa using h
            case c2 => simp [Value.oneCell']
            case c3 => unfold maxLen; omega
            case c4 => omega
            case c5 => simp; omega
            intro v' w4 hown2 hgrow _
            have hgO := grown_trans (grown_of_below (a := wr.setCell ⟨A, k, none⟩ (.int .u64 0)) (b := (wr.setCell ⟨A, k, none⟩ (.int .u64 0)).alloc (.cells #[.int .i64 k] 3)) (by have := Below.alloc (Below.refl (wr.setCell ⟨A, k, none⟩ (.int .u64 0)).heap.size (wr.setCell ⟨A, k, none⟩ (.int .u64 0))) (Nat.le_refl _) (.cells #[.int .i64 k] 3); exact this) _) hgrow
            have hoB : ∀ k', u9.ownBlock = some k' → A + 1 ≤ k' := fun k' h => (o1.lt k' h).1
            go_wp2
            go_roundw
            case rel =>
              refine ⟨k + 1, by omega, by go_num, (hgO.block _ (by simp; omega) (fun h => by have := hoB _ h.symm; omega)).trans HE0.out, (hgO.block _ (by simp; omega) (fun h => by have := hoB _ h.symm; omega)).trans HE1.out, (hgO.block _ (by simp; omega) (fun h => by have := hoB _ h.symm; omega)).trans HE2.out, ?_, ?_, HE4.out.grown hgO (by simp; omega) (fun k' h => by have := hoB _ h; omega)⟩
              · rw [HR.out, q1, q2']; exact (hgO.block _ (by simp; omega) (fun h => by have := hoB _ h.symm; omega)).trans HE3.out
              · rw [HG.out, q1, q2', Nat.zero_add, q3]
                simpa [hsz2] using hown2
            case measure => simp [intOf]; omega
        · have q2' : (K[k] != 0) = false := by simpa using q2
          go_wp2
          go_roundw
          case rel =>
            refine ⟨k + 1, by omega, by go_num, HE.out.1, HE.out.2.1, HE.out.2.2.1, ?_, ?_, HE.out.2.2.2.2⟩
            · rw [HR.out, q1, q2']; exact HE.out.2.2.2.1
            · rw [HG.out, q1, q2']; simpa using HO.out
          case measure => simp [intOf]; omega
    · obtain rfl : k = 8 := by omega
      have htk : S.take 8 = S := by rw [← hS]; exact List.take_length
      rw [htk] at d3
      obtain ⟨m0, m1, m2, m3, m4, m5, m6, m7, hm8⟩ := list8 (rmvK S K) (by rw [rmvK_length]; exact HKL.out)
      have HM8 := Lib.hid hm8
      rw [hm8] at d3
      simp only [List.map_cons, List.map_nil] at d3
      obtain ⟨z0, z1, z2, z3, z4, y0, y1, y2, y3, y4⟩ := blk5 d0
      obtain ⟨x0, x1, x2, x3, x4, x5, x6, x7, u0, u1, u2, u3, u4, u5, u6, u7⟩ := blk8 d3
      clear hm8 d0 d1 d2 d3 hown hbel
      have hKB := HE.out.2.2.2.2
      have hput := fun v wx => rput_any t.g t.h t.ty t.ap v [m0, m1, m2, m3, m4, m5, m6, m7] wx rfl
      simp only [List.map_cons, List.map_nil] at hput
      generalize hL : regsF 0 [m0, m1, m2, m3, m4, m5, m6, m7] = L at hput
      have HL := Lib.hid hL
      have HPUT := Lib.hid hput
      clear hput hL
      have HFH : Hid (0 ≤ t.h → wr.cell? ⟨A, t.h.toNat, none⟩ = some (.int .u64 ((rmvK S K).getD t.h.toNat 0))) := Lib.hid (fun h => by
        have d3 := HE.out.2.2.2.1
        rw [htk] at d3
        exact (arr_cell d3 t.h.toNat (by rw [rmvK_length, HKL.out]; omega)).1)
      generalize hx : (rmvK S K).getD t.h.toNat 0 = x at HFH
      have HX := Lib.hid hx
      clear hx
      have HO' := HO.out
      rw [htk] at HO'
      have HRM : Hid (∀ h' ty', rwithF (rmvK S K) t.h t.ty = (h', ty') → rremoveF t S but = ({ t with ks := L, h := h', ty := ty' }, goneK 0 S K but)) := Lib.hid (fun h' ty' e => by
        unfold rremoveF
        rw [← HKK.out]
        simp only [e]
        rw [HM8.out, HL.out])
      have HRW : Hid (rwithF (rmvK S K) t.h t.ty = if decide (0 ≤ t.h) && x == 0 then (if (t.ty == 7 || t.ty == 8) && decide (0 < L.length) then ((L.headD (0, 0)).1, t.ty) else (-1, 0)) else (t.h, t.ty)) := Lib.hid (by
        unfold rwithF
        rw [HX.out, HM8.out, HL.out])
      generalize goneK 0 S K but = G at HO' HRM
      obtain ⟨a9, c9, hv9⟩ := own_slice HO'
      rw [hv9] at HO'
      have HO9 : Hid (wr.ownsRow (A + 1) 3 1 (.slice a9 G.length c9) G.length (G.map (Value.int .i64))) := Lib.hid HO'
      clear HO HO'
      subst hv9
      have hn1 : ¬ w.heap.size = A := by omega
      have hn2 : ¬ A = w.heap.size := by omega
      have g1 : (x == 0) = true := by have h := GX.out; rw [← HKK.out, HX.out] at h; exact h
      have h0 : 0 ≤ t.h := by simpa using g0
      have hLn : L = r0 :: l0 := by have h := GL.out; rw [← HKK.out, HM8.out, HL.out] at h; exact h
      subst hLn
      go_wp2_with fail
      clear z0 z1 z2 z3 z4 y0 y1 y2 y3 y4 x0 x1 x2 x3 x4 x5 x6 x7 u0 u1 u2 u3 u4 u5 u6 u7 htk hlt
      refine (HPUT.out _ _).mono ?_
      rintro e w3 ⟨⟨a3, c3, rfl, ho3⟩, hb3⟩
      have hz3 := hb3.size
      have e0 := (hb3.block _ (by omega)).trans HE.out.1
      have e2 := (hb3.block _ (by omega)).trans HE.out.2.2.1
      obtain ⟨z0, z1, z2, z3, z4, y0, y1, y2, y3, y4⟩ := blk5 e0
      obtain ⟨v0, v1, v2, v3, v4, s0, s1, s2, s3, s4⟩ := blk5 e2
      have HO3 := Lib.hid (own_mono ho3 (show A + 1 ≤ wr.heap.size by omega))
      have HO4 := Lib.hid (own_below HO9.out hb3)
      have HBL := Lib.hid (HE.out.2.2.2.2.trans (hb3.mono (by have := HE.out.2.2.2.2.size; omega)))
      have HE2 := Lib.hid (And.intro e0 e2)
      have fh := (hb3.cell (p := ⟨A, t.h.toNat, none⟩) hA).trans (HFH.out h0)
      clear e0 e2 ho3 hb3
      obtain ⟨gk, hg0e, hg0, hgW⟩ : ∃ gk, a3 = some ⟨gk, 0, none⟩ ∧ A + 1 ≤ gk ∧ gk < w3.heap.size := by
        rcases own_addr0 HO3.out with ⟨_, _, hh0⟩ | ⟨gk, e, hg, hgW, _⟩
        · simp at hh0
        · exact ⟨gk, e, hg, hgW⟩
      subst hg0e
      obtain ⟨b', off', hab, hbs, kf, _⟩ := KeysIn.of_own HO3.out 0 (by simp)
      simp only [Option.some.injEq, Addr.mk.injEq, and_true] at hab
      obtain ⟨rfl, rfl⟩ := hab
      simp only [Nat.zero_mul, Nat.add_zero, List.getElem_cons_zero] at kf
      have hn3 : ¬ gk = w.heap.size := by omega
      have hn4 : ¬ w.heap.size = gk := by omega
      dsimp only
      repeat (fail_if_success (with_reducible refine stop_at 70 rfl ?_)
              first | go_values | go_skip | go_guarded | go_step | go_upon | (simp only [Int.not_lt, Int.not_le] at *; go_simp) | (go_values <;> (try go_simp)) | (go_ite <;> go_prune <;> (try go_simp)))
      have hgA : w3.grownBy ((((((w3.setCell ⟨w.heap.size, 0, none⟩ (.int .u32 t.g)).setCell ⟨w.heap.size, 1, none⟩ (.slice (some ⟨gk, 0, none⟩) (r0 :: l0).length c3)).setCell ⟨w.heap.size, 2, none⟩ (.int .i64 t.h)).setCell ⟨w.heap.size, 3, none⟩ (.int .i64 t.ty)).setCell ⟨w.heap.size, 4, none⟩ (.bool t.ap)).setCell ⟨w.heap.size, 2, none⟩ (.int .i64 r0.1)) (some w.heap.size) := grown_trans (grown_trans (grown_trans (grown_trans (grown_trans (grown_set w3 _ 0 _) (grown_set _ _ 1 _)) (grown_set _ _ 2 _)) (grown_set _ _ 3 _)) (grown_set _ _ 4 _)) (grown_set _ _ 2 _)
      have eA : (((((((w3.setCell ⟨w.heap.size, 0, none⟩ (.int .u32 t.g)).setCell ⟨w.heap.size, 1, none⟩ (.slice (some ⟨gk, 0, none⟩) (r0 :: l0).length c3)).setCell ⟨w.heap.size, 2, none⟩ (.int .i64 t.h)).setCell ⟨w.heap.size, 3, none⟩ (.int .i64 t.ty)).setCell ⟨w.heap.size, 4, none⟩ (.bool t.ap)).setCell ⟨w.heap.size, 2, none⟩ (.int .i64 r0.1))).heap[w.heap.size]? = some (.cells #[.int .u32 t.g, .slice (some ⟨gk, 0, none⟩) ((r0 :: l0).length) c3, .int .i64 (r0.1), .int .i64 (t.ty), .bool t.ap] 25) := by
        rw [set_blk (set_blk (set_blk (set_blk (set_blk (set_blk HE2.out.1 _) _) _) _) _) _]
        simp
      generalize ((((((w3.setCell ⟨w.heap.size, 0, none⟩ (.int .u32 t.g)).setCell ⟨w.heap.size, 1, none⟩ (.slice (some ⟨gk, 0, none⟩) (r0 :: l0).length c3)).setCell ⟨w.heap.size, 2, none⟩ (.int .i64 t.h)).setCell ⟨w.heap.size, 3, none⟩ (.int .i64 t.ty)).setCell ⟨w.heap.size, 4, none⟩ (.bool t.ap)).setCell ⟨w.heap.size, 2, none⟩ (.int .i64 r0.1)) = w4 at hgA eA ⊢
      have eB := (hgA.block (w.heap.size + 1 + 1) (by have := HBL.out.size; omega) (by first | (simp; done) | (simp; omega))).trans HE2.out.2
      clear z0 z1 z2 z3 z4 y0 y1 y2 y3 y4 v0 v1 v2 v3 v4 s0 s1 s2 s3 s4
      have B5 := blk5 eA
      have B6 := blk5 eB
      have z0 := B5.1
      have z1 := B5.2.1
      have z2 := B5.2.2.1
      have z3 := B5.2.2.2.1
      have z4 := B5.2.2.2.2.1
      have y0 := B5.2.2.2.2.2.1
      have y1 := B5.2.2.2.2.2.2.1
      have y2 := B5.2.2.2.2.2.2.2.1
      have y3 := B5.2.2.2.2.2.2.2.2.1
      have y4 := B5.2.2.2.2.2.2.2.2.2
      have v0 := B6.1
      have v1 := B6.2.1
      have v2 := B6.2.2.1
      have v3 := B6.2.2.2.1
      have v4 := B6.2.2.2.2.1
      have s0 := B6.2.2.2.2.2.1
      have s1 := B6.2.2.2.2.2.2.1
      have s2 := B6.2.2.2.2.2.2.2.1
      have s3 := B6.2.2.2.2.2.2.2.2.1
      have s4 := B6.2.2.2.2.2.2.2.2.2
      clear B5 B6
      have HEA := Lib.hid (And.intro eA eB)
      clear eA eB
      go_wp2
      refine bodyPost_ret (v := .tuple #[.agg #[.int .u32 t.g, .slice (some ⟨gk, 0, none⟩) ((r0 :: l0).length) c3, .int .i64 (r0.1), .int .i64 (t.ty), .bool t.ap], .slice a9 G.length c9]) ?_ rfl ?_
      · simp only [results, Try.results38]
        go_simp
      · skip
        have hgB : (w4).grownBy _ (some (w.heap.size + 1 + 1)) := grown_trans (grown_trans (grown_trans (grown_trans (grown_set w4 (w.heap.size + 1 + 1) 0 (.int .u32 t.g)) (grown_set _ _ 1 (.slice (some ⟨gk, 0, none⟩) ((r0 :: l0).length) c3))) (grown_set _ _ 2 (.int .i64 (r0.1)))) (grown_set _ _ 3 (.int .i64 (t.ty)))) (grown_set _ _ 4 (.bool t.ap))
        have hzA := hgA.size
        have hbx := (hgA.block (w.heap.size + 1 + 1) (by omega) (by first | (simp; done) | (simp; omega))).trans HE2.out.2
        have p3 := HO3.out.kept hgA (own_ne HO3.out HE2.out.1 (by decide))
        have q3 := p3.kept hgB (own_ne p3 hbx (by decide))
        have p9 := HO4.out.kept hgA (own_ne HO4.out HE2.out.1 (by decide))
        have q9 := p9.kept hgB (own_ne p9 hbx (by decide))
        unfold RemPost
        rw [HRM.out _ _ (show rwithF (rmvK S K) t.h t.ty = (r0.1, t.ty) by rw [HRW.out]; simp [g0, g1, c7])]
        exact ⟨_, _, rfl, ⟨some ⟨gk, 0, none⟩, c3, rfl, KeysIn.of_own q3, row_none q3⟩, ⟨a9, c9, rfl, IntsIn.of_own q9⟩, (HBL.out.grown hgA (by omega) (fun k' hk' => by cases hk'; omega)).grown hgB (by omega) (fun k' hk' => by cases hk'; omega)⟩
set_option maxRecDepth 100000 in
set_option maxHeartbeats 4000000 in
theorem rrem_c1 (t : Tab) (S : List Bool) (but : Int) (a : Option Addr) (cap : Nat) (w : World) (hlen : t.ks.length ≤ 9223372036854775807) (hS : S.length = 8) (hh : t.h < 8)
   (hk : KeysIn w a t.ks) (r0 : Int × Int) (l0 : List (Int × Int)) (g0 : decide (0 ≤ t.h) = true) (g1 : ((rmvK S (keysF t.ks)).getD t.h.toNat 0 == 0) = true) (gl : regsF 0 (rmvK S (keysF t.ks)) = r0 :: l0) (c7 : (t.ty == 7) = false) (c8 : (t.ty == 8) = true) :
    Calls Try.prog 38 #[.agg #[.int .u32 t.g, .slice a t.ks.length cap, .int .i64 t.h, .int .i64 t.ty, .bool t.ap], .agg (S.map Value.bool).toArray, .int .i64 but] w (RemPost (rremoveF t S but) w) := by
  have HK := Lib.hid hk; clear hk
  have GX := Lib.hid g1; clear g1
  have GL := Lib.hid gl; clear gl
  go_enter Try.func38, Try.ntmps38
  go_wp2_with fail
  obtain ⟨b0, b1, b2⟩ := heap3 w (.cells #[.int .u32 t.g, .slice a t.ks.length cap, .int .i64 t.h, .int .i64 t.ty, .bool t.ap] 25) (.cells (S.map Value.bool).toArray 71) (.cells #[.int .u32 0, .slice none 0 0, .int .i64 0, .int .i64 0, .bool false] 25)
  refine (keys_any _ _ _ _ _ _ _ _ hlen (HK.out.below (by repeat (first | with_reducible assumption | (with_reducible refine Below.setCell ?_ (by first | omega | (simp; done) | (simp; omega)) _) | (with_reducible refine Below.alloc ?_ (by first | omega | (simp; done) | (simp; omega)) _) | (with_reducible refine Below.drew ?_) | (with_reducible refine below_dN ?_ _) | with_reducible exact Below.refl _ _ | (with_reducible refine Below.trans ?_ (Below.mono (by assumption) (by first | omega | (simp; done) | (simp; omega)))))))).mono ?_
  rintro e w1 ⟨rfl, hb⟩
  have hz1 := hb.size
  simp only [World.size_alloc] at hz1
  have c0 := (hb.block _ (by first | (simp; done) | (simp; omega))).trans b0
  have c1 := (hb.block _ (by first | (simp; done) | (simp; omega))).trans b1
  have c2 := (hb.block _ (by first | (simp; done) | (simp; omega))).trans b2
  have hbw : Below w.heap.size w w1 := by repeat (first | with_reducible assumption | (with_reducible refine Below.setCell ?_ (by first | omega | (simp; done) | (simp; omega)) _) | (with_reducible refine Below.alloc ?_ (by first | omega | (simp; done) | (simp; omega)) _) | (with_reducible refine Below.drew ?_) | (with_reducible refine below_dN ?_ _) | with_reducible exact Below.refl _ _ | (with_reducible refine Below.trans ?_ (Below.mono (by assumption) (by first | omega | (simp; done) | (simp; omega)))))
  clear b0 b1 b2 hb
  obtain ⟨k0, k1, k2, k3, k4, k5, k6, k7, hl8⟩ := list8 (keysF t.ks) (keysF_length t.ks)
  unfold arr8
  rw [hl8]
  simp only [List.map_cons, List.map_nil]
  go_wp2
  have d3 := heap_alloc_new w1 (.cells #[.int .u64 k0, .int .u64 k1, .int .u64 k2, .int .u64 k3, .int .u64 k4, .int .u64 k5, .int .u64 k6, .int .u64 k7] 57)
  have d0 := (heap_alloc_old w1 (.cells #[.int .u64 k0, .int .u64 k1, .int .u64 k2, .int .u64 k3, .int .u64 k4, .int .u64 k5, .int .u64 k6, .int .u64 k7] 57) (r := w.heap.size) (by omega)).trans c0
  have d1 := (heap_alloc_old w1 (.cells #[.int .u64 k0, .int .u64 k1, .int .u64 k2, .int .u64 k3, .int .u64 k4, .int .u64 k5, .int .u64 k6, .int .u64 k7] 57) (r := w.heap.size + 1) (by omega)).trans c1
  have d2 := (heap_alloc_old w1 (.cells #[.int .u64 k0, .int .u64 k1, .int .u64 k2, .int .u64 k3, .int .u64 k4, .int .u64 k5, .int .u64 k6, .int .u64 k7] 57) (r := w.heap.size + 1 + 1) (by omega)).trans c2
  have hd3 : (w1.alloc (.cells #[.int .u64 k0, .int .u64 k1, .int .u64 k2, .int .u64 k3, .int .u64 k4, .int .u64 k5, .int .u64 k6, .int .u64 k7] 57)).heap[w1.heap.size]? = some (.cells ((keysF t.ks).map (Value.int .u64)).toArray 57) := by rw [d3, hl8]; rfl
  have hbw2 : Below w.heap.size w (w1.alloc (.cells #[.int .u64 k0, .int .u64 k1, .int .u64 k2, .int .u64 k3, .int .u64 k4, .int .u64 k5, .int .u64 k6, .int .u64 k7] 57)) := by repeat (first | with_reducible assumption | (with_reducible refine Below.setCell ?_ (by first | omega | (simp; done) | (simp; omega)) _) | (with_reducible refine Below.alloc ?_ (by first | omega | (simp; done) | (simp; omega)) _) | (with_reducible refine Below.drew ?_) | (with_reducible refine below_dN ?_ _) | with_reducible exact Below.refl _ _ | (with_reducible refine Below.trans ?_ (Below.mono (by assumption) (by first | omega | (simp; done) | (simp; omega)))))
  have hsz2 : w1.heap.size + 1 = (w1.alloc (.cells #[.int .u64 k0, .int .u64 k1, .int .u64 k2, .int .u64 k3, .int .u64 k4, .int .u64 k5, .int .u64 k6, .int .u64 k7] 57)).heap.size := by simp
  generalize w1.alloc (.cells #[.int .u64 k0, .int .u64 k1, .int .u64 k2, .int .u64 k3, .int .u64 k4, .int .u64 k5, .int .u64 k6, .int .u64 k7] 57) = w2 at d0 d1 d2 hd3 hbw2 hsz2 ⊢
  generalize w1.heap.size = A at hz1 hd3 hsz2 ⊢
  clear d3 c0 c1 c2 hbw hl8
  have HKL := Lib.hid (keysF_length t.ks)
  obtain ⟨K, hK⟩ : ∃ x, x = keysF t.ks := ⟨_, rfl⟩
  have HKK := Lib.hid hK
  rw [← hK] at hd3
  have HKL : Hid (K.length = 8) := Lib.hid (by rw [hK]; exact HKL.out)
  clear hK
  have HD := Lib.hid (And.intro d0 (And.intro d1 (And.intro d2 (And.intro hd3 hbw2))))
  clear d0 d1 d2 hd3 hbw2
  obtain ⟨j0, hj, hy0, hy1, hy2⟩ := info_parts info_int
  go_loopw [9, 10] (fun v i wr => ∃ k : Nat, k ≤ 8 ∧ i = .int .i64 k ∧ wr.heap[w.heap.size]? = some (.cells #[.int .u32 t.g, .slice a t.ks.length cap, .int .i64 t.h, .int .i64 t.ty, .bool t.ap] 25) ∧ wr.heap[w.heap.size + 1]? = some (.cells (S.map Value.bool).toArray 71) ∧
    wr.heap[w.heap.size + 1 + 1]? = some (.cells #[.int .u32 0, .slice none 0 0, .int .i64 0, .int .i64 0, .bool false] 25) ∧ wr.heap[A]? = some (.cells ((rmvK (S.take k) K).map (Value.int .u64)).toArray 57) ∧
    wr.ownsRow (A + 1) 3 1 v (goneK 0 (S.take k) K but).length ((goneK 0 (S.take k) K but).map (Value.int .i64)) ∧ Below w.heap.size w wr) (fun _ i _ => 8 - (intOf i).toNat)
  case atStart => exact ⟨0, by omega, rfl, HD.out.1, HD.out.2.1, HD.out.2.2.1, by simpa [rmvK] using HD.out.2.2.2.1, by simpa [goneK] using World.ownsRow_nil _ _ _ _, HD.out.2.2.2.2⟩
  case round =>
    obtain ⟨k, hk, rfl, d0, d1, d2, d3, hown, hbel⟩ := hrel
    have hA : A < wr.heap.size := (Array.getElem?_eq_some_iff.1 d3).1
    have HE := Lib.hid (And.intro d0 (And.intro d1 (And.intro d2 (And.intro d3 hbel))))
    have HO := Lib.hid hown
    by_cases hlt : k < 8
    · have hkS : k < S.length := by omega
      have hkK : k < K.length := by rw [HKL.out]; exact hlt
      have f1 : wr.cell? ⟨w.heap.size + 1, k, none⟩ = some (.bool S[k]) := by simp [World.cell?, d1, hkS]
      obtain ⟨f2, f3⟩ := arr_cell d3 k (by rw [rmvK_length]; exact hkK)
      rw [rmv_at, show K.getD k 0 = K[k] by simp [hkK]] at f2
      have HR := Lib.hid (rmv_take k S K hkS hkK)
      have HG := Lib.hid (gone_take k 0 S K but hkS hkK)
      have hgl : (goneK 0 (S.take k) K but).length ≤ 8 := Nat.le_trans (goneK_le _ _ _ _) (by rw [List.length_take]; omega)
      clear d0 d1 d2 d3 hown hbel
      cases q1 : S[k]
      · go_wp2
        go_roundw
        case rel =>
          refine ⟨k + 1, by omega, by go_num, HE.out.1, HE.out.2.1, HE.out.2.2.1, ?_, ?_, HE.out.2.2.2.2⟩
          · rw [HR.out, q1]; exact HE.out.2.2.2.1
          · rw [HG.out, q1]; simpa using HO.out
        case measure => simp [intOf]; omega
      · cases q2 : (K[k] == 0)
        · have q2' : (K[k] != 0) = true := by simpa using q2
          cases q3 : ((k : Int) != but)
          · go_wp2
            go_roundw
            case rel =>
              have hgs := grown_set wr A k (.int .u64 0)
              refine ⟨k + 1, by omega, by go_num, (hgs.block _ (by omega) (by first | (simp; done) | (simp; omega))).trans HE.out.1, (hgs.block _ (by omega) (by first | (simp; done) | (simp; omega))).trans HE.out.2.1, (hgs.block _ (by omega) (by first | (simp; done) | (simp; omega))).trans HE.out.2.2.1, ?_, ?_, HE.out.2.2.2.2.grown hgs (by omega) (fun k' hk' => by cases hk'; omega)⟩
              · rw [HR.out, q1, q2']; exact arr_set HE.out.2.2.2.1 _ _
              · rw [HG.out, q1, q2', Nat.zero_add, q3]
                simpa using HO.out.kept hgs (own_ne HO.out HE.out.2.2.2.1 (by decide))
            case measure => simp [intOf]; omega
          · have hgs := grown_set wr A k (.int .u64 0)
            have HE0 := Lib.hid ((hgs.block w.heap.size (by omega) (by first | (simp; done) | (simp; omega))).trans HE.out.1)
            have HE1 := Lib.hid ((hgs.block (w.heap.size + 1) (by omega) (by first | (simp; done) | (simp; omega))).trans HE.out.2.1)
            have HE2 := Lib.hid ((hgs.block (w.heap.size + 1 + 1) (by omega) (by first | (simp; done) | (simp; omega))).trans HE.out.2.2.1)
            have HE3 := Lib.hid (arr_set HE.out.2.2.2.1 k 0)
            have HE4 := Lib.hid (HE.out.2.2.2.2.grown hgs (by omega) (fun k' hk' => by cases hk'; omega))
            have o1 := HO.out.kept hgs (own_ne HO.out HE.out.2.2.2.1 (by decide))
            have hz := hgs.size
            clear hgs
            go_wp2_with (at_builtin; refine wpList_append_own _ rfl _ _ 33 rfl (A + 1) 3 j0 (.int .i64 0) 1 8 Try.underlying33 hj hy0 hy1 hy2 rfl (by decide) _ _ _ rfl (o1.alloc _) ⟨wr.heap.size, 0, none⟩ 1 1 [.int .i64 k] rfl rfl ?c1 ?c2 ?c3 ?c4 ?c5 ?_)
            case c1 =>
              intro j u hu
              have h := cell_one_new (wr.setCell ⟨A, k, none⟩ (.int .u64 0)) (.int .i64 k) 3 j u hu
              simpa using h
            case c2 => simp [Value.oneCell']
            case c3 => unfold maxLen; omega
            case c4 => omega
            case c5 => simp; omega
            intro v' w4 hown2 hgrow _
            have hgO := grown_trans (grown_of_below (a := wr.setCell ⟨A, k, none⟩ (.int .u64 0)) (b := (wr.setCell ⟨A, k, none⟩ (.int .u64 0)).alloc (.cells #[.int .i64 k] 3)) (by have := Below.alloc (Below.refl (wr.setCell ⟨A, k, none⟩ (.int .u64 0)).heap.size (wr.setCell ⟨A, k, none⟩ (.int .u64 0))) (Nat.le_refl _) (.cells #[.int .i64 k] 3); exact this) _) hgrow
            have hoB : ∀ k', u9.ownBlock = some k' → A + 1 ≤ k' := fun k' h => (o1.lt k' h).1
            go_wp2
            go_roundw
            case rel =>
              refine ⟨k + 1, by omega, by go_num, (hgO.block _ (by simp; omega) (fun h => by have := hoB _ h.symm; omega)).trans HE0.out, (hgO.block _ (by simp; omega) (fun h => by have := hoB _ h.symm; omega)).trans HE1.out, (hgO.block _ (by simp; omega) (fun h => by have := hoB _ h.symm; omega)).trans HE2.out, ?_, ?_, HE4.out.grown hgO (by simp; omega) (fun k' h => by have := hoB _ h; omega)⟩
              · rw [HR.out, q1, q2']; exact (hgO.block _ (by simp; omega) (fun h => by have := hoB _ h.symm; omega)).trans HE3.out
              · rw [HG.out, q1, q2', Nat.zero_add, q3]
                simpa [hsz2] using hown2
            case measure => simp [intOf]; omega
        · have q2' : (K[k] != 0) = false := by simpa using q2
          go_wp2
          go_roundw
          case rel =>
            refine ⟨k + 1, by omega, by go_num, HE.out.1, HE.out.2.1, HE.out.2.2.1, ?_, ?_, HE.out.2.2.2.2⟩
            · rw [HR.out, q1, q2']; exact HE.out.2.2.2.1
            · rw [HG.out, q1, q2']; simpa using HO.out
          case measure => simp [intOf]; omega
    · obtain rfl : k = 8 := by omega
      have htk : S.take 8 = S := by rw [← hS]; exact List.take_length
      rw [htk] at d3
      obtain ⟨m0, m1, m2, m3, m4, m5, m6, m7, hm8⟩ := list8 (rmvK S K) (by rw [rmvK_length]; exact HKL.out)
      have HM8 := Lib.hid hm8
      rw [hm8] at d3
      simp only [List.map_cons, List.map_nil] at d3
      obtain ⟨z0, z1, z2, z3, z4, y0, y1, y2, y3, y4⟩ := blk5 d0
      obtain ⟨x0, x1, x2, x3, x4, x5, x6, x7, u0, u1, u2, u3, u4, u5, u6, u7⟩ := blk8 d3
      clear hm8 d0 d1 d2 d3 hown hbel
      have hKB := HE.out.2.2.2.2
      have hput := fun v wx => rput_any t.g t.h t.ty t.ap v [m0, m1, m2, m3, m4, m5, m6, m7] wx rfl
      simp only [List.map_cons, List.map_nil] at hput
      generalize hL : regsF 0 [m0, m1, m2, m3, m4, m5, m6, m7] = L at hput
      have HL := Lib.hid hL
      have HPUT := Lib.hid hput
      clear hput hL
      have HFH : Hid (0 ≤ t.h → wr.cell? ⟨A, t.h.toNat, none⟩ = some (.int .u64 ((rmvK S K).getD t.h.toNat 0))) := Lib.hid (fun h => by
        have d3 := HE.out.2.2.2.1
        rw [htk] at d3
        exact (arr_cell d3 t.h.toNat (by rw [rmvK_length, HKL.out]; omega)).1)
      generalize hx : (rmvK S K).getD t.h.toNat 0 = x at HFH
      have HX := Lib.hid hx
      clear hx
      have HO' := HO.out
      rw [htk] at HO'
      have HRM : Hid (∀ h' ty', rwithF (rmvK S K) t.h t.ty = (h', ty') → rremoveF t S but = ({ t with ks := L, h := h', ty := ty' }, goneK 0 S K but)) := Lib.hid (fun h' ty' e => by
        unfold rremoveF
        rw [← HKK.out]
        simp only [e]
        rw [HM8.out, HL.out])
      have HRW : Hid (rwithF (rmvK S K) t.h t.ty = if decide (0 ≤ t.h) && x == 0 then (if (t.ty == 7 || t.ty == 8) && decide (0 < L.length) then ((L.headD (0, 0)).1, t.ty) else (-1, 0)) else (t.h, t.ty)) := Lib.hid (by
        unfold rwithF
        rw [HX.out, HM8.out, HL.out])
      generalize goneK 0 S K but = G at HO' HRM
      obtain ⟨a9, c9, hv9⟩ := own_slice HO'
      rw [hv9] at HO'
      have HO9 : Hid (wr.ownsRow (A + 1) 3 1 (.slice a9 G.length c9) G.length (G.map (Value.int .i64))) := Lib.hid HO'
      clear HO HO'
      subst hv9
      have hn1 : ¬ w.heap.size = A := by omega
      have hn2 : ¬ A = w.heap.size := by omega
      have g1 : (x == 0) = true := by have h := GX.out; rw [← HKK.out, HX.out] at h; exact h
      have h0 : 0 ≤ t.h := by simpa using g0
      have hLn : L = r0 :: l0 := by have h := GL.out; rw [← HKK.out, HM8.out, HL.out] at h; exact h
      subst hLn
      go_wp2_with fail
      clear z0 z1 z2 z3 z4 y0 y1 y2 y3 y4 x0 x1 x2 x3 x4 x5 x6 x7 u0 u1 u2 u3 u4 u5 u6 u7 htk hlt
      refine (HPUT.out _ _).mono ?_
      rintro e w3 ⟨⟨a3, c3, rfl, ho3⟩, hb3⟩
      have hz3 := hb3.size
      have e0 := (hb3.block _ (by omega)).trans HE.out.1
      have e2 := (hb3.block _ (by omega)).trans HE.out.2.2.1
      obtain ⟨z0, z1, z2, z3, z4, y0, y1, y2, y3, y4⟩ := blk5 e0
      obtain ⟨v0, v1, v2, v3, v4, s0, s1, s2, s3, s4⟩ := blk5 e2
      have HO3 := Lib.hid (own_mono ho3 (show A + 1 ≤ wr.heap.size by omega))
      have HO4 := Lib.hid (own_below HO9.out hb3)
      have HBL := Lib.hid (HE.out.2.2.2.2.trans (hb3.mono (by have := HE.out.2.2.2.2.size; omega)))
      have HE2 := Lib.hid (And.intro e0 e2)
      have fh := (hb3.cell (p := ⟨A, t.h.toNat, none⟩) hA).trans (HFH.out h0)
      clear e0 e2 ho3 hb3
      obtain ⟨gk, hg0e, hg0, hgW⟩ : ∃ gk, a3 = some ⟨gk, 0, none⟩ ∧ A + 1 ≤ gk ∧ gk < w3.heap.size := by
        rcases own_addr0 HO3.out with ⟨_, _, hh0⟩ | ⟨gk, e, hg, hgW, _⟩
        · simp at hh0
        · exact ⟨gk, e, hg, hgW⟩
      subst hg0e
      obtain ⟨b', off', hab, hbs, kf, _⟩ := KeysIn.of_own HO3.out 0 (by simp)
      simp only [Option.some.injEq, Addr.mk.injEq, and_true] at hab
      obtain ⟨rfl, rfl⟩ := hab
      simp only [Nat.zero_mul, Nat.add_zero, List.getElem_cons_zero] at kf
      have hn3 : ¬ gk = w.heap.size := by omega
      have hn4 : ¬ w.heap.size = gk := by omega
      dsimp only
      repeat (fail_if_success (with_reducible refine stop_at 70 rfl ?_)
              first | go_values | go_skip | go_guarded | go_step | go_upon | (simp only [Int.not_lt, Int.not_le] at *; go_simp) | (go_values <;> (try go_simp)) | (go_ite <;> go_prune <;> (try go_simp)))
      have hgA : w3.grownBy ((((((w3.setCell ⟨w.heap.size, 0, none⟩ (.int .u32 t.g)).setCell ⟨w.heap.size, 1, none⟩ (.slice (some ⟨gk, 0, none⟩) (r0 :: l0).length c3)).setCell ⟨w.heap.size, 2, none⟩ (.int .i64 t.h)).setCell ⟨w.heap.size, 3, none⟩ (.int .i64 t.ty)).setCell ⟨w.heap.size, 4, none⟩ (.bool t.ap)).setCell ⟨w.heap.size, 2, none⟩ (.int .i64 r0.1)) (some w.heap.size) := grown_trans (grown_trans (grown_trans (grown_trans (grown_trans (grown_set w3 _ 0 _) (grown_set _ _ 1 _)) (grown_set _ _ 2 _)) (grown_set _ _ 3 _)) (grown_set _ _ 4 _)) (grown_set _ _ 2 _)
      have eA : (((((((w3.setCell ⟨w.heap.size, 0, none⟩ (.int .u32 t.g)).setCell ⟨w.heap.size, 1, none⟩ (.slice (some ⟨gk, 0, none⟩) (r0 :: l0).length c3)).setCell ⟨w.heap.size, 2, none⟩ (.int .i64 t.h)).setCell ⟨w.heap.size, 3, none⟩ (.int .i64 t.ty)).setCell ⟨w.heap.size, 4, none⟩ (.bool t.ap)).setCell ⟨w.heap.size, 2, none⟩ (.int .i64 r0.1))).heap[w.heap.size]? = some (.cells #[.int .u32 t.g, .slice (some ⟨gk, 0, none⟩) ((r0 :: l0).length) c3, .int .i64 (r0.1), .int .i64 (t.ty), .bool t.ap] 25) := by
        rw [set_blk (set_blk (set_blk (set_blk (set_blk (set_blk HE2.out.1 _) _) _) _) _) _]
        simp
      generalize ((((((w3.setCell ⟨w.heap.size, 0, none⟩ (.int .u32 t.g)).setCell ⟨w.heap.size, 1, none⟩ (.slice (some ⟨gk, 0, none⟩) (r0 :: l0).length c3)).setCell ⟨w.heap.size, 2, none⟩ (.int .i64 t.h)).setCell ⟨w.heap.size, 3, none⟩ (.int .i64 t.ty)).setCell ⟨w.heap.size, 4, none⟩ (.bool t.ap)).setCell ⟨w.heap.size, 2, none⟩ (.int .i64 r0.1)) = w4 at hgA eA ⊢
      have eB := (hgA.block (w.heap.size + 1 + 1) (by have := HBL.out.size; omega) (by first | (simp; done) | (simp; omega))).trans HE2.out.2
      clear z0 z1 z2 z3 z4 y0 y1 y2 y3 y4 v0 v1 v2 v3 v4 s0 s1 s2 s3 s4
      have B5 := blk5 eA
      have B6 := blk5 eB
      have z0 := B5.1
      have z1 := B5.2.1
      have z2 := B5.2.2.1
      have z3 := B5.2.2.2.1
      have z4 := B5.2.2.2.2.1
      have y0 := B5.2.2.2.2.2.1
      have y1 := B5.2.2.2.2.2.2.1
      have y2 := B5.2.2.2.2.2.2.2.1
      have y3 := B5.2.2.2.2.2.2.2.2.1
      have y4 := B5.2.2.2.2.2.2.2.2.2
      have v0 := B6.1
      have v1 := B6.2.1
      have v2 := B6.2.2.1
      have v3 := B6.2.2.2.1
      have v4 := B6.2.2.2.2.1
      have s0 := B6.2.2.2.2.2.1
      have s1 := B6.2.2.2.2.2.2.1
      have s2 := B6.2.2.2.2.2.2.2.1
      have s3 := B6.2.2.2.2.2.2.2.2.1
      have s4 := B6.2.2.2.2.2.2.2.2.2
      clear B5 B6
      have HEA := Lib.hid (And.intro eA eB)
      clear eA eB
      go_wp2
      refine bodyPost_ret (v := .tuple #[.agg #[.int .u32 t.g, .slice (some ⟨gk, 0, none⟩) ((r0 :: l0).length) c3, .int .i64 (r0.1), .int .i64 (t.ty), .bool t.ap], .slice a9 G.length c9]) ?_ rfl ?_
      · simp only [results, Try.results38]
        go_simp
      · skip
        have hgB : (w4).grownBy _ (some (w.heap.size + 1 + 1)) := grown_trans (grown_trans (grown_trans (grown_trans (grown_set w4 (w.heap.size + 1 + 1) 0 (.int .u32 t.g)) (grown_set _ _ 1 (.slice (some ⟨gk, 0, none⟩) ((r0 :: l0).length) c3))) (grown_set _ _ 2 (.int .i64 (r0.1)))) (grown_set _ _ 3 (.int .i64 (t.ty)))) (grown_set _ _ 4 (.bool t.ap))
        have hzA := hgA.size
        have hbx := (hgA.block (w.heap.size + 1 + 1) (by omega) (by first | (simp; done) | (simp; omega))).trans HE2.out.2
        have p3 := HO3.out.kept hgA (own_ne HO3.out HE2.out.1 (by decide))
        have q3 := p3.kept hgB (own_ne p3 hbx (by decide))
        have p9 := HO4.out.kept hgA (own_ne HO4.out HE2.out.1 (by decide))
        have q9 := p9.kept hgB (own_ne p9 hbx (by decide))
        unfold RemPost
        rw [HRM.out _ _ (show rwithF (rmvK S K) t.h t.ty = (r0.1, t.ty) by rw [HRW.out]; simp [g0, g1, c7, c8])]
        exact ⟨_, _, rfl, ⟨some ⟨gk, 0, none⟩, c3, rfl, KeysIn.of_own q3, row_none q3⟩, ⟨a9, c9, rfl, IntsIn.of_own q9⟩, (HBL.out.grown hgA (by omega) (fun k' hk' => by cases hk'; omega)).grown hgB (by omega) (fun k' hk' => by cases hk'; omega)⟩
end Go.Proofs.Ytopakonpfbbldaa
