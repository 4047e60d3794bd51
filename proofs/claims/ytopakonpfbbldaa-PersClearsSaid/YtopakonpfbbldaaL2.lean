/- Behind a Clear nobody is registered, nothing is barred, all others that were are told. The list of registrations has a length that an int can tell. -/
import Derived.Test.YtopakonpfbbldaaS1
import Derived.Test.YtopakonpfbbldaaR4
import Derived.Test.YtopakonpfbbldaaFnsD
import Derived.Test.YtopakonpfbbldaaW15
import Derived.Test.YtopakonpfbbldaaW26
namespace Go.Proofs.Ytopakonpfbbldaa
set_option linter.unusedSimpArgs false
set_option linter.unusedVariables false
open Go.RowKit

theorem u64_next (k : Int) : IntKind.u64.wrap (k + 1) ≠ k := by
  rw [show IntKind.u64.wrap (k + 1) = (k + 1) % 18446744073709551616 from rfl]; omega

theorem idx_ok (n : Int) (l : Nat) (h0 : 0 < l) (h6 : l ≤ 6) : 0 ≤ (wrap64 (n.tmod l + l)).tmod l ∧ (wrap64 (n.tmod l + l)).tmod l < l := by
  have h1 := Int.natAbs_tmod n l
  have h2 := Nat.mod_lt n.natAbs (show 0 < (l : Int).natAbs by omega)
  have h3 : wrap64 (n.tmod l + l) = n.tmod l + l := by unfold wrap64; omega
  rw [h3]
  have h4 : 0 ≤ n.tmod l + l := by omega
  rw [Int.tmod_eq_emod_of_nonneg h4]
  exact ⟨Int.emod_nonneg _ (by omega), Int.emod_lt_of_pos _ (by omega)⟩

set_option maxRecDepth 100000 in
set_option maxHeartbeats 4000000 in
theorem PersClears_any (g h ty n : Int) (ap : Bool) (a : Option Addr) (ks : List (Int × Int)) (cap : Nat) (w : World) (hlen : ks.length ≤ 9223372036854775807)
   (hk : KeysIn w a ks) (hna : a = none → cap = 0) :
    Calls Try.prog 4 #[.agg #[.int .u32 g, .slice a ks.length cap, .int .i64 h, .int .i64 ty, .bool ap], .int .i64 n] w fun e w' => e = .returned (.bool true) ∧ Below w.heap.size w w' := by
  have HK := Lib.hid hk; clear hk
  have HNA := Lib.hid hna; clear hna
  have pre : ∀ b, rsoundF ks h ty = b → True := fun _ _ => trivial
  clear pre
  cases hs : rsoundF ks h ty
  · go_enter Try.func4, Try.ntmps4
    go_wp2_with fail
    have b0 := heap_alloc_new w (.cells #[.int .u32 g, .slice a ks.length cap, .int .i64 h, .int .i64 ty, .bool ap] 25)
    refine (stands_any _).mono ?_
    rintro e w1 ⟨rfl, hb1⟩
    have c1 := (hb1.block w.heap.size (by simp)).trans b0
    have hbw : Below w.heap.size w w1 := by repeat (first | with_reducible assumption | (with_reducible refine Below.setCell ?_ (by first | omega | (simp; done) | (simp; omega)) _) | (with_reducible refine Below.alloc ?_ (by first | omega | (simp; done) | (simp; omega)) _) | (with_reducible refine Below.drew ?_) | (with_reducible refine below_dN ?_ _) | with_reducible exact Below.refl _ _ | (with_reducible refine Below.trans ?_ (Below.mono (by assumption) (by first | omega | (simp; done) | (simp; omega)))))
    have hsound := rSound_any g h ty ap a ks cap w1 hlen (HK.out.below hbw)
    rw [hs] at hsound
    have HSD := Lib.hid hsound
    obtain ⟨z0, z1, z2, z3, z4, _⟩ := blk5 c1
    have hsz := hb1.size
    simp only [World.size_alloc] at hsz
    clear b0 hsound c1 hb1 hs
    dsimp only
    go_wp2_with (go_at_call 11; refine HSD.out.mono ?_; rintro e w2 ⟨rfl, hb2⟩)
    go_ret
    exact ⟨rfl, by repeat (first | with_reducible assumption | (with_reducible refine Below.setCell ?_ (by first | omega | (simp; done) | (simp; omega)) _) | (with_reducible refine Below.alloc ?_ (by first | omega | (simp; done) | (simp; omega)) _) | (with_reducible refine Below.drew ?_) | (with_reducible refine below_dN ?_ _) | with_reducible exact Below.refl _ _ | (with_reducible refine Below.trans ?_ (Below.mono (by assumption) (by first | omega | (simp; done) | (simp; omega)))))⟩
  · have HS : Hid (soundT ⟨g, ks, h, ty, ap⟩ = true) := Lib.hid hs
    have hl6 : ks.length ≤ 6 := (sound_inv HS.out).1
    by_cases h0 : ks.length = 0
    · have h0i : ((ks.length : Int) == 0) = true := by simp [h0]
      clear h0
      go_enter Try.func4, Try.ntmps4
      go_wp2_with fail
      have b0 := heap_alloc_new w (.cells #[.int .u32 g, .slice a ks.length cap, .int .i64 h, .int .i64 ty, .bool ap] 25)
      refine (stands_any _).mono ?_
      rintro e w1 ⟨rfl, hb1⟩
      have c1 := (hb1.block w.heap.size (by simp)).trans b0
      have hbw : Below w.heap.size w w1 := by repeat (first | with_reducible assumption | (with_reducible refine Below.setCell ?_ (by first | omega | (simp; done) | (simp; omega)) _) | (with_reducible refine Below.alloc ?_ (by first | omega | (simp; done) | (simp; omega)) _) | (with_reducible refine Below.drew ?_) | (with_reducible refine below_dN ?_ _) | with_reducible exact Below.refl _ _ | (with_reducible refine Below.trans ?_ (Below.mono (by assumption) (by first | omega | (simp; done) | (simp; omega)))))
      have hsound := rSound_any g h ty ap a ks cap w1 hlen (HK.out.below hbw)
      rw [hs] at hsound
      have HSD := Lib.hid hsound
      have HC := Lib.hid c1
      obtain ⟨z0, z1, z2, z3, z4, _⟩ := blk5 c1
      have hsz := hb1.size
      simp only [World.size_alloc] at hsz
      clear b0 hsound c1 hb1 hs
      dsimp only
      go_wp2_with (go_at_call 11; refine HSD.out.mono ?_; rintro e w2 ⟨rfl, hb2⟩; obtain ⟨z0, z1, z2, z3, z4, _⟩ := blk5 ((hb2.block _ (by omega)).trans HC.out))
      go_ret
      exact ⟨rfl, by repeat (first | with_reducible assumption | (with_reducible refine Below.setCell ?_ (by first | omega | (simp; done) | (simp; omega)) _) | (with_reducible refine Below.alloc ?_ (by first | omega | (simp; done) | (simp; omega)) _) | (with_reducible refine Below.drew ?_) | (with_reducible refine below_dN ?_ _) | with_reducible exact Below.refl _ _ | (with_reducible refine Below.trans ?_ (Below.mono (by assumption) (by first | omega | (simp; done) | (simp; omega)))))⟩
    · go_enter Try.func4, Try.ntmps4
      go_wp2_with fail
      have b0 := heap_alloc_new w (.cells #[.int .u32 g, .slice a ks.length cap, .int .i64 h, .int .i64 ty, .bool ap] 25)
      refine (stands_any _).mono ?_
      rintro e w1 ⟨rfl, hb1⟩
      have c1 := (hb1.block w.heap.size (by simp)).trans b0
      have hbw : Below w.heap.size w w1 := by repeat (first | with_reducible assumption | (with_reducible refine Below.setCell ?_ (by first | omega | (simp; done) | (simp; omega)) _) | (with_reducible refine Below.alloc ?_ (by first | omega | (simp; done) | (simp; omega)) _) | (with_reducible refine Below.drew ?_) | (with_reducible refine below_dN ?_ _) | with_reducible exact Below.refl _ _ | (with_reducible refine Below.trans ?_ (Below.mono (by assumption) (by first | omega | (simp; done) | (simp; omega)))))
      have hsound := rSound_any g h ty ap a ks cap w1 hlen (HK.out.below hbw)
      rw [hs] at hsound
      have HSD := Lib.hid hsound
      have HC := Lib.hid c1
      obtain ⟨z0, z1, z2, z3, z4, _⟩ := blk5 c1
      have hsz := hb1.size
      simp only [World.size_alloc] at hsz
      have h0i : ((ks.length : Int) == 0) = false := by rw [beq_eq_false_iff_ne]; omega
      clear b0 hsound c1 hb1 hs
      dsimp only
      go_wp2_with (go_at_call 11; refine HSD.out.mono ?_; rintro e w2 ⟨rfl, hb2⟩; have hs2 := hb2.size; obtain ⟨z0, z1, z2, z3, z4, _⟩ := blk5 ((hb2.block _ (by omega)).trans HC.out))
      have h0n : ¬ ((ks.length : Int) = 0) := by omega
      have hb02 : Below w.heap.size w w2 := hbw.trans (hb2.mono hbw.size)
      have hidx : 0 ≤ (wrap64 (n.tmod ↑ks.length + ↑ks.length)).tmod ↑ks.length ∧ (wrap64 (n.tmod ↑ks.length + ↑ks.length)).tmod ↑ks.length < ↑ks.length := idx_ok n ks.length (by omega) (by omega)
      obtain ⟨hi0, hi1⟩ := hidx
      obtain ⟨j, hj⟩ : ∃ j : Nat, (wrap64 (n.tmod ↑ks.length + ↑ks.length)).tmod ↑ks.length = (j : Int) := ⟨_, (Int.toNat_of_nonneg hi0).symm⟩
      have hjl : j < ks.length := by omega
      have hjE : j = ((wrap64 (n.tmod ↑ks.length + ↑ks.length)).tmod ↑ks.length).toNat := by omega
      obtain ⟨b, off, rfl, hbs, e1, e2⟩ := HK.out j hjl
      have d1 := (hb02.cell (p := ⟨b, off + j * 2, none⟩) hbs).trans e1
      have d2 := (hb02.cell (p := ⟨b, off + j * 2 + 1, none⟩) hbs).trans e2
      obtain ⟨⟨kn, kk⟩, hkj⟩ : ∃ x, x = ks[j] := ⟨_, rfl⟩
      rw [← hkj] at d1 d2
      have HKJ : Hid (∃ (j : Nat) (hjl : j < ks.length), (kn, kk) = ks[j]) := Lib.hid ⟨j, hjl, hkj⟩
      rw [hjE] at d1 d2
      clear hj hjl hjE hkj e1 e2
      have k1 := cell_regrown z1
      have kd1 := cell_regrown d1
      have kd2 := cell_regrown d2
      refine wp_region_mix [(0, true), (1, true), (2, true), (3, true), (4, true), (5, true), (6, true), (7, true), (8, true), (9, true), (10, true), (11, true), (12, true), (13, true), (14, true), (15, true), (16, true), (17, false), (18, false)] 18 (fun w' => ∃ p : Regrown, w' = Go.Sort.grow (redrawn w2 p.d) p.os) (by kernel_rfl) (by kernel_rfl) (fun _ _ d _ _ h => by cases d <;> exact h) (grows_drew _) ?_
      (repeat (refine mix_q ?_; simp only [List.drop_succ_cons, List.drop_zero, List.take_succ_cons, List.take_zero]; go_big_quiet_step (fail); refine wpQuiet_nil ?_))
      refine mix_a ?_; simp only [List.drop_succ_cons, List.drop_zero, List.take_succ_cons, List.take_zero]
      go_wp2_with fail
      refine mixQ_normal ⟨grows_of_below (by repeat (first | with_reducible assumption | (with_reducible refine Below.setCell ?_ (by first | omega | (simp; done) | (simp; omega)) _) | (with_reducible refine Below.alloc ?_ (by first | omega | (simp; done) | (simp; omega)) _) | (with_reducible refine Below.drew ?_) | (with_reducible refine below_dN ?_ _) | with_reducible exact Below.refl _ _ | (with_reducible refine Below.trans ?_ (Below.mono (by assumption) (by first | omega | (simp; done) | (simp; omega)))))), ?_⟩
      refine mix_a ?_; simp only [List.drop_succ_cons, List.drop_zero, List.take_succ_cons, List.take_zero]
      go_wp2_with fail
      refine mixQ_normal ⟨fun h => absurd h (by simp), mix_nil ?_⟩
      have hK5 : (w2.alloc (.cells #[.int .i64 kn, .int .u64 kk] 32)).drew.heap[w2.heap.size]? = some (.cells #[.int .i64 kn, .int .u64 kk] 32) := heap_alloc_new w2 _
      have hb5 : Below w2.heap.size w2 (w2.alloc (.cells #[.int .i64 kn, .int .u64 kk] 32)).drew := by repeat (first | with_reducible assumption | (with_reducible refine Below.setCell ?_ (by first | omega | (simp; done) | (simp; omega)) _) | (with_reducible refine Below.alloc ?_ (by first | omega | (simp; done) | (simp; omega)) _) | (with_reducible refine Below.drew ?_) | (with_reducible refine below_dN ?_ _) | with_reducible exact Below.refl _ _ | (with_reducible refine Below.trans ?_ (Below.mono (by assumption) (by first | omega | (simp; done) | (simp; omega)))))
      have hT5 := (hb5.block w.heap.size (by omega)).trans ((hb2.block _ (by omega)).trans HC.out)
      have hb05 := hb02.trans (hb5.mono hb02.size)
      have hs5 : w2.heap.size < (w2.alloc (.cells #[.int .i64 kn, .int .u64 kk] 32)).drew.heap.size := by simp
      generalize (w2.alloc (.cells #[.int .i64 kn, .int .u64 kk] 32)).drew = w5 at hK5 hT5 hb05 hs5 ⊢
      generalize hQ : w2.heap.size = Q at hK5 hs5 ⊢
      have hQw : w.heap.size < Q := by omega
      clear k1 kd1 kd2 d1 d2 z0 z1 z2 z3 z4 hb5 hb02 hb2 hQ hs2
      obtain ⟨z0, z1, z2, z3, z4, _⟩ := blk5 hT5
      have x0 : w5.cell? ⟨Q, 0, none⟩ = some (.int .i64 kn) := by simp [World.cell?, hK5]
      have x1 : w5.cell? ⟨Q, 1, none⟩ = some (.int .u64 kk) := by simp [World.cell?, hK5]
      have H5 := Lib.hid (And.intro hT5 (And.intro hK5 hb05))
      have hk5 := HK.out.below hb05
      clear hT5 hK5
      go_wp2_with fail
      obtain ⟨j, hjl, hkj⟩ := HKJ.out
      have hkn : kn = ks[j].1 := congrArg Prod.fst hkj
      have hkk : kk = ks[j].2 := congrArg Prod.snd hkj
      have hok := soundT_ok HS.out
      have hkey : keyF ks kn = (kk, true) := by rw [hkn, hkk]; exact key_at ks (-1) j hjl hok
      have hcl : actF ⟨g, ks, h, ty, ap⟩ kn 3 0 kk 0 false = ({ g := u32 (g + 1), ks := [], h := -1, ty := 0, ap := ap }, 0, othersF (ks.map (·.1)) kn) := by
        have := clear_is ⟨g, ks, h, ty, ap⟩ HS.out j hjl 0 0 false
        rw [hkn, hkk]; exact this
      have hno : ∀ key, key ≠ kk → actF ⟨g, ks, h, ty, ap⟩ kn 3 0 key 0 false = (⟨g, ks, h, ty, ap⟩, 24, []) := fun key hne => by
        have := clear_no ⟨g, ks, h, ty, ap⟩ HS.out j hjl 0 0 key false (by simpa [← hkk] using hne)
        rw [hkn]; exact this
      have hlo : (othersF (ks.map (·.1)) kn).length + 1 = ks.length := by rw [hkn]; exact others_len ks (-1) j hjl hok
      have HF := Lib.hid (And.intro hkey (And.intro hno hlo))
      have hA1 := post_to (act3 ⟨g, ks, h, ty, ap⟩ kn 0 kk 0 false (some ⟨b, off, none⟩) cap w5 (show ks.length ≤ 1000000 by omega) hk5 (fun e => by cases e) (by rw [hkey]) (by rw [hkey]; simp)) hcl
      clear hkn hkk hok hkey hcl hno hlo hkj hjl j
      generalize othersF (ks.map (·.1)) kn = go at hA1 HF
      refine hA1.mono ?_
      rintro e w6 ⟨a6, c6, b6, d6, rfl, hk6, hn6, hi6, hb6⟩
      have hT6 := (hb6.block w.heap.size (by omega)).trans H5.out.1
      have hK6 := (hb6.block Q (by omega)).trans H5.out.2.1
      have hs6 := hb6.size
      have hk6' := hk5.below hb6
      clear z0 z1 z2 z3 z4 x0 x1 hA1
      obtain ⟨z0, z1, z2, z3, z4, _⟩ := blk5 hT6
      have x0 : w6.cell? ⟨Q, 0, none⟩ = some (.int .i64 kn) := by simp [World.cell?, hK6]
      have x1 : w6.cell? ⟨Q, 1, none⟩ = some (.int .u64 kk) := by simp [World.cell?, hK6]
      have H6 := Lib.hid (And.intro hT6 (And.intro hK6 (And.intro (hb05.trans (hb6.mono hb05.size)) (And.intro hk6 (And.intro hn6 (And.intro hi6 hk6'))))))
      clear hT6 hK6 hk6 hn6 hi6 hb6 hk5 hk6'
      have hw6 : w.heap.size < w6.heap.size := by omega
      have hq6 : Q < w6.heap.size := by omega
      simp only [List.length_nil]
      go_wp2_with fail
      have hU7 := heap_alloc_new w6 (.cells #[.int .u32 (u32 (g + 1)), .slice a6 0 c6, .int .i64 (-1), .int .i64 0, .bool ap] 25)
      have hb7 : Below w6.heap.size w6 (w6.alloc (.cells #[.int .u32 (u32 (g + 1)), .slice a6 0 c6, .int .i64 (-1), .int .i64 0, .bool ap] 25)) := by repeat (first | with_reducible assumption | (with_reducible refine Below.setCell ?_ (by first | omega | (simp; done) | (simp; omega)) _) | (with_reducible refine Below.alloc ?_ (by first | omega | (simp; done) | (simp; omega)) _) | (with_reducible refine Below.drew ?_) | (with_reducible refine below_dN ?_ _) | with_reducible exact Below.refl _ _ | (with_reducible refine Below.trans ?_ (Below.mono (by assumption) (by first | omega | (simp; done) | (simp; omega)))))
      have hs7 : w6.heap.size < (w6.alloc (.cells #[.int .u32 (u32 (g + 1)), .slice a6 0 c6, .int .i64 (-1), .int .i64 0, .bool ap] 25)).heap.size := by simp
      generalize w6.alloc (.cells #[.int .u32 (u32 (g + 1)), .slice a6 0 c6, .int .i64 (-1), .int .i64 0, .bool ap] 25) = w7 at hU7 hb7 hs7 ⊢
      have hne : IntKind.u64.wrap (kk + 1) ≠ kk := u64_next kk
      have hA2 := post_to (act3_c2 ⟨g, ks, h, ty, ap⟩ kn 0 (IntKind.u64.wrap (kk + 1)) 0 false (some ⟨b, off, none⟩) cap w7 (show ks.length ≤ 1000000 by omega) (H6.out.2.2.2.2.2.2.below hb7) (fun e => by cases e) (by rw [HF.out.1]) (by rw [HF.out.1]; simpa using hne)) (HF.out.2.1 _ hne)
      refine hA2.mono ?_
      rintro e w8 ⟨a8, c8, b8, d8, rfl, _, _, _, hb8⟩
      have hU8 := (hb8.block w6.heap.size hs7).trans hU7
      have hb68 := hb7.trans (hb8.mono hb7.size)
      have HB8 := Lib.hid (And.intro (H6.out.2.2.1.trans (hb68.mono H6.out.2.2.1.size)) (And.intro hU8 (H6.out.2.2.2.2.2.1.below hb68)))
      have hT8 := (hb68.block w.heap.size (by omega)).trans H6.out.1
      have HT8 := Lib.hid hT8
      have hs8 := hb8.size
      clear z0 z1 z2 z3 z4 x0 x1 hA2 hne hU7 hb7 hb8 hb68
      generalize hU : w6.heap.size = U at hU8 hs7 hw6 hq6 hs6 HB8 ⊢
      have hU8' : U < w8.heap.size := by omega
      obtain ⟨z0, z1, z2, z3, z4, _⟩ := blk5 hT8
      obtain ⟨q0, q1, q2, q3, q4, _⟩ := blk5 hU8
      clear hU8 hT8
      go_wp2_with fail
      have hb9 : Below w8.heap.size w8 (w8.alloc (.cells #[.int .u32 g, .slice a8 ks.length c8, .int .i64 h, .int .i64 ty, .bool ap] 25)) := by repeat (first | with_reducible assumption | (with_reducible refine Below.setCell ?_ (by first | omega | (simp; done) | (simp; omega)) _) | (with_reducible refine Below.alloc ?_ (by first | omega | (simp; done) | (simp; omega)) _) | (with_reducible refine Below.drew ?_) | (with_reducible refine below_dN ?_ _) | with_reducible exact Below.refl _ _ | (with_reducible refine Below.trans ?_ (Below.mono (by assumption) (by first | omega | (simp; done) | (simp; omega)))))
      generalize w8.alloc (.cells #[.int .u32 g, .slice a8 ks.length c8, .int .i64 h, .int .i64 ty, .bool ap] 25) = w9 at hb9 ⊢
      have HU9 := Lib.hid ((hb9.block U hU8').trans HB8.out.2.1)
      have HT9 := Lib.hid ((hb9.block w.heap.size (by omega)).trans HT8.out)
      have hU9 : U < w9.heap.size := Nat.lt_of_lt_of_le hU8' hb9.size
      have HW9 := Lib.hid (HB8.out.1.trans (hb9.mono HB8.out.1.size))
      have hw9 : w.heap.size < w9.heap.size := by omega
      clear z0 z1 z2 z3 z4 q0 q1 q2 q3 q4
      go_loopw [65] (fun i wr => ∃ k : Nat, k ≤ 8 ∧ i = .int .i64 k ∧ Below w9.heap.size w9 wr) (fun i _ => 8 - (intOf i).toNat)
      case atStart => exact ⟨0, by omega, rfl, Below.refl _ _⟩
      case round =>
        obtain ⟨k, hk8, rfl, hbel⟩ := hrel
        have hsr := hbel.size
        by_cases hlt : k < 8
        · have hlt2 : decide ((k : Int) < 8) = true := by rw [decide_eq_true_eq]; omega
          go_wp2
          clear hlt2
          go_loopw [13, 68] (fun _ i wz => ∃ m : Nat, m ≤ 14 ∧ i = .int .i64 m ∧ Below w9.heap.size w9 wz) (fun _ i _ => 14 - (intOf i).toNat)
          case atStart => exact ⟨0, by omega, rfl, hbel⟩
          case round =>
            clear hbel hsr
            obtain ⟨m, hm14, rfl, hbel⟩ := hrel
            by_cases hlm : m < 14
            · obtain ⟨q0, q1, q2, q3, q4, _⟩ := blk5 ((hbel.block U hU9).trans HU9.out)
              go_wp2_with (go_at_call 14; refine (bars_to (u32 (g + 1)) (-1) 0 k m ap [] false (by simp [barsF]) a6 c6 _ (by simp) (KeysIn.nil _ _)).mono ?_; rintro e wb ⟨rfl, hbb⟩)
              go_wp2
              go_roundw
              case rel => exact ⟨m + 1, by omega, by go_num, hbel.trans (hbb.mono hbel.size)⟩
              case measure => simp [intOf]; omega
            · obtain rfl : m = 14 := by omega
              go_wp2
              go_roundw
              case rel => exact ⟨k + 1, by omega, by go_num, hbel⟩
              case measure => simp [intOf]; omega
        · obtain rfl : k = 8 := by omega
          have hUr := (hbel.block U hU9).trans HU9.out
          have hTr := (hbel.block w.heap.size hw9).trans HT9.out
          have hwr : w.heap.size < wr.heap.size := by omega
          have hur : U < wr.heap.size := by omega
          obtain ⟨z0, z1, z2, z3, z4, _⟩ := blk5 hTr
          obtain ⟨q0, q1, q2, q3, q4, _⟩ := blk5 hUr
          clear hTr hUr
          have hgl : ((go.length : Int) == (ks.length : Int) - 1) = true := by have := HF.out.2.2; rw [beq_iff_eq]; omega
          have HGL := Lib.hid hgl
          clear hgl
          go_wp2
          go_ret
          exact ⟨congrArg (fun x => Ending.returned (Value.bool x)) HGL.out, HW9.out.trans (hbel.mono HW9.out.size)⟩
end Go.Proofs.Ytopakonpfbbldaa
