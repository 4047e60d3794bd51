/- What told and Ints answer. No condition but that the lists have lengths that an int can tell. -/
import Derived.Test.YtopakonpfbbldaaKLib6
import Derived.Test.YtopakonpfbbldaaS1b
import Derived.Test.YtopakonpfbbldaaKR4
import Derived.Test.YtopakonpfbbldaaKR5
import Derived.Test.YtopakonpfbbldaaKR20
import Derived.Test.YtopakonpfbbldaaFnsC
import Derived.Test.YtopakonpfbbldaaW2
import Derived.Test.YtopakonpfbbldaaW23
import Derived.Test.YtopakonpfbbldaaMix3
import Derived.Test.YtopakonpfbbldaaKP0
set_option linter.unusedSimpArgs false
set_option linter.unusedVariables false
namespace Go.Proofs.Ytopakonpfbbldaa
open Go.RowKit

set_option maxRecDepth 100000 in
set_option maxHeartbeats 4000000 in
theorem told_any (ac oty key other : Int) (oap : Bool) (w : World) :
    Calls Try.prog 21 #[.agg #[.int .i64 ac, .int .i64 oty, .int .u64 key, .int .u64 other, .bool oap]] w fun e w' => e = .returned (.agg #[.int .i64 ac, .int .i64 oty, .int .u64 key, .int .u64 other, .bool oap]) ∧ Below w.heap.size w w' := by
  go_enter Try.func21, Try.ntmps21
  go_wp2
  refine bodyPost_ret (v := .agg #[.int .i64 ac, .int .i64 oty, .int .u64 key, .int .u64 other, .bool oap]) ?_ rfl ⟨rfl, ?_⟩
  · simp only [results, Try.results21]
    go_simp
  · repeat (first | with_reducible assumption | (with_reducible refine Below.setCell ?_ (by first | omega | (simp; done) | (simp; omega)) _) | (with_reducible refine Below.alloc ?_ (by first | omega | (simp; done) | (simp; omega)) _) | (with_reducible refine Below.drew ?_) | (with_reducible refine below_dN ?_ _) | with_reducible exact Below.refl _ _ | (with_reducible refine Below.trans ?_ (Below.mono (by assumption) (by first | omega | (simp; done) | (simp; omega)))))

set_option maxRecDepth 100000 in
set_option maxHeartbeats 4000000 in
theorem Ints_any (a b : Option Addr) (xs ys : List Int) (c d : Nat) (w : World) (hx : xs.length ≤ 9223372036854775807) (hy : ys.length ≤ 9223372036854775807) (ha : IntsIn w a xs) (hb : IntsIn w b ys) :
    Calls Try.prog 22 #[.slice a xs.length c, .slice b ys.length d] w fun e w' => e = .returned (.bool (xs == ys)) ∧ Below w.heap.size w w' := by
  have HA := Lib.hid ha; clear ha
  have HB := Lib.hid hb; clear hb
  go_enter Try.func22, Try.ntmps22
  cases hl : ((xs.length : Int) != (ys.length : Int))
  · have hl' : xs.length = ys.length := by have := hl; simp at this; omega
    go_wp2

    go_loopw [5] (fun i wr => ∃ k : Nat, k ≤ xs.length ∧ i = .int .i64 k ∧ (∀ j (hj : j < xs.length) (hj' : j < ys.length), j < k → xs[j] = ys[j]) ∧ Below w.heap.size w wr) (fun i _ => xs.length - (intOf i).toNat)
    case atStart => exact ⟨0, Nat.zero_le _, rfl, fun _ _ _ h => absurd h (by omega), Below.refl _ _⟩
    case round =>
      obtain ⟨k, hk, rfl, heq, hbel⟩ := hrel
      have HEQ := Lib.hid heq
      clear heq
      by_cases hlt : k < xs.length
      · have hlt' : k < ys.length := by omega
        obtain ⟨b1, off, rfl, hb1, c1, cur1, _⟩ := HA.out k hlt
        obtain ⟨b2, off2, rfl, hb2, c2, cur2, _⟩ := HB.out k hlt'
        have d1 := (hbel.cell (p := ⟨b1, off + k, none⟩) hb1).trans c1
        have d2 := (hbel.cell (p := ⟨b2, off2 + k, none⟩) hb2).trans c2
        have hi0 : (0 : Int) ≤ k := by omega
        have hi1 : (k : Int) < xs.length := by omega
        have hi2 : (k : Int) < ys.length := by omega
        clear c1 c2
        by_cases e1 : xs[k] = ys[k]
        · have HE := Lib.hid e1
          go_wp2
          go_quiet (fail)
          go_wp2
          go_roundw
          case rel =>
            refine ⟨k + 1, by omega, by go_num, fun j h1 h2 h3 => ?_, below_dN hbel nq⟩
            by_cases e : j = k
            · subst e; exact HE.out
            · exact HEQ.out j h1 h2 (by omega)
          case measure => simp [intOf]; omega
        · have HE : Hid ((xs == ys) = false) := Lib.hid (by simp; rintro rfl; exact e1 rfl)
          go_wp2
          go_quiet (fail)
          go_wp2
          go_ret
          refine ⟨?_, by repeat (first | with_reducible assumption | (with_reducible refine Below.setCell ?_ (by first | omega | (simp; done) | (simp; omega)) _) | (with_reducible refine Below.alloc ?_ (by first | omega | (simp; done) | (simp; omega)) _) | (with_reducible refine Below.drew ?_) | (with_reducible refine below_dN ?_ _) | with_reducible exact Below.refl _ _ | (with_reducible refine Below.trans ?_ (Below.mono (by assumption) (by first | omega | (simp; done) | (simp; omega)))))⟩
          simp [HE.out]
      · obtain rfl : k = xs.length := by omega
        go_wp2
        go_ret
        refine ⟨?_, by repeat (first | with_reducible assumption | (with_reducible refine Below.setCell ?_ (by first | omega | (simp; done) | (simp; omega)) _) | (with_reducible refine Below.alloc ?_ (by first | omega | (simp; done) | (simp; omega)) _) | (with_reducible refine Below.drew ?_) | (with_reducible refine below_dN ?_ _) | with_reducible exact Below.refl _ _ | (with_reducible refine Below.trans ?_ (Below.mono (by assumption) (by first | omega | (simp; done) | (simp; omega)))))⟩
        have : xs = ys := List.ext_getElem hl' (fun i h1 h2 => HEQ.out i h1 h2 h1)
        subst this
        simp
  · have HL : Hid ((xs == ys) = false) := Lib.hid (by simp; rintro rfl; simp at hl)
    go_wp2
    all_goals go_ret
    all_goals refine ⟨?_, by repeat (first | with_reducible assumption | (with_reducible refine Below.setCell ?_ (by first | omega | (simp; done) | (simp; omega)) _) | (with_reducible refine Below.alloc ?_ (by first | omega | (simp; done) | (simp; omega)) _) | (with_reducible refine Below.drew ?_) | (with_reducible refine below_dN ?_ _) | with_reducible exact Below.refl _ _ | (with_reducible refine Below.trans ?_ (Below.mono (by assumption) (by first | omega | (simp; done) | (simp; omega)))))⟩
    all_goals simp [HL.out]
end Go.Proofs.Ytopakonpfbbldaa
namespace Go.Proofs.Ytopakonpfbbldaa
open Go.RowKit

set_option maxRecDepth 100000 in
set_option maxHeartbeats 4000000 in
theorem PersActs_bad (g h ty n : Int) (ap : Bool) (a : Option Addr) (ks : List (Int × Int)) (cap : Nat) (ac oty key other : Int) (oap : Bool) (w : World) (hlen : ks.length ≤ 9223372036854775807)
   (hk : KeysIn w a ks) (b : Bool) (hs : rsoundF ks h ty = b)
   (hbad : b = false ∨ (b = true ∧ decide (n < 0) = true) ∨ (b = true ∧ decide (n < 0) = false ∧ decide (7 < n) = true)) :
    Calls Try.prog 7 #[.agg #[.int .u32 g, .slice a ks.length cap, .int .i64 h, .int .i64 ty, .bool ap], .int .i64 n, .agg #[.int .i64 ac, .int .i64 oty, .int .u64 key, .int .u64 other, .bool oap]] w fun e w' => e = .returned (.bool true) ∧ Below w.heap.size w w' := by
  rcases hbad with rfl | ⟨rfl, h1⟩ | ⟨rfl, h1, h2⟩
  all_goals
    have HK := Lib.hid hk; clear hk
    go_enter Try.func7, Try.ntmps7
    go_wp2_with fail
    have b0 := (heap_alloc_old (w.alloc (.cells #[.int .u32 g, .slice a ks.length cap, .int .i64 h, .int .i64 ty, .bool ap] 25)) (.cells #[.int .i64 ac, .int .i64 oty, .int .u64 key, .int .u64 other, .bool oap] 37) (r := w.heap.size) (by simp)).trans (heap_alloc_new w (.cells #[.int .u32 g, .slice a ks.length cap, .int .i64 h, .int .i64 ty, .bool ap] 25))
    have b1 : ((w.alloc (.cells #[.int .u32 g, .slice a ks.length cap, .int .i64 h, .int .i64 ty, .bool ap] 25)).alloc (.cells #[.int .i64 ac, .int .i64 oty, .int .u64 key, .int .u64 other, .bool oap] 37)).heap[w.heap.size + 1]? = some (.cells #[.int .i64 ac, .int .i64 oty, .int .u64 key, .int .u64 other, .bool oap] 37) := by have h := heap_alloc_new (w.alloc (.cells #[.int .u32 g, .slice a ks.length cap, .int .i64 h, .int .i64 ty, .bool ap] 25)) (.cells #[.int .i64 ac, .int .i64 oty, .int .u64 key, .int .u64 other, .bool oap] 37); simpa using h
    refine (stands_any _).mono ?_
    rintro e w1 ⟨rfl, hb1⟩
    have c0 := (hb1.block w.heap.size (by simp; omega)).trans b0
    have c1 := (hb1.block (w.heap.size + 1) (by simp)).trans b1
    have hz1 := hb1.size
    simp only [World.size_alloc] at hz1
    have hbw : Below w.heap.size w w1 := by repeat (first | with_reducible assumption | (with_reducible refine Below.setCell ?_ (by first | omega | (simp; done) | (simp; omega)) _) | (with_reducible refine Below.alloc ?_ (by first | omega | (simp; done) | (simp; omega)) _) | (with_reducible refine Below.drew ?_) | (with_reducible refine below_dN ?_ _) | with_reducible exact Below.refl _ _ | (with_reducible refine Below.trans ?_ (Below.mono (by assumption) (by first | omega | (simp; done) | (simp; omega)))))
    have HD := Lib.hid (And.intro c0 (And.intro c1 hbw))
    clear b0 b1 hb1
    have z0 := (blk5 c0).1
    have z1 := (blk5 c0).2.1
    have z2 := (blk5 c0).2.2.1
    have z3 := (blk5 c0).2.2.2.1
    have z4 := (blk5 c0).2.2.2.2.1
    have y0 := (blk5 c0).2.2.2.2.2.1
    have y1 := (blk5 c0).2.2.2.2.2.2.1
    have y2 := (blk5 c0).2.2.2.2.2.2.2.1
    have y3 := (blk5 c0).2.2.2.2.2.2.2.2.1
    have y4 := (blk5 c0).2.2.2.2.2.2.2.2.2
    have o0 := (blk5 c1).1
    have o1 := (blk5 c1).2.1
    have o2 := (blk5 c1).2.2.1
    have o3 := (blk5 c1).2.2.2.1
    have o4 := (blk5 c1).2.2.2.2.1
    have p0 := (blk5 c1).2.2.2.2.2.1
    have p1 := (blk5 c1).2.2.2.2.2.2.1
    have p2 := (blk5 c1).2.2.2.2.2.2.2.1
    have p3 := (blk5 c1).2.2.2.2.2.2.2.2.1
    have p4 := (blk5 c1).2.2.2.2.2.2.2.2.2
    clear c0 c1 hbw
    dsimp only
    repeat (first | go_values | go_skip | go_guarded | go_step | go_upon | go_quiet (fail))
    have HS1 := Lib.hid (fun wx (hx : Below w1.heap.size w1 wx) => by
      have h0 := Sound_any g h ty ap a ks cap wx hlen (HK.out.below (HD.out.2.2.trans (hx.mono HD.out.2.2.size)))
      rw [sound_same, hs] at h0; exact h0)
    have HS2 := Lib.hid (fun wx (hx : Below w1.heap.size w1 wx) => by
      have h0 := rSound_any g h ty ap a ks cap wx hlen (HK.out.below (HD.out.2.2.trans (hx.mono HD.out.2.2.size)))
      rw [hs] at h0; exact h0)
    clear hs
    have k0 := cell_regrown z0
    have k1 := cell_regrown z1
    have k2 := cell_regrown z2
    have k3 := cell_regrown z3
    have k4 := cell_regrown z4
    have HQ1 := Lib.hid (fun (d : Nat) (os : Array Obj) => Calls.regrown_of (HS1.out (Go.Sort.grow (redrawn w1 d) os) (below_regrown w1 d os)))
    have HQ2 := Lib.hid (fun (d : Nat) (os : Array Obj) => Calls.regrown_of (HS2.out (Go.Sort.grow (redrawn w1 d) os) (below_regrown w1 d os)))
    refine wp_region_quiet_below (by kernel_rfl) (by kernel_rfl) ?_
    (repeat (go_big_quiet_step ((first | exact HQ1.out _ _ | exact HQ2.out _ _))))
    refine wpQuiet_nil ?_
    intro wq hwq
    have hq := below_of_regrown hwq
    clear hwq
    have hqs := hq.size
    have c0 := (hq.block w.heap.size (by omega)).trans HD.out.1
    have c1 := (hq.block (w.heap.size + 1) (by omega)).trans HD.out.2.1
    have HQW := Lib.hid hq
    clear z0 z1 z2 z3 z4 y0 y1 y2 y3 y4 o0 o1 o2 o3 o4 p0 p1 p2 p3 p4 k0 k1 k2 k3 k4 HQ1 HQ2 hq
    have z0 := (blk5 c0).1
    have z1 := (blk5 c0).2.1
    have z2 := (blk5 c0).2.2.1
    have z3 := (blk5 c0).2.2.2.1
    have z4 := (blk5 c0).2.2.2.2.1
    have y0 := (blk5 c0).2.2.2.2.2.1
    have y1 := (blk5 c0).2.2.2.2.2.2.1
    have y2 := (blk5 c0).2.2.2.2.2.2.2.1
    have y3 := (blk5 c0).2.2.2.2.2.2.2.2.1
    have y4 := (blk5 c0).2.2.2.2.2.2.2.2.2
    have o0 := (blk5 c1).1
    have o1 := (blk5 c1).2.1
    have o2 := (blk5 c1).2.2.1
    have o3 := (blk5 c1).2.2.2.1
    have o4 := (blk5 c1).2.2.2.2.1
    have p0 := (blk5 c1).2.2.2.2.2.1
    have p1 := (blk5 c1).2.2.2.2.2.2.1
    have p2 := (blk5 c1).2.2.2.2.2.2.2.1
    have p3 := (blk5 c1).2.2.2.2.2.2.2.2.1
    have p4 := (blk5 c1).2.2.2.2.2.2.2.2.2
    clear c0 c1
    repeat (first | go_values | go_skip | go_guarded | go_step | go_upon | go_quiet (fail))
    refine (HS2.out _ (by have hq := HQW.out; repeat (first | with_reducible assumption | (with_reducible refine Below.setCell ?_ (by first | omega | (simp; done) | (simp; omega)) _) | (with_reducible refine Below.alloc ?_ (by first | omega | (simp; done) | (simp; omega)) _) | (with_reducible refine Below.drew ?_) | (with_reducible refine below_dN ?_ _) | with_reducible exact Below.refl _ _ | (with_reducible refine Below.trans ?_ (Below.mono (by assumption) (by first | omega | (simp; done) | (simp; omega))))))).mono ?_
    rintro e w2 ⟨rfl, hb2⟩
    dsimp only
    have hs2 := hb2.size
    have HB2 : Hid (Below w1.heap.size w1 w2) := Lib.hid (HQW.out.trans (Below.mono (B := wq.heap.size) (by first | exact hb2 | exact (by have hq := HQW.out; exact hb2)) hqs))
    clear hb2
    repeat (first | go_values | go_skip | go_guarded | go_step | go_upon | go_quiet (fail))
    go_ret
    exact ⟨rfl, HD.out.2.2.trans (HB2.out.mono HD.out.2.2.size)⟩
end Go.Proofs.Ytopakonpfbbldaa
namespace Go.Proofs.Ytopakonpfbbldaa
open Go.RowKit

theorem gone_len : ∀ (i : Nat) (S : List Bool) (K : List Int) (but : Int), (goneK i S K but).length ≤ K.length
  | i, s :: ss, k :: l, but => by
    unfold goneK
    have := gone_len (i + 1) ss l but
    split <;> simp <;> omega
  | i, [], [], but => by simp [goneK]
  | i, [], _ :: _, but => by simp [goneK]
  | i, _ :: _, [], but => by simp [goneK]
theorem ract_len (t : Tab) (n ac oty key other : Int) (oap : Bool) : (ractF t n ac oty key other oap).2.2.length ≤ 8 := by
  have hg : ∀ S but, (rremoveF t S but).2.length ≤ 8 := fun S but => Nat.le_trans (gone_len _ _ _ _) (by rw [keysF_length]; omega)
  have hg' : ∀ g S but, (rremoveF { t with g := g } S but).2.length ≤ 8 := fun g S but => Nat.le_trans (gone_len _ _ _ _) (by rw [keysF_length]; omega)
  unfold ractF rregF rpreF
  dsimp only
  repeat' split
  all_goals first | (simp; done) | exact hg _ _ | exact hg' _ _ _

theorem same_yes (t : Tab) (a b : Option Addr) (c d : Nat) (w : World) (hl : t.ks.length ≤ 9223372036854775807) (ha : KeysIn w a t.ks) (hb : KeysIn w b t.ks) :
    Calls Try.prog 17 #[.agg #[.int .u32 t.g, .slice a t.ks.length c, .int .i64 t.h, .int .i64 t.ty, .bool t.ap], .agg #[.int .u32 t.g, .slice b t.ks.length d, .int .i64 t.h, .int .i64 t.ty, .bool t.ap]] w fun e w' => e = .returned (.bool true) ∧ Below w.heap.size w w' := by
  have h0 := rSame_any t.g t.h t.ty t.ap a t.ks c t.g t.h t.ty t.ap b t.ks d w hl hl ha hb
  rw [show (t.g == t.g && t.h == t.h && t.ty == t.ty && t.ap == t.ap && t.ks == t.ks) = true by simp] at h0
  exact h0
theorem ints_yes (a b : Option Addr) (xs : List Int) (c d : Nat) (w : World) (hl : xs.length ≤ 9223372036854775807) (ha : IntsIn w a xs) (hb : IntsIn w b xs) :
    Calls Try.prog 22 #[.slice a xs.length c, .slice b xs.length d] w fun e w' => e = .returned (.bool true) ∧ Below w.heap.size w w' := by
  have h0 := Ints_any a b xs xs c d w hl hl ha hb
  rw [show (xs == xs) = true by simp] at h0
  exact h0
theorem sound_yes (t : Tab) (a : Option Addr) (c : Nat) (w : World) (hl : t.ks.length ≤ 9223372036854775807) (ha : KeysIn w a t.ks) (hs : soundT t = true) :
    Calls Try.prog 19 #[.agg #[.int .u32 t.g, .slice a t.ks.length c, .int .i64 t.h, .int .i64 t.ty, .bool t.ap]] w fun e w' => e = .returned (.bool true) ∧ Below w.heap.size w w' := by
  have h0 := Sound_any t.g t.h t.ty t.ap a t.ks c w hl ha
  rw [show soundF t.ks t.h t.ty = true by rw [sound_same]; exact hs] at h0
  exact h0
theorem rpost_to {r r' : Tab × Int × List Int} {args : Array Value} {w : World} (h : Calls Try.prog 20 args w (ActPost r w)) (he : r = r') : Calls Try.prog 20 args w (ActPost r' w) := he ▸ h
theorem h_lt {t : Tab} (hs : soundT t = true) : t.h < 8 := by
  simp only [soundT, rsoundF, Bool.and_eq_true] at hs
  have h2 := hs.2
  split at h2
  · simp at h2; omega
  · simp only [Bool.and_eq_true, decide_eq_true_eq] at h2; exact h2.1.2

theorem keys_src {w : World} {a : Option Addr} {ks : List (Int × Int)} {c : Nat} (h : KeysIn w a ks) (hn : a = none → c = 0) : SrcIs w (.slice a ks.length c) ks.length 2 (flat ks) := by
  cases a with
  | none =>
    obtain rfl := hn rfl
    have e : ks = [] := by
      cases ks with
      | nil => rfl
      | cons r l => obtain ⟨b, off, e, _⟩ := h 0 (by simp); cases e
    subst e
    exact .inl ⟨rfl, rfl, rfl⟩
  | some ad => exact .inr ⟨ad, c, rfl, flat_length ks, h.flat, flat_one ks⟩

set_option maxRecDepth 100000 in
set_option maxHeartbeats 4000000 in
theorem PersActs_good (g h ty n : Int) (ap : Bool) (a : Option Addr) (ks : List (Int × Int)) (cap : Nat) (ac oty key other : Int) (oap : Bool) (w : World) (hlen : ks.length ≤ 9223372036854775807)
   (hk : KeysIn w a ks) (hna : a = none → cap = 0) (hs : rsoundF ks h ty = true) (h1 : decide (n < 0) = false) (h2 : decide (7 < n) = false) :
    Calls Try.prog 7 #[.agg #[.int .u32 g, .slice a ks.length cap, .int .i64 h, .int .i64 ty, .bool ap], .int .i64 n, .agg #[.int .i64 ac, .int .i64 oty, .int .u64 key, .int .u64 other, .bool oap]] w fun e w' => e = .returned (.bool true) ∧ Below w.heap.size w w' := by
  have HNA := Lib.hid hna; clear hna
  have HS : Hid (soundT ⟨g, ks, h, ty, ap⟩ = true) := Lib.hid hs
  have hl6 : ks.length ≤ 6 := (sound_inv HS.out).1
  obtain ⟨i0, hi, hj0, hj1, hj2⟩ := info_parts info_reg
  have HK := Lib.hid hk; clear hk
  go_enter Try.func7, Try.ntmps7
  go_wp2_with fail
  have b0 := (heap_alloc_old (w.alloc (.cells #[.int .u32 g, .slice a ks.length cap, .int .i64 h, .int .i64 ty, .bool ap] 25)) (.cells #[.int .i64 ac, .int .i64 oty, .int .u64 key, .int .u64 other, .bool oap] 37) (r := w.heap.size) (by simp)).trans (heap_alloc_new w (.cells #[.int .u32 g, .slice a ks.length cap, .int .i64 h, .int .i64 ty, .bool ap] 25))
  have b1 : ((w.alloc (.cells #[.int .u32 g, .slice a ks.length cap, .int .i64 h, .int .i64 ty, .bool ap] 25)).alloc (.cells #[.int .i64 ac, .int .i64 oty, .int .u64 key, .int .u64 other, .bool oap] 37)).heap[w.heap.size + 1]? = some (.cells #[.int .i64 ac, .int .i64 oty, .int .u64 key, .int .u64 other, .bool oap] 37) := by have h := heap_alloc_new (w.alloc (.cells #[.int .u32 g, .slice a ks.length cap, .int .i64 h, .int .i64 ty, .bool ap] 25)) (.cells #[.int .i64 ac, .int .i64 oty, .int .u64 key, .int .u64 other, .bool oap] 37); simpa using h
  refine (stands_any _).mono ?_
  rintro e w1 ⟨rfl, hb1⟩
  have c0 := (hb1.block w.heap.size (by simp; omega)).trans b0
  have c1 := (hb1.block (w.heap.size + 1) (by simp)).trans b1
  have hz1 := hb1.size
  simp only [World.size_alloc] at hz1
  have hbw : Below w.heap.size w w1 := by repeat (first | with_reducible assumption | (with_reducible refine Below.setCell ?_ (by first | omega | (simp; done) | (simp; omega)) _) | (with_reducible refine Below.alloc ?_ (by first | omega | (simp; done) | (simp; omega)) _) | (with_reducible refine Below.drew ?_) | (with_reducible refine below_dN ?_ _) | with_reducible exact Below.refl _ _ | (with_reducible refine Below.trans ?_ (Below.mono (by assumption) (by first | omega | (simp; done) | (simp; omega)))))
  have HD := Lib.hid (And.intro c0 (And.intro c1 hbw))
  clear b0 b1 hb1
  have z0 := (blk5 c0).1
  have z1 := (blk5 c0).2.1
  have z2 := (blk5 c0).2.2.1
  have z3 := (blk5 c0).2.2.2.1
  have z4 := (blk5 c0).2.2.2.2.1
  have y0 := (blk5 c0).2.2.2.2.2.1
  have y1 := (blk5 c0).2.2.2.2.2.2.1
  have y2 := (blk5 c0).2.2.2.2.2.2.2.1
  have y3 := (blk5 c0).2.2.2.2.2.2.2.2.1
  have y4 := (blk5 c0).2.2.2.2.2.2.2.2.2
  have o0 := (blk5 c1).1
  have o1 := (blk5 c1).2.1
  have o2 := (blk5 c1).2.2.1
  have o3 := (blk5 c1).2.2.2.1
  have o4 := (blk5 c1).2.2.2.2.1
  have p0 := (blk5 c1).2.2.2.2.2.1
  have p1 := (blk5 c1).2.2.2.2.2.2.1
  have p2 := (blk5 c1).2.2.2.2.2.2.2.1
  have p3 := (blk5 c1).2.2.2.2.2.2.2.2.1
  have p4 := (blk5 c1).2.2.2.2.2.2.2.2.2
  clear c0 c1 hbw
  dsimp only
  repeat (first | go_values | go_skip | go_guarded | go_step | go_upon | go_quiet (fail))
  have HS1 := Lib.hid (fun wx (hx : Below w1.heap.size w1 wx) => by
    have h0 := Sound_any g h ty ap a ks cap wx hlen (HK.out.below (HD.out.2.2.trans (hx.mono HD.out.2.2.size)))
    rw [sound_same, hs] at h0; exact h0)
  have HS2 := Lib.hid (fun wx (hx : Below w1.heap.size w1 wx) => by
    have h0 := rSound_any g h ty ap a ks cap wx hlen (HK.out.below (HD.out.2.2.trans (hx.mono HD.out.2.2.size)))
    rw [hs] at h0; exact h0)
  clear hs
  have k0 := cell_regrown z0
  have k1 := cell_regrown z1
  have k2 := cell_regrown z2
  have k3 := cell_regrown z3
  have k4 := cell_regrown z4
  have HQ1 := Lib.hid (fun (d : Nat) (os : Array Obj) => Calls.regrown_of (HS1.out (Go.Sort.grow (redrawn w1 d) os) (below_regrown w1 d os)))
  have HQ2 := Lib.hid (fun (d : Nat) (os : Array Obj) => Calls.regrown_of (HS2.out (Go.Sort.grow (redrawn w1 d) os) (below_regrown w1 d os)))
  refine wp_region_quiet_below (by kernel_rfl) (by kernel_rfl) ?_
  (repeat (go_big_quiet_step ((first | exact HQ1.out _ _ | exact HQ2.out _ _))))
  refine wpQuiet_nil ?_
  intro wq hwq
  have hq := below_of_regrown hwq
  clear hwq
  have hqs := hq.size
  have c0 := (hq.block w.heap.size (by omega)).trans HD.out.1
  have c1 := (hq.block (w.heap.size + 1) (by omega)).trans HD.out.2.1
  have HQW := Lib.hid hq
  clear z0 z1 z2 z3 z4 y0 y1 y2 y3 y4 o0 o1 o2 o3 o4 p0 p1 p2 p3 p4 k0 k1 k2 k3 k4 HQ1 HQ2 hq
  have z0 := (blk5 c0).1
  have z1 := (blk5 c0).2.1
  have z2 := (blk5 c0).2.2.1
  have z3 := (blk5 c0).2.2.2.1
  have z4 := (blk5 c0).2.2.2.2.1
  have y0 := (blk5 c0).2.2.2.2.2.1
  have y1 := (blk5 c0).2.2.2.2.2.2.1
  have y2 := (blk5 c0).2.2.2.2.2.2.2.1
  have y3 := (blk5 c0).2.2.2.2.2.2.2.2.1
  have y4 := (blk5 c0).2.2.2.2.2.2.2.2.2
  have o0 := (blk5 c1).1
  have o1 := (blk5 c1).2.1
  have o2 := (blk5 c1).2.2.1
  have o3 := (blk5 c1).2.2.2.1
  have o4 := (blk5 c1).2.2.2.2.1
  have p0 := (blk5 c1).2.2.2.2.2.1
  have p1 := (blk5 c1).2.2.2.2.2.2.1
  have p2 := (blk5 c1).2.2.2.2.2.2.2.1
  have p3 := (blk5 c1).2.2.2.2.2.2.2.2.1
  have p4 := (blk5 c1).2.2.2.2.2.2.2.2.2
  clear c0 c1
  repeat (first | go_values | go_skip | go_guarded | go_step | go_upon | go_quiet (fail))
  refine (HS2.out _ (by have hq := HQW.out; repeat (first | with_reducible assumption | (with_reducible refine Below.setCell ?_ (by first | omega | (simp; done) | (simp; omega)) _) | (with_reducible refine Below.alloc ?_ (by first | omega | (simp; done) | (simp; omega)) _) | (with_reducible refine Below.drew ?_) | (with_reducible refine below_dN ?_ _) | with_reducible exact Below.refl _ _ | (with_reducible refine Below.trans ?_ (Below.mono (by assumption) (by first | omega | (simp; done) | (simp; omega))))))).mono ?_
  rintro e w2 ⟨rfl, hb2⟩
  dsimp only
  have hs2 := hb2.size
  have HB2 : Hid (Below w1.heap.size w1 w2) := Lib.hid (HQW.out.trans (Below.mono (B := wq.heap.size) (by first | exact hb2 | exact (by have hq := HQW.out; exact hb2)) hqs))
  have HL2 : Hid (Below w.heap.size w w2) := Lib.hid (HD.out.2.2.trans (HB2.out.mono HD.out.2.2.size))
  have c0 := (HB2.out.block w.heap.size (by omega)).trans HD.out.1
  have c1 := (HB2.out.block (w.heap.size + 1) (by omega)).trans HD.out.2.1
  have hw2 : w.heap.size + 1 < w2.heap.size := by omega
  clear z0 z1 z2 z3 z4 y0 y1 y2 y3 y4 o0 o1 o2 o3 o4 p0 p1 p2 p3 p4 hb2
  have z0 := (blk5 c0).1
  have z1 := (blk5 c0).2.1
  have z2 := (blk5 c0).2.2.1
  have z3 := (blk5 c0).2.2.2.1
  have z4 := (blk5 c0).2.2.2.2.1
  have y0 := (blk5 c0).2.2.2.2.2.1
  have y1 := (blk5 c0).2.2.2.2.2.2.1
  have y2 := (blk5 c0).2.2.2.2.2.2.2.1
  have y3 := (blk5 c0).2.2.2.2.2.2.2.2.1
  have y4 := (blk5 c0).2.2.2.2.2.2.2.2.2
  have o0 := (blk5 c1).1
  have o1 := (blk5 c1).2.1
  have o2 := (blk5 c1).2.2.1
  have o3 := (blk5 c1).2.2.2.1
  have o4 := (blk5 c1).2.2.2.2.1
  have p0 := (blk5 c1).2.2.2.2.2.1
  have p1 := (blk5 c1).2.2.2.2.2.2.1
  have p2 := (blk5 c1).2.2.2.2.2.2.2.1
  have p3 := (blk5 c1).2.2.2.2.2.2.2.2.1
  have p4 := (blk5 c1).2.2.2.2.2.2.2.2.2
  have HC2 := Lib.hid (And.intro c0 c1)
  clear c0 c1
  repeat (fail_if_success (with_reducible refine stop_at 36 rfl ?_)
          first | go_values | go_skip | go_guarded | go_step | go_upon | go_quiet (fail))
  refine step_append_list rfl (.const (.slice none 0 0)) (.tmp 35) 23 rfl w.heap.size 32 i0 (.agg #[.int .i64 0, .int .u64 0]) 2 16 Try.underlying23 hi hj0 hj1 hj2 rfl (by decide) (.slice none 0 0) 0 [] rfl (World.ownsRow_nil _ _ _ _) (.slice a ks.length cap) ks.length (flat ks) rfl (keys_src (HK.out.below (by have hl := HL2.out; repeat (first | with_reducible assumption | (with_reducible refine Below.setCell ?_ (by first | omega | (simp; done) | (simp; omega)) _) | (with_reducible refine Below.alloc ?_ (by first | omega | (simp; done) | (simp; omega)) _) | (with_reducible refine Below.drew ?_) | (with_reducible refine below_dN ?_ _) | with_reducible exact Below.refl _ _ | (with_reducible refine Below.trans ?_ (Below.mono (by assumption) (by first | omega | (simp; done) | (simp; omega))))))) HNA.out) (by unfold maxLen; omega) (by omega) (by first | omega | (simp; omega)) ?_
  intro v3 w3 ho3 hg3
  simp only [Act.put, List.setIfInBounds_toArray, List.set_cons_zero, List.set_cons_succ]
  obtain ⟨a3, c3, hv3⟩ := own_slice ho3
  rw [Nat.zero_add] at hv3
  rw [hv3, Nat.zero_add, List.nil_append] at ho3
  subst hv3
  have HW3 := Lib.hid (KeysIn.of_own ho3)
  have hb3 : Below w2.heap.size w2 w3 := (Below.refl _ _).grown hg3 (Nat.le_refl _) (by simp [Value.ownBlock])
  have hs3 := hb3.size
  have hw3 : w.heap.size + 1 < w3.heap.size := by omega
  have c0 := (hb3.block w.heap.size (by omega)).trans HC2.out.1
  have c1 := (hb3.block (w.heap.size + 1) (by omega)).trans HC2.out.2
  have HL3 : Hid (Below w.heap.size w w3) := Lib.hid (HL2.out.trans (hb3.mono HL2.out.size))
  have HC3 := Lib.hid (And.intro c0 c1)
  clear z0 z1 z2 z3 z4 y0 y1 y2 y3 y4 o0 o1 o2 o3 o4 p0 p1 p2 p3 p4 ho3 hg3 hb3
  have z0 := (blk5 c0).1
  have z1 := (blk5 c0).2.1
  have z2 := (blk5 c0).2.2.1
  have z3 := (blk5 c0).2.2.2.1
  have z4 := (blk5 c0).2.2.2.2.1
  have y0 := (blk5 c0).2.2.2.2.2.1
  have y1 := (blk5 c0).2.2.2.2.2.2.1
  have y2 := (blk5 c0).2.2.2.2.2.2.2.1
  have y3 := (blk5 c0).2.2.2.2.2.2.2.2.1
  have y4 := (blk5 c0).2.2.2.2.2.2.2.2.2
  have o0 := (blk5 c1).1
  have o1 := (blk5 c1).2.1
  have o2 := (blk5 c1).2.2.1
  have o3 := (blk5 c1).2.2.2.1
  have o4 := (blk5 c1).2.2.2.2.1
  have p0 := (blk5 c1).2.2.2.2.2.1
  have p1 := (blk5 c1).2.2.2.2.2.2.1
  have p2 := (blk5 c1).2.2.2.2.2.2.2.1
  have p3 := (blk5 c1).2.2.2.2.2.2.2.2.1
  have p4 := (blk5 c1).2.2.2.2.2.2.2.2.2
  clear c0 c1
  repeat (first | go_values | go_skip | go_guarded | go_step | go_upon | go_quiet (fail))
  refine (act_any ⟨g, ks, h, ty, ap⟩ n ac oty key other oap a cap _ (show ks.length ≤ 1000000 by omega) (HK.out.below (by have hl := HL3.out; repeat (first | with_reducible assumption | (with_reducible refine Below.setCell ?_ (by first | omega | (simp; done) | (simp; omega)) _) | (with_reducible refine Below.alloc ?_ (by first | omega | (simp; done) | (simp; omega)) _) | (with_reducible refine Below.drew ?_) | (with_reducible refine below_dN ?_ _) | with_reducible exact Below.refl _ _ | (with_reducible refine Below.trans ?_ (Below.mono (by assumption) (by first | omega | (simp; done) | (simp; omega))))))) HNA.out).mono ?_
  rintro e w4 hp
  unfold ActPost at hp
  have hn0 : 0 ≤ n := by simpa using h1
  have hn8 : n < 8 := by have h3 := h2; simp at h3; omega
  have HSR := Lib.hid (act_sound ⟨g, ks, h, ty, ap⟩ n ac oty key other oap hn0 hn8 HS.out)
  have HRR := Lib.hid (act_same ⟨g, ks, h, ty, ap⟩ n ac oty key other oap hn0 hn8 HS.out).symm
  generalize actF ⟨g, ks, h, ty, ap⟩ n ac oty key other oap = R at hp HSR HRR
  obtain ⟨a4, c4, b4, d4, rfl, hk4, hn4, hi4, hb4⟩ := hp
  have hs4 := hb4.size
  have hw4 : w.heap.size + 1 < w4.heap.size := by first | omega | (simp at hs4; omega)
  have c0 := (hb4.block w.heap.size (by first | omega | (simp; omega))).trans HC3.out.1
  have c1 := (hb4.block (w.heap.size + 1) (by first | omega | (simp; omega))).trans HC3.out.2
  have HL4 : Hid (Below w.heap.size w w4) := Lib.hid (Below.trans (by have hl := HL3.out; repeat (first | with_reducible assumption | (with_reducible refine Below.setCell ?_ (by first | omega | (simp; done) | (simp; omega)) _) | (with_reducible refine Below.alloc ?_ (by first | omega | (simp; done) | (simp; omega)) _) | (with_reducible refine Below.drew ?_) | (with_reducible refine below_dN ?_ _) | with_reducible exact Below.refl _ _ | (with_reducible refine Below.trans ?_ (Below.mono (by assumption) (by first | omega | (simp; done) | (simp; omega)))))) (hb4.mono (by first | omega | (simp; omega))))
  have HW4 : Hid (KeysIn w4 a3 ks) := Lib.hid (KeysIn.below (KeysIn.below HW3.out (by first | exact Below.refl _ _ | exact below_dN (Below.refl _ _) _)) hb4)
  have HA4 := Lib.hid (And.intro hk4 (And.intro hn4 hi4))
  have HC4 := Lib.hid (And.intro c0 c1)
  clear z0 z1 z2 z3 z4 y0 y1 y2 y3 y4 o0 o1 o2 o3 o4 p0 p1 p2 p3 p4 hk4 hn4 hi4 hb4
  have z0 := (blk5 c0).1
  have z1 := (blk5 c0).2.1
  have z2 := (blk5 c0).2.2.1
  have z3 := (blk5 c0).2.2.2.1
  have z4 := (blk5 c0).2.2.2.2.1
  have y0 := (blk5 c0).2.2.2.2.2.1
  have y1 := (blk5 c0).2.2.2.2.2.2.1
  have y2 := (blk5 c0).2.2.2.2.2.2.2.1
  have y3 := (blk5 c0).2.2.2.2.2.2.2.2.1
  have y4 := (blk5 c0).2.2.2.2.2.2.2.2.2
  have o0 := (blk5 c1).1
  have o1 := (blk5 c1).2.1
  have o2 := (blk5 c1).2.2.1
  have o3 := (blk5 c1).2.2.2.1
  have o4 := (blk5 c1).2.2.2.2.1
  have p0 := (blk5 c1).2.2.2.2.2.1
  have p1 := (blk5 c1).2.2.2.2.2.2.1
  have p2 := (blk5 c1).2.2.2.2.2.2.2.1
  have p3 := (blk5 c1).2.2.2.2.2.2.2.2.1
  have p4 := (blk5 c1).2.2.2.2.2.2.2.2.2
  clear c0 c1
  dsimp only
  have hti := sound_inv HS.out
  have hhl : h < 8 := h_lt (t := ⟨g, ks, h, ty, ap⟩) HS.out
  have htyp : (ty == 0) = false → 0 ≤ h := fun e => by
    have e' : ty ≠ 0 := by simpa using e
    rcases hti.2.2 with f | f
    · exact absurd f.2 e'
    · exact f.2.2.1
  repeat (first | go_values | go_skip | go_guarded | go_step | go_upon | go_quiet (fail))
  refine gen_code (fun wx => wx.heap[w.heap.size]? = some (.cells #[.int .u32 g, .slice a ks.length cap, .int .i64 h, .int .i64 ty, .bool ap] 25) ∧ wx.heap[w.heap.size + 1]? = some (.cells #[.int .i64 ac, .int .i64 oty, .int .u64 key, .int .u64 other, .bool oap] 37) ∧ wx.heap[w4.heap.size]? = some (.cells #[.int .u32 R.1.g, .slice a4 R.1.ks.length c4, .int .i64 R.1.h, .int .i64 R.1.ty, .bool R.1.ap] 25) ∧ KeysIn wx a3 ks ∧ KeysIn wx a4 R.1.ks ∧ IntsIn wx b4 R.2.2 ∧ Below w.heap.size w wx ∧ w4.heap.size < wx.heap.size) ?_ ?_
  · have hbw := HL4.out
    have hal : Below w4.heap.size w4 (w4.alloc (.cells #[.int .u32 R.1.g, .slice a4 R.1.ks.length c4, .int .i64 R.1.h, .int .i64 R.1.ty, .bool R.1.ap] 25)) := Below.alloc (Below.refl _ _) (Nat.le_refl _) _
    exact ⟨(hal.block w.heap.size (by omega)).trans HC4.out.1, (hal.block (w.heap.size + 1) (by omega)).trans HC4.out.2, heap_alloc_new w4 _, HW4.out.below hal, HA4.out.1.below hal, HA4.out.2.2.below hal, by repeat (first | with_reducible assumption | (with_reducible refine Below.setCell ?_ (by first | omega | (simp; done) | (simp; omega)) _) | (with_reducible refine Below.alloc ?_ (by first | omega | (simp; done) | (simp; omega)) _) | (with_reducible refine Below.drew ?_) | (with_reducible refine below_dN ?_ _) | with_reducible exact Below.refl _ _ | (with_reducible refine Below.trans ?_ (Below.mono (by assumption) (by first | omega | (simp; done) | (simp; omega))))), by simp⟩
  intro w5 hw5
  generalize hU : w4.heap.size = U at hw5 hw4 ⊢
  clear hU z0 z1 z2 z3 z4 y0 y1 y2 y3 y4 o0 o1 o2 o3 o4 p0 p1 p2 p3 p4
  have H5 := Lib.hid hw5
  have hs5 := hw5.2.2.2.2.2.2.2
  clear hw5
  have z0 := (blk5 H5.out.1).1
  have z1 := (blk5 H5.out.1).2.1
  have z2 := (blk5 H5.out.1).2.2.1
  have z3 := (blk5 H5.out.1).2.2.2.1
  have z4 := (blk5 H5.out.1).2.2.2.2.1
  have y0 := (blk5 H5.out.1).2.2.2.2.2.1
  have y1 := (blk5 H5.out.1).2.2.2.2.2.2.1
  have y2 := (blk5 H5.out.1).2.2.2.2.2.2.2.1
  have y3 := (blk5 H5.out.1).2.2.2.2.2.2.2.2.1
  have y4 := (blk5 H5.out.1).2.2.2.2.2.2.2.2.2
  have o0 := (blk5 H5.out.2.1).1
  have o1 := (blk5 H5.out.2.1).2.1
  have o2 := (blk5 H5.out.2.1).2.2.1
  have o3 := (blk5 H5.out.2.1).2.2.2.1
  have o4 := (blk5 H5.out.2.1).2.2.2.2.1
  have p0 := (blk5 H5.out.2.1).2.2.2.2.2.1
  have p1 := (blk5 H5.out.2.1).2.2.2.2.2.2.1
  have p2 := (blk5 H5.out.2.1).2.2.2.2.2.2.2.1
  have p3 := (blk5 H5.out.2.1).2.2.2.2.2.2.2.2.1
  have p4 := (blk5 H5.out.2.1).2.2.2.2.2.2.2.2.2
  have k0 := cell_regrown z0
  have k1 := cell_regrown z1
  have k2 := cell_regrown z2
  have k3 := cell_regrown z3
  have k4 := cell_regrown z4
  have l0 := cell_regrown o0
  have l1 := cell_regrown o1
  have l2 := cell_regrown o2
  have l3 := cell_regrown o3
  have l4 := cell_regrown o4
  refine wp_region_plan (.quiet 0 (.quiet 1 (.quiet 2 (.two 3 9 (.two 4 9 (.quiet 5 (.quiet 6 (.quiet 7 (.quiet 8 (.one 9 (.one 10 (.quiet 11 (.quiet 12 .nil)))))))) (.one 4 (.quiet 5 (.quiet 6 (.quiet 7 (.quiet 8 (.one 10 (.quiet 11 (.quiet 12 .nil))))))))) (.one 3 (.one 4 (.quiet 5 (.quiet 6 (.quiet 7 (.quiet 8 (.one 10 (.quiet 11 (.quiet 12 .nil)))))))))))))
    (fun w' => ∃ p : Regrown, w' = Go.Sort.grow (redrawn w5 p.d) p.os) (by kernel_rfl) (by kernel_rfl) (fun _ _ d _ _ h => by cases d <;> exact h) (grows_drew _) ?_
  with_reducible refine plan_q ?_
  simp only [List.drop_succ_cons, List.drop_zero, List.take_succ_cons, List.take_zero]
  go_big_quiet_step (fail)
  with_reducible refine wpQuiet_nil ?_
  with_reducible refine plan_q ?_
  simp only [List.drop_succ_cons, List.drop_zero, List.take_succ_cons, List.take_zero]
  go_big_quiet_step (fail)
  with_reducible refine wpQuiet_nil ?_
  with_reducible refine plan_q ?_
  simp only [List.drop_succ_cons, List.drop_zero, List.take_succ_cons, List.take_zero]
  go_big_quiet_step (fail)
  with_reducible refine wpQuiet_nil ?_
  with_reducible refine plan_two ?_ ?_
  · simp only [List.drop_succ_cons, List.drop_zero, List.take_succ_cons, List.take_zero]
    go_wp2_with fail
    refine (told_any ac oty key other oap _).mono ?_
    rintro e x1 ⟨rfl, hx⟩
    dsimp only
    go_wp2_with fail
    refine mixQ_normal ⟨grows_of_below ((Below.refl w5.heap.size w5).drew.trans (hx.mono ((Below.refl w5.heap.size w5).drew).size)), gen_plan (fun wx => Below w5.heap.size w5 wx) ((Below.refl w5.heap.size w5).drew.trans (hx.mono ((Below.refl w5.heap.size w5).drew).size)) ?_⟩
    intro v1 hv
    have J1 := Lib.hid hv
    clear hv
    clear hx
    with_reducible refine plan_two ?_ ?_
    · simp only [List.drop_succ_cons, List.drop_zero, List.take_succ_cons, List.take_zero]
      go_wp2_with fail
      refine (rpost_to (ract_any ⟨g, ks, h, ty, ap⟩ n ac oty key other oap a cap _ hlen hn0 hn8 hhl (HK.out.below (H5.out.2.2.2.2.2.2.1.trans ((J1.out).mono H5.out.2.2.2.2.2.2.1.size))) HNA.out htyp) HRR.out).mono ?_
      rintro e x2 ⟨a6, c6, b6, d6, rfl, hk6, hn6, hi6, hx⟩
      dsimp only
      have HN6 := Lib.hid hn6
      go_wp2_with fail
      refine mixQ_normal ⟨grows_of_below (J1.out.trans (hx.mono (J1.out).size)), gen_plan (fun wx => Below w5.heap.size w5 wx ∧ KeysIn wx a6 R.1.ks ∧ IntsIn wx b6 R.2.2) ⟨(J1.out.trans (hx.mono (J1.out).size)), hk6, hi6⟩ ?_⟩
      intro v2 hv
      have J2 := Lib.hid hv
      clear hv
      clear hx hk6 hn6 hi6
      with_reducible refine plan_q ?_
      simp only [List.drop_succ_cons, List.drop_zero, List.take_succ_cons, List.take_zero]
      go_big_quiet_step (fail)
      with_reducible refine wpQuiet_nil ?_
      with_reducible refine plan_q ?_
      simp only [List.drop_succ_cons, List.drop_zero, List.take_succ_cons, List.take_zero]
      go_big_quiet_step (fail)
      with_reducible refine wpQuiet_nil ?_
      with_reducible refine plan_q ?_
      simp only [List.drop_succ_cons, List.drop_zero, List.take_succ_cons, List.take_zero]
      go_big_quiet_step (fail)
      with_reducible refine wpQuiet_nil ?_
      with_reducible refine plan_q ?_
      simp only [List.drop_succ_cons, List.drop_zero, List.take_succ_cons, List.take_zero]
      go_big_quiet_step (fail)
      with_reducible refine wpQuiet_nil ?_
      with_reducible refine plan_a ?_
      simp only [List.drop_succ_cons, List.drop_zero, List.take_succ_cons, List.take_zero]
      go_wp2_with fail
      have hx : Below (v2).heap.size (v2) ((v2).alloc (.cells #[.int .u32 0, .slice none 0 0, .int .i64 0, .int .i64 0, .bool false] 25)) := Below.alloc (Below.refl _ _) (Nat.le_refl _) _
      obtain ⟨B, hB⟩ : ∃ B, B = (v2).heap.size := ⟨_, rfl⟩
      refine mixQ_normal ⟨grows_of_below ((J2.out.1).trans (hx.mono (J2.out.1).size)), gen_plan (fun wx => Below w5.heap.size w5 wx ∧ KeysIn wx a6 R.1.ks ∧ IntsIn wx b6 R.2.2 ∧ w5.heap.size ≤ B ∧ wx.heap[B]? = some (.cells #[.int .u32 0, .slice none 0 0, .int .i64 0, .int .i64 0, .bool false] 25) ∧ B < wx.heap.size) ⟨((J2.out.1).trans (hx.mono (J2.out.1).size)), (J2.out.2.1.below hx), (J2.out.2.2.below hx), (by rw [hB]; exact (J2.out.1).size), (by rw [hB]; exact heap_alloc_new (v2) _), (by rw [hB]; simp)⟩ ?_⟩
      clear hx
      intro v3 hv
      rw [← hB]
      have J3 := Lib.hid hv
      clear hv hB
      with_reducible refine plan_a ?_
      obtain ⟨q0, q1, q2, q3, q4, r0, r1, r2, r3, r4⟩ := blk5 J3.out.2.2.2.2.1
      simp only [List.drop_succ_cons, List.drop_zero, List.take_succ_cons, List.take_zero]
      go_wp2_with fail
      clear q0 q1 q2 q3 q4 r0 r1 r2 r3 r4
      refine mixQ_normal ⟨grows_of_below (Below.setCell (Below.setCell (Below.setCell (Below.setCell (Below.setCell J3.out.1 J3.out.2.2.2.1 _) J3.out.2.2.2.1 _) J3.out.2.2.2.1 _) J3.out.2.2.2.1 _) J3.out.2.2.2.1 _), gen_plan (fun wx => Below w5.heap.size w5 wx ∧ KeysIn wx a6 R.1.ks ∧ IntsIn wx b6 R.2.2 ∧ w5.heap.size ≤ B ∧ wx.heap[B]? = some (.cells #[.int .u32 R.1.g, .slice a6 R.1.ks.length c6, .int .i64 R.1.h, .int .i64 R.1.ty, .bool R.1.ap] 25) ∧ B < wx.heap.size) ⟨(Below.setCell (Below.setCell (Below.setCell (Below.setCell (Below.setCell J3.out.1 J3.out.2.2.2.1 _) J3.out.2.2.2.1 _) J3.out.2.2.2.1 _) J3.out.2.2.2.1 _) J3.out.2.2.2.1 _), (keys_ret J3.out.2.1 J3.out.2.2.2.2.1), (ints_ret J3.out.2.2.1 J3.out.2.2.2.2.1), J3.out.2.2.2.1, ((set_blk (set_blk (set_blk (set_blk (set_blk J3.out.2.2.2.2.1 _) _) _) _) _).trans (by simp)), (by have hlt := J3.out.2.2.2.2.2; simpa using hlt)⟩ ?_⟩
      intro v4 hv
      have J4 := Lib.hid hv
      clear hv
      with_reducible refine plan_q ?_
      simp only [List.drop_succ_cons, List.drop_zero, List.take_succ_cons, List.take_zero]
      go_big_quiet_step (fail)
      with_reducible refine wpQuiet_nil ?_
      with_reducible refine plan_q ?_
      simp only [List.drop_succ_cons, List.drop_zero, List.take_succ_cons, List.take_zero]
      go_big_quiet_step (fail)
      with_reducible refine wpQuiet_nil ?_
      with_reducible refine plan_nil ?_
      have hsV := J4.out.1.size
      have hBV := J4.out.2.2.2.2.2
      have hb0V : Below w.heap.size w v4 := H5.out.2.2.2.2.2.2.1.trans (J4.out.1.mono H5.out.2.2.2.2.2.2.1.size)
      have cT := (J4.out.1.block w.heap.size (by omega)).trans H5.out.1
      have cU := (J4.out.1.block U hs5).trans H5.out.2.2.1
      have cB := J4.out.2.2.2.2.1
      have HV := Lib.hid (And.intro cT (And.intro cU (And.intro cB (And.intro (HK.out.below hb0V) (And.intro (H5.out.2.2.2.1.below J4.out.1) (And.intro (H5.out.2.2.2.2.1.below J4.out.1) (And.intro J4.out.2.1 (And.intro (H5.out.2.2.2.2.2.1.below J4.out.1) (And.intro J4.out.2.2.1 hb0V)))))))))
      have hwV : w.heap.size < v4.heap.size := by omega
      have hUV : U < v4.heap.size := by omega
      clear z0 z1 z2 z3 z4 y0 y1 y2 y3 y4 o0 o1 o2 o3 o4 p0 p1 p2 p3 p4 k0 k1 k2 k3 k4 l0 l1 l2 l3 l4 cU cB hb0V
      have z0 := (blk5 cT).1
      have z1 := (blk5 cT).2.1
      have z2 := (blk5 cT).2.2.1
      have z3 := (blk5 cT).2.2.2.1
      have z4 := (blk5 cT).2.2.2.2.1
      have y0 := (blk5 cT).2.2.2.2.2.1
      have y1 := (blk5 cT).2.2.2.2.2.2.1
      have y2 := (blk5 cT).2.2.2.2.2.2.2.1
      have y3 := (blk5 cT).2.2.2.2.2.2.2.2.1
      have y4 := (blk5 cT).2.2.2.2.2.2.2.2.2
      clear cT
      repeat (first | go_values | go_skip | go_guarded | go_step | go_upon | go_quiet (fail))
      go_loopw [57] (fun i wr => ∃ j : Nat, j ≤ ks.length ∧ i = .int .i64 j ∧ Below v4.heap.size v4 wr) (fun i _ => ks.length - (intOf i).toNat)
      case atStart => exact ⟨0, by omega, rfl, Below.refl _ _⟩
      case round =>
        obtain ⟨j, hj, rfl, hbel⟩ := hrel
        have hsr := hbel.size
        by_cases hlt : j < ks.length
        · obtain ⟨b1, off1, hab1, hbs1, e1, e2⟩ := HV.out.2.2.2.1 j hlt
          obtain ⟨b2, off2, hab2, hbs2, f1, f2⟩ := HV.out.2.2.2.2.1 j hlt
          subst hab1 hab2
          have d1 := (hbel.cell (p := ⟨b1, off1 + j * 2, none⟩) hbs1).trans e1
          have d2 := (hbel.cell (p := ⟨b1, off1 + j * 2 + 1, none⟩) hbs1).trans e2
          have d3 := (hbel.cell (p := ⟨b2, off2 + j * 2, none⟩) hbs2).trans f1
          have d4 := (hbel.cell (p := ⟨b2, off2 + j * 2 + 1, none⟩) hbs2).trans f2
          have hr1 : b1 < wr.heap.size := by omega
          have hr2 : b2 < wr.heap.size := by omega
          have hi0 : (0 : Int) ≤ j := by omega
          have hi1 : (j : Int) < ks.length := by omega
          clear e1 e2 f1 f2
          repeat (first | go_values | go_skip | go_guarded | go_step | go_upon | go_quiet (fail))
          exact ⟨⟨j + 1, by omega, by go_num, by repeat (first | with_reducible assumption | (with_reducible refine Below.setCell ?_ (by first | omega | (simp; done) | (simp; omega)) _) | (with_reducible refine Below.alloc ?_ (by first | omega | (simp; done) | (simp; omega)) _) | (with_reducible refine Below.drew ?_) | (with_reducible refine below_dN ?_ _) | with_reducible exact Below.refl _ _ | (with_reducible refine Below.trans ?_ (Below.mono (by assumption) (by first | omega | (simp; done) | (simp; omega)))))⟩, by simp [intOf]; omega⟩
        · obtain rfl : j = ks.length := by omega
          clear z0 z1 z2 z3 z4 y0 y1 y2 y3 y4
          have cU := (hbel.block U hUV).trans HV.out.2.1
          have cB := (hbel.block B hBV).trans HV.out.2.2.1
          have z0 := (blk5 cU).1
          have z1 := (blk5 cU).2.1
          have z2 := (blk5 cU).2.2.1
          have z3 := (blk5 cU).2.2.2.1
          have z4 := (blk5 cU).2.2.2.2.1
          have y0 := (blk5 cU).2.2.2.2.2.1
          have y1 := (blk5 cU).2.2.2.2.2.2.1
          have y2 := (blk5 cU).2.2.2.2.2.2.2.1
          have y3 := (blk5 cU).2.2.2.2.2.2.2.2.1
          have y4 := (blk5 cU).2.2.2.2.2.2.2.2.2
          have o0 := (blk5 cB).1
          have o1 := (blk5 cB).2.1
          have o2 := (blk5 cB).2.2.1
          have o3 := (blk5 cB).2.2.2.1
          have o4 := (blk5 cB).2.2.2.2.1
          have p0 := (blk5 cB).2.2.2.2.2.1
          have p1 := (blk5 cB).2.2.2.2.2.2.1
          have p2 := (blk5 cB).2.2.2.2.2.2.2.1
          have p3 := (blk5 cB).2.2.2.2.2.2.2.2.1
          have p4 := (blk5 cB).2.2.2.2.2.2.2.2.2
          have hR6 := (sound_inv HSR.out).1
          have hR8 : R.2.2.length ≤ 8 := by rw [← HRR.out]; exact ract_len _ _ _ _ _ _ _
          have HBW := Lib.hid (HV.out.2.2.2.2.2.2.2.2.2.trans (hbel.mono HV.out.2.2.2.2.2.2.2.2.2.size))
          have hUr : U < wr.heap.size := by omega
          repeat (first | go_values | go_skip | go_guarded | go_step | go_upon | go_quiet (fail))
          refine (same_yes R.1 a4 a6 c4 c6 _ (by omega) (HV.out.2.2.2.2.2.1.below hbel) (HV.out.2.2.2.2.2.2.1.below hbel)).mono ?_
          rintro e x1 ⟨rfl, hx1⟩
          dsimp only
          have hb1 := hbel.trans (hx1.mono hbel.size)
          repeat (first | go_values | go_skip | go_guarded | go_step | go_upon | go_quiet (fail))
          refine (ints_yes b4 b6 R.2.2 d4 d6 _ (by omega) (HV.out.2.2.2.2.2.2.2.1.below hb1) (HV.out.2.2.2.2.2.2.2.2.1.below hb1)).mono ?_
          rintro e x2 ⟨rfl, hx2⟩
          dsimp only
          have hb2 := hb1.trans (hx2.mono hb1.size)
          have cU2 := (hx2.block U (Nat.lt_of_lt_of_le hUr hx1.size)).trans ((hx1.block U hUr).trans cU)
          clear z0 z1 z2 z3 z4 y0 y1 y2 y3 y4 o0 o1 o2 o3 o4 p0 p1 p2 p3 p4
          have z0 := (blk5 cU2).1
          have z1 := (blk5 cU2).2.1
          have z2 := (blk5 cU2).2.2.1
          have z3 := (blk5 cU2).2.2.2.1
          have z4 := (blk5 cU2).2.2.2.2.1
          have y0 := (blk5 cU2).2.2.2.2.2.1
          have y1 := (blk5 cU2).2.2.2.2.2.2.1
          have y2 := (blk5 cU2).2.2.2.2.2.2.2.1
          have y3 := (blk5 cU2).2.2.2.2.2.2.2.2.1
          have y4 := (blk5 cU2).2.2.2.2.2.2.2.2.2
          repeat (first | go_values | go_skip | go_guarded | go_step | go_upon | go_quiet (fail))
          refine (sound_yes R.1 a4 c4 _ (by omega) (HV.out.2.2.2.2.2.1.below hb2) HSR.out).mono ?_
          rintro e x3 ⟨rfl, hx3⟩
          dsimp only
          have hb3 := hb2.trans (hx3.mono hb2.size)
          repeat (first | go_values | go_skip | go_guarded | go_step | go_upon | go_quiet (fail))
          go_ret
          exact ⟨rfl, HBW.out.trans ((hx1.trans ((hx2.trans (hx3.mono hx2.size)).mono hx1.size)).mono HBW.out.size)⟩
    · simp only [List.drop_succ_cons, List.drop_zero, List.take_succ_cons, List.take_zero]
      go_wp2_with fail
      have hx : Below (v1).heap.size (v1) ((v1).alloc (.cells #[.int .u32 0, .slice none 0 0, .int .i64 0, .int .i64 0, .bool false] 25)) := Below.alloc (Below.refl _ _) (Nat.le_refl _) _
      obtain ⟨B, hB⟩ : ∃ B, B = (v1).heap.size := ⟨_, rfl⟩
      refine mixQ_normal ⟨grows_of_below ((J1.out).trans (hx.mono (J1.out).size)), gen_plan (fun wx => Below w5.heap.size w5 wx ∧ w5.heap.size ≤ B ∧ wx.heap[B]? = some (.cells #[.int .u32 0, .slice none 0 0, .int .i64 0, .int .i64 0, .bool false] 25) ∧ B < wx.heap.size) ⟨((J1.out).trans (hx.mono (J1.out).size)), (by rw [hB]; exact (J1.out).size), (by rw [hB]; exact heap_alloc_new (v1) _), (by rw [hB]; simp)⟩ ?_⟩
      clear hx
      intro v2 hv
      rw [← hB]
      have J2 := Lib.hid hv
      clear hv hB
      with_reducible refine plan_a ?_
      simp only [List.drop_succ_cons, List.drop_zero, List.take_succ_cons, List.take_zero]
      go_wp2_with fail
      refine (rpost_to (ract_any ⟨g, ks, h, ty, ap⟩ n ac oty key other oap a cap _ hlen hn0 hn8 hhl (HK.out.below (H5.out.2.2.2.2.2.2.1.trans ((J2.out.1).mono H5.out.2.2.2.2.2.2.1.size))) HNA.out htyp) HRR.out).mono ?_
      rintro e x3 ⟨a6, c6, b6, d6, rfl, hk6, hn6, hi6, hx⟩
      dsimp only
      have HN6 := Lib.hid hn6
      go_wp2_with fail
      refine mixQ_normal ⟨grows_of_below (J2.out.1.trans (hx.mono (J2.out.1).size)), gen_plan (fun wx => Below w5.heap.size w5 wx ∧ KeysIn wx a6 R.1.ks ∧ IntsIn wx b6 R.2.2 ∧ w5.heap.size ≤ B ∧ wx.heap[B]? = some (.cells #[.int .u32 0, .slice none 0 0, .int .i64 0, .int .i64 0, .bool false] 25) ∧ B < wx.heap.size) ⟨(J2.out.1.trans (hx.mono (J2.out.1).size)), hk6, hi6, J2.out.2.1, ((hx.block B J2.out.2.2.2).trans J2.out.2.2.1), (Nat.lt_of_lt_of_le J2.out.2.2.2 hx.size)⟩ ?_⟩
      intro v3 hv
      have J3 := Lib.hid hv
      clear hv
      clear hx hk6 hn6 hi6
      with_reducible refine plan_q ?_
      simp only [List.drop_succ_cons, List.drop_zero, List.take_succ_cons, List.take_zero]
      go_big_quiet_step (fail)
      with_reducible refine wpQuiet_nil ?_
      with_reducible refine plan_q ?_
      simp only [List.drop_succ_cons, List.drop_zero, List.take_succ_cons, List.take_zero]
      go_big_quiet_step (fail)
      with_reducible refine wpQuiet_nil ?_
      with_reducible refine plan_q ?_
      simp only [List.drop_succ_cons, List.drop_zero, List.take_succ_cons, List.take_zero]
      go_big_quiet_step (fail)
      with_reducible refine wpQuiet_nil ?_
      with_reducible refine plan_q ?_
      simp only [List.drop_succ_cons, List.drop_zero, List.take_succ_cons, List.take_zero]
      go_big_quiet_step (fail)
      with_reducible refine wpQuiet_nil ?_
      with_reducible refine plan_a ?_
      obtain ⟨q0, q1, q2, q3, q4, r0, r1, r2, r3, r4⟩ := blk5 J3.out.2.2.2.2.1
      simp only [List.drop_succ_cons, List.drop_zero, List.take_succ_cons, List.take_zero]
      go_wp2_with fail
      clear q0 q1 q2 q3 q4 r0 r1 r2 r3 r4
      refine mixQ_normal ⟨grows_of_below (Below.setCell (Below.setCell (Below.setCell (Below.setCell (Below.setCell J3.out.1 J3.out.2.2.2.1 _) J3.out.2.2.2.1 _) J3.out.2.2.2.1 _) J3.out.2.2.2.1 _) J3.out.2.2.2.1 _), gen_plan (fun wx => Below w5.heap.size w5 wx ∧ KeysIn wx a6 R.1.ks ∧ IntsIn wx b6 R.2.2 ∧ w5.heap.size ≤ B ∧ wx.heap[B]? = some (.cells #[.int .u32 R.1.g, .slice a6 R.1.ks.length c6, .int .i64 R.1.h, .int .i64 R.1.ty, .bool R.1.ap] 25) ∧ B < wx.heap.size) ⟨(Below.setCell (Below.setCell (Below.setCell (Below.setCell (Below.setCell J3.out.1 J3.out.2.2.2.1 _) J3.out.2.2.2.1 _) J3.out.2.2.2.1 _) J3.out.2.2.2.1 _) J3.out.2.2.2.1 _), (keys_ret J3.out.2.1 J3.out.2.2.2.2.1), (ints_ret J3.out.2.2.1 J3.out.2.2.2.2.1), J3.out.2.2.2.1, ((set_blk (set_blk (set_blk (set_blk (set_blk J3.out.2.2.2.2.1 _) _) _) _) _).trans (by simp)), (by have hlt := J3.out.2.2.2.2.2; simpa using hlt)⟩ ?_⟩
      intro v4 hv
      have J4 := Lib.hid hv
      clear hv
      with_reducible refine plan_q ?_
      simp only [List.drop_succ_cons, List.drop_zero, List.take_succ_cons, List.take_zero]
      go_big_quiet_step (fail)
      with_reducible refine wpQuiet_nil ?_
      with_reducible refine plan_q ?_
      simp only [List.drop_succ_cons, List.drop_zero, List.take_succ_cons, List.take_zero]
      go_big_quiet_step (fail)
      with_reducible refine wpQuiet_nil ?_
      with_reducible refine plan_nil ?_
      have hsV := J4.out.1.size
      have hBV := J4.out.2.2.2.2.2
      have hb0V : Below w.heap.size w v4 := H5.out.2.2.2.2.2.2.1.trans (J4.out.1.mono H5.out.2.2.2.2.2.2.1.size)
      have cT := (J4.out.1.block w.heap.size (by omega)).trans H5.out.1
      have cU := (J4.out.1.block U hs5).trans H5.out.2.2.1
      have cB := J4.out.2.2.2.2.1
      have HV := Lib.hid (And.intro cT (And.intro cU (And.intro cB (And.intro (HK.out.below hb0V) (And.intro (H5.out.2.2.2.1.below J4.out.1) (And.intro (H5.out.2.2.2.2.1.below J4.out.1) (And.intro J4.out.2.1 (And.intro (H5.out.2.2.2.2.2.1.below J4.out.1) (And.intro J4.out.2.2.1 hb0V)))))))))
      have hwV : w.heap.size < v4.heap.size := by omega
      have hUV : U < v4.heap.size := by omega
      clear z0 z1 z2 z3 z4 y0 y1 y2 y3 y4 o0 o1 o2 o3 o4 p0 p1 p2 p3 p4 k0 k1 k2 k3 k4 l0 l1 l2 l3 l4 cU cB hb0V
      have z0 := (blk5 cT).1
      have z1 := (blk5 cT).2.1
      have z2 := (blk5 cT).2.2.1
      have z3 := (blk5 cT).2.2.2.1
      have z4 := (blk5 cT).2.2.2.2.1
      have y0 := (blk5 cT).2.2.2.2.2.1
      have y1 := (blk5 cT).2.2.2.2.2.2.1
      have y2 := (blk5 cT).2.2.2.2.2.2.2.1
      have y3 := (blk5 cT).2.2.2.2.2.2.2.2.1
      have y4 := (blk5 cT).2.2.2.2.2.2.2.2.2
      clear cT
      repeat (first | go_values | go_skip | go_guarded | go_step | go_upon | go_quiet (fail))
      go_loopw [57] (fun i wr => ∃ j : Nat, j ≤ ks.length ∧ i = .int .i64 j ∧ Below v4.heap.size v4 wr) (fun i _ => ks.length - (intOf i).toNat)
      case atStart => exact ⟨0, by omega, rfl, Below.refl _ _⟩
      case round =>
        obtain ⟨j, hj, rfl, hbel⟩ := hrel
        have hsr := hbel.size
        by_cases hlt : j < ks.length
        · obtain ⟨b1, off1, hab1, hbs1, e1, e2⟩ := HV.out.2.2.2.1 j hlt
          obtain ⟨b2, off2, hab2, hbs2, f1, f2⟩ := HV.out.2.2.2.2.1 j hlt
          subst hab1 hab2
          have d1 := (hbel.cell (p := ⟨b1, off1 + j * 2, none⟩) hbs1).trans e1
          have d2 := (hbel.cell (p := ⟨b1, off1 + j * 2 + 1, none⟩) hbs1).trans e2
          have d3 := (hbel.cell (p := ⟨b2, off2 + j * 2, none⟩) hbs2).trans f1
          have d4 := (hbel.cell (p := ⟨b2, off2 + j * 2 + 1, none⟩) hbs2).trans f2
          have hr1 : b1 < wr.heap.size := by omega
          have hr2 : b2 < wr.heap.size := by omega
          have hi0 : (0 : Int) ≤ j := by omega
          have hi1 : (j : Int) < ks.length := by omega
          clear e1 e2 f1 f2
          repeat (first | go_values | go_skip | go_guarded | go_step | go_upon | go_quiet (fail))
          exact ⟨⟨j + 1, by omega, by go_num, by repeat (first | with_reducible assumption | (with_reducible refine Below.setCell ?_ (by first | omega | (simp; done) | (simp; omega)) _) | (with_reducible refine Below.alloc ?_ (by first | omega | (simp; done) | (simp; omega)) _) | (with_reducible refine Below.drew ?_) | (with_reducible refine below_dN ?_ _) | with_reducible exact Below.refl _ _ | (with_reducible refine Below.trans ?_ (Below.mono (by assumption) (by first | omega | (simp; done) | (simp; omega)))))⟩, by simp [intOf]; omega⟩
        · obtain rfl : j = ks.length := by omega
          clear z0 z1 z2 z3 z4 y0 y1 y2 y3 y4
          have cU := (hbel.block U hUV).trans HV.out.2.1
          have cB := (hbel.block B hBV).trans HV.out.2.2.1
          have z0 := (blk5 cU).1
          have z1 := (blk5 cU).2.1
          have z2 := (blk5 cU).2.2.1
          have z3 := (blk5 cU).2.2.2.1
          have z4 := (blk5 cU).2.2.2.2.1
          have y0 := (blk5 cU).2.2.2.2.2.1
          have y1 := (blk5 cU).2.2.2.2.2.2.1
          have y2 := (blk5 cU).2.2.2.2.2.2.2.1
          have y3 := (blk5 cU).2.2.2.2.2.2.2.2.1
          have y4 := (blk5 cU).2.2.2.2.2.2.2.2.2
          have o0 := (blk5 cB).1
          have o1 := (blk5 cB).2.1
          have o2 := (blk5 cB).2.2.1
          have o3 := (blk5 cB).2.2.2.1
          have o4 := (blk5 cB).2.2.2.2.1
          have p0 := (blk5 cB).2.2.2.2.2.1
          have p1 := (blk5 cB).2.2.2.2.2.2.1
          have p2 := (blk5 cB).2.2.2.2.2.2.2.1
          have p3 := (blk5 cB).2.2.2.2.2.2.2.2.1
          have p4 := (blk5 cB).2.2.2.2.2.2.2.2.2
          have hR6 := (sound_inv HSR.out).1
          have hR8 : R.2.2.length ≤ 8 := by rw [← HRR.out]; exact ract_len _ _ _ _ _ _ _
          have HBW := Lib.hid (HV.out.2.2.2.2.2.2.2.2.2.trans (hbel.mono HV.out.2.2.2.2.2.2.2.2.2.size))
          have hUr : U < wr.heap.size := by omega
          repeat (first | go_values | go_skip | go_guarded | go_step | go_upon | go_quiet (fail))
          refine (same_yes R.1 a4 a6 c4 c6 _ (by omega) (HV.out.2.2.2.2.2.1.below hbel) (HV.out.2.2.2.2.2.2.1.below hbel)).mono ?_
          rintro e x1 ⟨rfl, hx1⟩
          dsimp only
          have hb1 := hbel.trans (hx1.mono hbel.size)
          repeat (first | go_values | go_skip | go_guarded | go_step | go_upon | go_quiet (fail))
          refine (ints_yes b4 b6 R.2.2 d4 d6 _ (by omega) (HV.out.2.2.2.2.2.2.2.1.below hb1) (HV.out.2.2.2.2.2.2.2.2.1.below hb1)).mono ?_
          rintro e x2 ⟨rfl, hx2⟩
          dsimp only
          have hb2 := hb1.trans (hx2.mono hb1.size)
          have cU2 := (hx2.block U (Nat.lt_of_lt_of_le hUr hx1.size)).trans ((hx1.block U hUr).trans cU)
          clear z0 z1 z2 z3 z4 y0 y1 y2 y3 y4 o0 o1 o2 o3 o4 p0 p1 p2 p3 p4
          have z0 := (blk5 cU2).1
          have z1 := (blk5 cU2).2.1
          have z2 := (blk5 cU2).2.2.1
          have z3 := (blk5 cU2).2.2.2.1
          have z4 := (blk5 cU2).2.2.2.2.1
          have y0 := (blk5 cU2).2.2.2.2.2.1
          have y1 := (blk5 cU2).2.2.2.2.2.2.1
          have y2 := (blk5 cU2).2.2.2.2.2.2.2.1
          have y3 := (blk5 cU2).2.2.2.2.2.2.2.2.1
          have y4 := (blk5 cU2).2.2.2.2.2.2.2.2.2
          repeat (first | go_values | go_skip | go_guarded | go_step | go_upon | go_quiet (fail))
          refine (sound_yes R.1 a4 c4 _ (by omega) (HV.out.2.2.2.2.2.1.below hb2) HSR.out).mono ?_
          rintro e x3 ⟨rfl, hx3⟩
          dsimp only
          have hb3 := hb2.trans (hx3.mono hb2.size)
          repeat (first | go_values | go_skip | go_guarded | go_step | go_upon | go_quiet (fail))
          go_ret
          exact ⟨rfl, HBW.out.trans ((hx1.trans ((hx2.trans (hx3.mono hx2.size)).mono hx1.size)).mono HBW.out.size)⟩
  · simp only [List.drop_succ_cons, List.drop_zero, List.take_succ_cons, List.take_zero]
    go_wp2_with fail
    have hx : Below (w5.drew).heap.size (w5.drew) ((w5.drew).alloc (.cells #[.int .u32 0, .slice none 0 0, .int .i64 0, .int .i64 0, .bool false] 25)) := Below.alloc (Below.refl _ _) (Nat.le_refl _) _
    obtain ⟨B, hB⟩ : ∃ B, B = (w5).heap.size := ⟨_, rfl⟩
    refine mixQ_normal ⟨grows_of_below (((Below.refl w5.heap.size w5).drew).trans (hx.mono ((Below.refl w5.heap.size w5).drew).size)), gen_plan (fun wx => Below w5.heap.size w5 wx ∧ w5.heap.size ≤ B ∧ wx.heap[B]? = some (.cells #[.int .u32 0, .slice none 0 0, .int .i64 0, .int .i64 0, .bool false] 25) ∧ B < wx.heap.size) ⟨(((Below.refl w5.heap.size w5).drew).trans (hx.mono ((Below.refl w5.heap.size w5).drew).size)), (by rw [hB]; exact ((Below.refl w5.heap.size w5).drew).size), (by rw [hB]; exact heap_alloc_new (w5.drew) _), (by rw [hB]; simp)⟩ ?_⟩
    clear hx
    intro v1 hv
    rw [← hB]
    have J1 := Lib.hid hv
    clear hv hB
    with_reducible refine plan_a ?_
    simp only [List.drop_succ_cons, List.drop_zero, List.take_succ_cons, List.take_zero]
    go_wp2_with fail
    refine (told_any ac oty key other oap _).mono ?_
    rintro e x2 ⟨rfl, hx⟩
    dsimp only
    go_wp2_with fail
    refine mixQ_normal ⟨grows_of_below (J1.out.1.trans (hx.mono (J1.out.1).size)), gen_plan (fun wx => Below w5.heap.size w5 wx ∧ w5.heap.size ≤ B ∧ wx.heap[B]? = some (.cells #[.int .u32 0, .slice none 0 0, .int .i64 0, .int .i64 0, .bool false] 25) ∧ B < wx.heap.size) ⟨(J1.out.1.trans (hx.mono (J1.out.1).size)), J1.out.2.1, ((hx.block B J1.out.2.2.2).trans J1.out.2.2.1), (Nat.lt_of_lt_of_le J1.out.2.2.2 hx.size)⟩ ?_⟩
    intro v2 hv
    have J2 := Lib.hid hv
    clear hv
    clear hx
    with_reducible refine plan_a ?_
    simp only [List.drop_succ_cons, List.drop_zero, List.take_succ_cons, List.take_zero]
    go_wp2_with fail
    refine (rpost_to (ract_any ⟨g, ks, h, ty, ap⟩ n ac oty key other oap a cap _ hlen hn0 hn8 hhl (HK.out.below (H5.out.2.2.2.2.2.2.1.trans ((J2.out.1).mono H5.out.2.2.2.2.2.2.1.size))) HNA.out htyp) HRR.out).mono ?_
    rintro e x3 ⟨a6, c6, b6, d6, rfl, hk6, hn6, hi6, hx⟩
    dsimp only
    have HN6 := Lib.hid hn6
    go_wp2_with fail
    refine mixQ_normal ⟨grows_of_below (J2.out.1.trans (hx.mono (J2.out.1).size)), gen_plan (fun wx => Below w5.heap.size w5 wx ∧ KeysIn wx a6 R.1.ks ∧ IntsIn wx b6 R.2.2 ∧ w5.heap.size ≤ B ∧ wx.heap[B]? = some (.cells #[.int .u32 0, .slice none 0 0, .int .i64 0, .int .i64 0, .bool false] 25) ∧ B < wx.heap.size) ⟨(J2.out.1.trans (hx.mono (J2.out.1).size)), hk6, hi6, J2.out.2.1, ((hx.block B J2.out.2.2.2).trans J2.out.2.2.1), (Nat.lt_of_lt_of_le J2.out.2.2.2 hx.size)⟩ ?_⟩
    intro v3 hv
    have J3 := Lib.hid hv
    clear hv
    clear hx hk6 hn6 hi6
    with_reducible refine plan_q ?_
    simp only [List.drop_succ_cons, List.drop_zero, List.take_succ_cons, List.take_zero]
    go_big_quiet_step (fail)
    with_reducible refine wpQuiet_nil ?_
    with_reducible refine plan_q ?_
    simp only [List.drop_succ_cons, List.drop_zero, List.take_succ_cons, List.take_zero]
    go_big_quiet_step (fail)
    with_reducible refine wpQuiet_nil ?_
    with_reducible refine plan_q ?_
    simp only [List.drop_succ_cons, List.drop_zero, List.take_succ_cons, List.take_zero]
    go_big_quiet_step (fail)
    with_reducible refine wpQuiet_nil ?_
    with_reducible refine plan_q ?_
    simp only [List.drop_succ_cons, List.drop_zero, List.take_succ_cons, List.take_zero]
    go_big_quiet_step (fail)
    with_reducible refine wpQuiet_nil ?_
    with_reducible refine plan_a ?_
    obtain ⟨q0, q1, q2, q3, q4, r0, r1, r2, r3, r4⟩ := blk5 J3.out.2.2.2.2.1
    simp only [List.drop_succ_cons, List.drop_zero, List.take_succ_cons, List.take_zero]
    go_wp2_with fail
    clear q0 q1 q2 q3 q4 r0 r1 r2 r3 r4
    refine mixQ_normal ⟨grows_of_below (Below.setCell (Below.setCell (Below.setCell (Below.setCell (Below.setCell J3.out.1 J3.out.2.2.2.1 _) J3.out.2.2.2.1 _) J3.out.2.2.2.1 _) J3.out.2.2.2.1 _) J3.out.2.2.2.1 _), gen_plan (fun wx => Below w5.heap.size w5 wx ∧ KeysIn wx a6 R.1.ks ∧ IntsIn wx b6 R.2.2 ∧ w5.heap.size ≤ B ∧ wx.heap[B]? = some (.cells #[.int .u32 R.1.g, .slice a6 R.1.ks.length c6, .int .i64 R.1.h, .int .i64 R.1.ty, .bool R.1.ap] 25) ∧ B < wx.heap.size) ⟨(Below.setCell (Below.setCell (Below.setCell (Below.setCell (Below.setCell J3.out.1 J3.out.2.2.2.1 _) J3.out.2.2.2.1 _) J3.out.2.2.2.1 _) J3.out.2.2.2.1 _) J3.out.2.2.2.1 _), (keys_ret J3.out.2.1 J3.out.2.2.2.2.1), (ints_ret J3.out.2.2.1 J3.out.2.2.2.2.1), J3.out.2.2.2.1, ((set_blk (set_blk (set_blk (set_blk (set_blk J3.out.2.2.2.2.1 _) _) _) _) _).trans (by simp)), (by have hlt := J3.out.2.2.2.2.2; simpa using hlt)⟩ ?_⟩
    intro v4 hv
    have J4 := Lib.hid hv
    clear hv
    with_reducible refine plan_q ?_
    simp only [List.drop_succ_cons, List.drop_zero, List.take_succ_cons, List.take_zero]
    go_big_quiet_step (fail)
    with_reducible refine wpQuiet_nil ?_
    with_reducible refine plan_q ?_
    simp only [List.drop_succ_cons, List.drop_zero, List.take_succ_cons, List.take_zero]
    go_big_quiet_step (fail)
    with_reducible refine wpQuiet_nil ?_
    with_reducible refine plan_nil ?_
    have hsV := J4.out.1.size
    have hBV := J4.out.2.2.2.2.2
    have hb0V : Below w.heap.size w v4 := H5.out.2.2.2.2.2.2.1.trans (J4.out.1.mono H5.out.2.2.2.2.2.2.1.size)
    have cT := (J4.out.1.block w.heap.size (by omega)).trans H5.out.1
    have cU := (J4.out.1.block U hs5).trans H5.out.2.2.1
    have cB := J4.out.2.2.2.2.1
    have HV := Lib.hid (And.intro cT (And.intro cU (And.intro cB (And.intro (HK.out.below hb0V) (And.intro (H5.out.2.2.2.1.below J4.out.1) (And.intro (H5.out.2.2.2.2.1.below J4.out.1) (And.intro J4.out.2.1 (And.intro (H5.out.2.2.2.2.2.1.below J4.out.1) (And.intro J4.out.2.2.1 hb0V)))))))))
    have hwV : w.heap.size < v4.heap.size := by omega
    have hUV : U < v4.heap.size := by omega
    clear z0 z1 z2 z3 z4 y0 y1 y2 y3 y4 o0 o1 o2 o3 o4 p0 p1 p2 p3 p4 k0 k1 k2 k3 k4 l0 l1 l2 l3 l4 cU cB hb0V
    have z0 := (blk5 cT).1
    have z1 := (blk5 cT).2.1
    have z2 := (blk5 cT).2.2.1
    have z3 := (blk5 cT).2.2.2.1
    have z4 := (blk5 cT).2.2.2.2.1
    have y0 := (blk5 cT).2.2.2.2.2.1
    have y1 := (blk5 cT).2.2.2.2.2.2.1
    have y2 := (blk5 cT).2.2.2.2.2.2.2.1
    have y3 := (blk5 cT).2.2.2.2.2.2.2.2.1
    have y4 := (blk5 cT).2.2.2.2.2.2.2.2.2
    clear cT
    repeat (first | go_values | go_skip | go_guarded | go_step | go_upon | go_quiet (fail))
    go_loopw [57] (fun i wr => ∃ j : Nat, j ≤ ks.length ∧ i = .int .i64 j ∧ Below v4.heap.size v4 wr) (fun i _ => ks.length - (intOf i).toNat)
    case atStart => exact ⟨0, by omega, rfl, Below.refl _ _⟩
    case round =>
      obtain ⟨j, hj, rfl, hbel⟩ := hrel
      have hsr := hbel.size
      by_cases hlt : j < ks.length
      · obtain ⟨b1, off1, hab1, hbs1, e1, e2⟩ := HV.out.2.2.2.1 j hlt
        obtain ⟨b2, off2, hab2, hbs2, f1, f2⟩ := HV.out.2.2.2.2.1 j hlt
        subst hab1 hab2
        have d1 := (hbel.cell (p := ⟨b1, off1 + j * 2, none⟩) hbs1).trans e1
        have d2 := (hbel.cell (p := ⟨b1, off1 + j * 2 + 1, none⟩) hbs1).trans e2
        have d3 := (hbel.cell (p := ⟨b2, off2 + j * 2, none⟩) hbs2).trans f1
        have d4 := (hbel.cell (p := ⟨b2, off2 + j * 2 + 1, none⟩) hbs2).trans f2
        have hr1 : b1 < wr.heap.size := by omega
        have hr2 : b2 < wr.heap.size := by omega
        have hi0 : (0 : Int) ≤ j := by omega
        have hi1 : (j : Int) < ks.length := by omega
        clear e1 e2 f1 f2
        repeat (first | go_values | go_skip | go_guarded | go_step | go_upon | go_quiet (fail))
        exact ⟨⟨j + 1, by omega, by go_num, by repeat (first | with_reducible assumption | (with_reducible refine Below.setCell ?_ (by first | omega | (simp; done) | (simp; omega)) _) | (with_reducible refine Below.alloc ?_ (by first | omega | (simp; done) | (simp; omega)) _) | (with_reducible refine Below.drew ?_) | (with_reducible refine below_dN ?_ _) | with_reducible exact Below.refl _ _ | (with_reducible refine Below.trans ?_ (Below.mono (by assumption) (by first | omega | (simp; done) | (simp; omega)))))⟩, by simp [intOf]; omega⟩
      · obtain rfl : j = ks.length := by omega
        clear z0 z1 z2 z3 z4 y0 y1 y2 y3 y4
        have cU := (hbel.block U hUV).trans HV.out.2.1
        have cB := (hbel.block B hBV).trans HV.out.2.2.1
        have z0 := (blk5 cU).1
        have z1 := (blk5 cU).2.1
        have z2 := (blk5 cU).2.2.1
        have z3 := (blk5 cU).2.2.2.1
        have z4 := (blk5 cU).2.2.2.2.1
        have y0 := (blk5 cU).2.2.2.2.2.1
        have y1 := (blk5 cU).2.2.2.2.2.2.1
        have y2 := (blk5 cU).2.2.2.2.2.2.2.1
        have y3 := (blk5 cU).2.2.2.2.2.2.2.2.1
        have y4 := (blk5 cU).2.2.2.2.2.2.2.2.2
        have o0 := (blk5 cB).1
        have o1 := (blk5 cB).2.1
        have o2 := (blk5 cB).2.2.1
        have o3 := (blk5 cB).2.2.2.1
        have o4 := (blk5 cB).2.2.2.2.1
        have p0 := (blk5 cB).2.2.2.2.2.1
        have p1 := (blk5 cB).2.2.2.2.2.2.1
        have p2 := (blk5 cB).2.2.2.2.2.2.2.1
        have p3 := (blk5 cB).2.2.2.2.2.2.2.2.1
        have p4 := (blk5 cB).2.2.2.2.2.2.2.2.2
        have hR6 := (sound_inv HSR.out).1
        have hR8 : R.2.2.length ≤ 8 := by rw [← HRR.out]; exact ract_len _ _ _ _ _ _ _
        have HBW := Lib.hid (HV.out.2.2.2.2.2.2.2.2.2.trans (hbel.mono HV.out.2.2.2.2.2.2.2.2.2.size))
        have hUr : U < wr.heap.size := by omega
        repeat (first | go_values | go_skip | go_guarded | go_step | go_upon | go_quiet (fail))
        refine (same_yes R.1 a4 a6 c4 c6 _ (by omega) (HV.out.2.2.2.2.2.1.below hbel) (HV.out.2.2.2.2.2.2.1.below hbel)).mono ?_
        rintro e x1 ⟨rfl, hx1⟩
        dsimp only
        have hb1 := hbel.trans (hx1.mono hbel.size)
        repeat (first | go_values | go_skip | go_guarded | go_step | go_upon | go_quiet (fail))
        refine (ints_yes b4 b6 R.2.2 d4 d6 _ (by omega) (HV.out.2.2.2.2.2.2.2.1.below hb1) (HV.out.2.2.2.2.2.2.2.2.1.below hb1)).mono ?_
        rintro e x2 ⟨rfl, hx2⟩
        dsimp only
        have hb2 := hb1.trans (hx2.mono hb1.size)
        have cU2 := (hx2.block U (Nat.lt_of_lt_of_le hUr hx1.size)).trans ((hx1.block U hUr).trans cU)
        clear z0 z1 z2 z3 z4 y0 y1 y2 y3 y4 o0 o1 o2 o3 o4 p0 p1 p2 p3 p4
        have z0 := (blk5 cU2).1
        have z1 := (blk5 cU2).2.1
        have z2 := (blk5 cU2).2.2.1
        have z3 := (blk5 cU2).2.2.2.1
        have z4 := (blk5 cU2).2.2.2.2.1
        have y0 := (blk5 cU2).2.2.2.2.2.1
        have y1 := (blk5 cU2).2.2.2.2.2.2.1
        have y2 := (blk5 cU2).2.2.2.2.2.2.2.1
        have y3 := (blk5 cU2).2.2.2.2.2.2.2.2.1
        have y4 := (blk5 cU2).2.2.2.2.2.2.2.2.2
        repeat (first | go_values | go_skip | go_guarded | go_step | go_upon | go_quiet (fail))
        refine (sound_yes R.1 a4 c4 _ (by omega) (HV.out.2.2.2.2.2.1.below hb2) HSR.out).mono ?_
        rintro e x3 ⟨rfl, hx3⟩
        dsimp only
        have hb3 := hb2.trans (hx3.mono hb2.size)
        repeat (first | go_values | go_skip | go_guarded | go_step | go_upon | go_quiet (fail))
        go_ret
        exact ⟨rfl, HBW.out.trans ((hx1.trans ((hx2.trans (hx3.mono hx2.size)).mono hx1.size)).mono HBW.out.size)⟩

theorem PersActs_any (g h ty n : Int) (ap : Bool) (a : Option Addr) (ks : List (Int × Int)) (cap : Nat) (ac oty key other : Int) (oap : Bool) (w : World) (hlen : ks.length ≤ 9223372036854775807)
   (hk : KeysIn w a ks) (hna : a = none → cap = 0) : Calls Try.prog 7 #[.agg #[.int .u32 g, .slice a ks.length cap, .int .i64 h, .int .i64 ty, .bool ap], .int .i64 n, .agg #[.int .i64 ac, .int .i64 oty, .int .u64 key, .int .u64 other, .bool oap]] w fun e w' => e = .returned (.bool true) ∧ Below w.heap.size w w' := by
  cases hs : rsoundF ks h ty
  · exact PersActs_bad g h ty n ap a ks cap ac oty key other oap w hlen hk false hs (.inl rfl)
  · cases h1 : decide (n < 0)
    · cases h2 : decide (7 < n)
      · exact PersActs_good g h ty n ap a ks cap ac oty key other oap w hlen hk hna hs h1 h2
      · exact PersActs_bad g h ty n ap a ks cap ac oty key other oap w hlen hk true hs (.inr (.inr ⟨rfl, h1, h2⟩))
    · exact PersActs_bad g h ty n ap a ks cap ac oty key other oap w hlen hk true hs (.inr (.inl ⟨rfl, h1⟩))
end Go.Proofs.Ytopakonpfbbldaa
namespace Go.Proofs.Ytopakonpfbbldaa
open Go.ChangeShapes Go.WideShapes Go.ChangeAt Go.RowKit

set_option maxRecDepth 100000 in
theorem persActs_lifted (os : Os) (started : os.Started) (H : Type) (enc : TypeId × Value → H) :
    ReturnsInHanded {} Try.checked os 7 .any (Rows.persActsSpec.pre6 enc Try.prog Try.f7 Rows.persActsRow.domain false) (Rows.persActsSpec.post enc Try.prog Try.f7 false true false false) := by
  refine returnsInHanded_of_change (C := Try.checked) Try.own started (by kernel_rfl) Try.func7
    (ChangeSpec.witness6 (enc := enc) (C := Try.checked) false ⟨#[], #[.agg #[.int .u32 0, .slice none 0 0, .int .i64 0, .int .i64 0, .bool false], .int .i64 0, .agg #[.int .i64 0, .int .i64 0, .int .u64 0, .int .u64 0, .bool false]], []⟩ 8 (by kernel_rfl) (by kernel_rfl) (by kernel_rfl) (by kernel_rfl)) ?_
  intro W base args ds gs before hval0 hW _ _
  have hval : ∀ (j : Nat) t v, Try.f7.params[j]? = some t → args[j]? = some v → Value.okWide Try.prog W .any base t v := hval0
  have hW' := hW
  obtain ⟨p, q, hA0, hV, rfl, hfz, hnd⟩ := hW
  have hA : DataW.TrodAll enc Try.prog W 0 (fun _ => true) true Try.f7.params.toList args.toList ds p := hA0
  rw [Try.params7] at hA hval
  obtain ⟨v0, v1, v2, d0, d1, d2, p0, p1, p2, rfl, rfl, rfl, h0, h1, h2⟩ := trodAll_three hA
  obtain ⟨rfl, rfl⟩ := trodVars_none hV
  clear hA0 hval0
  simp only [List.append_nil] at hW'
  have hlt : ∀ x ∈ p0 ++ (p1 ++ p2), x.block < W.heap.size := fun x hx => by simpa using hW'.lt x (by simpa using hx)
  have hargs : ∀ (W' : World), Below W.heap.size W W' → DataW.TrodAll enc Try.prog W' 0 (fun b => decide (b < W.heap.size)) true [25, 3, 37] [v0, v1, v2] [d0, d1, d2] (p0 ++ (p1 ++ p2)) := fun W' hn =>
    trodAll_mk3 (Below.trod Try.laidOut (by kernel_rfl) (of_decide_eq_true (by kernel_rfl)) h0 hn (fun x hx => hlt x (by simp [hx]))) (Below.trod Try.laidOut (by kernel_rfl) (of_decide_eq_true (by kernel_rfl)) h1 hn (fun x hx => hlt x (by simp [hx]))) (Below.trod Try.laidOut (by kernel_rfl) (of_decide_eq_true (by kernel_rfl)) h2 hn (fun x hx => hlt x (by simp [hx])))
  obtain ⟨g, a, ks, cap, h, ty, ap, rfl, hk, hl, hn0, hwg, hwk⟩ := open_tab (hval 0 25 v0 rfl rfl) h0 (fun x hx => hlt x (by simp [hx]))
  obtain ⟨x1, rfl, rfl, rfl, w1⟩ := open_int Try.underlying3 (hval 1 3 v1 rfl rfl) h1
  obtain ⟨ac, oty, key, other, oap, rfl⟩ := open_order (hval 2 37 v2 rfl rfl) h2
  refine (PersActs_any g h ty x1 ap a ks cap ac oty key other oap W (by unfold maxLen at hl; omega) hk hn0).mono fun e W' ⟨he, hb⟩ => ?_
  subst he
  exact ⟨_, rfl, ⟨_, _, _, [], _, [], hW', trodAll_mk1 (shut_bool Try.underlying4 true), hargs _ hb, rfl, hb.frame _, fun h => by cases h⟩⟩

theorem persActs_holds : Rows.PersActsSaid :=
  OpenClaim.holds_of_wide 7 Try.f7 rfl rfl rfl rfl rfl rfl rfl ⟨rfl, rfl, rfl, rfl, rfl⟩ rfl rfl rfl rfl rfl (by kernel_rfl) Try.func7 (by kernel_rfl)
    (of_decide_eq_true (by kernel_rfl)) (by unfold Func.isWrapper; first | (rw [if_pos (by decide +kernel)]; kernel_rfl) | (rw [if_neg (by decide +kernel)]; exact ⟨rfl, rfl⟩))
    (fun os started H enc _ => persActs_lifted os started H enc)
end Go.Proofs.Ytopakonpfbbldaa
