/- What preempt of the reference of layer 10 makes, whole. -/
import Derived.Test.YtopakonpfbbldaaKR15
import Derived.Test.YtopakonpfbbldaaKR17
import Derived.Test.YtopakonpfbbldaaKR19
import Derived.Test.YtopakonpfbbldaaKLib5
set_option linter.unusedSimpArgs false
set_option linter.unusedVariables false
namespace Go.Proofs.Ytopakonpfbbldaa
open Go.RowKit

theorem rpre_any (t : Tab) (n ac oty key other : Int) (oap : Bool) (a : Option Addr) (cap : Nat) (w : World) (hlen : t.ks.length ≤ 9223372036854775807) (h0 : 0 ≤ n) (h8 : n < 8) (hh : t.h < 8)
   (hk : KeysIn w a t.ks) (hn : a = none → cap = 0) (hty : (t.ty == 0) = false → 0 ≤ t.h) :
    Calls Try.prog 39 #[.agg #[.int .u32 t.g, .slice a t.ks.length cap, .int .i64 t.h, .int .i64 t.ty, .bool t.ap], .int .i64 n, .agg #[.int .i64 ac, .int .i64 oty, .int .u64 key, .int .u64 other, .bool oap]] w (ActPost (rpreF t n oty other) w) := by
  cases cz : (t.ty == 0) with
  | true =>
    cases qo : (other == 0) with
    | true => exact rpre_zo t n ac oty key other oap a cap w hlen h0 h8 hh hk hn hty cz qo
    | false => exact rpre_z t n ac oty key other oap a cap w hlen h0 h8 hh hk hn hty cz qo
  | false =>
    cases c7 : (t.ty == 7) with
    | true =>
      cases qo : (other == 0) with
      | true =>
        cases qk : knownF oty with
        | false => exact rpre_a7tu t n ac oty key other oap a cap w hlen h0 h8 hh hk hn hty cz c7 qo qk
        | true => exact rpre_a7t t n ac oty key other oap a cap w hlen h0 h8 hh hk hn hty cz c7 qo qk
      | false => exact rpre_a7f t n ac oty key other oap a cap w hlen h0 h8 hh hk hn hty cz c7 qo
    | false =>
      cases c8 : (t.ty == 8) with
      | true =>
        cases qo : (other == 0) with
        | true =>
          cases qk : knownF oty with
          | false => exact rpre_a8tu t n ac oty key other oap a cap w hlen h0 h8 hh hk hn hty cz c7 c8 qo qk
          | true => exact rpre_a8t t n ac oty key other oap a cap w hlen h0 h8 hh hk hn hty cz c7 c8 qo qk
        | false => exact rpre_a8f t n ac oty key other oap a cap w hlen h0 h8 hh hk hn hty cz c7 c8 qo
      | false =>
        cases qh : ((keysF t.ks).getD t.h.toNat 0 == other) with
        | false =>
          cases qo : (other == 0) with
          | true => exact rpre_h0o t n ac oty key other oap a cap w hlen h0 h8 hh hk hn hty cz c7 c8 qh qo
          | false => exact rpre_h0 t n ac oty key other oap a cap w hlen h0 h8 hh hk hn hty cz c7 c8 qh qo
        | true =>
          cases qo : (other == 0) with
          | true =>
            cases qk : knownF oty with
            | false => exact rpre_h1tu t n ac oty key other oap a cap w hlen h0 h8 hh hk hn hty cz c7 c8 qh qo qk
            | true => exact rpre_h1t t n ac oty key other oap a cap w hlen h0 h8 hh hk hn hty cz c7 c8 qh qo qk
          | false =>
            cases qk : knownF oty with
            | false => exact rpre_h1fu t n ac oty key other oap a cap w hlen h0 h8 hh hk hn hty cz c7 c8 qh qo qk
            | true => exact rpre_h1f t n ac oty key other oap a cap w hlen h0 h8 hh hk hn hty cz c7 c8 qh qo qk
end Go.Proofs.Ytopakonpfbbldaa
namespace Go.Proofs.Ytopakonpfbbldaa
open Go.RowKit

set_option maxRecDepth 100000 in
set_option maxHeartbeats 4000000 in
theorem ract_l (t : Tab) (n ac oty key other : Int) (oap : Bool) (a : Option Addr) (cap : Nat) (w : World) (hlen : t.ks.length ≤ 9223372036854775807) (h0 : 0 ≤ n) (h8 : n < 8) (hh : t.h < 8)
   (hk : KeysIn w a t.ks) (hn : a = none → cap = 0) (hty : (t.ty == 0) = false → 0 ≤ t.h) (g0 : decide (ac < 0) = true) :
    Calls Try.prog 20 #[.agg #[.int .u32 t.g, .slice a t.ks.length cap, .int .i64 t.h, .int .i64 t.ty, .bool t.ap], .int .i64 n, .agg #[.int .i64 (ac), .int .i64 oty, .int .u64 key, .int .u64 other, .bool oap]] w (ActPost (ractF t n (ac) oty key other oap) w) := by
  have HK := Lib.hid hk; clear hk
  have HN := Lib.hid hn; clear hn
  go_enter Try.func20, Try.ntmps20
  go_wp2_with fail
  obtain ⟨b0, b1, b2⟩ := heap3 w (.cells #[.int .u32 t.g, .slice a t.ks.length cap, .int .i64 t.h, .int .i64 t.ty, .bool t.ap] 25) (.cells #[.int .i64 (ac), .int .i64 oty, .int .u64 key, .int .u64 other, .bool oap] 43) (.cells #[.int .u32 0, .slice none 0 0, .int .i64 0, .int .i64 0, .bool false] 25)
  refine (keys_any _ _ _ _ _ _ _ _ hlen (HK.out.below (by repeat (first | with_reducible assumption | (with_reducible refine Below.setCell ?_ (by first | omega | (simp; done) | (simp; omega)) _) | (with_reducible refine Below.alloc ?_ (by first | omega | (simp; done) | (simp; omega)) _) | (with_reducible refine Below.drew ?_) | (with_reducible refine below_dN ?_ _) | with_reducible exact Below.refl _ _ | (with_reducible refine Below.trans ?_ (Below.mono (by assumption) (by first | omega | (simp; done) | (simp; omega)))))))).mono ?_
  rintro e w1 ⟨rfl, hb⟩
  have hz1 := hb.size
  simp only [World.size_alloc] at hz1
  have c0 := (hb.block _ (by first | (simp; done) | (simp; omega))).trans b0
  have c1 := (hb.block _ (by first | (simp; done) | (simp; omega))).trans b1
  have c2 := (hb.block _ (by first | (simp; done) | (simp; omega))).trans b2
  have hbw : Below w.heap.size w w1 := by repeat (first | with_reducible assumption | (with_reducible refine Below.setCell ?_ (by first | omega | (simp; done) | (simp; omega)) _) | (with_reducible refine Below.alloc ?_ (by first | omega | (simp; done) | (simp; omega)) _) | (with_reducible refine Below.drew ?_) | (with_reducible refine below_dN ?_ _) | with_reducible exact Below.refl _ _ | (with_reducible refine Below.trans ?_ (Below.mono (by assumption) (by first | omega | (simp; done) | (simp; omega)))))
  clear b0 b1 b2 hb
  have hidx := fun w => idx8 (keysF t.ks) (keysF_length t.ks) n h0 h8 w
  have HX0 : Hid ((keysF t.ks).getD n.toNat 0 = (keysF t.ks).getD n.toNat 0) := Lib.hid rfl
  generalize hx : (keysF t.ks).getD n.toNat 0 = x at hidx
  have HX := Lib.hid hx
  clear hx HX0
  have HD := Lib.hid (And.intro c0 (And.intro c1 (And.intro c2 hbw)))
  have z0 := (blk5 c0).1
  have z1 := (blk5 c0).2.1
  have z2 := (blk5 c0).2.2.1
  have z3 := (blk5 c0).2.2.2.1
  have z4 := (blk5 c0).2.2.2.2.1
  have y0 := (blk5 c0).2.2.2.2.2.1
  have y1 := (blk5 c0).2.2.2.2.2.2.1
  have y2 := (blk5 c0).2.2.2.2.2.2.2.1
  have y3 := (blk5 c0).2.2.2.2.2.2.2.2.1
  have y4 := (blk5 c0).2.2.2.2.2.2.2.2.2
  have o0 := (blk5 c1).1
  have o1 := (blk5 c1).2.1
  have o2 := (blk5 c1).2.2.1
  have o3 := (blk5 c1).2.2.2.1
  have o4 := (blk5 c1).2.2.2.2.1
  have p0 := (blk5 c1).2.2.2.2.2.1
  have p1 := (blk5 c1).2.2.2.2.2.2.1
  have p2 := (blk5 c1).2.2.2.2.2.2.2.1
  have p3 := (blk5 c1).2.2.2.2.2.2.2.2.1
  have p4 := (blk5 c1).2.2.2.2.2.2.2.2.2
  have v0 := (blk5 c2).1
  have v1 := (blk5 c2).2.1
  have v2 := (blk5 c2).2.2.1
  have v3 := (blk5 c2).2.2.2.1
  have v4 := (blk5 c2).2.2.2.2.1
  have s0 := (blk5 c2).2.2.2.2.2.1
  have s1 := (blk5 c2).2.2.2.2.2.2.1
  have s2 := (blk5 c2).2.2.2.2.2.2.2.1
  have s3 := (blk5 c2).2.2.2.2.2.2.2.2.1
  have s4 := (blk5 c2).2.2.2.2.2.2.2.2.2
  clear c0 c1 c2 hbw
  dsimp only
  have HR : Hid (ractF t n (ac) oty key other oap = (t, 2, [])) := Lib.hid (by unfold ractF; first | (simp only [HX.out, g0]; rfl) | (simp only [HX.out]; simp [g0]; done))
  repeat (first | go_values | go_skip | go_guarded | go_step | go_upon | go_quiet (fail) | (simp only [Int.not_lt, Int.not_le] at *; go_simp) | (go_values <;> (try go_simp)) | (go_ite <;> go_prune <;> (try go_simp)))
  refine bodyPost_ret (v := .tuple #[.agg #[.int .u32 t.g, .slice a t.ks.length cap, .int .i64 t.h, .int .i64 t.ty, .bool t.ap], .int .i64 2, .slice none 0 0]) ?_ rfl ?_
  · simp only [results, Try.results20]
    go_simp
  · unfold ActPost
    rw [HR.out]
    have hbw := HD.out.2.2.2
    refine ⟨a, cap, none, 0, rfl, HK.out.below ?_, HN.out, IntsIn.nil _ _, ?_⟩
    all_goals repeat (first | with_reducible assumption | (with_reducible refine Below.setCell ?_ (by first | omega | (simp; done) | (simp; omega)) _) | (with_reducible refine Below.alloc ?_ (by first | omega | (simp; done) | (simp; omega)) _) | (with_reducible refine Below.drew ?_) | (with_reducible refine below_dN ?_ _) | with_reducible exact Below.refl _ _ | (with_reducible refine Below.trans ?_ (Below.mono (by assumption) (by first | omega | (simp; done) | (simp; omega)))))
set_option maxRecDepth 100000 in
set_option maxHeartbeats 4000000 in
theorem ract_g (t : Tab) (n ac oty key other : Int) (oap : Bool) (a : Option Addr) (cap : Nat) (w : World) (hlen : t.ks.length ≤ 9223372036854775807) (h0 : 0 ≤ n) (h8 : n < 8) (hh : t.h < 8)
   (hk : KeysIn w a t.ks) (hn : a = none → cap = 0) (hty : (t.ty == 0) = false → 0 ≤ t.h) (g0 : decide (ac < 0) = false) (g6 : decide (6 < ac) = true) :
    Calls Try.prog 20 #[.agg #[.int .u32 t.g, .slice a t.ks.length cap, .int .i64 t.h, .int .i64 t.ty, .bool t.ap], .int .i64 n, .agg #[.int .i64 (ac), .int .i64 oty, .int .u64 key, .int .u64 other, .bool oap]] w (ActPost (ractF t n (ac) oty key other oap) w) := by
  have HK := Lib.hid hk; clear hk
  have HN := Lib.hid hn; clear hn
  go_enter Try.func20, Try.ntmps20
  go_wp2_with fail
  obtain ⟨b0, b1, b2⟩ := heap3 w (.cells #[.int .u32 t.g, .slice a t.ks.length cap, .int .i64 t.h, .int .i64 t.ty, .bool t.ap] 25) (.cells #[.int .i64 (ac), .int .i64 oty, .int .u64 key, .int .u64 other, .bool oap] 43) (.cells #[.int .u32 0, .slice none 0 0, .int .i64 0, .int .i64 0, .bool false] 25)
  refine (keys_any _ _ _ _ _ _ _ _ hlen (HK.out.below (by repeat (first | with_reducible assumption | (with_reducible refine Below.setCell ?_ (by first | omega | (simp; done) | (simp; omega)) _) | (with_reducible refine Below.alloc ?_ (by first | omega | (simp; done) | (simp; omega)) _) | (with_reducible refine Below.drew ?_) | (with_reducible refine below_dN ?_ _) | with_reducible exact Below.refl _ _ | (with_reducible refine Below.trans ?_ (Below.mono (by assumption) (by first | omega | (simp; done) | (simp; omega)))))))).mono ?_
  rintro e w1 ⟨rfl, hb⟩
  have hz1 := hb.size
  simp only [World.size_alloc] at hz1
  have c0 := (hb.block _ (by first | (simp; done) | (simp; omega))).trans b0
  have c1 := (hb.block _ (by first | (simp; done) | (simp; omega))).trans b1
  have c2 := (hb.block _ (by first | (simp; done) | (simp; omega))).trans b2
  have hbw : Below w.heap.size w w1 := by repeat (first | with_reducible assumption | (with_reducible refine Below.setCell ?_ (by first | omega | (simp; done) | (simp; omega)) _) | (with_reducible refine Below.alloc ?_ (by first | omega | (simp; done) | (simp; omega)) _) | (with_reducible refine Below.drew ?_) | (with_reducible refine below_dN ?_ _) | with_reducible exact Below.refl _ _ | (with_reducible refine Below.trans ?_ (Below.mono (by assumption) (by first | omega | (simp; done) | (simp; omega)))))
  clear b0 b1 b2 hb
  have hidx := fun w => idx8 (keysF t.ks) (keysF_length t.ks) n h0 h8 w
  have HX0 : Hid ((keysF t.ks).getD n.toNat 0 = (keysF t.ks).getD n.toNat 0) := Lib.hid rfl
  generalize hx : (keysF t.ks).getD n.toNat 0 = x at hidx
  have HX := Lib.hid hx
  clear hx HX0
  have HD := Lib.hid (And.intro c0 (And.intro c1 (And.intro c2 hbw)))
  have z0 := (blk5 c0).1
  have z1 := (blk5 c0).2.1
  have z2 := (blk5 c0).2.2.1
  have z3 := (blk5 c0).2.2.2.1
  have z4 := (blk5 c0).2.2.2.2.1
  have y0 := (blk5 c0).2.2.2.2.2.1
  have y1 := (blk5 c0).2.2.2.2.2.2.1
  have y2 := (blk5 c0).2.2.2.2.2.2.2.1
  have y3 := (blk5 c0).2.2.2.2.2.2.2.2.1
  have y4 := (blk5 c0).2.2.2.2.2.2.2.2.2
  have o0 := (blk5 c1).1
  have o1 := (blk5 c1).2.1
  have o2 := (blk5 c1).2.2.1
  have o3 := (blk5 c1).2.2.2.1
  have o4 := (blk5 c1).2.2.2.2.1
  have p0 := (blk5 c1).2.2.2.2.2.1
  have p1 := (blk5 c1).2.2.2.2.2.2.1
  have p2 := (blk5 c1).2.2.2.2.2.2.2.1
  have p3 := (blk5 c1).2.2.2.2.2.2.2.2.1
  have p4 := (blk5 c1).2.2.2.2.2.2.2.2.2
  have v0 := (blk5 c2).1
  have v1 := (blk5 c2).2.1
  have v2 := (blk5 c2).2.2.1
  have v3 := (blk5 c2).2.2.2.1
  have v4 := (blk5 c2).2.2.2.2.1
  have s0 := (blk5 c2).2.2.2.2.2.1
  have s1 := (blk5 c2).2.2.2.2.2.2.1
  have s2 := (blk5 c2).2.2.2.2.2.2.2.1
  have s3 := (blk5 c2).2.2.2.2.2.2.2.2.1
  have s4 := (blk5 c2).2.2.2.2.2.2.2.2.2
  clear c0 c1 c2 hbw
  dsimp only
  have HR : Hid (ractF t n (ac) oty key other oap = (t, 2, [])) := Lib.hid (by unfold ractF; first | (simp only [HX.out, g0, g6]; rfl) | (simp only [HX.out]; simp [g0, g6]; done))
  repeat (first | go_values | go_skip | go_guarded | go_step | go_upon | go_quiet (fail) | (simp only [Int.not_lt, Int.not_le] at *; go_simp) | (go_values <;> (try go_simp)) | (go_ite <;> go_prune <;> (try go_simp)))
  refine bodyPost_ret (v := .tuple #[.agg #[.int .u32 t.g, .slice a t.ks.length cap, .int .i64 t.h, .int .i64 t.ty, .bool t.ap], .int .i64 2, .slice none 0 0]) ?_ rfl ?_
  · simp only [results, Try.results20]
    go_simp
  · unfold ActPost
    rw [HR.out]
    have hbw := HD.out.2.2.2
    refine ⟨a, cap, none, 0, rfl, HK.out.below ?_, HN.out, IntsIn.nil _ _, ?_⟩
    all_goals repeat (first | with_reducible assumption | (with_reducible refine Below.setCell ?_ (by first | omega | (simp; done) | (simp; omega)) _) | (with_reducible refine Below.alloc ?_ (by first | omega | (simp; done) | (simp; omega)) _) | (with_reducible refine Below.drew ?_) | (with_reducible refine below_dN ?_ _) | with_reducible exact Below.refl _ _ | (with_reducible refine Below.trans ?_ (Below.mono (by assumption) (by first | omega | (simp; done) | (simp; omega)))))
set_option maxRecDepth 100000 in
set_option maxHeartbeats 4000000 in
theorem ract_0 (t : Tab) (n oty key other : Int) (oap : Bool) (a : Option Addr) (cap : Nat) (w : World) (hlen : t.ks.length ≤ 9223372036854775807) (h0 : 0 ≤ n) (h8 : n < 8) (hh : t.h < 8)
   (hk : KeysIn w a t.ks) (hn : a = none → cap = 0) (hty : (t.ty == 0) = false → 0 ≤ t.h)  :
    Calls Try.prog 20 #[.agg #[.int .u32 t.g, .slice a t.ks.length cap, .int .i64 t.h, .int .i64 t.ty, .bool t.ap], .int .i64 n, .agg #[.int .i64 (0), .int .i64 oty, .int .u64 key, .int .u64 other, .bool oap]] w (ActPost (ractF t n (0) oty key other oap) w) := by
  have HK := Lib.hid hk; clear hk
  have HN := Lib.hid hn; clear hn
  go_enter Try.func20, Try.ntmps20
  go_wp2_with fail
  obtain ⟨b0, b1, b2⟩ := heap3 w (.cells #[.int .u32 t.g, .slice a t.ks.length cap, .int .i64 t.h, .int .i64 t.ty, .bool t.ap] 25) (.cells #[.int .i64 (0), .int .i64 oty, .int .u64 key, .int .u64 other, .bool oap] 43) (.cells #[.int .u32 0, .slice none 0 0, .int .i64 0, .int .i64 0, .bool false] 25)
  refine (keys_any _ _ _ _ _ _ _ _ hlen (HK.out.below (by repeat (first | with_reducible assumption | (with_reducible refine Below.setCell ?_ (by first | omega | (simp; done) | (simp; omega)) _) | (with_reducible refine Below.alloc ?_ (by first | omega | (simp; done) | (simp; omega)) _) | (with_reducible refine Below.drew ?_) | (with_reducible refine below_dN ?_ _) | with_reducible exact Below.refl _ _ | (with_reducible refine Below.trans ?_ (Below.mono (by assumption) (by first | omega | (simp; done) | (simp; omega)))))))).mono ?_
  rintro e w1 ⟨rfl, hb⟩
  have hz1 := hb.size
  simp only [World.size_alloc] at hz1
  have c0 := (hb.block _ (by first | (simp; done) | (simp; omega))).trans b0
  have c1 := (hb.block _ (by first | (simp; done) | (simp; omega))).trans b1
  have c2 := (hb.block _ (by first | (simp; done) | (simp; omega))).trans b2
  have hbw : Below w.heap.size w w1 := by repeat (first | with_reducible assumption | (with_reducible refine Below.setCell ?_ (by first | omega | (simp; done) | (simp; omega)) _) | (with_reducible refine Below.alloc ?_ (by first | omega | (simp; done) | (simp; omega)) _) | (with_reducible refine Below.drew ?_) | (with_reducible refine below_dN ?_ _) | with_reducible exact Below.refl _ _ | (with_reducible refine Below.trans ?_ (Below.mono (by assumption) (by first | omega | (simp; done) | (simp; omega)))))
  clear b0 b1 b2 hb
  have hidx := fun w => idx8 (keysF t.ks) (keysF_length t.ks) n h0 h8 w
  have HX0 : Hid ((keysF t.ks).getD n.toNat 0 = (keysF t.ks).getD n.toNat 0) := Lib.hid rfl
  generalize hx : (keysF t.ks).getD n.toNat 0 = x at hidx
  have HX := Lib.hid hx
  clear hx HX0
  have HD := Lib.hid (And.intro c0 (And.intro c1 (And.intro c2 hbw)))
  have z0 := (blk5 c0).1
  have z1 := (blk5 c0).2.1
  have z2 := (blk5 c0).2.2.1
  have z3 := (blk5 c0).2.2.2.1
  have z4 := (blk5 c0).2.2.2.2.1
  have y0 := (blk5 c0).2.2.2.2.2.1
  have y1 := (blk5 c0).2.2.2.2.2.2.1
  have y2 := (blk5 c0).2.2.2.2.2.2.2.1
  have y3 := (blk5 c0).2.2.2.2.2.2.2.2.1
  have y4 := (blk5 c0).2.2.2.2.2.2.2.2.2
  have o0 := (blk5 c1).1
  have o1 := (blk5 c1).2.1
  have o2 := (blk5 c1).2.2.1
  have o3 := (blk5 c1).2.2.2.1
  have o4 := (blk5 c1).2.2.2.2.1
  have p0 := (blk5 c1).2.2.2.2.2.1
  have p1 := (blk5 c1).2.2.2.2.2.2.1
  have p2 := (blk5 c1).2.2.2.2.2.2.2.1
  have p3 := (blk5 c1).2.2.2.2.2.2.2.2.1
  have p4 := (blk5 c1).2.2.2.2.2.2.2.2.2
  have v0 := (blk5 c2).1
  have v1 := (blk5 c2).2.1
  have v2 := (blk5 c2).2.2.1
  have v3 := (blk5 c2).2.2.2.1
  have v4 := (blk5 c2).2.2.2.2.1
  have s0 := (blk5 c2).2.2.2.2.2.1
  have s1 := (blk5 c2).2.2.2.2.2.2.1
  have s2 := (blk5 c2).2.2.2.2.2.2.2.1
  have s3 := (blk5 c2).2.2.2.2.2.2.2.2.1
  have s4 := (blk5 c2).2.2.2.2.2.2.2.2.2
  clear c0 c1 c2 hbw
  dsimp only
  have HR : Hid (ractF t n (0) oty key other oap = rregF t n 0 key other oap) := Lib.hid (by unfold ractF; first | (simp only [HX.out, HX.out]; rfl) | (simp only [HX.out]; simp []; done))
  repeat (first | go_values | go_skip | go_guarded | go_step | go_upon | go_quiet (fail) | (simp only [Int.not_lt, Int.not_le] at *; go_simp) | (go_values <;> (try go_simp)) | (go_ite <;> go_prune <;> (try go_simp)))
  refine (rreg_any t n 0 oty key other oap a cap _ hlen h0 h8 hh (HK.out.below (by have hbw := HD.out.2.2.2; repeat (first | with_reducible assumption | (with_reducible refine Below.setCell ?_ (by first | omega | (simp; done) | (simp; omega)) _) | (with_reducible refine Below.alloc ?_ (by first | omega | (simp; done) | (simp; omega)) _) | (with_reducible refine Below.drew ?_) | (with_reducible refine below_dN ?_ _) | with_reducible exact Below.refl _ _ | (with_reducible refine Below.trans ?_ (Below.mono (by assumption) (by first | omega | (simp; done) | (simp; omega))))))) HN.out).mono ?_
  rintro e w3 hp
  unfold ActPost at hp
  obtain ⟨a5, c5, a6, c6, rfl, hk5, hn5, hi5, hb5⟩ := hp
  dsimp only
  have hl2 : w.heap.size + 1 + 1 < w1.heap.size := (Array.getElem?_eq_some_iff.1 HD.out.2.2.1).1
  have hsz5 := hb5.size
  generalize rregF t n 0 key other oap = R at hk5 hn5 hi5 HR ⊢
  have HP := Lib.hid (And.intro hk5 (And.intro hn5 hi5))
  have e2 := (hb5.block (w.heap.size + 1 + 1) (by first | exact hl2 | (simp; exact hl2))).trans HD.out.2.2.1
  have HB5 : Hid (Below w.heap.size w w3) := Lib.hid (Below.trans (by have hbw := HD.out.2.2.2; repeat (first | with_reducible assumption | (with_reducible refine Below.setCell ?_ (by first | omega | (simp; done) | (simp; omega)) _) | (with_reducible refine Below.alloc ?_ (by first | omega | (simp; done) | (simp; omega)) _) | (with_reducible refine Below.drew ?_) | (with_reducible refine below_dN ?_ _) | with_reducible exact Below.refl _ _ | (with_reducible refine Below.trans ?_ (Below.mono (by assumption) (by first | omega | (simp; done) | (simp; omega)))))) (hb5.mono (by first | omega | (simp; omega))))
  clear z0 z1 z2 z3 z4 y0 y1 y2 y3 y4 v0 v1 v2 v3 v4 s0 s1 s2 s3 s4 o0 o1 o2 o3 o4 p0 p1 p2 p3 p4 hk5 hn5 hi5 hb5
  have v0 := (blk5 e2).1
  have v1 := (blk5 e2).2.1
  have v2 := (blk5 e2).2.2.1
  have v3 := (blk5 e2).2.2.2.1
  have v4 := (blk5 e2).2.2.2.2.1
  have s0 := (blk5 e2).2.2.2.2.2.1
  have s1 := (blk5 e2).2.2.2.2.2.2.1
  have s2 := (blk5 e2).2.2.2.2.2.2.2.1
  have s3 := (blk5 e2).2.2.2.2.2.2.2.2.1
  have s4 := (blk5 e2).2.2.2.2.2.2.2.2.2
  have E2 := Lib.hid e2
  clear e2
  repeat (first | go_values | go_skip | go_guarded | go_step | go_upon | go_quiet (fail))
  refine bodyPost_ret (v := .tuple #[.agg #[.int .u32 R.1.g, .slice a5 R.1.ks.length c5, .int .i64 R.1.h, .int .i64 R.1.ty, .bool R.1.ap], .int .i64 R.2.1, .slice a6 R.2.2.length c6]) ?_ rfl ?_
  · simp only [results, Try.results20]
    go_simp
  · unfold ActPost
    rw [HR.out]
    have hbw := HB5.out
    refine ⟨a5, c5, a6, c6, rfl, keys_ret HP.out.1 E2.out, HP.out.2.1, ints_ret HP.out.2.2 E2.out, ?_⟩
    repeat (first | with_reducible assumption | (with_reducible refine Below.setCell ?_ (by first | omega | (simp; done) | (simp; omega)) _) | (with_reducible refine Below.alloc ?_ (by first | omega | (simp; done) | (simp; omega)) _) | (with_reducible refine Below.drew ?_) | (with_reducible refine below_dN ?_ _) | with_reducible exact Below.refl _ _ | (with_reducible refine Below.trans ?_ (Below.mono (by assumption) (by first | omega | (simp; done) | (simp; omega)))))
set_option maxRecDepth 100000 in
set_option maxHeartbeats 4000000 in
theorem ract_6 (t : Tab) (n oty key other : Int) (oap : Bool) (a : Option Addr) (cap : Nat) (w : World) (hlen : t.ks.length ≤ 9223372036854775807) (h0 : 0 ≤ n) (h8 : n < 8) (hh : t.h < 8)
   (hk : KeysIn w a t.ks) (hn : a = none → cap = 0) (hty : (t.ty == 0) = false → 0 ≤ t.h)  :
    Calls Try.prog 20 #[.agg #[.int .u32 t.g, .slice a t.ks.length cap, .int .i64 t.h, .int .i64 t.ty, .bool t.ap], .int .i64 n, .agg #[.int .i64 (6), .int .i64 oty, .int .u64 key, .int .u64 other, .bool oap]] w (ActPost (ractF t n (6) oty key other oap) w) := by
  have HK := Lib.hid hk; clear hk
  have HN := Lib.hid hn; clear hn
  go_enter Try.func20, Try.ntmps20
  go_wp2_with fail
  obtain ⟨b0, b1, b2⟩ := heap3 w (.cells #[.int .u32 t.g, .slice a t.ks.length cap, .int .i64 t.h, .int .i64 t.ty, .bool t.ap] 25) (.cells #[.int .i64 (6), .int .i64 oty, .int .u64 key, .int .u64 other, .bool oap] 43) (.cells #[.int .u32 0, .slice none 0 0, .int .i64 0, .int .i64 0, .bool false] 25)
  refine (keys_any _ _ _ _ _ _ _ _ hlen (HK.out.below (by repeat (first | with_reducible assumption | (with_reducible refine Below.setCell ?_ (by first | omega | (simp; done) | (simp; omega)) _) | (with_reducible refine Below.alloc ?_ (by first | omega | (simp; done) | (simp; omega)) _) | (with_reducible refine Below.drew ?_) | (with_reducible refine below_dN ?_ _) | with_reducible exact Below.refl _ _ | (with_reducible refine Below.trans ?_ (Below.mono (by assumption) (by first | omega | (simp; done) | (simp; omega)))))))).mono ?_
  rintro e w1 ⟨rfl, hb⟩
  have hz1 := hb.size
  simp only [World.size_alloc] at hz1
  have c0 := (hb.block _ (by first | (simp; done) | (simp; omega))).trans b0
  have c1 := (hb.block _ (by first | (simp; done) | (simp; omega))).trans b1
  have c2 := (hb.block _ (by first | (simp; done) | (simp; omega))).trans b2
  have hbw : Below w.heap.size w w1 := by repeat (first | with_reducible assumption | (with_reducible refine Below.setCell ?_ (by first | omega | (simp; done) | (simp; omega)) _) | (with_reducible refine Below.alloc ?_ (by first | omega | (simp; done) | (simp; omega)) _) | (with_reducible refine Below.drew ?_) | (with_reducible refine below_dN ?_ _) | with_reducible exact Below.refl _ _ | (with_reducible refine Below.trans ?_ (Below.mono (by assumption) (by first | omega | (simp; done) | (simp; omega)))))
  clear b0 b1 b2 hb
  have hidx := fun w => idx8 (keysF t.ks) (keysF_length t.ks) n h0 h8 w
  have HX0 : Hid ((keysF t.ks).getD n.toNat 0 = (keysF t.ks).getD n.toNat 0) := Lib.hid rfl
  generalize hx : (keysF t.ks).getD n.toNat 0 = x at hidx
  have HX := Lib.hid hx
  clear hx HX0
  have HD := Lib.hid (And.intro c0 (And.intro c1 (And.intro c2 hbw)))
  have z0 := (blk5 c0).1
  have z1 := (blk5 c0).2.1
  have z2 := (blk5 c0).2.2.1
  have z3 := (blk5 c0).2.2.2.1
  have z4 := (blk5 c0).2.2.2.2.1
  have y0 := (blk5 c0).2.2.2.2.2.1
  have y1 := (blk5 c0).2.2.2.2.2.2.1
  have y2 := (blk5 c0).2.2.2.2.2.2.2.1
  have y3 := (blk5 c0).2.2.2.2.2.2.2.2.1
  have y4 := (blk5 c0).2.2.2.2.2.2.2.2.2
  have o0 := (blk5 c1).1
  have o1 := (blk5 c1).2.1
  have o2 := (blk5 c1).2.2.1
  have o3 := (blk5 c1).2.2.2.1
  have o4 := (blk5 c1).2.2.2.2.1
  have p0 := (blk5 c1).2.2.2.2.2.1
  have p1 := (blk5 c1).2.2.2.2.2.2.1
  have p2 := (blk5 c1).2.2.2.2.2.2.2.1
  have p3 := (blk5 c1).2.2.2.2.2.2.2.2.1
  have p4 := (blk5 c1).2.2.2.2.2.2.2.2.2
  have v0 := (blk5 c2).1
  have v1 := (blk5 c2).2.1
  have v2 := (blk5 c2).2.2.1
  have v3 := (blk5 c2).2.2.2.1
  have v4 := (blk5 c2).2.2.2.2.1
  have s0 := (blk5 c2).2.2.2.2.2.1
  have s1 := (blk5 c2).2.2.2.2.2.2.1
  have s2 := (blk5 c2).2.2.2.2.2.2.2.1
  have s3 := (blk5 c2).2.2.2.2.2.2.2.2.1
  have s4 := (blk5 c2).2.2.2.2.2.2.2.2.2
  clear c0 c1 c2 hbw
  dsimp only
  have HR : Hid (ractF t n (6) oty key other oap = rregF t n 6 key other oap) := Lib.hid (by unfold ractF; first | (simp only [HX.out, HX.out]; rfl) | (simp only [HX.out]; simp []; done))
  repeat (first | go_values | go_skip | go_guarded | go_step | go_upon | go_quiet (fail) | (simp only [Int.not_lt, Int.not_le] at *; go_simp) | (go_values <;> (try go_simp)) | (go_ite <;> go_prune <;> (try go_simp)))
  refine (rreg_any t n 6 oty key other oap a cap _ hlen h0 h8 hh (HK.out.below (by have hbw := HD.out.2.2.2; repeat (first | with_reducible assumption | (with_reducible refine Below.setCell ?_ (by first | omega | (simp; done) | (simp; omega)) _) | (with_reducible refine Below.alloc ?_ (by first | omega | (simp; done) | (simp; omega)) _) | (with_reducible refine Below.drew ?_) | (with_reducible refine below_dN ?_ _) | with_reducible exact Below.refl _ _ | (with_reducible refine Below.trans ?_ (Below.mono (by assumption) (by first | omega | (simp; done) | (simp; omega))))))) HN.out).mono ?_
  rintro e w3 hp
  unfold ActPost at hp
  obtain ⟨a5, c5, a6, c6, rfl, hk5, hn5, hi5, hb5⟩ := hp
  dsimp only
  have hl2 : w.heap.size + 1 + 1 < w1.heap.size := (Array.getElem?_eq_some_iff.1 HD.out.2.2.1).1
  have hsz5 := hb5.size
  generalize rregF t n 6 key other oap = R at hk5 hn5 hi5 HR ⊢
  have HP := Lib.hid (And.intro hk5 (And.intro hn5 hi5))
  have e2 := (hb5.block (w.heap.size + 1 + 1) (by first | exact hl2 | (simp; exact hl2))).trans HD.out.2.2.1
  have HB5 : Hid (Below w.heap.size w w3) := Lib.hid (Below.trans (by have hbw := HD.out.2.2.2; repeat (first | with_reducible assumption | (with_reducible refine Below.setCell ?_ (by first | omega | (simp; done) | (simp; omega)) _) | (with_reducible refine Below.alloc ?_ (by first | omega | (simp; done) | (simp; omega)) _) | (with_reducible refine Below.drew ?_) | (with_reducible refine below_dN ?_ _) | with_reducible exact Below.refl _ _ | (with_reducible refine Below.trans ?_ (Below.mono (by assumption) (by first | omega | (simp; done) | (simp; omega)))))) (hb5.mono (by first | omega | (simp; omega))))
  clear z0 z1 z2 z3 z4 y0 y1 y2 y3 y4 v0 v1 v2 v3 v4 s0 s1 s2 s3 s4 o0 o1 o2 o3 o4 p0 p1 p2 p3 p4 hk5 hn5 hi5 hb5
  have v0 := (blk5 e2).1
  have v1 := (blk5 e2).2.1
  have v2 := (blk5 e2).2.2.1
  have v3 := (blk5 e2).2.2.2.1
  have v4 := (blk5 e2).2.2.2.2.1
  have s0 := (blk5 e2).2.2.2.2.2.1
  have s1 := (blk5 e2).2.2.2.2.2.2.1
  have s2 := (blk5 e2).2.2.2.2.2.2.2.1
  have s3 := (blk5 e2).2.2.2.2.2.2.2.2.1
  have s4 := (blk5 e2).2.2.2.2.2.2.2.2.2
  have E2 := Lib.hid e2
  clear e2
  repeat (first | go_values | go_skip | go_guarded | go_step | go_upon | go_quiet (fail))
  refine bodyPost_ret (v := .tuple #[.agg #[.int .u32 R.1.g, .slice a5 R.1.ks.length c5, .int .i64 R.1.h, .int .i64 R.1.ty, .bool R.1.ap], .int .i64 R.2.1, .slice a6 R.2.2.length c6]) ?_ rfl ?_
  · simp only [results, Try.results20]
    go_simp
  · unfold ActPost
    rw [HR.out]
    have hbw := HB5.out
    refine ⟨a5, c5, a6, c6, rfl, keys_ret HP.out.1 E2.out, HP.out.2.1, ints_ret HP.out.2.2 E2.out, ?_⟩
    repeat (first | with_reducible assumption | (with_reducible refine Below.setCell ?_ (by first | omega | (simp; done) | (simp; omega)) _) | (with_reducible refine Below.alloc ?_ (by first | omega | (simp; done) | (simp; omega)) _) | (with_reducible refine Below.drew ?_) | (with_reducible refine below_dN ?_ _) | with_reducible exact Below.refl _ _ | (with_reducible refine Below.trans ?_ (Below.mono (by assumption) (by first | omega | (simp; done) | (simp; omega)))))
set_option maxRecDepth 100000 in
set_option maxHeartbeats 4000000 in
theorem ract_m (t : Tab) (n ac oty key other : Int) (oap : Bool) (a : Option Addr) (cap : Nat) (w : World) (hlen : t.ks.length ≤ 9223372036854775807) (h0 : 0 ≤ n) (h8 : n < 8) (hh : t.h < 8)
   (hk : KeysIn w a t.ks) (hn : a = none → cap = 0) (hty : (t.ty == 0) = false → 0 ≤ t.h) (g0 : decide (ac < 0) = false) (g6 : decide (6 < ac) = false) (a0 : (ac == 0) = false) (a6 : (ac == 6) = false) (qz : ((keysF t.ks).getD n.toNat 0 == 0) = true) :
    Calls Try.prog 20 #[.agg #[.int .u32 t.g, .slice a t.ks.length cap, .int .i64 t.h, .int .i64 t.ty, .bool t.ap], .int .i64 n, .agg #[.int .i64 (ac), .int .i64 oty, .int .u64 key, .int .u64 other, .bool oap]] w (ActPost (ractF t n (ac) oty key other oap) w) := by
  have Hqz := Lib.hid qz; clear qz
  have HK := Lib.hid hk; clear hk
  have HN := Lib.hid hn; clear hn
  go_enter Try.func20, Try.ntmps20
  go_wp2_with fail
  obtain ⟨b0, b1, b2⟩ := heap3 w (.cells #[.int .u32 t.g, .slice a t.ks.length cap, .int .i64 t.h, .int .i64 t.ty, .bool t.ap] 25) (.cells #[.int .i64 (ac), .int .i64 oty, .int .u64 key, .int .u64 other, .bool oap] 43) (.cells #[.int .u32 0, .slice none 0 0, .int .i64 0, .int .i64 0, .bool false] 25)
  refine (keys_any _ _ _ _ _ _ _ _ hlen (HK.out.below (by repeat (first | with_reducible assumption | (with_reducible refine Below.setCell ?_ (by first | omega | (simp; done) | (simp; omega)) _) | (with_reducible refine Below.alloc ?_ (by first | omega | (simp; done) | (simp; omega)) _) | (with_reducible refine Below.drew ?_) | (with_reducible refine below_dN ?_ _) | with_reducible exact Below.refl _ _ | (with_reducible refine Below.trans ?_ (Below.mono (by assumption) (by first | omega | (simp; done) | (simp; omega)))))))).mono ?_
  rintro e w1 ⟨rfl, hb⟩
  have hz1 := hb.size
  simp only [World.size_alloc] at hz1
  have c0 := (hb.block _ (by first | (simp; done) | (simp; omega))).trans b0
  have c1 := (hb.block _ (by first | (simp; done) | (simp; omega))).trans b1
  have c2 := (hb.block _ (by first | (simp; done) | (simp; omega))).trans b2
  have hbw : Below w.heap.size w w1 := by repeat (first | with_reducible assumption | (with_reducible refine Below.setCell ?_ (by first | omega | (simp; done) | (simp; omega)) _) | (with_reducible refine Below.alloc ?_ (by first | omega | (simp; done) | (simp; omega)) _) | (with_reducible refine Below.drew ?_) | (with_reducible refine below_dN ?_ _) | with_reducible exact Below.refl _ _ | (with_reducible refine Below.trans ?_ (Below.mono (by assumption) (by first | omega | (simp; done) | (simp; omega)))))
  clear b0 b1 b2 hb
  have hidx := fun w => idx8 (keysF t.ks) (keysF_length t.ks) n h0 h8 w
  have HX0 : Hid ((keysF t.ks).getD n.toNat 0 = (keysF t.ks).getD n.toNat 0) := Lib.hid rfl
  generalize hx : (keysF t.ks).getD n.toNat 0 = x at hidx
  have HX := Lib.hid hx
  clear hx HX0
  have HD := Lib.hid (And.intro c0 (And.intro c1 (And.intro c2 hbw)))
  have z0 := (blk5 c0).1
  have z1 := (blk5 c0).2.1
  have z2 := (blk5 c0).2.2.1
  have z3 := (blk5 c0).2.2.2.1
  have z4 := (blk5 c0).2.2.2.2.1
  have y0 := (blk5 c0).2.2.2.2.2.1
  have y1 := (blk5 c0).2.2.2.2.2.2.1
  have y2 := (blk5 c0).2.2.2.2.2.2.2.1
  have y3 := (blk5 c0).2.2.2.2.2.2.2.2.1
  have y4 := (blk5 c0).2.2.2.2.2.2.2.2.2
  have o0 := (blk5 c1).1
  have o1 := (blk5 c1).2.1
  have o2 := (blk5 c1).2.2.1
  have o3 := (blk5 c1).2.2.2.1
  have o4 := (blk5 c1).2.2.2.2.1
  have p0 := (blk5 c1).2.2.2.2.2.1
  have p1 := (blk5 c1).2.2.2.2.2.2.1
  have p2 := (blk5 c1).2.2.2.2.2.2.2.1
  have p3 := (blk5 c1).2.2.2.2.2.2.2.2.1
  have p4 := (blk5 c1).2.2.2.2.2.2.2.2.2
  have v0 := (blk5 c2).1
  have v1 := (blk5 c2).2.1
  have v2 := (blk5 c2).2.2.1
  have v3 := (blk5 c2).2.2.2.1
  have v4 := (blk5 c2).2.2.2.2.1
  have s0 := (blk5 c2).2.2.2.2.2.1
  have s1 := (blk5 c2).2.2.2.2.2.2.1
  have s2 := (blk5 c2).2.2.2.2.2.2.2.1
  have s3 := (blk5 c2).2.2.2.2.2.2.2.2.1
  have s4 := (blk5 c2).2.2.2.2.2.2.2.2.2
  clear c0 c1 c2 hbw
  have qz : (x == 0) = true := by have h := Hqz.out; rw [HX.out] at h; exact h
  dsimp only
  have HR : Hid (ractF t n (ac) oty key other oap = (t, 24, [])) := Lib.hid (by unfold ractF; first | (simp only [HX.out, g0, g6, a0, a6, qz]; rfl) | (simp only [HX.out]; simp [g0, g6, a0, a6, qz]; done))
  repeat (first | go_values | go_skip | go_guarded | go_step | go_upon | go_quiet (fail) | (simp only [Int.not_lt, Int.not_le] at *; go_simp) | (go_values <;> (try go_simp)) | (go_ite <;> go_prune <;> (try go_simp)))
  refine bodyPost_ret (v := .tuple #[.agg #[.int .u32 t.g, .slice a t.ks.length cap, .int .i64 t.h, .int .i64 t.ty, .bool t.ap], .int .i64 24, .slice none 0 0]) ?_ rfl ?_
  · simp only [results, Try.results20]
    go_simp
  · unfold ActPost
    rw [HR.out]
    have hbw := HD.out.2.2.2
    refine ⟨a, cap, none, 0, rfl, HK.out.below ?_, HN.out, IntsIn.nil _ _, ?_⟩
    all_goals repeat (first | with_reducible assumption | (with_reducible refine Below.setCell ?_ (by first | omega | (simp; done) | (simp; omega)) _) | (with_reducible refine Below.alloc ?_ (by first | omega | (simp; done) | (simp; omega)) _) | (with_reducible refine Below.drew ?_) | (with_reducible refine below_dN ?_ _) | with_reducible exact Below.refl _ _ | (with_reducible refine Below.trans ?_ (Below.mono (by assumption) (by first | omega | (simp; done) | (simp; omega)))))
set_option maxRecDepth 100000 in
set_option maxHeartbeats 4000000 in
theorem ract_n (t : Tab) (n ac oty key other : Int) (oap : Bool) (a : Option Addr) (cap : Nat) (w : World) (hlen : t.ks.length ≤ 9223372036854775807) (h0 : 0 ≤ n) (h8 : n < 8) (hh : t.h < 8)
   (hk : KeysIn w a t.ks) (hn : a = none → cap = 0) (hty : (t.ty == 0) = false → 0 ≤ t.h) (g0 : decide (ac < 0) = false) (g6 : decide (6 < ac) = false) (a0 : (ac == 0) = false) (a6 : (ac == 6) = false) (qz : ((keysF t.ks).getD n.toNat 0 == 0) = false) (qn : (key != (keysF t.ks).getD n.toNat 0) = true) :
    Calls Try.prog 20 #[.agg #[.int .u32 t.g, .slice a t.ks.length cap, .int .i64 t.h, .int .i64 t.ty, .bool t.ap], .int .i64 n, .agg #[.int .i64 (ac), .int .i64 oty, .int .u64 key, .int .u64 other, .bool oap]] w (ActPost (ractF t n (ac) oty key other oap) w) := by
  have Hqz := Lib.hid qz; clear qz
  have Hqn := Lib.hid qn; clear qn
  have HK := Lib.hid hk; clear hk
  have HN := Lib.hid hn; clear hn
  go_enter Try.func20, Try.ntmps20
  go_wp2_with fail
  obtain ⟨b0, b1, b2⟩ := heap3 w (.cells #[.int .u32 t.g, .slice a t.ks.length cap, .int .i64 t.h, .int .i64 t.ty, .bool t.ap] 25) (.cells #[.int .i64 (ac), .int .i64 oty, .int .u64 key, .int .u64 other, .bool oap] 43) (.cells #[.int .u32 0, .slice none 0 0, .int .i64 0, .int .i64 0, .bool false] 25)
  refine (keys_any _ _ _ _ _ _ _ _ hlen (HK.out.below (by repeat (first | with_reducible assumption | (with_reducible refine Below.setCell ?_ (by first | omega | (simp; done) | (simp; omega)) _) | (with_reducible refine Below.alloc ?_ (by first | omega | (simp; done) | (simp; omega)) _) | (with_reducible refine Below.drew ?_) | (with_reducible refine below_dN ?_ _) | with_reducible exact Below.refl _ _ | (with_reducible refine Below.trans ?_ (Below.mono (by assumption) (by first | omega | (simp; done) | (simp; omega)))))))).mono ?_
  rintro e w1 ⟨rfl, hb⟩
  have hz1 := hb.size
  simp only [World.size_alloc] at hz1
  have c0 := (hb.block _ (by first | (simp; done) | (simp; omega))).trans b0
  have c1 := (hb.block _ (by first | (simp; done) | (simp; omega))).trans b1
  have c2 := (hb.block _ (by first | (simp; done) | (simp; omega))).trans b2
  have hbw : Below w.heap.size w w1 := by repeat (first | with_reducible assumption | (with_reducible refine Below.setCell ?_ (by first | omega | (simp; done) | (simp; omega)) _) | (with_reducible refine Below.alloc ?_ (by first | omega | (simp; done) | (simp; omega)) _) | (with_reducible refine Below.drew ?_) | (with_reducible refine below_dN ?_ _) | with_reducible exact Below.refl _ _ | (with_reducible refine Below.trans ?_ (Below.mono (by assumption) (by first | omega | (simp; done) | (simp; omega)))))
  clear b0 b1 b2 hb
  have hidx := fun w => idx8 (keysF t.ks) (keysF_length t.ks) n h0 h8 w
  have HX0 : Hid ((keysF t.ks).getD n.toNat 0 = (keysF t.ks).getD n.toNat 0) := Lib.hid rfl
  generalize hx : (keysF t.ks).getD n.toNat 0 = x at hidx
  have HX := Lib.hid hx
  clear hx HX0
  have HD := Lib.hid (And.intro c0 (And.intro c1 (And.intro c2 hbw)))
  have z0 := (blk5 c0).1
  have z1 := (blk5 c0).2.1
  have z2 := (blk5 c0).2.2.1
  have z3 := (blk5 c0).2.2.2.1
  have z4 := (blk5 c0).2.2.2.2.1
  have y0 := (blk5 c0).2.2.2.2.2.1
  have y1 := (blk5 c0).2.2.2.2.2.2.1
  have y2 := (blk5 c0).2.2.2.2.2.2.2.1
  have y3 := (blk5 c0).2.2.2.2.2.2.2.2.1
  have y4 := (blk5 c0).2.2.2.2.2.2.2.2.2
  have o0 := (blk5 c1).1
  have o1 := (blk5 c1).2.1
  have o2 := (blk5 c1).2.2.1
  have o3 := (blk5 c1).2.2.2.1
  have o4 := (blk5 c1).2.2.2.2.1
  have p0 := (blk5 c1).2.2.2.2.2.1
  have p1 := (blk5 c1).2.2.2.2.2.2.1
  have p2 := (blk5 c1).2.2.2.2.2.2.2.1
  have p3 := (blk5 c1).2.2.2.2.2.2.2.2.1
  have p4 := (blk5 c1).2.2.2.2.2.2.2.2.2
  have v0 := (blk5 c2).1
  have v1 := (blk5 c2).2.1
  have v2 := (blk5 c2).2.2.1
  have v3 := (blk5 c2).2.2.2.1
  have v4 := (blk5 c2).2.2.2.2.1
  have s0 := (blk5 c2).2.2.2.2.2.1
  have s1 := (blk5 c2).2.2.2.2.2.2.1
  have s2 := (blk5 c2).2.2.2.2.2.2.2.1
  have s3 := (blk5 c2).2.2.2.2.2.2.2.2.1
  have s4 := (blk5 c2).2.2.2.2.2.2.2.2.2
  clear c0 c1 c2 hbw
  have qz : (x == 0) = false := by have h := Hqz.out; rw [HX.out] at h; exact h
  have qn : (key != x) = true := by have h := Hqn.out; rw [HX.out] at h; exact h
  dsimp only
  have HR : Hid (ractF t n (ac) oty key other oap = (t, 24, [])) := Lib.hid (by unfold ractF; first | (simp only [HX.out, g0, g6, a0, a6, qz, qn]; rfl) | (simp only [HX.out]; simp [g0, g6, a0, a6, qz, qn]; done))
  repeat (first | go_values | go_skip | go_guarded | go_step | go_upon | go_quiet (fail) | (simp only [Int.not_lt, Int.not_le] at *; go_simp) | (go_values <;> (try go_simp)) | (go_ite <;> go_prune <;> (try go_simp)))
  refine bodyPost_ret (v := .tuple #[.agg #[.int .u32 t.g, .slice a t.ks.length cap, .int .i64 t.h, .int .i64 t.ty, .bool t.ap], .int .i64 24, .slice none 0 0]) ?_ rfl ?_
  · simp only [results, Try.results20]
    go_simp
  · unfold ActPost
    rw [HR.out]
    have hbw := HD.out.2.2.2
    refine ⟨a, cap, none, 0, rfl, HK.out.below ?_, HN.out, IntsIn.nil _ _, ?_⟩
    all_goals repeat (first | with_reducible assumption | (with_reducible refine Below.setCell ?_ (by first | omega | (simp; done) | (simp; omega)) _) | (with_reducible refine Below.alloc ?_ (by first | omega | (simp; done) | (simp; omega)) _) | (with_reducible refine Below.drew ?_) | (with_reducible refine below_dN ?_ _) | with_reducible exact Below.refl _ _ | (with_reducible refine Below.trans ?_ (Below.mono (by assumption) (by first | omega | (simp; done) | (simp; omega)))))
set_option maxRecDepth 100000 in
set_option maxHeartbeats 4000000 in
theorem ract_4p (t : Tab) (n oty key other : Int) (oap : Bool) (a : Option Addr) (cap : Nat) (w : World) (hlen : t.ks.length ≤ 9223372036854775807) (h0 : 0 ≤ n) (h8 : n < 8) (hh : t.h < 8)
   (hk : KeysIn w a t.ks) (hn : a = none → cap = 0) (hty : (t.ty == 0) = false → 0 ≤ t.h) (qz : ((keysF t.ks).getD n.toNat 0 == 0) = false) (qn : (key != (keysF t.ks).getD n.toNat 0) = false) :
    Calls Try.prog 20 #[.agg #[.int .u32 t.g, .slice a t.ks.length cap, .int .i64 t.h, .int .i64 t.ty, .bool t.ap], .int .i64 n, .agg #[.int .i64 (4), .int .i64 oty, .int .u64 key, .int .u64 other, .bool oap]] w (ActPost (ractF t n (4) oty key other oap) w) := by
  have Hqz := Lib.hid qz; clear qz
  have Hqn := Lib.hid qn; clear qn
  have HK := Lib.hid hk; clear hk
  have HN := Lib.hid hn; clear hn
  go_enter Try.func20, Try.ntmps20
  go_wp2_with fail
  obtain ⟨b0, b1, b2⟩ := heap3 w (.cells #[.int .u32 t.g, .slice a t.ks.length cap, .int .i64 t.h, .int .i64 t.ty, .bool t.ap] 25) (.cells #[.int .i64 (4), .int .i64 oty, .int .u64 key, .int .u64 other, .bool oap] 43) (.cells #[.int .u32 0, .slice none 0 0, .int .i64 0, .int .i64 0, .bool false] 25)
  refine (keys_any _ _ _ _ _ _ _ _ hlen (HK.out.below (by repeat (first | with_reducible assumption | (with_reducible refine Below.setCell ?_ (by first | omega | (simp; done) | (simp; omega)) _) | (with_reducible refine Below.alloc ?_ (by first | omega | (simp; done) | (simp; omega)) _) | (with_reducible refine Below.drew ?_) | (with_reducible refine below_dN ?_ _) | with_reducible exact Below.refl _ _ | (with_reducible refine Below.trans ?_ (Below.mono (by assumption) (by first | omega | (simp; done) | (simp; omega)))))))).mono ?_
  rintro e w1 ⟨rfl, hb⟩
  have hz1 := hb.size
  simp only [World.size_alloc] at hz1
  have c0 := (hb.block _ (by first | (simp; done) | (simp; omega))).trans b0
  have c1 := (hb.block _ (by first | (simp; done) | (simp; omega))).trans b1
  have c2 := (hb.block _ (by first | (simp; done) | (simp; omega))).trans b2
  have hbw : Below w.heap.size w w1 := by repeat (first | with_reducible assumption | (with_reducible refine Below.setCell ?_ (by first | omega | (simp; done) | (simp; omega)) _) | (with_reducible refine Below.alloc ?_ (by first | omega | (simp; done) | (simp; omega)) _) | (with_reducible refine Below.drew ?_) | (with_reducible refine below_dN ?_ _) | with_reducible exact Below.refl _ _ | (with_reducible refine Below.trans ?_ (Below.mono (by assumption) (by first | omega | (simp; done) | (simp; omega)))))
  clear b0 b1 b2 hb
  have hidx := fun w => idx8 (keysF t.ks) (keysF_length t.ks) n h0 h8 w
  have HX0 : Hid ((keysF t.ks).getD n.toNat 0 = (keysF t.ks).getD n.toNat 0) := Lib.hid rfl
  generalize hx : (keysF t.ks).getD n.toNat 0 = x at hidx
  have HX := Lib.hid hx
  clear hx HX0
  have HD := Lib.hid (And.intro c0 (And.intro c1 (And.intro c2 hbw)))
  have z0 := (blk5 c0).1
  have z1 := (blk5 c0).2.1
  have z2 := (blk5 c0).2.2.1
  have z3 := (blk5 c0).2.2.2.1
  have z4 := (blk5 c0).2.2.2.2.1
  have y0 := (blk5 c0).2.2.2.2.2.1
  have y1 := (blk5 c0).2.2.2.2.2.2.1
  have y2 := (blk5 c0).2.2.2.2.2.2.2.1
  have y3 := (blk5 c0).2.2.2.2.2.2.2.2.1
  have y4 := (blk5 c0).2.2.2.2.2.2.2.2.2
  have o0 := (blk5 c1).1
  have o1 := (blk5 c1).2.1
  have o2 := (blk5 c1).2.2.1
  have o3 := (blk5 c1).2.2.2.1
  have o4 := (blk5 c1).2.2.2.2.1
  have p0 := (blk5 c1).2.2.2.2.2.1
  have p1 := (blk5 c1).2.2.2.2.2.2.1
  have p2 := (blk5 c1).2.2.2.2.2.2.2.1
  have p3 := (blk5 c1).2.2.2.2.2.2.2.2.1
  have p4 := (blk5 c1).2.2.2.2.2.2.2.2.2
  have v0 := (blk5 c2).1
  have v1 := (blk5 c2).2.1
  have v2 := (blk5 c2).2.2.1
  have v3 := (blk5 c2).2.2.2.1
  have v4 := (blk5 c2).2.2.2.2.1
  have s0 := (blk5 c2).2.2.2.2.2.1
  have s1 := (blk5 c2).2.2.2.2.2.2.1
  have s2 := (blk5 c2).2.2.2.2.2.2.2.1
  have s3 := (blk5 c2).2.2.2.2.2.2.2.2.1
  have s4 := (blk5 c2).2.2.2.2.2.2.2.2.2
  clear c0 c1 c2 hbw
  have qz : (x == 0) = false := by have h := Hqz.out; rw [HX.out] at h; exact h
  have qn : (key != x) = false := by have h := Hqn.out; rw [HX.out] at h; exact h
  dsimp only
  have HR : Hid (ractF t n (4) oty key other oap = rpreF t n oty other) := Lib.hid (by unfold ractF; first | (simp only [HX.out, qz, qn]; rfl) | (simp only [HX.out]; simp [qz, qn]; done))
  repeat (first | go_values | go_skip | go_guarded | go_step | go_upon | go_quiet (fail) | (simp only [Int.not_lt, Int.not_le] at *; go_simp) | (go_values <;> (try go_simp)) | (go_ite <;> go_prune <;> (try go_simp)))
  refine (rpre_any t n 4 oty key other oap a cap _ hlen h0 h8 hh (HK.out.below (by have hbw := HD.out.2.2.2; repeat (first | with_reducible assumption | (with_reducible refine Below.setCell ?_ (by first | omega | (simp; done) | (simp; omega)) _) | (with_reducible refine Below.alloc ?_ (by first | omega | (simp; done) | (simp; omega)) _) | (with_reducible refine Below.drew ?_) | (with_reducible refine below_dN ?_ _) | with_reducible exact Below.refl _ _ | (with_reducible refine Below.trans ?_ (Below.mono (by assumption) (by first | omega | (simp; done) | (simp; omega))))))) HN.out hty).mono ?_
  rintro e w3 hp
  unfold ActPost at hp
  obtain ⟨a5, c5, a6, c6, rfl, hk5, hn5, hi5, hb5⟩ := hp
  dsimp only
  have hl2 : w.heap.size + 1 + 1 < w1.heap.size := (Array.getElem?_eq_some_iff.1 HD.out.2.2.1).1
  have hsz5 := hb5.size
  generalize rpreF t n oty other = R at hk5 hn5 hi5 HR ⊢
  have HP := Lib.hid (And.intro hk5 (And.intro hn5 hi5))
  have e2 := (hb5.block (w.heap.size + 1 + 1) (by first | exact hl2 | (simp; exact hl2))).trans HD.out.2.2.1
  have HB5 : Hid (Below w.heap.size w w3) := Lib.hid (Below.trans (by have hbw := HD.out.2.2.2; repeat (first | with_reducible assumption | (with_reducible refine Below.setCell ?_ (by first | omega | (simp; done) | (simp; omega)) _) | (with_reducible refine Below.alloc ?_ (by first | omega | (simp; done) | (simp; omega)) _) | (with_reducible refine Below.drew ?_) | (with_reducible refine below_dN ?_ _) | with_reducible exact Below.refl _ _ | (with_reducible refine Below.trans ?_ (Below.mono (by assumption) (by first | omega | (simp; done) | (simp; omega)))))) (hb5.mono (by first | omega | (simp; omega))))
  clear z0 z1 z2 z3 z4 y0 y1 y2 y3 y4 v0 v1 v2 v3 v4 s0 s1 s2 s3 s4 o0 o1 o2 o3 o4 p0 p1 p2 p3 p4 hk5 hn5 hi5 hb5
  have v0 := (blk5 e2).1
  have v1 := (blk5 e2).2.1
  have v2 := (blk5 e2).2.2.1
  have v3 := (blk5 e2).2.2.2.1
  have v4 := (blk5 e2).2.2.2.2.1
  have s0 := (blk5 e2).2.2.2.2.2.1
  have s1 := (blk5 e2).2.2.2.2.2.2.1
  have s2 := (blk5 e2).2.2.2.2.2.2.2.1
  have s3 := (blk5 e2).2.2.2.2.2.2.2.2.1
  have s4 := (blk5 e2).2.2.2.2.2.2.2.2.2
  have E2 := Lib.hid e2
  clear e2
  repeat (first | go_values | go_skip | go_guarded | go_step | go_upon | go_quiet (fail))
  refine bodyPost_ret (v := .tuple #[.agg #[.int .u32 R.1.g, .slice a5 R.1.ks.length c5, .int .i64 R.1.h, .int .i64 R.1.ty, .bool R.1.ap], .int .i64 R.2.1, .slice a6 R.2.2.length c6]) ?_ rfl ?_
  · simp only [results, Try.results20]
    go_simp
  · unfold ActPost
    rw [HR.out]
    have hbw := HB5.out
    refine ⟨a5, c5, a6, c6, rfl, keys_ret HP.out.1 E2.out, HP.out.2.1, ints_ret HP.out.2.2 E2.out, ?_⟩
    repeat (first | with_reducible assumption | (with_reducible refine Below.setCell ?_ (by first | omega | (simp; done) | (simp; omega)) _) | (with_reducible refine Below.alloc ?_ (by first | omega | (simp; done) | (simp; omega)) _) | (with_reducible refine Below.drew ?_) | (with_reducible refine below_dN ?_ _) | with_reducible exact Below.refl _ _ | (with_reducible refine Below.trans ?_ (Below.mono (by assumption) (by first | omega | (simp; done) | (simp; omega)))))
set_option maxRecDepth 100000 in
set_option maxHeartbeats 4000000 in
theorem ract_5p (t : Tab) (n oty key other : Int) (oap : Bool) (a : Option Addr) (cap : Nat) (w : World) (hlen : t.ks.length ≤ 9223372036854775807) (h0 : 0 ≤ n) (h8 : n < 8) (hh : t.h < 8)
   (hk : KeysIn w a t.ks) (hn : a = none → cap = 0) (hty : (t.ty == 0) = false → 0 ≤ t.h) (qz : ((keysF t.ks).getD n.toNat 0 == 0) = false) (qn : (key != (keysF t.ks).getD n.toNat 0) = false) :
    Calls Try.prog 20 #[.agg #[.int .u32 t.g, .slice a t.ks.length cap, .int .i64 t.h, .int .i64 t.ty, .bool t.ap], .int .i64 n, .agg #[.int .i64 (5), .int .i64 oty, .int .u64 key, .int .u64 other, .bool oap]] w (ActPost (ractF t n (5) oty key other oap) w) := by
  have Hqz := Lib.hid qz; clear qz
  have Hqn := Lib.hid qn; clear qn
  have HK := Lib.hid hk; clear hk
  have HN := Lib.hid hn; clear hn
  go_enter Try.func20, Try.ntmps20
  go_wp2_with fail
  obtain ⟨b0, b1, b2⟩ := heap3 w (.cells #[.int .u32 t.g, .slice a t.ks.length cap, .int .i64 t.h, .int .i64 t.ty, .bool t.ap] 25) (.cells #[.int .i64 (5), .int .i64 oty, .int .u64 key, .int .u64 other, .bool oap] 43) (.cells #[.int .u32 0, .slice none 0 0, .int .i64 0, .int .i64 0, .bool false] 25)
  refine (keys_any _ _ _ _ _ _ _ _ hlen (HK.out.below (by repeat (first | with_reducible assumption | (with_reducible refine Below.setCell ?_ (by first | omega | (simp; done) | (simp; omega)) _) | (with_reducible refine Below.alloc ?_ (by first | omega | (simp; done) | (simp; omega)) _) | (with_reducible refine Below.drew ?_) | (with_reducible refine below_dN ?_ _) | with_reducible exact Below.refl _ _ | (with_reducible refine Below.trans ?_ (Below.mono (by assumption) (by first | omega | (simp; done) | (simp; omega)))))))).mono ?_
  rintro e w1 ⟨rfl, hb⟩
  have hz1 := hb.size
  simp only [World.size_alloc] at hz1
  have c0 := (hb.block _ (by first | (simp; done) | (simp; omega))).trans b0
  have c1 := (hb.block _ (by first | (simp; done) | (simp; omega))).trans b1
  have c2 := (hb.block _ (by first | (simp; done) | (simp; omega))).trans b2
  have hbw : Below w.heap.size w w1 := by repeat (first | with_reducible assumption | (with_reducible refine Below.setCell ?_ (by first | omega | (simp; done) | (simp; omega)) _) | (with_reducible refine Below.alloc ?_ (by first | omega | (simp; done) | (simp; omega)) _) | (with_reducible refine Below.drew ?_) | (with_reducible refine below_dN ?_ _) | with_reducible exact Below.refl _ _ | (with_reducible refine Below.trans ?_ (Below.mono (by assumption) (by first | omega | (simp; done) | (simp; omega)))))
  clear b0 b1 b2 hb
  have hidx := fun w => idx8 (keysF t.ks) (keysF_length t.ks) n h0 h8 w
  have HX0 : Hid ((keysF t.ks).getD n.toNat 0 = (keysF t.ks).getD n.toNat 0) := Lib.hid rfl
  generalize hx : (keysF t.ks).getD n.toNat 0 = x at hidx
  have HX := Lib.hid hx
  clear hx HX0
  have HD := Lib.hid (And.intro c0 (And.intro c1 (And.intro c2 hbw)))
  have z0 := (blk5 c0).1
  have z1 := (blk5 c0).2.1
  have z2 := (blk5 c0).2.2.1
  have z3 := (blk5 c0).2.2.2.1
  have z4 := (blk5 c0).2.2.2.2.1
  have y0 := (blk5 c0).2.2.2.2.2.1
  have y1 := (blk5 c0).2.2.2.2.2.2.1
  have y2 := (blk5 c0).2.2.2.2.2.2.2.1
  have y3 := (blk5 c0).2.2.2.2.2.2.2.2.1
  have y4 := (blk5 c0).2.2.2.2.2.2.2.2.2
  have o0 := (blk5 c1).1
  have o1 := (blk5 c1).2.1
  have o2 := (blk5 c1).2.2.1
  have o3 := (blk5 c1).2.2.2.1
  have o4 := (blk5 c1).2.2.2.2.1
  have p0 := (blk5 c1).2.2.2.2.2.1
  have p1 := (blk5 c1).2.2.2.2.2.2.1
  have p2 := (blk5 c1).2.2.2.2.2.2.2.1
  have p3 := (blk5 c1).2.2.2.2.2.2.2.2.1
  have p4 := (blk5 c1).2.2.2.2.2.2.2.2.2
  have v0 := (blk5 c2).1
  have v1 := (blk5 c2).2.1
  have v2 := (blk5 c2).2.2.1
  have v3 := (blk5 c2).2.2.2.1
  have v4 := (blk5 c2).2.2.2.2.1
  have s0 := (blk5 c2).2.2.2.2.2.1
  have s1 := (blk5 c2).2.2.2.2.2.2.1
  have s2 := (blk5 c2).2.2.2.2.2.2.2.1
  have s3 := (blk5 c2).2.2.2.2.2.2.2.2.1
  have s4 := (blk5 c2).2.2.2.2.2.2.2.2.2
  clear c0 c1 c2 hbw
  have qz : (x == 0) = false := by have h := Hqz.out; rw [HX.out] at h; exact h
  have qn : (key != x) = false := by have h := Hqn.out; rw [HX.out] at h; exact h
  dsimp only
  have HR : Hid (ractF t n (5) oty key other oap = rpreF t n oty other) := Lib.hid (by unfold ractF; first | (simp only [HX.out, qz, qn]; rfl) | (simp only [HX.out]; simp [qz, qn]; done))
  repeat (first | go_values | go_skip | go_guarded | go_step | go_upon | go_quiet (fail) | (simp only [Int.not_lt, Int.not_le] at *; go_simp) | (go_values <;> (try go_simp)) | (go_ite <;> go_prune <;> (try go_simp)))
  refine (rpre_any t n 5 oty key other oap a cap _ hlen h0 h8 hh (HK.out.below (by have hbw := HD.out.2.2.2; repeat (first | with_reducible assumption | (with_reducible refine Below.setCell ?_ (by first | omega | (simp; done) | (simp; omega)) _) | (with_reducible refine Below.alloc ?_ (by first | omega | (simp; done) | (simp; omega)) _) | (with_reducible refine Below.drew ?_) | (with_reducible refine below_dN ?_ _) | with_reducible exact Below.refl _ _ | (with_reducible refine Below.trans ?_ (Below.mono (by assumption) (by first | omega | (simp; done) | (simp; omega))))))) HN.out hty).mono ?_
  rintro e w3 hp
  unfold ActPost at hp
  obtain ⟨a5, c5, a6, c6, rfl, hk5, hn5, hi5, hb5⟩ := hp
  dsimp only
  have hl2 : w.heap.size + 1 + 1 < w1.heap.size := (Array.getElem?_eq_some_iff.1 HD.out.2.2.1).1
  have hsz5 := hb5.size
  generalize rpreF t n oty other = R at hk5 hn5 hi5 HR ⊢
  have HP := Lib.hid (And.intro hk5 (And.intro hn5 hi5))
  have e2 := (hb5.block (w.heap.size + 1 + 1) (by first | exact hl2 | (simp; exact hl2))).trans HD.out.2.2.1
  have HB5 : Hid (Below w.heap.size w w3) := Lib.hid (Below.trans (by have hbw := HD.out.2.2.2; repeat (first | with_reducible assumption | (with_reducible refine Below.setCell ?_ (by first | omega | (simp; done) | (simp; omega)) _) | (with_reducible refine Below.alloc ?_ (by first | omega | (simp; done) | (simp; omega)) _) | (with_reducible refine Below.drew ?_) | (with_reducible refine below_dN ?_ _) | with_reducible exact Below.refl _ _ | (with_reducible refine Below.trans ?_ (Below.mono (by assumption) (by first | omega | (simp; done) | (simp; omega)))))) (hb5.mono (by first | omega | (simp; omega))))
  clear z0 z1 z2 z3 z4 y0 y1 y2 y3 y4 v0 v1 v2 v3 v4 s0 s1 s2 s3 s4 o0 o1 o2 o3 o4 p0 p1 p2 p3 p4 hk5 hn5 hi5 hb5
  have v0 := (blk5 e2).1
  have v1 := (blk5 e2).2.1
  have v2 := (blk5 e2).2.2.1
  have v3 := (blk5 e2).2.2.2.1
  have v4 := (blk5 e2).2.2.2.2.1
  have s0 := (blk5 e2).2.2.2.2.2.1
  have s1 := (blk5 e2).2.2.2.2.2.2.1
  have s2 := (blk5 e2).2.2.2.2.2.2.2.1
  have s3 := (blk5 e2).2.2.2.2.2.2.2.2.1
  have s4 := (blk5 e2).2.2.2.2.2.2.2.2.2
  have E2 := Lib.hid e2
  clear e2
  repeat (first | go_values | go_skip | go_guarded | go_step | go_upon | go_quiet (fail))
  refine bodyPost_ret (v := .tuple #[.agg #[.int .u32 R.1.g, .slice a5 R.1.ks.length c5, .int .i64 R.1.h, .int .i64 R.1.ty, .bool R.1.ap], .int .i64 R.2.1, .slice a6 R.2.2.length c6]) ?_ rfl ?_
  · simp only [results, Try.results20]
    go_simp
  · unfold ActPost
    rw [HR.out]
    have hbw := HB5.out
    refine ⟨a5, c5, a6, c6, rfl, keys_ret HP.out.1 E2.out, HP.out.2.1, ints_ret HP.out.2.2 E2.out, ?_⟩
    repeat (first | with_reducible assumption | (with_reducible refine Below.setCell ?_ (by first | omega | (simp; done) | (simp; omega)) _) | (with_reducible refine Below.alloc ?_ (by first | omega | (simp; done) | (simp; omega)) _) | (with_reducible refine Below.drew ?_) | (with_reducible refine below_dN ?_ _) | with_reducible exact Below.refl _ _ | (with_reducible refine Below.trans ?_ (Below.mono (by assumption) (by first | omega | (simp; done) | (simp; omega)))))
end Go.Proofs.Ytopakonpfbbldaa
namespace Go.Proofs.Ytopakonpfbbldaa
open Go.RowKit

set_option maxRecDepth 100000 in
set_option maxHeartbeats 4000000 in
theorem ract_1u (t : Tab) (n oty key other : Int) (oap : Bool) (a : Option Addr) (cap : Nat) (w : World) (hlen : t.ks.length ≤ 9223372036854775807) (h0 : 0 ≤ n) (h8 : n < 8) (hh : t.h < 8)
   (hk : KeysIn w a t.ks) (hn : a = none → cap = 0) (hty : (t.ty == 0) = false → 0 ≤ t.h) (qz : ((keysF t.ks).getD n.toNat 0 == 0) = false) (qn : (key != (keysF t.ks).getD n.toNat 0) = false) (qk : knownF oty = false) :
    Calls Try.prog 20 #[.agg #[.int .u32 t.g, .slice a t.ks.length cap, .int .i64 t.h, .int .i64 t.ty, .bool t.ap], .int .i64 n, .agg #[.int .i64 (1), .int .i64 oty, .int .u64 key, .int .u64 other, .bool oap]] w (ActPost (ractF t n (1) oty key other oap) w) := by
  have Hqz := Lib.hid qz; clear qz
  have Hqn := Lib.hid qn; clear qn
  have HK := Lib.hid hk; clear hk
  have HN := Lib.hid hn; clear hn
  go_enter Try.func20, Try.ntmps20
  go_wp2_with fail
  obtain ⟨b0, b1, b2⟩ := heap3 w (.cells #[.int .u32 t.g, .slice a t.ks.length cap, .int .i64 t.h, .int .i64 t.ty, .bool t.ap] 25) (.cells #[.int .i64 (1), .int .i64 oty, .int .u64 key, .int .u64 other, .bool oap] 43) (.cells #[.int .u32 0, .slice none 0 0, .int .i64 0, .int .i64 0, .bool false] 25)
  refine (keys_any _ _ _ _ _ _ _ _ hlen (HK.out.below (by repeat (first | with_reducible assumption | (with_reducible refine Below.setCell ?_ (by first | omega | (simp; done) | (simp; omega)) _) | (with_reducible refine Below.alloc ?_ (by first | omega | (simp; done) | (simp; omega)) _) | (with_reducible refine Below.drew ?_) | (with_reducible refine below_dN ?_ _) | with_reducible exact Below.refl _ _ | (with_reducible refine Below.trans ?_ (Below.mono (by assumption) (by first | omega | (simp; done) | (simp; omega)))))))).mono ?_
  rintro e w1 ⟨rfl, hb⟩
  have hz1 := hb.size
  simp only [World.size_alloc] at hz1
  have c0 := (hb.block _ (by first | (simp; done) | (simp; omega))).trans b0
  have c1 := (hb.block _ (by first | (simp; done) | (simp; omega))).trans b1
  have c2 := (hb.block _ (by first | (simp; done) | (simp; omega))).trans b2
  have hbw : Below w.heap.size w w1 := by repeat (first | with_reducible assumption | (with_reducible refine Below.setCell ?_ (by first | omega | (simp; done) | (simp; omega)) _) | (with_reducible refine Below.alloc ?_ (by first | omega | (simp; done) | (simp; omega)) _) | (with_reducible refine Below.drew ?_) | (with_reducible refine below_dN ?_ _) | with_reducible exact Below.refl _ _ | (with_reducible refine Below.trans ?_ (Below.mono (by assumption) (by first | omega | (simp; done) | (simp; omega)))))
  clear b0 b1 b2 hb
  have hidx := fun w => idx8 (keysF t.ks) (keysF_length t.ks) n h0 h8 w
  have HX0 : Hid ((keysF t.ks).getD n.toNat 0 = (keysF t.ks).getD n.toNat 0) := Lib.hid rfl
  generalize hx : (keysF t.ks).getD n.toNat 0 = x at hidx
  have HX := Lib.hid hx
  clear hx HX0
  have HD := Lib.hid (And.intro c0 (And.intro c1 (And.intro c2 hbw)))
  have z0 := (blk5 c0).1
  have z1 := (blk5 c0).2.1
  have z2 := (blk5 c0).2.2.1
  have z3 := (blk5 c0).2.2.2.1
  have z4 := (blk5 c0).2.2.2.2.1
  have y0 := (blk5 c0).2.2.2.2.2.1
  have y1 := (blk5 c0).2.2.2.2.2.2.1
  have y2 := (blk5 c0).2.2.2.2.2.2.2.1
  have y3 := (blk5 c0).2.2.2.2.2.2.2.2.1
  have y4 := (blk5 c0).2.2.2.2.2.2.2.2.2
  have o0 := (blk5 c1).1
  have o1 := (blk5 c1).2.1
  have o2 := (blk5 c1).2.2.1
  have o3 := (blk5 c1).2.2.2.1
  have o4 := (blk5 c1).2.2.2.2.1
  have p0 := (blk5 c1).2.2.2.2.2.1
  have p1 := (blk5 c1).2.2.2.2.2.2.1
  have p2 := (blk5 c1).2.2.2.2.2.2.2.1
  have p3 := (blk5 c1).2.2.2.2.2.2.2.2.1
  have p4 := (blk5 c1).2.2.2.2.2.2.2.2.2
  have v0 := (blk5 c2).1
  have v1 := (blk5 c2).2.1
  have v2 := (blk5 c2).2.2.1
  have v3 := (blk5 c2).2.2.2.1
  have v4 := (blk5 c2).2.2.2.2.1
  have s0 := (blk5 c2).2.2.2.2.2.1
  have s1 := (blk5 c2).2.2.2.2.2.2.1
  have s2 := (blk5 c2).2.2.2.2.2.2.2.1
  have s3 := (blk5 c2).2.2.2.2.2.2.2.2.1
  have s4 := (blk5 c2).2.2.2.2.2.2.2.2.2
  clear c0 c1 c2 hbw
  have qz : (x == 0) = false := by have h := Hqz.out; rw [HX.out] at h; exact h
  have qn : (key != x) = false := by have h := Hqn.out; rw [HX.out] at h; exact h
  dsimp only
  have HR : Hid (ractF t n (1) oty key other oap = (t, 2, [])) := Lib.hid (by unfold ractF; first | (simp only [HX.out, qz, qn, qk]; rfl) | (simp only [HX.out]; simp [qz, qn, qk]; done))
  repeat (first | go_values | go_skip | go_guarded | go_step | go_upon | go_quiet (fail) | (simp only [Int.not_lt, Int.not_le] at *; go_simp) | (go_values <;> (try go_simp)) | (go_ite <;> go_prune <;> (try go_simp)))
  refine (rknown_any oty _).mono ?_
  rintro e wk ⟨rfl, hwk⟩
  subst hwk
  dsimp only
  rw [qk]
  repeat (first | go_values | go_skip | go_guarded | go_step | go_upon | go_quiet (fail) | (simp only [Int.not_lt, Int.not_le] at *; go_simp) | (go_values <;> (try go_simp)) | (go_ite <;> go_prune <;> (try go_simp)))
  refine bodyPost_ret (v := .tuple #[.agg #[.int .u32 (t.g), .slice a t.ks.length cap, .int .i64 (t.h), .int .i64 (t.ty), .bool t.ap], .int .i64 2, .slice none 0 0]) ?_ rfl ?_
  · simp only [results, Try.results20]
    go_simp
  · unfold ActPost
    rw [HR.out]
    have hbw := HD.out.2.2.2
    refine ⟨a, cap, none, 0, rfl, HK.out.below ?_, HN.out, IntsIn.nil _ _, ?_⟩
    all_goals repeat (first | with_reducible assumption | (with_reducible refine Below.setCell ?_ (by first | omega | (simp; done) | (simp; omega)) _) | (with_reducible refine Below.alloc ?_ (by first | omega | (simp; done) | (simp; omega)) _) | (with_reducible refine Below.drew ?_) | (with_reducible refine below_dN ?_ _) | with_reducible exact Below.refl _ _ | (with_reducible refine Below.trans ?_ (Below.mono (by assumption) (by first | omega | (simp; done) | (simp; omega)))))
set_option maxRecDepth 100000 in
set_option maxHeartbeats 4000000 in
theorem ract_1s (t : Tab) (n oty key other : Int) (oap : Bool) (a : Option Addr) (cap : Nat) (w : World) (hlen : t.ks.length ≤ 9223372036854775807) (h0 : 0 ≤ n) (h8 : n < 8) (hh : t.h < 8)
   (hk : KeysIn w a t.ks) (hn : a = none → cap = 0) (hty : (t.ty == 0) = false → 0 ≤ t.h) (qz : ((keysF t.ks).getD n.toNat 0 == 0) = false) (qn : (key != (keysF t.ks).getD n.toNat 0) = false) (qk : knownF oty = true) (cz : (t.ty == 0) = true) :
    Calls Try.prog 20 #[.agg #[.int .u32 t.g, .slice a t.ks.length cap, .int .i64 t.h, .int .i64 t.ty, .bool t.ap], .int .i64 n, .agg #[.int .i64 (1), .int .i64 oty, .int .u64 key, .int .u64 other, .bool oap]] w (ActPost (ractF t n (1) oty key other oap) w) := by
  have Hqz := Lib.hid qz; clear qz
  have Hqn := Lib.hid qn; clear qn
  have HK := Lib.hid hk; clear hk
  have HN := Lib.hid hn; clear hn
  go_enter Try.func20, Try.ntmps20
  go_wp2_with fail
  obtain ⟨b0, b1, b2⟩ := heap3 w (.cells #[.int .u32 t.g, .slice a t.ks.length cap, .int .i64 t.h, .int .i64 t.ty, .bool t.ap] 25) (.cells #[.int .i64 (1), .int .i64 oty, .int .u64 key, .int .u64 other, .bool oap] 43) (.cells #[.int .u32 0, .slice none 0 0, .int .i64 0, .int .i64 0, .bool false] 25)
  refine (keys_any _ _ _ _ _ _ _ _ hlen (HK.out.below (by repeat (first | with_reducible assumption | (with_reducible refine Below.setCell ?_ (by first | omega | (simp; done) | (simp; omega)) _) | (with_reducible refine Below.alloc ?_ (by first | omega | (simp; done) | (simp; omega)) _) | (with_reducible refine Below.drew ?_) | (with_reducible refine below_dN ?_ _) | with_reducible exact Below.refl _ _ | (with_reducible refine Below.trans ?_ (Below.mono (by assumption) (by first | omega | (simp; done) | (simp; omega)))))))).mono ?_
  rintro e w1 ⟨rfl, hb⟩
  have hz1 := hb.size
  simp only [World.size_alloc] at hz1
  have c0 := (hb.block _ (by first | (simp; done) | (simp; omega))).trans b0
  have c1 := (hb.block _ (by first | (simp; done) | (simp; omega))).trans b1
  have c2 := (hb.block _ (by first | (simp; done) | (simp; omega))).trans b2
  have hbw : Below w.heap.size w w1 := by repeat (first | with_reducible assumption | (with_reducible refine Below.setCell ?_ (by first | omega | (simp; done) | (simp; omega)) _) | (with_reducible refine Below.alloc ?_ (by first | omega | (simp; done) | (simp; omega)) _) | (with_reducible refine Below.drew ?_) | (with_reducible refine below_dN ?_ _) | with_reducible exact Below.refl _ _ | (with_reducible refine Below.trans ?_ (Below.mono (by assumption) (by first | omega | (simp; done) | (simp; omega)))))
  clear b0 b1 b2 hb
  have hidx := fun w => idx8 (keysF t.ks) (keysF_length t.ks) n h0 h8 w
  have HX0 : Hid ((keysF t.ks).getD n.toNat 0 = (keysF t.ks).getD n.toNat 0) := Lib.hid rfl
  generalize hx : (keysF t.ks).getD n.toNat 0 = x at hidx
  have HX := Lib.hid hx
  clear hx HX0
  have HD := Lib.hid (And.intro c0 (And.intro c1 (And.intro c2 hbw)))
  have z0 := (blk5 c0).1
  have z1 := (blk5 c0).2.1
  have z2 := (blk5 c0).2.2.1
  have z3 := (blk5 c0).2.2.2.1
  have z4 := (blk5 c0).2.2.2.2.1
  have y0 := (blk5 c0).2.2.2.2.2.1
  have y1 := (blk5 c0).2.2.2.2.2.2.1
  have y2 := (blk5 c0).2.2.2.2.2.2.2.1
  have y3 := (blk5 c0).2.2.2.2.2.2.2.2.1
  have y4 := (blk5 c0).2.2.2.2.2.2.2.2.2
  have o0 := (blk5 c1).1
  have o1 := (blk5 c1).2.1
  have o2 := (blk5 c1).2.2.1
  have o3 := (blk5 c1).2.2.2.1
  have o4 := (blk5 c1).2.2.2.2.1
  have p0 := (blk5 c1).2.2.2.2.2.1
  have p1 := (blk5 c1).2.2.2.2.2.2.1
  have p2 := (blk5 c1).2.2.2.2.2.2.2.1
  have p3 := (blk5 c1).2.2.2.2.2.2.2.2.1
  have p4 := (blk5 c1).2.2.2.2.2.2.2.2.2
  have v0 := (blk5 c2).1
  have v1 := (blk5 c2).2.1
  have v2 := (blk5 c2).2.2.1
  have v3 := (blk5 c2).2.2.2.1
  have v4 := (blk5 c2).2.2.2.2.1
  have s0 := (blk5 c2).2.2.2.2.2.1
  have s1 := (blk5 c2).2.2.2.2.2.2.1
  have s2 := (blk5 c2).2.2.2.2.2.2.2.1
  have s3 := (blk5 c2).2.2.2.2.2.2.2.2.1
  have s4 := (blk5 c2).2.2.2.2.2.2.2.2.2
  clear c0 c1 c2 hbw
  have qz : (x == 0) = false := by have h := Hqz.out; rw [HX.out] at h; exact h
  have qn : (key != x) = false := by have h := Hqn.out; rw [HX.out] at h; exact h
  dsimp only
  have HR : Hid (ractF t n (1) oty key other oap = (⟨t.g, t.ks, n, oty, t.ap⟩, 0, [])) := Lib.hid (by unfold ractF; first | (simp only [HX.out, qz, qn, qk, cz]; rfl) | (simp only [HX.out]; simp [qz, qn, qk, cz]; done))
  repeat (first | go_values | go_skip | go_guarded | go_step | go_upon | go_quiet (fail) | (simp only [Int.not_lt, Int.not_le] at *; go_simp) | (go_values <;> (try go_simp)) | (go_ite <;> go_prune <;> (try go_simp)))
  refine (rknown_any oty _).mono ?_
  rintro e wk ⟨rfl, hwk⟩
  subst hwk
  dsimp only
  rw [qk]
  repeat (fail_if_success (with_reducible refine stop_pos "ref.go:134" rfl ?_)
          first | go_values | go_skip | go_guarded | go_step | go_upon | go_quiet (fail) | (simp only [Int.not_lt, Int.not_le] at *; go_simp) | (go_values <;> (try go_simp)) | (go_ite <;> go_prune <;> (try go_simp)))
  refine gen_world (fun wx => wx.heap[w.heap.size]? = some (.cells #[.int .u32 (t.g), .slice a t.ks.length cap, .int .i64 (n), .int .i64 (oty), .bool t.ap] 25) ∧ wx.heap[w.heap.size + 1]? = some (.cells #[.int .i64 (1), .int .i64 oty, .int .u64 key, .int .u64 other, .bool oap] 43) ∧ wx.heap[w.heap.size + 1 + 1]? = some (.cells #[.int .u32 0, .slice none 0 0, .int .i64 0, .int .i64 0, .bool false] 25) ∧ Below w.heap.size w wx) ?_ ?_
  · have hbw := HD.out.2.2.2
    refine ⟨?_, heap_set_ne (by omega) (heap_set_ne (by omega) (HD.out.2.1)), heap_set_ne (by omega) (heap_set_ne (by omega) (HD.out.2.2.1)), by repeat (first | with_reducible assumption | (with_reducible refine Below.setCell ?_ (by first | omega | (simp; done) | (simp; omega)) _) | (with_reducible refine Below.alloc ?_ (by first | omega | (simp; done) | (simp; omega)) _) | (with_reducible refine Below.drew ?_) | (with_reducible refine below_dN ?_ _) | with_reducible exact Below.refl _ _ | (with_reducible refine Below.trans ?_ (Below.mono (by assumption) (by first | omega | (simp; done) | (simp; omega)))))⟩
    refine Eq.trans (set_blk (set_blk (HD.out.1) _) _) ?_
    simp [u32]
  intro w4 hw4
  have H4 := Lib.hid hw4
  clear hw4
  clear z0 z1 z2 z3 z4 y0 y1 y2 y3 y4 o0 o1 o2 o3 o4 p0 p1 p2 p3 p4 v0 v1 v2 v3 v4 s0 s1 s2 s3 s4
  have z0 := (blk5 H4.out.1).1
  have z1 := (blk5 H4.out.1).2.1
  have z2 := (blk5 H4.out.1).2.2.1
  have z3 := (blk5 H4.out.1).2.2.2.1
  have z4 := (blk5 H4.out.1).2.2.2.2.1
  have y0 := (blk5 H4.out.1).2.2.2.2.2.1
  have y1 := (blk5 H4.out.1).2.2.2.2.2.2.1
  have y2 := (blk5 H4.out.1).2.2.2.2.2.2.2.1
  have y3 := (blk5 H4.out.1).2.2.2.2.2.2.2.2.1
  have y4 := (blk5 H4.out.1).2.2.2.2.2.2.2.2.2
  have o0 := (blk5 H4.out.2.1).1
  have o1 := (blk5 H4.out.2.1).2.1
  have o2 := (blk5 H4.out.2.1).2.2.1
  have o3 := (blk5 H4.out.2.1).2.2.2.1
  have o4 := (blk5 H4.out.2.1).2.2.2.2.1
  have p0 := (blk5 H4.out.2.1).2.2.2.2.2.1
  have p1 := (blk5 H4.out.2.1).2.2.2.2.2.2.1
  have p2 := (blk5 H4.out.2.1).2.2.2.2.2.2.2.1
  have p3 := (blk5 H4.out.2.1).2.2.2.2.2.2.2.2.1
  have p4 := (blk5 H4.out.2.1).2.2.2.2.2.2.2.2.2
  have v0 := (blk5 H4.out.2.2.1).1
  have v1 := (blk5 H4.out.2.2.1).2.1
  have v2 := (blk5 H4.out.2.2.1).2.2.1
  have v3 := (blk5 H4.out.2.2.1).2.2.2.1
  have v4 := (blk5 H4.out.2.2.1).2.2.2.2.1
  have s0 := (blk5 H4.out.2.2.1).2.2.2.2.2.1
  have s1 := (blk5 H4.out.2.2.1).2.2.2.2.2.2.1
  have s2 := (blk5 H4.out.2.2.1).2.2.2.2.2.2.2.1
  have s3 := (blk5 H4.out.2.2.1).2.2.2.2.2.2.2.2.1
  have s4 := (blk5 H4.out.2.2.1).2.2.2.2.2.2.2.2.2
  repeat (first | go_values | go_skip | go_guarded | go_step | go_upon | go_quiet (fail))
  refine bodyPost_ret (v := .tuple #[.agg #[.int .u32 (t.g), .slice a t.ks.length cap, .int .i64 (n), .int .i64 (oty), .bool t.ap], .int .i64 0, .slice none 0 0]) ?_ rfl ?_
  · simp only [results, Try.results20]
    go_simp
  · unfold ActPost
    rw [HR.out]
    have hbw := H4.out.2.2.2
    refine ⟨a, cap, none, 0, rfl, HK.out.below ?_, HN.out, IntsIn.nil _ _, ?_⟩
    all_goals repeat (first | with_reducible assumption | (with_reducible refine Below.setCell ?_ (by first | omega | (simp; done) | (simp; omega)) _) | (with_reducible refine Below.alloc ?_ (by first | omega | (simp; done) | (simp; omega)) _) | (with_reducible refine Below.drew ?_) | (with_reducible refine below_dN ?_ _) | with_reducible exact Below.refl _ _ | (with_reducible refine Below.trans ?_ (Below.mono (by assumption) (by first | omega | (simp; done) | (simp; omega)))))
set_option maxRecDepth 100000 in
set_option maxHeartbeats 4000000 in
theorem ract_1h (t : Tab) (n oty key other : Int) (oap : Bool) (a : Option Addr) (cap : Nat) (w : World) (hlen : t.ks.length ≤ 9223372036854775807) (h0 : 0 ≤ n) (h8 : n < 8) (hh : t.h < 8)
   (hk : KeysIn w a t.ks) (hn : a = none → cap = 0) (hty : (t.ty == 0) = false → 0 ≤ t.h) (qz : ((keysF t.ks).getD n.toNat 0 == 0) = false) (qn : (key != (keysF t.ks).getD n.toNat 0) = false) (qk : knownF oty = true) (cz : (t.ty == 0) = false) (qh : rholdsF t.ks t.h t.ty n = true) (qt : (t.ty == oty) = true) :
    Calls Try.prog 20 #[.agg #[.int .u32 t.g, .slice a t.ks.length cap, .int .i64 t.h, .int .i64 t.ty, .bool t.ap], .int .i64 n, .agg #[.int .i64 (1), .int .i64 oty, .int .u64 key, .int .u64 other, .bool oap]] w (ActPost (ractF t n (1) oty key other oap) w) := by
  have Hqz := Lib.hid qz; clear qz
  have Hqn := Lib.hid qn; clear qn
  have HK := Lib.hid hk; clear hk
  have HN := Lib.hid hn; clear hn
  go_enter Try.func20, Try.ntmps20
  go_wp2_with fail
  obtain ⟨b0, b1, b2⟩ := heap3 w (.cells #[.int .u32 t.g, .slice a t.ks.length cap, .int .i64 t.h, .int .i64 t.ty, .bool t.ap] 25) (.cells #[.int .i64 (1), .int .i64 oty, .int .u64 key, .int .u64 other, .bool oap] 43) (.cells #[.int .u32 0, .slice none 0 0, .int .i64 0, .int .i64 0, .bool false] 25)
  refine (keys_any _ _ _ _ _ _ _ _ hlen (HK.out.below (by repeat (first | with_reducible assumption | (with_reducible refine Below.setCell ?_ (by first | omega | (simp; done) | (simp; omega)) _) | (with_reducible refine Below.alloc ?_ (by first | omega | (simp; done) | (simp; omega)) _) | (with_reducible refine Below.drew ?_) | (with_reducible refine below_dN ?_ _) | with_reducible exact Below.refl _ _ | (with_reducible refine Below.trans ?_ (Below.mono (by assumption) (by first | omega | (simp; done) | (simp; omega)))))))).mono ?_
  rintro e w1 ⟨rfl, hb⟩
  have hz1 := hb.size
  simp only [World.size_alloc] at hz1
  have c0 := (hb.block _ (by first | (simp; done) | (simp; omega))).trans b0
  have c1 := (hb.block _ (by first | (simp; done) | (simp; omega))).trans b1
  have c2 := (hb.block _ (by first | (simp; done) | (simp; omega))).trans b2
  have hbw : Below w.heap.size w w1 := by repeat (first | with_reducible assumption | (with_reducible refine Below.setCell ?_ (by first | omega | (simp; done) | (simp; omega)) _) | (with_reducible refine Below.alloc ?_ (by first | omega | (simp; done) | (simp; omega)) _) | (with_reducible refine Below.drew ?_) | (with_reducible refine below_dN ?_ _) | with_reducible exact Below.refl _ _ | (with_reducible refine Below.trans ?_ (Below.mono (by assumption) (by first | omega | (simp; done) | (simp; omega)))))
  clear b0 b1 b2 hb
  have hidx := fun w => idx8 (keysF t.ks) (keysF_length t.ks) n h0 h8 w
  have HX0 : Hid ((keysF t.ks).getD n.toNat 0 = (keysF t.ks).getD n.toNat 0) := Lib.hid rfl
  generalize hx : (keysF t.ks).getD n.toNat 0 = x at hidx
  have HX := Lib.hid hx
  clear hx HX0
  have HD := Lib.hid (And.intro c0 (And.intro c1 (And.intro c2 hbw)))
  have z0 := (blk5 c0).1
  have z1 := (blk5 c0).2.1
  have z2 := (blk5 c0).2.2.1
  have z3 := (blk5 c0).2.2.2.1
  have z4 := (blk5 c0).2.2.2.2.1
  have y0 := (blk5 c0).2.2.2.2.2.1
  have y1 := (blk5 c0).2.2.2.2.2.2.1
  have y2 := (blk5 c0).2.2.2.2.2.2.2.1
  have y3 := (blk5 c0).2.2.2.2.2.2.2.2.1
  have y4 := (blk5 c0).2.2.2.2.2.2.2.2.2
  have o0 := (blk5 c1).1
  have o1 := (blk5 c1).2.1
  have o2 := (blk5 c1).2.2.1
  have o3 := (blk5 c1).2.2.2.1
  have o4 := (blk5 c1).2.2.2.2.1
  have p0 := (blk5 c1).2.2.2.2.2.1
  have p1 := (blk5 c1).2.2.2.2.2.2.1
  have p2 := (blk5 c1).2.2.2.2.2.2.2.1
  have p3 := (blk5 c1).2.2.2.2.2.2.2.2.1
  have p4 := (blk5 c1).2.2.2.2.2.2.2.2.2
  have v0 := (blk5 c2).1
  have v1 := (blk5 c2).2.1
  have v2 := (blk5 c2).2.2.1
  have v3 := (blk5 c2).2.2.2.1
  have v4 := (blk5 c2).2.2.2.2.1
  have s0 := (blk5 c2).2.2.2.2.2.1
  have s1 := (blk5 c2).2.2.2.2.2.2.1
  have s2 := (blk5 c2).2.2.2.2.2.2.2.1
  have s3 := (blk5 c2).2.2.2.2.2.2.2.2.1
  have s4 := (blk5 c2).2.2.2.2.2.2.2.2.2
  clear c0 c1 c2 hbw
  have qz : (x == 0) = false := by have h := Hqz.out; rw [HX.out] at h; exact h
  have qn : (key != x) = false := by have h := Hqn.out; rw [HX.out] at h; exact h
  dsimp only
  have HR : Hid (ractF t n (1) oty key other oap = (t, 0, [])) := Lib.hid (by unfold ractF; first | (simp only [HX.out, qz, qn, qk, cz, qh, qt]; rfl) | (simp only [HX.out]; simp [qz, qn, qk, cz, qh, qt]; done))
  repeat (first | go_values | go_skip | go_guarded | go_step | go_upon | go_quiet (fail) | (simp only [Int.not_lt, Int.not_le] at *; go_simp) | (go_values <;> (try go_simp)) | (go_ite <;> go_prune <;> (try go_simp)))
  refine (rknown_any oty _).mono ?_
  rintro e wk ⟨rfl, hwk⟩
  subst hwk
  dsimp only
  rw [qk]
  repeat (first | go_values | go_skip | go_guarded | go_step | go_upon | go_quiet (fail) | (simp only [Int.not_lt, Int.not_le] at *; go_simp) | (go_values <;> (try go_simp)) | (go_ite <;> go_prune <;> (try go_simp)))
  refine (rHolds_any t.g t.h t.ty n t.ap a t.ks cap _ hlen (HK.out.below (by have hbw := HD.out.2.2.2; repeat (first | with_reducible assumption | (with_reducible refine Below.setCell ?_ (by first | omega | (simp; done) | (simp; omega)) _) | (with_reducible refine Below.alloc ?_ (by first | omega | (simp; done) | (simp; omega)) _) | (with_reducible refine Below.drew ?_) | (with_reducible refine below_dN ?_ _) | with_reducible exact Below.refl _ _ | (with_reducible refine Below.trans ?_ (Below.mono (by assumption) (by first | omega | (simp; done) | (simp; omega)))))))).mono ?_
  rintro e w3 ⟨rfl, hb3⟩
  dsimp only
  rw [qh]
  have hl2 : w.heap.size + 1 + 1 < w1.heap.size := (Array.getElem?_eq_some_iff.1 HD.out.2.2.1).1
  have hs3 := hb3.size
  have e0 := (hb3.block w.heap.size (by first | omega | (simp; omega))).trans HD.out.1
  have e1 := (hb3.block (w.heap.size + 1) (by first | omega | (simp; omega))).trans HD.out.2.1
  have e2 := (hb3.block (w.heap.size + 1 + 1) (by first | omega | (simp; omega))).trans HD.out.2.2.1
  have hbw3 : Below w.heap.size w w3 := Below.trans (by have hbw := HD.out.2.2.2; repeat (first | with_reducible assumption | (with_reducible refine Below.setCell ?_ (by first | omega | (simp; done) | (simp; omega)) _) | (with_reducible refine Below.alloc ?_ (by first | omega | (simp; done) | (simp; omega)) _) | (with_reducible refine Below.drew ?_) | (with_reducible refine below_dN ?_ _) | with_reducible exact Below.refl _ _ | (with_reducible refine Below.trans ?_ (Below.mono (by assumption) (by first | omega | (simp; done) | (simp; omega)))))) (hb3.mono (by first | omega | (simp; omega)))
  have HD3 := Lib.hid (And.intro e0 (And.intro e1 (And.intro e2 hbw3)))
  clear z0 z1 z2 z3 z4 y0 y1 y2 y3 y4 o0 o1 o2 o3 o4 p0 p1 p2 p3 p4 v0 v1 v2 v3 v4 s0 s1 s2 s3 s4 hb3 hs3
  have z0 := (blk5 e0).1
  have z1 := (blk5 e0).2.1
  have z2 := (blk5 e0).2.2.1
  have z3 := (blk5 e0).2.2.2.1
  have z4 := (blk5 e0).2.2.2.2.1
  have y0 := (blk5 e0).2.2.2.2.2.1
  have y1 := (blk5 e0).2.2.2.2.2.2.1
  have y2 := (blk5 e0).2.2.2.2.2.2.2.1
  have y3 := (blk5 e0).2.2.2.2.2.2.2.2.1
  have y4 := (blk5 e0).2.2.2.2.2.2.2.2.2
  have o0 := (blk5 e1).1
  have o1 := (blk5 e1).2.1
  have o2 := (blk5 e1).2.2.1
  have o3 := (blk5 e1).2.2.2.1
  have o4 := (blk5 e1).2.2.2.2.1
  have p0 := (blk5 e1).2.2.2.2.2.1
  have p1 := (blk5 e1).2.2.2.2.2.2.1
  have p2 := (blk5 e1).2.2.2.2.2.2.2.1
  have p3 := (blk5 e1).2.2.2.2.2.2.2.2.1
  have p4 := (blk5 e1).2.2.2.2.2.2.2.2.2
  have v0 := (blk5 e2).1
  have v1 := (blk5 e2).2.1
  have v2 := (blk5 e2).2.2.1
  have v3 := (blk5 e2).2.2.2.1
  have v4 := (blk5 e2).2.2.2.2.1
  have s0 := (blk5 e2).2.2.2.2.2.1
  have s1 := (blk5 e2).2.2.2.2.2.2.1
  have s2 := (blk5 e2).2.2.2.2.2.2.2.1
  have s3 := (blk5 e2).2.2.2.2.2.2.2.2.1
  have s4 := (blk5 e2).2.2.2.2.2.2.2.2.2
  clear e0 e1 e2 hbw3 hl2
  repeat (first | go_values | go_skip | go_guarded | go_step | go_upon | go_quiet (fail) | (simp only [Int.not_lt, Int.not_le] at *; go_simp) | (go_values <;> (try go_simp)) | (go_ite <;> go_prune <;> (try go_simp)))
  refine bodyPost_ret (v := .tuple #[.agg #[.int .u32 (t.g), .slice a t.ks.length cap, .int .i64 (t.h), .int .i64 (t.ty), .bool t.ap], .int .i64 0, .slice none 0 0]) ?_ rfl ?_
  · simp only [results, Try.results20]
    go_simp
  · unfold ActPost
    rw [HR.out]
    have hbw := HD3.out.2.2.2
    refine ⟨a, cap, none, 0, rfl, HK.out.below ?_, HN.out, IntsIn.nil _ _, ?_⟩
    all_goals repeat (first | with_reducible assumption | (with_reducible refine Below.setCell ?_ (by first | omega | (simp; done) | (simp; omega)) _) | (with_reducible refine Below.alloc ?_ (by first | omega | (simp; done) | (simp; omega)) _) | (with_reducible refine Below.drew ?_) | (with_reducible refine below_dN ?_ _) | with_reducible exact Below.refl _ _ | (with_reducible refine Below.trans ?_ (Below.mono (by assumption) (by first | omega | (simp; done) | (simp; omega)))))
set_option maxRecDepth 100000 in
set_option maxHeartbeats 4000000 in
theorem ract_1x (t : Tab) (n oty key other : Int) (oap : Bool) (a : Option Addr) (cap : Nat) (w : World) (hlen : t.ks.length ≤ 9223372036854775807) (h0 : 0 ≤ n) (h8 : n < 8) (hh : t.h < 8)
   (hk : KeysIn w a t.ks) (hn : a = none → cap = 0) (hty : (t.ty == 0) = false → 0 ≤ t.h) (qz : ((keysF t.ks).getD n.toNat 0 == 0) = false) (qn : (key != (keysF t.ks).getD n.toNat 0) = false) (qk : knownF oty = true) (cz : (t.ty == 0) = false) (qh : rholdsF t.ks t.h t.ty n = false) :
    Calls Try.prog 20 #[.agg #[.int .u32 t.g, .slice a t.ks.length cap, .int .i64 t.h, .int .i64 t.ty, .bool t.ap], .int .i64 n, .agg #[.int .i64 (1), .int .i64 oty, .int .u64 key, .int .u64 other, .bool oap]] w (ActPost (ractF t n (1) oty key other oap) w) := by
  have Hqz := Lib.hid qz; clear qz
  have Hqn := Lib.hid qn; clear qn
  have HK := Lib.hid hk; clear hk
  have HN := Lib.hid hn; clear hn
  go_enter Try.func20, Try.ntmps20
  go_wp2_with fail
  obtain ⟨b0, b1, b2⟩ := heap3 w (.cells #[.int .u32 t.g, .slice a t.ks.length cap, .int .i64 t.h, .int .i64 t.ty, .bool t.ap] 25) (.cells #[.int .i64 (1), .int .i64 oty, .int .u64 key, .int .u64 other, .bool oap] 43) (.cells #[.int .u32 0, .slice none 0 0, .int .i64 0, .int .i64 0, .bool false] 25)
  refine (keys_any _ _ _ _ _ _ _ _ hlen (HK.out.below (by repeat (first | with_reducible assumption | (with_reducible refine Below.setCell ?_ (by first | omega | (simp; done) | (simp; omega)) _) | (with_reducible refine Below.alloc ?_ (by first | omega | (simp; done) | (simp; omega)) _) | (with_reducible refine Below.drew ?_) | (with_reducible refine below_dN ?_ _) | with_reducible exact Below.refl _ _ | (with_reducible refine Below.trans ?_ (Below.mono (by assumption) (by first | omega | (simp; done) | (simp; omega)))))))).mono ?_
  rintro e w1 ⟨rfl, hb⟩
  have hz1 := hb.size
  simp only [World.size_alloc] at hz1
  have c0 := (hb.block _ (by first | (simp; done) | (simp; omega))).trans b0
  have c1 := (hb.block _ (by first | (simp; done) | (simp; omega))).trans b1
  have c2 := (hb.block _ (by first | (simp; done) | (simp; omega))).trans b2
  have hbw : Below w.heap.size w w1 := by repeat (first | with_reducible assumption | (with_reducible refine Below.setCell ?_ (by first | omega | (simp; done) | (simp; omega)) _) | (with_reducible refine Below.alloc ?_ (by first | omega | (simp; done) | (simp; omega)) _) | (with_reducible refine Below.drew ?_) | (with_reducible refine below_dN ?_ _) | with_reducible exact Below.refl _ _ | (with_reducible refine Below.trans ?_ (Below.mono (by assumption) (by first | omega | (simp; done) | (simp; omega)))))
  clear b0 b1 b2 hb
  have hidx := fun w => idx8 (keysF t.ks) (keysF_length t.ks) n h0 h8 w
  have HX0 : Hid ((keysF t.ks).getD n.toNat 0 = (keysF t.ks).getD n.toNat 0) := Lib.hid rfl
  generalize hx : (keysF t.ks).getD n.toNat 0 = x at hidx
  have HX := Lib.hid hx
  clear hx HX0
  have HD := Lib.hid (And.intro c0 (And.intro c1 (And.intro c2 hbw)))
  have z0 := (blk5 c0).1
  have z1 := (blk5 c0).2.1
  have z2 := (blk5 c0).2.2.1
  have z3 := (blk5 c0).2.2.2.1
  have z4 := (blk5 c0).2.2.2.2.1
  have y0 := (blk5 c0).2.2.2.2.2.1
  have y1 := (blk5 c0).2.2.2.2.2.2.1
  have y2 := (blk5 c0).2.2.2.2.2.2.2.1
  have y3 := (blk5 c0).2.2.2.2.2.2.2.2.1
  have y4 := (blk5 c0).2.2.2.2.2.2.2.2.2
  have o0 := (blk5 c1).1
  have o1 := (blk5 c1).2.1
  have o2 := (blk5 c1).2.2.1
  have o3 := (blk5 c1).2.2.2.1
  have o4 := (blk5 c1).2.2.2.2.1
  have p0 := (blk5 c1).2.2.2.2.2.1
  have p1 := (blk5 c1).2.2.2.2.2.2.1
  have p2 := (blk5 c1).2.2.2.2.2.2.2.1
  have p3 := (blk5 c1).2.2.2.2.2.2.2.2.1
  have p4 := (blk5 c1).2.2.2.2.2.2.2.2.2
  have v0 := (blk5 c2).1
  have v1 := (blk5 c2).2.1
  have v2 := (blk5 c2).2.2.1
  have v3 := (blk5 c2).2.2.2.1
  have v4 := (blk5 c2).2.2.2.2.1
  have s0 := (blk5 c2).2.2.2.2.2.1
  have s1 := (blk5 c2).2.2.2.2.2.2.1
  have s2 := (blk5 c2).2.2.2.2.2.2.2.1
  have s3 := (blk5 c2).2.2.2.2.2.2.2.2.1
  have s4 := (blk5 c2).2.2.2.2.2.2.2.2.2
  clear c0 c1 c2 hbw
  have qz : (x == 0) = false := by have h := Hqz.out; rw [HX.out] at h; exact h
  have qn : (key != x) = false := by have h := Hqn.out; rw [HX.out] at h; exact h
  dsimp only
  have HR : Hid (ractF t n (1) oty key other oap = (t, 24, [])) := Lib.hid (by unfold ractF; first | (simp only [HX.out, qz, qn, qk, cz, qh]; rfl) | (simp only [HX.out]; simp [qz, qn, qk, cz, qh]; done))
  repeat (first | go_values | go_skip | go_guarded | go_step | go_upon | go_quiet (fail) | (simp only [Int.not_lt, Int.not_le] at *; go_simp) | (go_values <;> (try go_simp)) | (go_ite <;> go_prune <;> (try go_simp)))
  refine (rknown_any oty _).mono ?_
  rintro e wk ⟨rfl, hwk⟩
  subst hwk
  dsimp only
  rw [qk]
  repeat (first | go_values | go_skip | go_guarded | go_step | go_upon | go_quiet (fail) | (simp only [Int.not_lt, Int.not_le] at *; go_simp) | (go_values <;> (try go_simp)) | (go_ite <;> go_prune <;> (try go_simp)))
  refine (rHolds_any t.g t.h t.ty n t.ap a t.ks cap _ hlen (HK.out.below (by have hbw := HD.out.2.2.2; repeat (first | with_reducible assumption | (with_reducible refine Below.setCell ?_ (by first | omega | (simp; done) | (simp; omega)) _) | (with_reducible refine Below.alloc ?_ (by first | omega | (simp; done) | (simp; omega)) _) | (with_reducible refine Below.drew ?_) | (with_reducible refine below_dN ?_ _) | with_reducible exact Below.refl _ _ | (with_reducible refine Below.trans ?_ (Below.mono (by assumption) (by first | omega | (simp; done) | (simp; omega)))))))).mono ?_
  rintro e w3 ⟨rfl, hb3⟩
  dsimp only
  rw [qh]
  have hl2 : w.heap.size + 1 + 1 < w1.heap.size := (Array.getElem?_eq_some_iff.1 HD.out.2.2.1).1
  have hs3 := hb3.size
  have e0 := (hb3.block w.heap.size (by first | omega | (simp; omega))).trans HD.out.1
  have e1 := (hb3.block (w.heap.size + 1) (by first | omega | (simp; omega))).trans HD.out.2.1
  have e2 := (hb3.block (w.heap.size + 1 + 1) (by first | omega | (simp; omega))).trans HD.out.2.2.1
  have hbw3 : Below w.heap.size w w3 := Below.trans (by have hbw := HD.out.2.2.2; repeat (first | with_reducible assumption | (with_reducible refine Below.setCell ?_ (by first | omega | (simp; done) | (simp; omega)) _) | (with_reducible refine Below.alloc ?_ (by first | omega | (simp; done) | (simp; omega)) _) | (with_reducible refine Below.drew ?_) | (with_reducible refine below_dN ?_ _) | with_reducible exact Below.refl _ _ | (with_reducible refine Below.trans ?_ (Below.mono (by assumption) (by first | omega | (simp; done) | (simp; omega)))))) (hb3.mono (by first | omega | (simp; omega)))
  have HD3 := Lib.hid (And.intro e0 (And.intro e1 (And.intro e2 hbw3)))
  clear z0 z1 z2 z3 z4 y0 y1 y2 y3 y4 o0 o1 o2 o3 o4 p0 p1 p2 p3 p4 v0 v1 v2 v3 v4 s0 s1 s2 s3 s4 hb3 hs3
  have z0 := (blk5 e0).1
  have z1 := (blk5 e0).2.1
  have z2 := (blk5 e0).2.2.1
  have z3 := (blk5 e0).2.2.2.1
  have z4 := (blk5 e0).2.2.2.2.1
  have y0 := (blk5 e0).2.2.2.2.2.1
  have y1 := (blk5 e0).2.2.2.2.2.2.1
  have y2 := (blk5 e0).2.2.2.2.2.2.2.1
  have y3 := (blk5 e0).2.2.2.2.2.2.2.2.1
  have y4 := (blk5 e0).2.2.2.2.2.2.2.2.2
  have o0 := (blk5 e1).1
  have o1 := (blk5 e1).2.1
  have o2 := (blk5 e1).2.2.1
  have o3 := (blk5 e1).2.2.2.1
  have o4 := (blk5 e1).2.2.2.2.1
  have p0 := (blk5 e1).2.2.2.2.2.1
  have p1 := (blk5 e1).2.2.2.2.2.2.1
  have p2 := (blk5 e1).2.2.2.2.2.2.2.1
  have p3 := (blk5 e1).2.2.2.2.2.2.2.2.1
  have p4 := (blk5 e1).2.2.2.2.2.2.2.2.2
  have v0 := (blk5 e2).1
  have v1 := (blk5 e2).2.1
  have v2 := (blk5 e2).2.2.1
  have v3 := (blk5 e2).2.2.2.1
  have v4 := (blk5 e2).2.2.2.2.1
  have s0 := (blk5 e2).2.2.2.2.2.1
  have s1 := (blk5 e2).2.2.2.2.2.2.1
  have s2 := (blk5 e2).2.2.2.2.2.2.2.1
  have s3 := (blk5 e2).2.2.2.2.2.2.2.2.1
  have s4 := (blk5 e2).2.2.2.2.2.2.2.2.2
  clear e0 e1 e2 hbw3 hl2
  repeat (first | go_values | go_skip | go_guarded | go_step | go_upon | go_quiet (fail) | (simp only [Int.not_lt, Int.not_le] at *; go_simp) | (go_values <;> (try go_simp)) | (go_ite <;> go_prune <;> (try go_simp)))
  refine bodyPost_ret (v := .tuple #[.agg #[.int .u32 (t.g), .slice a t.ks.length cap, .int .i64 (t.h), .int .i64 (t.ty), .bool t.ap], .int .i64 24, .slice none 0 0]) ?_ rfl ?_
  · simp only [results, Try.results20]
    go_simp
  · unfold ActPost
    rw [HR.out]
    have hbw := HD3.out.2.2.2
    refine ⟨a, cap, none, 0, rfl, HK.out.below ?_, HN.out, IntsIn.nil _ _, ?_⟩
    all_goals repeat (first | with_reducible assumption | (with_reducible refine Below.setCell ?_ (by first | omega | (simp; done) | (simp; omega)) _) | (with_reducible refine Below.alloc ?_ (by first | omega | (simp; done) | (simp; omega)) _) | (with_reducible refine Below.drew ?_) | (with_reducible refine below_dN ?_ _) | with_reducible exact Below.refl _ _ | (with_reducible refine Below.trans ?_ (Below.mono (by assumption) (by first | omega | (simp; done) | (simp; omega)))))
set_option maxRecDepth 100000 in
set_option maxHeartbeats 4000000 in
theorem ract_1y (t : Tab) (n oty key other : Int) (oap : Bool) (a : Option Addr) (cap : Nat) (w : World) (hlen : t.ks.length ≤ 9223372036854775807) (h0 : 0 ≤ n) (h8 : n < 8) (hh : t.h < 8)
   (hk : KeysIn w a t.ks) (hn : a = none → cap = 0) (hty : (t.ty == 0) = false → 0 ≤ t.h) (qz : ((keysF t.ks).getD n.toNat 0 == 0) = false) (qn : (key != (keysF t.ks).getD n.toNat 0) = false) (qk : knownF oty = true) (cz : (t.ty == 0) = false) (qh : rholdsF t.ks t.h t.ty n = true) (qt : (t.ty == oty) = false) :
    Calls Try.prog 20 #[.agg #[.int .u32 t.g, .slice a t.ks.length cap, .int .i64 t.h, .int .i64 t.ty, .bool t.ap], .int .i64 n, .agg #[.int .i64 (1), .int .i64 oty, .int .u64 key, .int .u64 other, .bool oap]] w (ActPost (ractF t n (1) oty key other oap) w) := by
  have Hqz := Lib.hid qz; clear qz
  have Hqn := Lib.hid qn; clear qn
  have HK := Lib.hid hk; clear hk
  have HN := Lib.hid hn; clear hn
  go_enter Try.func20, Try.ntmps20
  go_wp2_with fail
  obtain ⟨b0, b1, b2⟩ := heap3 w (.cells #[.int .u32 t.g, .slice a t.ks.length cap, .int .i64 t.h, .int .i64 t.ty, .bool t.ap] 25) (.cells #[.int .i64 (1), .int .i64 oty, .int .u64 key, .int .u64 other, .bool oap] 43) (.cells #[.int .u32 0, .slice none 0 0, .int .i64 0, .int .i64 0, .bool false] 25)
  refine (keys_any _ _ _ _ _ _ _ _ hlen (HK.out.below (by repeat (first | with_reducible assumption | (with_reducible refine Below.setCell ?_ (by first | omega | (simp; done) | (simp; omega)) _) | (with_reducible refine Below.alloc ?_ (by first | omega | (simp; done) | (simp; omega)) _) | (with_reducible refine Below.drew ?_) | (with_reducible refine below_dN ?_ _) | with_reducible exact Below.refl _ _ | (with_reducible refine Below.trans ?_ (Below.mono (by assumption) (by first | omega | (simp; done) | (simp; omega)))))))).mono ?_
  rintro e w1 ⟨rfl, hb⟩
  have hz1 := hb.size
  simp only [World.size_alloc] at hz1
  have c0 := (hb.block _ (by first | (simp; done) | (simp; omega))).trans b0
  have c1 := (hb.block _ (by first | (simp; done) | (simp; omega))).trans b1
  have c2 := (hb.block _ (by first | (simp; done) | (simp; omega))).trans b2
  have hbw : Below w.heap.size w w1 := by repeat (first | with_reducible assumption | (with_reducible refine Below.setCell ?_ (by first | omega | (simp; done) | (simp; omega)) _) | (with_reducible refine Below.alloc ?_ (by first | omega | (simp; done) | (simp; omega)) _) | (with_reducible refine Below.drew ?_) | (with_reducible refine below_dN ?_ _) | with_reducible exact Below.refl _ _ | (with_reducible refine Below.trans ?_ (Below.mono (by assumption) (by first | omega | (simp; done) | (simp; omega)))))
  clear b0 b1 b2 hb
  have hidx := fun w => idx8 (keysF t.ks) (keysF_length t.ks) n h0 h8 w
  have HX0 : Hid ((keysF t.ks).getD n.toNat 0 = (keysF t.ks).getD n.toNat 0) := Lib.hid rfl
  generalize hx : (keysF t.ks).getD n.toNat 0 = x at hidx
  have HX := Lib.hid hx
  clear hx HX0
  have HD := Lib.hid (And.intro c0 (And.intro c1 (And.intro c2 hbw)))
  have z0 := (blk5 c0).1
  have z1 := (blk5 c0).2.1
  have z2 := (blk5 c0).2.2.1
  have z3 := (blk5 c0).2.2.2.1
  have z4 := (blk5 c0).2.2.2.2.1
  have y0 := (blk5 c0).2.2.2.2.2.1
  have y1 := (blk5 c0).2.2.2.2.2.2.1
  have y2 := (blk5 c0).2.2.2.2.2.2.2.1
  have y3 := (blk5 c0).2.2.2.2.2.2.2.2.1
  have y4 := (blk5 c0).2.2.2.2.2.2.2.2.2
  have o0 := (blk5 c1).1
  have o1 := (blk5 c1).2.1
  have o2 := (blk5 c1).2.2.1
  have o3 := (blk5 c1).2.2.2.1
  have o4 := (blk5 c1).2.2.2.2.1
  have p0 := (blk5 c1).2.2.2.2.2.1
  have p1 := (blk5 c1).2.2.2.2.2.2.1
  have p2 := (blk5 c1).2.2.2.2.2.2.2.1
  have p3 := (blk5 c1).2.2.2.2.2.2.2.2.1
  have p4 := (blk5 c1).2.2.2.2.2.2.2.2.2
  have v0 := (blk5 c2).1
  have v1 := (blk5 c2).2.1
  have v2 := (blk5 c2).2.2.1
  have v3 := (blk5 c2).2.2.2.1
  have v4 := (blk5 c2).2.2.2.2.1
  have s0 := (blk5 c2).2.2.2.2.2.1
  have s1 := (blk5 c2).2.2.2.2.2.2.1
  have s2 := (blk5 c2).2.2.2.2.2.2.2.1
  have s3 := (blk5 c2).2.2.2.2.2.2.2.2.1
  have s4 := (blk5 c2).2.2.2.2.2.2.2.2.2
  clear c0 c1 c2 hbw
  have qz : (x == 0) = false := by have h := Hqz.out; rw [HX.out] at h; exact h
  have qn : (key != x) = false := by have h := Hqn.out; rw [HX.out] at h; exact h
  dsimp only
  have HR : Hid (ractF t n (1) oty key other oap = (t, 24, [])) := Lib.hid (by unfold ractF; first | (simp only [HX.out, qz, qn, qk, cz, qh, qt]; rfl) | (simp only [HX.out]; simp [qz, qn, qk, cz, qh, qt]; done))
  repeat (first | go_values | go_skip | go_guarded | go_step | go_upon | go_quiet (fail) | (simp only [Int.not_lt, Int.not_le] at *; go_simp) | (go_values <;> (try go_simp)) | (go_ite <;> go_prune <;> (try go_simp)))
  refine (rknown_any oty _).mono ?_
  rintro e wk ⟨rfl, hwk⟩
  subst hwk
  dsimp only
  rw [qk]
  repeat (first | go_values | go_skip | go_guarded | go_step | go_upon | go_quiet (fail) | (simp only [Int.not_lt, Int.not_le] at *; go_simp) | (go_values <;> (try go_simp)) | (go_ite <;> go_prune <;> (try go_simp)))
  refine (rHolds_any t.g t.h t.ty n t.ap a t.ks cap _ hlen (HK.out.below (by have hbw := HD.out.2.2.2; repeat (first | with_reducible assumption | (with_reducible refine Below.setCell ?_ (by first | omega | (simp; done) | (simp; omega)) _) | (with_reducible refine Below.alloc ?_ (by first | omega | (simp; done) | (simp; omega)) _) | (with_reducible refine Below.drew ?_) | (with_reducible refine below_dN ?_ _) | with_reducible exact Below.refl _ _ | (with_reducible refine Below.trans ?_ (Below.mono (by assumption) (by first | omega | (simp; done) | (simp; omega)))))))).mono ?_
  rintro e w3 ⟨rfl, hb3⟩
  dsimp only
  rw [qh]
  have hl2 : w.heap.size + 1 + 1 < w1.heap.size := (Array.getElem?_eq_some_iff.1 HD.out.2.2.1).1
  have hs3 := hb3.size
  have e0 := (hb3.block w.heap.size (by first | omega | (simp; omega))).trans HD.out.1
  have e1 := (hb3.block (w.heap.size + 1) (by first | omega | (simp; omega))).trans HD.out.2.1
  have e2 := (hb3.block (w.heap.size + 1 + 1) (by first | omega | (simp; omega))).trans HD.out.2.2.1
  have hbw3 : Below w.heap.size w w3 := Below.trans (by have hbw := HD.out.2.2.2; repeat (first | with_reducible assumption | (with_reducible refine Below.setCell ?_ (by first | omega | (simp; done) | (simp; omega)) _) | (with_reducible refine Below.alloc ?_ (by first | omega | (simp; done) | (simp; omega)) _) | (with_reducible refine Below.drew ?_) | (with_reducible refine below_dN ?_ _) | with_reducible exact Below.refl _ _ | (with_reducible refine Below.trans ?_ (Below.mono (by assumption) (by first | omega | (simp; done) | (simp; omega)))))) (hb3.mono (by first | omega | (simp; omega)))
  have HD3 := Lib.hid (And.intro e0 (And.intro e1 (And.intro e2 hbw3)))
  clear z0 z1 z2 z3 z4 y0 y1 y2 y3 y4 o0 o1 o2 o3 o4 p0 p1 p2 p3 p4 v0 v1 v2 v3 v4 s0 s1 s2 s3 s4 hb3 hs3
  have z0 := (blk5 e0).1
  have z1 := (blk5 e0).2.1
  have z2 := (blk5 e0).2.2.1
  have z3 := (blk5 e0).2.2.2.1
  have z4 := (blk5 e0).2.2.2.2.1
  have y0 := (blk5 e0).2.2.2.2.2.1
  have y1 := (blk5 e0).2.2.2.2.2.2.1
  have y2 := (blk5 e0).2.2.2.2.2.2.2.1
  have y3 := (blk5 e0).2.2.2.2.2.2.2.2.1
  have y4 := (blk5 e0).2.2.2.2.2.2.2.2.2
  have o0 := (blk5 e1).1
  have o1 := (blk5 e1).2.1
  have o2 := (blk5 e1).2.2.1
  have o3 := (blk5 e1).2.2.2.1
  have o4 := (blk5 e1).2.2.2.2.1
  have p0 := (blk5 e1).2.2.2.2.2.1
  have p1 := (blk5 e1).2.2.2.2.2.2.1
  have p2 := (blk5 e1).2.2.2.2.2.2.2.1
  have p3 := (blk5 e1).2.2.2.2.2.2.2.2.1
  have p4 := (blk5 e1).2.2.2.2.2.2.2.2.2
  have v0 := (blk5 e2).1
  have v1 := (blk5 e2).2.1
  have v2 := (blk5 e2).2.2.1
  have v3 := (blk5 e2).2.2.2.1
  have v4 := (blk5 e2).2.2.2.2.1
  have s0 := (blk5 e2).2.2.2.2.2.1
  have s1 := (blk5 e2).2.2.2.2.2.2.1
  have s2 := (blk5 e2).2.2.2.2.2.2.2.1
  have s3 := (blk5 e2).2.2.2.2.2.2.2.2.1
  have s4 := (blk5 e2).2.2.2.2.2.2.2.2.2
  clear e0 e1 e2 hbw3 hl2
  repeat (first | go_values | go_skip | go_guarded | go_step | go_upon | go_quiet (fail) | (simp only [Int.not_lt, Int.not_le] at *; go_simp) | (go_values <;> (try go_simp)) | (go_ite <;> go_prune <;> (try go_simp)))
  refine bodyPost_ret (v := .tuple #[.agg #[.int .u32 (t.g), .slice a t.ks.length cap, .int .i64 (t.h), .int .i64 (t.ty), .bool t.ap], .int .i64 24, .slice none 0 0]) ?_ rfl ?_
  · simp only [results, Try.results20]
    go_simp
  · unfold ActPost
    rw [HR.out]
    have hbw := HD3.out.2.2.2
    refine ⟨a, cap, none, 0, rfl, HK.out.below ?_, HN.out, IntsIn.nil _ _, ?_⟩
    all_goals repeat (first | with_reducible assumption | (with_reducible refine Below.setCell ?_ (by first | omega | (simp; done) | (simp; omega)) _) | (with_reducible refine Below.alloc ?_ (by first | omega | (simp; done) | (simp; omega)) _) | (with_reducible refine Below.drew ?_) | (with_reducible refine below_dN ?_ _) | with_reducible exact Below.refl _ _ | (with_reducible refine Below.trans ?_ (Below.mono (by assumption) (by first | omega | (simp; done) | (simp; omega)))))
set_option maxRecDepth 100000 in
set_option maxHeartbeats 4000000 in
theorem ract_2e (t : Tab) (n oty key other : Int) (oap : Bool) (a : Option Addr) (cap : Nat) (w : World) (hlen : t.ks.length ≤ 9223372036854775807) (h0 : 0 ≤ n) (h8 : n < 8) (hh : t.h < 8)
   (hk : KeysIn w a t.ks) (hn : a = none → cap = 0) (hty : (t.ty == 0) = false → 0 ≤ t.h) (qz : ((keysF t.ks).getD n.toNat 0 == 0) = false) (qn : (key != (keysF t.ks).getD n.toNat 0) = false) (qh : rholdsF t.ks t.h t.ty n = false) :
    Calls Try.prog 20 #[.agg #[.int .u32 t.g, .slice a t.ks.length cap, .int .i64 t.h, .int .i64 t.ty, .bool t.ap], .int .i64 n, .agg #[.int .i64 (2), .int .i64 oty, .int .u64 key, .int .u64 other, .bool oap]] w (ActPost (ractF t n (2) oty key other oap) w) := by
  have Hqz := Lib.hid qz; clear qz
  have Hqn := Lib.hid qn; clear qn
  have HK := Lib.hid hk; clear hk
  have HN := Lib.hid hn; clear hn
  go_enter Try.func20, Try.ntmps20
  go_wp2_with fail
  obtain ⟨b0, b1, b2⟩ := heap3 w (.cells #[.int .u32 t.g, .slice a t.ks.length cap, .int .i64 t.h, .int .i64 t.ty, .bool t.ap] 25) (.cells #[.int .i64 (2), .int .i64 oty, .int .u64 key, .int .u64 other, .bool oap] 43) (.cells #[.int .u32 0, .slice none 0 0, .int .i64 0, .int .i64 0, .bool false] 25)
  refine (keys_any _ _ _ _ _ _ _ _ hlen (HK.out.below (by repeat (first | with_reducible assumption | (with_reducible refine Below.setCell ?_ (by first | omega | (simp; done) | (simp; omega)) _) | (with_reducible refine Below.alloc ?_ (by first | omega | (simp; done) | (simp; omega)) _) | (with_reducible refine Below.drew ?_) | (with_reducible refine below_dN ?_ _) | with_reducible exact Below.refl _ _ | (with_reducible refine Below.trans ?_ (Below.mono (by assumption) (by first | omega | (simp; done) | (simp; omega)))))))).mono ?_
  rintro e w1 ⟨rfl, hb⟩
  have hz1 := hb.size
  simp only [World.size_alloc] at hz1
  have c0 := (hb.block _ (by first | (simp; done) | (simp; omega))).trans b0
  have c1 := (hb.block _ (by first | (simp; done) | (simp; omega))).trans b1
  have c2 := (hb.block _ (by first | (simp; done) | (simp; omega))).trans b2
  have hbw : Below w.heap.size w w1 := by repeat (first | with_reducible assumption | (with_reducible refine Below.setCell ?_ (by first | omega | (simp; done) | (simp; omega)) _) | (with_reducible refine Below.alloc ?_ (by first | omega | (simp; done) | (simp; omega)) _) | (with_reducible refine Below.drew ?_) | (with_reducible refine below_dN ?_ _) | with_reducible exact Below.refl _ _ | (with_reducible refine Below.trans ?_ (Below.mono (by assumption) (by first | omega | (simp; done) | (simp; omega)))))
  clear b0 b1 b2 hb
  have hidx := fun w => idx8 (keysF t.ks) (keysF_length t.ks) n h0 h8 w
  have HX0 : Hid ((keysF t.ks).getD n.toNat 0 = (keysF t.ks).getD n.toNat 0) := Lib.hid rfl
  generalize hx : (keysF t.ks).getD n.toNat 0 = x at hidx
  have HX := Lib.hid hx
  clear hx HX0
  have HD := Lib.hid (And.intro c0 (And.intro c1 (And.intro c2 hbw)))
  have z0 := (blk5 c0).1
  have z1 := (blk5 c0).2.1
  have z2 := (blk5 c0).2.2.1
  have z3 := (blk5 c0).2.2.2.1
  have z4 := (blk5 c0).2.2.2.2.1
  have y0 := (blk5 c0).2.2.2.2.2.1
  have y1 := (blk5 c0).2.2.2.2.2.2.1
  have y2 := (blk5 c0).2.2.2.2.2.2.2.1
  have y3 := (blk5 c0).2.2.2.2.2.2.2.2.1
  have y4 := (blk5 c0).2.2.2.2.2.2.2.2.2
  have o0 := (blk5 c1).1
  have o1 := (blk5 c1).2.1
  have o2 := (blk5 c1).2.2.1
  have o3 := (blk5 c1).2.2.2.1
  have o4 := (blk5 c1).2.2.2.2.1
  have p0 := (blk5 c1).2.2.2.2.2.1
  have p1 := (blk5 c1).2.2.2.2.2.2.1
  have p2 := (blk5 c1).2.2.2.2.2.2.2.1
  have p3 := (blk5 c1).2.2.2.2.2.2.2.2.1
  have p4 := (blk5 c1).2.2.2.2.2.2.2.2.2
  have v0 := (blk5 c2).1
  have v1 := (blk5 c2).2.1
  have v2 := (blk5 c2).2.2.1
  have v3 := (blk5 c2).2.2.2.1
  have v4 := (blk5 c2).2.2.2.2.1
  have s0 := (blk5 c2).2.2.2.2.2.1
  have s1 := (blk5 c2).2.2.2.2.2.2.1
  have s2 := (blk5 c2).2.2.2.2.2.2.2.1
  have s3 := (blk5 c2).2.2.2.2.2.2.2.2.1
  have s4 := (blk5 c2).2.2.2.2.2.2.2.2.2
  clear c0 c1 c2 hbw
  have qz : (x == 0) = false := by have h := Hqz.out; rw [HX.out] at h; exact h
  have qn : (key != x) = false := by have h := Hqn.out; rw [HX.out] at h; exact h
  dsimp only
  have HR : Hid (ractF t n (2) oty key other oap = (t, 0, [])) := Lib.hid (by unfold ractF; first | (simp only [HX.out, qz, qn, qh]; rfl) | (simp only [HX.out]; simp [qz, qn, qh]; done))
  repeat (first | go_values | go_skip | go_guarded | go_step | go_upon | go_quiet (fail) | (simp only [Int.not_lt, Int.not_le] at *; go_simp) | (go_values <;> (try go_simp)) | (go_ite <;> go_prune <;> (try go_simp)))
  refine (rHolds_any t.g t.h t.ty n t.ap a t.ks cap _ hlen (HK.out.below (by have hbw := HD.out.2.2.2; repeat (first | with_reducible assumption | (with_reducible refine Below.setCell ?_ (by first | omega | (simp; done) | (simp; omega)) _) | (with_reducible refine Below.alloc ?_ (by first | omega | (simp; done) | (simp; omega)) _) | (with_reducible refine Below.drew ?_) | (with_reducible refine below_dN ?_ _) | with_reducible exact Below.refl _ _ | (with_reducible refine Below.trans ?_ (Below.mono (by assumption) (by first | omega | (simp; done) | (simp; omega)))))))).mono ?_
  rintro e w3 ⟨rfl, hb3⟩
  dsimp only
  rw [qh]
  have hl2 : w.heap.size + 1 + 1 < w1.heap.size := (Array.getElem?_eq_some_iff.1 HD.out.2.2.1).1
  have hs3 := hb3.size
  have e0 := (hb3.block w.heap.size (by first | omega | (simp; omega))).trans HD.out.1
  have e1 := (hb3.block (w.heap.size + 1) (by first | omega | (simp; omega))).trans HD.out.2.1
  have e2 := (hb3.block (w.heap.size + 1 + 1) (by first | omega | (simp; omega))).trans HD.out.2.2.1
  have hbw3 : Below w.heap.size w w3 := Below.trans (by have hbw := HD.out.2.2.2; repeat (first | with_reducible assumption | (with_reducible refine Below.setCell ?_ (by first | omega | (simp; done) | (simp; omega)) _) | (with_reducible refine Below.alloc ?_ (by first | omega | (simp; done) | (simp; omega)) _) | (with_reducible refine Below.drew ?_) | (with_reducible refine below_dN ?_ _) | with_reducible exact Below.refl _ _ | (with_reducible refine Below.trans ?_ (Below.mono (by assumption) (by first | omega | (simp; done) | (simp; omega)))))) (hb3.mono (by first | omega | (simp; omega)))
  have HD3 := Lib.hid (And.intro e0 (And.intro e1 (And.intro e2 hbw3)))
  clear z0 z1 z2 z3 z4 y0 y1 y2 y3 y4 o0 o1 o2 o3 o4 p0 p1 p2 p3 p4 v0 v1 v2 v3 v4 s0 s1 s2 s3 s4 hb3 hs3
  have z0 := (blk5 e0).1
  have z1 := (blk5 e0).2.1
  have z2 := (blk5 e0).2.2.1
  have z3 := (blk5 e0).2.2.2.1
  have z4 := (blk5 e0).2.2.2.2.1
  have y0 := (blk5 e0).2.2.2.2.2.1
  have y1 := (blk5 e0).2.2.2.2.2.2.1
  have y2 := (blk5 e0).2.2.2.2.2.2.2.1
  have y3 := (blk5 e0).2.2.2.2.2.2.2.2.1
  have y4 := (blk5 e0).2.2.2.2.2.2.2.2.2
  have o0 := (blk5 e1).1
  have o1 := (blk5 e1).2.1
  have o2 := (blk5 e1).2.2.1
  have o3 := (blk5 e1).2.2.2.1
  have o4 := (blk5 e1).2.2.2.2.1
  have p0 := (blk5 e1).2.2.2.2.2.1
  have p1 := (blk5 e1).2.2.2.2.2.2.1
  have p2 := (blk5 e1).2.2.2.2.2.2.2.1
  have p3 := (blk5 e1).2.2.2.2.2.2.2.2.1
  have p4 := (blk5 e1).2.2.2.2.2.2.2.2.2
  have v0 := (blk5 e2).1
  have v1 := (blk5 e2).2.1
  have v2 := (blk5 e2).2.2.1
  have v3 := (blk5 e2).2.2.2.1
  have v4 := (blk5 e2).2.2.2.2.1
  have s0 := (blk5 e2).2.2.2.2.2.1
  have s1 := (blk5 e2).2.2.2.2.2.2.1
  have s2 := (blk5 e2).2.2.2.2.2.2.2.1
  have s3 := (blk5 e2).2.2.2.2.2.2.2.2.1
  have s4 := (blk5 e2).2.2.2.2.2.2.2.2.2
  clear e0 e1 e2 hbw3 hl2
  repeat (first | go_values | go_skip | go_guarded | go_step | go_upon | go_quiet (fail) | (simp only [Int.not_lt, Int.not_le] at *; go_simp) | (go_values <;> (try go_simp)) | (go_ite <;> go_prune <;> (try go_simp)))
  refine bodyPost_ret (v := .tuple #[.agg #[.int .u32 (t.g), .slice a t.ks.length cap, .int .i64 (t.h), .int .i64 (t.ty), .bool t.ap], .int .i64 0, .slice none 0 0]) ?_ rfl ?_
  · simp only [results, Try.results20]
    go_simp
  · unfold ActPost
    rw [HR.out]
    have hbw := HD3.out.2.2.2
    refine ⟨a, cap, none, 0, rfl, HK.out.below ?_, HN.out, IntsIn.nil _ _, ?_⟩
    all_goals repeat (first | with_reducible assumption | (with_reducible refine Below.setCell ?_ (by first | omega | (simp; done) | (simp; omega)) _) | (with_reducible refine Below.alloc ?_ (by first | omega | (simp; done) | (simp; omega)) _) | (with_reducible refine Below.drew ?_) | (with_reducible refine below_dN ?_ _) | with_reducible exact Below.refl _ _ | (with_reducible refine Below.trans ?_ (Below.mono (by assumption) (by first | omega | (simp; done) | (simp; omega)))))
set_option maxRecDepth 100000 in
set_option maxHeartbeats 4000000 in
theorem ract_2w (t : Tab) (n oty key other : Int) (oap : Bool) (a : Option Addr) (cap : Nat) (w : World) (hlen : t.ks.length ≤ 9223372036854775807) (h0 : 0 ≤ n) (h8 : n < 8) (hh : t.h < 8)
   (hk : KeysIn w a t.ks) (hn : a = none → cap = 0) (hty : (t.ty == 0) = false → 0 ≤ t.h) (qz : ((keysF t.ks).getD n.toNat 0 == 0) = false) (qn : (key != (keysF t.ks).getD n.toNat 0) = false) (qh : rholdsF t.ks t.h t.ty n = true) (qt : (t.ty != oty) = true) :
    Calls Try.prog 20 #[.agg #[.int .u32 t.g, .slice a t.ks.length cap, .int .i64 t.h, .int .i64 t.ty, .bool t.ap], .int .i64 n, .agg #[.int .i64 (2), .int .i64 oty, .int .u64 key, .int .u64 other, .bool oap]] w (ActPost (ractF t n (2) oty key other oap) w) := by
  have Hqz := Lib.hid qz; clear qz
  have Hqn := Lib.hid qn; clear qn
  have HK := Lib.hid hk; clear hk
  have HN := Lib.hid hn; clear hn
  go_enter Try.func20, Try.ntmps20
  go_wp2_with fail
  obtain ⟨b0, b1, b2⟩ := heap3 w (.cells #[.int .u32 t.g, .slice a t.ks.length cap, .int .i64 t.h, .int .i64 t.ty, .bool t.ap] 25) (.cells #[.int .i64 (2), .int .i64 oty, .int .u64 key, .int .u64 other, .bool oap] 43) (.cells #[.int .u32 0, .slice none 0 0, .int .i64 0, .int .i64 0, .bool false] 25)
  refine (keys_any _ _ _ _ _ _ _ _ hlen (HK.out.below (by repeat (first | with_reducible assumption | (with_reducible refine Below.setCell ?_ (by first | omega | (simp; done) | (simp; omega)) _) | (with_reducible refine Below.alloc ?_ (by first | omega | (simp; done) | (simp; omega)) _) | (with_reducible refine Below.drew ?_) | (with_reducible refine below_dN ?_ _) | with_reducible exact Below.refl _ _ | (with_reducible refine Below.trans ?_ (Below.mono (by assumption) (by first | omega | (simp; done) | (simp; omega)))))))).mono ?_
  rintro e w1 ⟨rfl, hb⟩
  have hz1 := hb.size
  simp only [World.size_alloc] at hz1
  have c0 := (hb.block _ (by first | (simp; done) | (simp; omega))).trans b0
  have c1 := (hb.block _ (by first | (simp; done) | (simp; omega))).trans b1
  have c2 := (hb.block _ (by first | (simp; done) | (simp; omega))).trans b2
  have hbw : Below w.heap.size w w1 := by repeat (first | with_reducible assumption | (with_reducible refine Below.setCell ?_ (by first | omega | (simp; done) | (simp; omega)) _) | (with_reducible refine Below.alloc ?_ (by first | omega | (simp; done) | (simp; omega)) _) | (with_reducible refine Below.drew ?_) | (with_reducible refine below_dN ?_ _) | with_reducible exact Below.refl _ _ | (with_reducible refine Below.trans ?_ (Below.mono (by assumption) (by first | omega | (simp; done) | (simp; omega)))))
  clear b0 b1 b2 hb
  have hidx := fun w => idx8 (keysF t.ks) (keysF_length t.ks) n h0 h8 w
  have HX0 : Hid ((keysF t.ks).getD n.toNat 0 = (keysF t.ks).getD n.toNat 0) := Lib.hid rfl
  generalize hx : (keysF t.ks).getD n.toNat 0 = x at hidx
  have HX := Lib.hid hx
  clear hx HX0
  have HD := Lib.hid (And.intro c0 (And.intro c1 (And.intro c2 hbw)))
  have z0 := (blk5 c0).1
  have z1 := (blk5 c0).2.1
  have z2 := (blk5 c0).2.2.1
  have z3 := (blk5 c0).2.2.2.1
  have z4 := (blk5 c0).2.2.2.2.1
  have y0 := (blk5 c0).2.2.2.2.2.1
  have y1 := (blk5 c0).2.2.2.2.2.2.1
  have y2 := (blk5 c0).2.2.2.2.2.2.2.1
  have y3 := (blk5 c0).2.2.2.2.2.2.2.2.1
  have y4 := (blk5 c0).2.2.2.2.2.2.2.2.2
  have o0 := (blk5 c1).1
  have o1 := (blk5 c1).2.1
  have o2 := (blk5 c1).2.2.1
  have o3 := (blk5 c1).2.2.2.1
  have o4 := (blk5 c1).2.2.2.2.1
  have p0 := (blk5 c1).2.2.2.2.2.1
  have p1 := (blk5 c1).2.2.2.2.2.2.1
  have p2 := (blk5 c1).2.2.2.2.2.2.2.1
  have p3 := (blk5 c1).2.2.2.2.2.2.2.2.1
  have p4 := (blk5 c1).2.2.2.2.2.2.2.2.2
  have v0 := (blk5 c2).1
  have v1 := (blk5 c2).2.1
  have v2 := (blk5 c2).2.2.1
  have v3 := (blk5 c2).2.2.2.1
  have v4 := (blk5 c2).2.2.2.2.1
  have s0 := (blk5 c2).2.2.2.2.2.1
  have s1 := (blk5 c2).2.2.2.2.2.2.1
  have s2 := (blk5 c2).2.2.2.2.2.2.2.1
  have s3 := (blk5 c2).2.2.2.2.2.2.2.2.1
  have s4 := (blk5 c2).2.2.2.2.2.2.2.2.2
  clear c0 c1 c2 hbw
  have qz : (x == 0) = false := by have h := Hqz.out; rw [HX.out] at h; exact h
  have qn : (key != x) = false := by have h := Hqn.out; rw [HX.out] at h; exact h
  dsimp only
  have HR : Hid (ractF t n (2) oty key other oap = (t, 2, [])) := Lib.hid (by unfold ractF; first | (simp only [HX.out, qz, qn, qh, qt]; rfl) | (simp only [HX.out]; simp [qz, qn, qh, qt]; done))
  repeat (first | go_values | go_skip | go_guarded | go_step | go_upon | go_quiet (fail) | (simp only [Int.not_lt, Int.not_le] at *; go_simp) | (go_values <;> (try go_simp)) | (go_ite <;> go_prune <;> (try go_simp)))
  refine (rHolds_any t.g t.h t.ty n t.ap a t.ks cap _ hlen (HK.out.below (by have hbw := HD.out.2.2.2; repeat (first | with_reducible assumption | (with_reducible refine Below.setCell ?_ (by first | omega | (simp; done) | (simp; omega)) _) | (with_reducible refine Below.alloc ?_ (by first | omega | (simp; done) | (simp; omega)) _) | (with_reducible refine Below.drew ?_) | (with_reducible refine below_dN ?_ _) | with_reducible exact Below.refl _ _ | (with_reducible refine Below.trans ?_ (Below.mono (by assumption) (by first | omega | (simp; done) | (simp; omega)))))))).mono ?_
  rintro e w3 ⟨rfl, hb3⟩
  dsimp only
  rw [qh]
  have hl2 : w.heap.size + 1 + 1 < w1.heap.size := (Array.getElem?_eq_some_iff.1 HD.out.2.2.1).1
  have hs3 := hb3.size
  have e0 := (hb3.block w.heap.size (by first | omega | (simp; omega))).trans HD.out.1
  have e1 := (hb3.block (w.heap.size + 1) (by first | omega | (simp; omega))).trans HD.out.2.1
  have e2 := (hb3.block (w.heap.size + 1 + 1) (by first | omega | (simp; omega))).trans HD.out.2.2.1
  have hbw3 : Below w.heap.size w w3 := Below.trans (by have hbw := HD.out.2.2.2; repeat (first | with_reducible assumption | (with_reducible refine Below.setCell ?_ (by first | omega | (simp; done) | (simp; omega)) _) | (with_reducible refine Below.alloc ?_ (by first | omega | (simp; done) | (simp; omega)) _) | (with_reducible refine Below.drew ?_) | (with_reducible refine below_dN ?_ _) | with_reducible exact Below.refl _ _ | (with_reducible refine Below.trans ?_ (Below.mono (by assumption) (by first | omega | (simp; done) | (simp; omega)))))) (hb3.mono (by first | omega | (simp; omega)))
  have HD3 := Lib.hid (And.intro e0 (And.intro e1 (And.intro e2 hbw3)))
  clear z0 z1 z2 z3 z4 y0 y1 y2 y3 y4 o0 o1 o2 o3 o4 p0 p1 p2 p3 p4 v0 v1 v2 v3 v4 s0 s1 s2 s3 s4 hb3 hs3
  have z0 := (blk5 e0).1
  have z1 := (blk5 e0).2.1
  have z2 := (blk5 e0).2.2.1
  have z3 := (blk5 e0).2.2.2.1
  have z4 := (blk5 e0).2.2.2.2.1
  have y0 := (blk5 e0).2.2.2.2.2.1
  have y1 := (blk5 e0).2.2.2.2.2.2.1
  have y2 := (blk5 e0).2.2.2.2.2.2.2.1
  have y3 := (blk5 e0).2.2.2.2.2.2.2.2.1
  have y4 := (blk5 e0).2.2.2.2.2.2.2.2.2
  have o0 := (blk5 e1).1
  have o1 := (blk5 e1).2.1
  have o2 := (blk5 e1).2.2.1
  have o3 := (blk5 e1).2.2.2.1
  have o4 := (blk5 e1).2.2.2.2.1
  have p0 := (blk5 e1).2.2.2.2.2.1
  have p1 := (blk5 e1).2.2.2.2.2.2.1
  have p2 := (blk5 e1).2.2.2.2.2.2.2.1
  have p3 := (blk5 e1).2.2.2.2.2.2.2.2.1
  have p4 := (blk5 e1).2.2.2.2.2.2.2.2.2
  have v0 := (blk5 e2).1
  have v1 := (blk5 e2).2.1
  have v2 := (blk5 e2).2.2.1
  have v3 := (blk5 e2).2.2.2.1
  have v4 := (blk5 e2).2.2.2.2.1
  have s0 := (blk5 e2).2.2.2.2.2.1
  have s1 := (blk5 e2).2.2.2.2.2.2.1
  have s2 := (blk5 e2).2.2.2.2.2.2.2.1
  have s3 := (blk5 e2).2.2.2.2.2.2.2.2.1
  have s4 := (blk5 e2).2.2.2.2.2.2.2.2.2
  clear e0 e1 e2 hbw3 hl2
  repeat (first | go_values | go_skip | go_guarded | go_step | go_upon | go_quiet (fail) | (simp only [Int.not_lt, Int.not_le] at *; go_simp) | (go_values <;> (try go_simp)) | (go_ite <;> go_prune <;> (try go_simp)))
  refine bodyPost_ret (v := .tuple #[.agg #[.int .u32 (t.g), .slice a t.ks.length cap, .int .i64 (t.h), .int .i64 (t.ty), .bool t.ap], .int .i64 2, .slice none 0 0]) ?_ rfl ?_
  · simp only [results, Try.results20]
    go_simp
  · unfold ActPost
    rw [HR.out]
    have hbw := HD3.out.2.2.2
    refine ⟨a, cap, none, 0, rfl, HK.out.below ?_, HN.out, IntsIn.nil _ _, ?_⟩
    all_goals repeat (first | with_reducible assumption | (with_reducible refine Below.setCell ?_ (by first | omega | (simp; done) | (simp; omega)) _) | (with_reducible refine Below.alloc ?_ (by first | omega | (simp; done) | (simp; omega)) _) | (with_reducible refine Below.drew ?_) | (with_reducible refine below_dN ?_ _) | with_reducible exact Below.refl _ _ | (with_reducible refine Below.trans ?_ (Below.mono (by assumption) (by first | omega | (simp; done) | (simp; omega)))))
set_option maxRecDepth 100000 in
set_option maxHeartbeats 4000000 in
theorem ract_2s (t : Tab) (n oty key other : Int) (oap : Bool) (a : Option Addr) (cap : Nat) (w : World) (hlen : t.ks.length ≤ 9223372036854775807) (h0 : 0 ≤ n) (h8 : n < 8) (hh : t.h < 8)
   (hk : KeysIn w a t.ks) (hn : a = none → cap = 0) (hty : (t.ty == 0) = false → 0 ≤ t.h) (qz : ((keysF t.ks).getD n.toNat 0 == 0) = false) (qn : (key != (keysF t.ks).getD n.toNat 0) = false) (qh : rholdsF t.ks t.h t.ty n = true) (qt : (t.ty != oty) = false) :
    Calls Try.prog 20 #[.agg #[.int .u32 t.g, .slice a t.ks.length cap, .int .i64 t.h, .int .i64 t.ty, .bool t.ap], .int .i64 n, .agg #[.int .i64 (2), .int .i64 oty, .int .u64 key, .int .u64 other, .bool oap]] w (ActPost (ractF t n (2) oty key other oap) w) := by
  have Hqz := Lib.hid qz; clear qz
  have Hqn := Lib.hid qn; clear qn
  have HK := Lib.hid hk; clear hk
  have HN := Lib.hid hn; clear hn
  go_enter Try.func20, Try.ntmps20
  go_wp2_with fail
  obtain ⟨b0, b1, b2⟩ := heap3 w (.cells #[.int .u32 t.g, .slice a t.ks.length cap, .int .i64 t.h, .int .i64 t.ty, .bool t.ap] 25) (.cells #[.int .i64 (2), .int .i64 oty, .int .u64 key, .int .u64 other, .bool oap] 43) (.cells #[.int .u32 0, .slice none 0 0, .int .i64 0, .int .i64 0, .bool false] 25)
  refine (keys_any _ _ _ _ _ _ _ _ hlen (HK.out.below (by repeat (first | with_reducible assumption | (with_reducible refine Below.setCell ?_ (by first | omega | (simp; done) | (simp; omega)) _) | (with_reducible refine Below.alloc ?_ (by first | omega | (simp; done) | (simp; omega)) _) | (with_reducible refine Below.drew ?_) | (with_reducible refine below_dN ?_ _) | with_reducible exact Below.refl _ _ | (with_reducible refine Below.trans ?_ (Below.mono (by assumption) (by first | omega | (simp; done) | (simp; omega)))))))).mono ?_
  rintro e w1 ⟨rfl, hb⟩
  have hz1 := hb.size
  simp only [World.size_alloc] at hz1
  have c0 := (hb.block _ (by first | (simp; done) | (simp; omega))).trans b0
  have c1 := (hb.block _ (by first | (simp; done) | (simp; omega))).trans b1
  have c2 := (hb.block _ (by first | (simp; done) | (simp; omega))).trans b2
  have hbw : Below w.heap.size w w1 := by repeat (first | with_reducible assumption | (with_reducible refine Below.setCell ?_ (by first | omega | (simp; done) | (simp; omega)) _) | (with_reducible refine Below.alloc ?_ (by first | omega | (simp; done) | (simp; omega)) _) | (with_reducible refine Below.drew ?_) | (with_reducible refine below_dN ?_ _) | with_reducible exact Below.refl _ _ | (with_reducible refine Below.trans ?_ (Below.mono (by assumption) (by first | omega | (simp; done) | (simp; omega)))))
  clear b0 b1 b2 hb
  have hidx := fun w => idx8 (keysF t.ks) (keysF_length t.ks) n h0 h8 w
  have HX0 : Hid ((keysF t.ks).getD n.toNat 0 = (keysF t.ks).getD n.toNat 0) := Lib.hid rfl
  generalize hx : (keysF t.ks).getD n.toNat 0 = x at hidx
  have HX := Lib.hid hx
  clear hx HX0
  have HD := Lib.hid (And.intro c0 (And.intro c1 (And.intro c2 hbw)))
  have z0 := (blk5 c0).1
  have z1 := (blk5 c0).2.1
  have z2 := (blk5 c0).2.2.1
  have z3 := (blk5 c0).2.2.2.1
  have z4 := (blk5 c0).2.2.2.2.1
  have y0 := (blk5 c0).2.2.2.2.2.1
  have y1 := (blk5 c0).2.2.2.2.2.2.1
  have y2 := (blk5 c0).2.2.2.2.2.2.2.1
  have y3 := (blk5 c0).2.2.2.2.2.2.2.2.1
  have y4 := (blk5 c0).2.2.2.2.2.2.2.2.2
  have o0 := (blk5 c1).1
  have o1 := (blk5 c1).2.1
  have o2 := (blk5 c1).2.2.1
  have o3 := (blk5 c1).2.2.2.1
  have o4 := (blk5 c1).2.2.2.2.1
  have p0 := (blk5 c1).2.2.2.2.2.1
  have p1 := (blk5 c1).2.2.2.2.2.2.1
  have p2 := (blk5 c1).2.2.2.2.2.2.2.1
  have p3 := (blk5 c1).2.2.2.2.2.2.2.2.1
  have p4 := (blk5 c1).2.2.2.2.2.2.2.2.2
  have v0 := (blk5 c2).1
  have v1 := (blk5 c2).2.1
  have v2 := (blk5 c2).2.2.1
  have v3 := (blk5 c2).2.2.2.1
  have v4 := (blk5 c2).2.2.2.2.1
  have s0 := (blk5 c2).2.2.2.2.2.1
  have s1 := (blk5 c2).2.2.2.2.2.2.1
  have s2 := (blk5 c2).2.2.2.2.2.2.2.1
  have s3 := (blk5 c2).2.2.2.2.2.2.2.2.1
  have s4 := (blk5 c2).2.2.2.2.2.2.2.2.2
  clear c0 c1 c2 hbw
  have qz : (x == 0) = false := by have h := Hqz.out; rw [HX.out] at h; exact h
  have qn : (key != x) = false := by have h := Hqn.out; rw [HX.out] at h; exact h
  dsimp only
  have HR : Hid (ractF t n (2) oty key other oap = (⟨t.g, t.ks, -1, 0, t.ap⟩, 0, [])) := Lib.hid (by unfold ractF; first | (simp only [HX.out, qz, qn, qh, qt]; rfl) | (simp only [HX.out]; simp [qz, qn, qh, qt]; done))
  repeat (first | go_values | go_skip | go_guarded | go_step | go_upon | go_quiet (fail) | (simp only [Int.not_lt, Int.not_le] at *; go_simp) | (go_values <;> (try go_simp)) | (go_ite <;> go_prune <;> (try go_simp)))
  refine (rHolds_any t.g t.h t.ty n t.ap a t.ks cap _ hlen (HK.out.below (by have hbw := HD.out.2.2.2; repeat (first | with_reducible assumption | (with_reducible refine Below.setCell ?_ (by first | omega | (simp; done) | (simp; omega)) _) | (with_reducible refine Below.alloc ?_ (by first | omega | (simp; done) | (simp; omega)) _) | (with_reducible refine Below.drew ?_) | (with_reducible refine below_dN ?_ _) | with_reducible exact Below.refl _ _ | (with_reducible refine Below.trans ?_ (Below.mono (by assumption) (by first | omega | (simp; done) | (simp; omega)))))))).mono ?_
  rintro e w3 ⟨rfl, hb3⟩
  dsimp only
  rw [qh]
  have hl2 : w.heap.size + 1 + 1 < w1.heap.size := (Array.getElem?_eq_some_iff.1 HD.out.2.2.1).1
  have hs3 := hb3.size
  have e0 := (hb3.block w.heap.size (by first | omega | (simp; omega))).trans HD.out.1
  have e1 := (hb3.block (w.heap.size + 1) (by first | omega | (simp; omega))).trans HD.out.2.1
  have e2 := (hb3.block (w.heap.size + 1 + 1) (by first | omega | (simp; omega))).trans HD.out.2.2.1
  have hbw3 : Below w.heap.size w w3 := Below.trans (by have hbw := HD.out.2.2.2; repeat (first | with_reducible assumption | (with_reducible refine Below.setCell ?_ (by first | omega | (simp; done) | (simp; omega)) _) | (with_reducible refine Below.alloc ?_ (by first | omega | (simp; done) | (simp; omega)) _) | (with_reducible refine Below.drew ?_) | (with_reducible refine below_dN ?_ _) | with_reducible exact Below.refl _ _ | (with_reducible refine Below.trans ?_ (Below.mono (by assumption) (by first | omega | (simp; done) | (simp; omega)))))) (hb3.mono (by first | omega | (simp; omega)))
  have HD3 := Lib.hid (And.intro e0 (And.intro e1 (And.intro e2 hbw3)))
  clear z0 z1 z2 z3 z4 y0 y1 y2 y3 y4 o0 o1 o2 o3 o4 p0 p1 p2 p3 p4 v0 v1 v2 v3 v4 s0 s1 s2 s3 s4 hb3 hs3
  have z0 := (blk5 e0).1
  have z1 := (blk5 e0).2.1
  have z2 := (blk5 e0).2.2.1
  have z3 := (blk5 e0).2.2.2.1
  have z4 := (blk5 e0).2.2.2.2.1
  have y0 := (blk5 e0).2.2.2.2.2.1
  have y1 := (blk5 e0).2.2.2.2.2.2.1
  have y2 := (blk5 e0).2.2.2.2.2.2.2.1
  have y3 := (blk5 e0).2.2.2.2.2.2.2.2.1
  have y4 := (blk5 e0).2.2.2.2.2.2.2.2.2
  have o0 := (blk5 e1).1
  have o1 := (blk5 e1).2.1
  have o2 := (blk5 e1).2.2.1
  have o3 := (blk5 e1).2.2.2.1
  have o4 := (blk5 e1).2.2.2.2.1
  have p0 := (blk5 e1).2.2.2.2.2.1
  have p1 := (blk5 e1).2.2.2.2.2.2.1
  have p2 := (blk5 e1).2.2.2.2.2.2.2.1
  have p3 := (blk5 e1).2.2.2.2.2.2.2.2.1
  have p4 := (blk5 e1).2.2.2.2.2.2.2.2.2
  have v0 := (blk5 e2).1
  have v1 := (blk5 e2).2.1
  have v2 := (blk5 e2).2.2.1
  have v3 := (blk5 e2).2.2.2.1
  have v4 := (blk5 e2).2.2.2.2.1
  have s0 := (blk5 e2).2.2.2.2.2.1
  have s1 := (blk5 e2).2.2.2.2.2.2.1
  have s2 := (blk5 e2).2.2.2.2.2.2.2.1
  have s3 := (blk5 e2).2.2.2.2.2.2.2.2.1
  have s4 := (blk5 e2).2.2.2.2.2.2.2.2.2
  clear e0 e1 e2 hbw3 hl2
  repeat (fail_if_success (with_reducible refine stop_pos "ref.go:149" rfl ?_)
          first | go_values | go_skip | go_guarded | go_step | go_upon | go_quiet (fail) | (simp only [Int.not_lt, Int.not_le] at *; go_simp) | (go_values <;> (try go_simp)) | (go_ite <;> go_prune <;> (try go_simp)))
  refine gen_world (fun wx => wx.heap[w.heap.size]? = some (.cells #[.int .u32 (t.g), .slice a t.ks.length cap, .int .i64 (-1), .int .i64 (0), .bool t.ap] 25) ∧ wx.heap[w.heap.size + 1]? = some (.cells #[.int .i64 (2), .int .i64 oty, .int .u64 key, .int .u64 other, .bool oap] 43) ∧ wx.heap[w.heap.size + 1 + 1]? = some (.cells #[.int .u32 0, .slice none 0 0, .int .i64 0, .int .i64 0, .bool false] 25) ∧ Below w.heap.size w wx) ?_ ?_
  · have hbw := HD3.out.2.2.2
    refine ⟨?_, heap_set_ne (by omega) (heap_set_ne (by omega) (HD3.out.2.1)), heap_set_ne (by omega) (heap_set_ne (by omega) (HD3.out.2.2.1)), by repeat (first | with_reducible assumption | (with_reducible refine Below.setCell ?_ (by first | omega | (simp; done) | (simp; omega)) _) | (with_reducible refine Below.alloc ?_ (by first | omega | (simp; done) | (simp; omega)) _) | (with_reducible refine Below.drew ?_) | (with_reducible refine below_dN ?_ _) | with_reducible exact Below.refl _ _ | (with_reducible refine Below.trans ?_ (Below.mono (by assumption) (by first | omega | (simp; done) | (simp; omega)))))⟩
    refine Eq.trans (set_blk (set_blk (HD3.out.1) _) _) ?_
    simp [u32]
  intro w4 hw4
  have H4 := Lib.hid hw4
  clear hw4
  clear z0 z1 z2 z3 z4 y0 y1 y2 y3 y4 o0 o1 o2 o3 o4 p0 p1 p2 p3 p4 v0 v1 v2 v3 v4 s0 s1 s2 s3 s4
  have z0 := (blk5 H4.out.1).1
  have z1 := (blk5 H4.out.1).2.1
  have z2 := (blk5 H4.out.1).2.2.1
  have z3 := (blk5 H4.out.1).2.2.2.1
  have z4 := (blk5 H4.out.1).2.2.2.2.1
  have y0 := (blk5 H4.out.1).2.2.2.2.2.1
  have y1 := (blk5 H4.out.1).2.2.2.2.2.2.1
  have y2 := (blk5 H4.out.1).2.2.2.2.2.2.2.1
  have y3 := (blk5 H4.out.1).2.2.2.2.2.2.2.2.1
  have y4 := (blk5 H4.out.1).2.2.2.2.2.2.2.2.2
  have o0 := (blk5 H4.out.2.1).1
  have o1 := (blk5 H4.out.2.1).2.1
  have o2 := (blk5 H4.out.2.1).2.2.1
  have o3 := (blk5 H4.out.2.1).2.2.2.1
  have o4 := (blk5 H4.out.2.1).2.2.2.2.1
  have p0 := (blk5 H4.out.2.1).2.2.2.2.2.1
  have p1 := (blk5 H4.out.2.1).2.2.2.2.2.2.1
  have p2 := (blk5 H4.out.2.1).2.2.2.2.2.2.2.1
  have p3 := (blk5 H4.out.2.1).2.2.2.2.2.2.2.2.1
  have p4 := (blk5 H4.out.2.1).2.2.2.2.2.2.2.2.2
  have v0 := (blk5 H4.out.2.2.1).1
  have v1 := (blk5 H4.out.2.2.1).2.1
  have v2 := (blk5 H4.out.2.2.1).2.2.1
  have v3 := (blk5 H4.out.2.2.1).2.2.2.1
  have v4 := (blk5 H4.out.2.2.1).2.2.2.2.1
  have s0 := (blk5 H4.out.2.2.1).2.2.2.2.2.1
  have s1 := (blk5 H4.out.2.2.1).2.2.2.2.2.2.1
  have s2 := (blk5 H4.out.2.2.1).2.2.2.2.2.2.2.1
  have s3 := (blk5 H4.out.2.2.1).2.2.2.2.2.2.2.2.1
  have s4 := (blk5 H4.out.2.2.1).2.2.2.2.2.2.2.2.2
  repeat (first | go_values | go_skip | go_guarded | go_step | go_upon | go_quiet (fail))
  refine bodyPost_ret (v := .tuple #[.agg #[.int .u32 (t.g), .slice a t.ks.length cap, .int .i64 (-1), .int .i64 (0), .bool t.ap], .int .i64 0, .slice none 0 0]) ?_ rfl ?_
  · simp only [results, Try.results20]
    go_simp
  · unfold ActPost
    rw [HR.out]
    have hbw := H4.out.2.2.2
    refine ⟨a, cap, none, 0, rfl, HK.out.below ?_, HN.out, IntsIn.nil _ _, ?_⟩
    all_goals repeat (first | with_reducible assumption | (with_reducible refine Below.setCell ?_ (by first | omega | (simp; done) | (simp; omega)) _) | (with_reducible refine Below.alloc ?_ (by first | omega | (simp; done) | (simp; omega)) _) | (with_reducible refine Below.drew ?_) | (with_reducible refine below_dN ?_ _) | with_reducible exact Below.refl _ _ | (with_reducible refine Below.trans ?_ (Below.mono (by assumption) (by first | omega | (simp; done) | (simp; omega)))))
set_option maxRecDepth 100000 in
set_option maxHeartbeats 4000000 in
theorem ract_3p (t : Tab) (n oty key other : Int) (oap : Bool) (a : Option Addr) (cap : Nat) (w : World) (hlen : t.ks.length ≤ 9223372036854775807) (h0 : 0 ≤ n) (h8 : n < 8) (hh : t.h < 8)
   (hk : KeysIn w a t.ks) (hn : a = none → cap = 0) (hty : (t.ty == 0) = false → 0 ≤ t.h) (qz : ((keysF t.ks).getD n.toNat 0 == 0) = false) (qn : (key != (keysF t.ks).getD n.toNat 0) = false) :
    Calls Try.prog 20 #[.agg #[.int .u32 t.g, .slice a t.ks.length cap, .int .i64 t.h, .int .i64 t.ty, .bool t.ap], .int .i64 n, .agg #[.int .i64 (3), .int .i64 oty, .int .u64 key, .int .u64 other, .bool oap]] w (ActPost (ractF t n (3) oty key other oap) w) := by
  have Hqz := Lib.hid qz; clear qz
  have Hqn := Lib.hid qn; clear qn
  have HK := Lib.hid hk; clear hk
  have HN := Lib.hid hn; clear hn
  go_enter Try.func20, Try.ntmps20
  go_wp2_with fail
  obtain ⟨b0, b1, b2⟩ := heap3 w (.cells #[.int .u32 t.g, .slice a t.ks.length cap, .int .i64 t.h, .int .i64 t.ty, .bool t.ap] 25) (.cells #[.int .i64 (3), .int .i64 oty, .int .u64 key, .int .u64 other, .bool oap] 43) (.cells #[.int .u32 0, .slice none 0 0, .int .i64 0, .int .i64 0, .bool false] 25)
  refine (keys_any _ _ _ _ _ _ _ _ hlen (HK.out.below (by repeat (first | with_reducible assumption | (with_reducible refine Below.setCell ?_ (by first | omega | (simp; done) | (simp; omega)) _) | (with_reducible refine Below.alloc ?_ (by first | omega | (simp; done) | (simp; omega)) _) | (with_reducible refine Below.drew ?_) | (with_reducible refine below_dN ?_ _) | with_reducible exact Below.refl _ _ | (with_reducible refine Below.trans ?_ (Below.mono (by assumption) (by first | omega | (simp; done) | (simp; omega)))))))).mono ?_
  rintro e w1 ⟨rfl, hb⟩
  have hz1 := hb.size
  simp only [World.size_alloc] at hz1
  have c0 := (hb.block _ (by first | (simp; done) | (simp; omega))).trans b0
  have c1 := (hb.block _ (by first | (simp; done) | (simp; omega))).trans b1
  have c2 := (hb.block _ (by first | (simp; done) | (simp; omega))).trans b2
  have hbw : Below w.heap.size w w1 := by repeat (first | with_reducible assumption | (with_reducible refine Below.setCell ?_ (by first | omega | (simp; done) | (simp; omega)) _) | (with_reducible refine Below.alloc ?_ (by first | omega | (simp; done) | (simp; omega)) _) | (with_reducible refine Below.drew ?_) | (with_reducible refine below_dN ?_ _) | with_reducible exact Below.refl _ _ | (with_reducible refine Below.trans ?_ (Below.mono (by assumption) (by first | omega | (simp; done) | (simp; omega)))))
  clear b0 b1 b2 hb
  have hidx := fun w => idx8 (keysF t.ks) (keysF_length t.ks) n h0 h8 w
  have HX0 : Hid ((keysF t.ks).getD n.toNat 0 = (keysF t.ks).getD n.toNat 0) := Lib.hid rfl
  generalize hx : (keysF t.ks).getD n.toNat 0 = x at hidx
  have HX := Lib.hid hx
  clear hx HX0
  have HD := Lib.hid (And.intro c0 (And.intro c1 (And.intro c2 hbw)))
  have z0 := (blk5 c0).1
  have z1 := (blk5 c0).2.1
  have z2 := (blk5 c0).2.2.1
  have z3 := (blk5 c0).2.2.2.1
  have z4 := (blk5 c0).2.2.2.2.1
  have y0 := (blk5 c0).2.2.2.2.2.1
  have y1 := (blk5 c0).2.2.2.2.2.2.1
  have y2 := (blk5 c0).2.2.2.2.2.2.2.1
  have y3 := (blk5 c0).2.2.2.2.2.2.2.2.1
  have y4 := (blk5 c0).2.2.2.2.2.2.2.2.2
  have o0 := (blk5 c1).1
  have o1 := (blk5 c1).2.1
  have o2 := (blk5 c1).2.2.1
  have o3 := (blk5 c1).2.2.2.1
  have o4 := (blk5 c1).2.2.2.2.1
  have p0 := (blk5 c1).2.2.2.2.2.1
  have p1 := (blk5 c1).2.2.2.2.2.2.1
  have p2 := (blk5 c1).2.2.2.2.2.2.2.1
  have p3 := (blk5 c1).2.2.2.2.2.2.2.2.1
  have p4 := (blk5 c1).2.2.2.2.2.2.2.2.2
  have v0 := (blk5 c2).1
  have v1 := (blk5 c2).2.1
  have v2 := (blk5 c2).2.2.1
  have v3 := (blk5 c2).2.2.2.1
  have v4 := (blk5 c2).2.2.2.2.1
  have s0 := (blk5 c2).2.2.2.2.2.1
  have s1 := (blk5 c2).2.2.2.2.2.2.1
  have s2 := (blk5 c2).2.2.2.2.2.2.2.1
  have s3 := (blk5 c2).2.2.2.2.2.2.2.2.1
  have s4 := (blk5 c2).2.2.2.2.2.2.2.2.2
  clear c0 c1 c2 hbw
  have qz : (x == 0) = false := by have h := Hqz.out; rw [HX.out] at h; exact h
  have qn : (key != x) = false := by have h := Hqn.out; rw [HX.out] at h; exact h
  dsimp only
  have HR : Hid (ractF t n (3) oty key other oap = ((rremoveF ⟨u32 (t.g + 1), t.ks, t.h, t.ty, t.ap⟩ [true, true, true, true, true, true, true, true] n).1, 0, (rremoveF ⟨u32 (t.g + 1), t.ks, t.h, t.ty, t.ap⟩ [true, true, true, true, true, true, true, true] n).2)) := Lib.hid (by unfold ractF; first | (simp only [HX.out, qz, qn]; rfl) | (simp only [HX.out]; simp [qz, qn]; done))
  repeat (fail_if_success (with_reducible refine stop_pos "ref.go:152" rfl ?_)
          first | go_values | go_skip | go_guarded | go_step | go_upon | go_quiet (fail) | (simp only [Int.not_lt, Int.not_le] at *; go_simp) | (go_values <;> (try go_simp)) | (go_ite <;> go_prune <;> (try go_simp)))
  refine gen_world (fun wx => wx.heap[w.heap.size]? = some (.cells #[.int .u32 (u32 (t.g + 1)), .slice a t.ks.length cap, .int .i64 (t.h), .int .i64 (t.ty), .bool t.ap] 25) ∧ wx.heap[w.heap.size + 1]? = some (.cells #[.int .i64 (3), .int .i64 oty, .int .u64 key, .int .u64 other, .bool oap] 43) ∧ wx.heap[w.heap.size + 1 + 1]? = some (.cells #[.int .u32 0, .slice none 0 0, .int .i64 0, .int .i64 0, .bool false] 25) ∧ Below w.heap.size w wx) ?_ ?_
  · have hbw := HD.out.2.2.2
    refine ⟨?_, heap_set_ne (by omega) (HD.out.2.1), heap_set_ne (by omega) (HD.out.2.2.1), by repeat (first | with_reducible assumption | (with_reducible refine Below.setCell ?_ (by first | omega | (simp; done) | (simp; omega)) _) | (with_reducible refine Below.alloc ?_ (by first | omega | (simp; done) | (simp; omega)) _) | (with_reducible refine Below.drew ?_) | (with_reducible refine below_dN ?_ _) | with_reducible exact Below.refl _ _ | (with_reducible refine Below.trans ?_ (Below.mono (by assumption) (by first | omega | (simp; done) | (simp; omega)))))⟩
    refine Eq.trans (set_blk (HD.out.1) _) ?_
    simp [u32]
  intro w4 hw4
  have H4 := Lib.hid hw4
  clear hw4
  clear z0 z1 z2 z3 z4 y0 y1 y2 y3 y4 o0 o1 o2 o3 o4 p0 p1 p2 p3 p4 v0 v1 v2 v3 v4 s0 s1 s2 s3 s4
  have z0 := (blk5 H4.out.1).1
  have z1 := (blk5 H4.out.1).2.1
  have z2 := (blk5 H4.out.1).2.2.1
  have z3 := (blk5 H4.out.1).2.2.2.1
  have z4 := (blk5 H4.out.1).2.2.2.2.1
  have y0 := (blk5 H4.out.1).2.2.2.2.2.1
  have y1 := (blk5 H4.out.1).2.2.2.2.2.2.1
  have y2 := (blk5 H4.out.1).2.2.2.2.2.2.2.1
  have y3 := (blk5 H4.out.1).2.2.2.2.2.2.2.2.1
  have y4 := (blk5 H4.out.1).2.2.2.2.2.2.2.2.2
  have o0 := (blk5 H4.out.2.1).1
  have o1 := (blk5 H4.out.2.1).2.1
  have o2 := (blk5 H4.out.2.1).2.2.1
  have o3 := (blk5 H4.out.2.1).2.2.2.1
  have o4 := (blk5 H4.out.2.1).2.2.2.2.1
  have p0 := (blk5 H4.out.2.1).2.2.2.2.2.1
  have p1 := (blk5 H4.out.2.1).2.2.2.2.2.2.1
  have p2 := (blk5 H4.out.2.1).2.2.2.2.2.2.2.1
  have p3 := (blk5 H4.out.2.1).2.2.2.2.2.2.2.2.1
  have p4 := (blk5 H4.out.2.1).2.2.2.2.2.2.2.2.2
  have v0 := (blk5 H4.out.2.2.1).1
  have v1 := (blk5 H4.out.2.2.1).2.1
  have v2 := (blk5 H4.out.2.2.1).2.2.1
  have v3 := (blk5 H4.out.2.2.1).2.2.2.1
  have v4 := (blk5 H4.out.2.2.1).2.2.2.2.1
  have s0 := (blk5 H4.out.2.2.1).2.2.2.2.2.1
  have s1 := (blk5 H4.out.2.2.1).2.2.2.2.2.2.1
  have s2 := (blk5 H4.out.2.2.1).2.2.2.2.2.2.2.1
  have s3 := (blk5 H4.out.2.2.1).2.2.2.2.2.2.2.2.1
  have s4 := (blk5 H4.out.2.2.1).2.2.2.2.2.2.2.2.2
  repeat (first | go_values | go_skip | go_guarded | go_step | go_upon | go_quiet (fail))
  refine (rremove_any ⟨u32 (t.g + 1), t.ks, t.h, t.ty, t.ap⟩ [true, true, true, true, true, true, true, true] n a cap w4 hlen rfl hh (HK.out.below H4.out.2.2.2)).mono ?_
  rintro e w5 ⟨vt, vi, rfl, ⟨a5, c5, rfl, hk5, hn5⟩, ⟨a6, c6, rfl, hi5⟩, hb5⟩
  dsimp only
  generalize rremoveF ⟨u32 (t.g + 1), t.ks, t.h, t.ty, t.ap⟩ [true, true, true, true, true, true, true, true] n = R at hk5 hn5 hi5 HR ⊢
  have HP := Lib.hid (And.intro hk5 (And.intro hn5 hi5))
  have hl4 : w.heap.size + 1 + 1 < w4.heap.size := (Array.getElem?_eq_some_iff.1 H4.out.2.2.1).1
  have hsz5 := hb5.size
  have e2 := (hb5.block (w.heap.size + 1 + 1) hl4).trans H4.out.2.2.1
  have hl5 : w.heap.size + 1 + 1 < w5.heap.size := by omega
  have HB5 := Lib.hid (H4.out.2.2.2.trans (hb5.mono (by omega)))
  clear hk5 hn5 hi5 hb5
  clear z0 z1 z2 z3 z4 y0 y1 y2 y3 y4 o0 o1 o2 o3 o4 p0 p1 p2 p3 p4 v0 v1 v2 v3 v4 s0 s1 s2 s3 s4
  have v0 := (blk5 e2).1
  have v1 := (blk5 e2).2.1
  have v2 := (blk5 e2).2.2.1
  have v3 := (blk5 e2).2.2.2.1
  have v4 := (blk5 e2).2.2.2.2.1
  have s0 := (blk5 e2).2.2.2.2.2.1
  have s1 := (blk5 e2).2.2.2.2.2.2.1
  have s2 := (blk5 e2).2.2.2.2.2.2.2.1
  have s3 := (blk5 e2).2.2.2.2.2.2.2.2.1
  have s4 := (blk5 e2).2.2.2.2.2.2.2.2.2
  have E2 := Lib.hid e2
  clear e2
  repeat (first | go_values | go_skip | go_guarded | go_step | go_upon | go_quiet (fail))
  refine bodyPost_ret (v := .tuple #[.agg #[.int .u32 R.1.g, .slice a5 R.1.ks.length c5, .int .i64 R.1.h, .int .i64 R.1.ty, .bool R.1.ap], .int .i64 0, .slice a6 R.2.length c6]) ?_ rfl ?_
  · simp only [results, Try.results20]
    go_simp
  · unfold ActPost
    rw [HR.out]
    have hbw := HB5.out
    refine ⟨a5, c5, a6, c6, rfl, keys_ret_alloc HP.out.1 E2.out, HP.out.2.1, (ints_ret HP.out.2.2 E2.out).below (Below.alloc (Below.refl _ _) (Nat.le_refl _) _), ?_⟩
    repeat (first | with_reducible assumption | (with_reducible refine Below.setCell ?_ (by first | omega | (simp; done) | (simp; omega)) _) | (with_reducible refine Below.alloc ?_ (by first | omega | (simp; done) | (simp; omega)) _) | (with_reducible refine Below.drew ?_) | (with_reducible refine below_dN ?_ _) | with_reducible exact Below.refl _ _ | (with_reducible refine Below.trans ?_ (Below.mono (by assumption) (by first | omega | (simp; done) | (simp; omega)))))
end Go.Proofs.Ytopakonpfbbldaa
namespace Go.Proofs.Ytopakonpfbbldaa
open Go.RowKit

theorem ract_any (t : Tab) (n ac oty key other : Int) (oap : Bool) (a : Option Addr) (cap : Nat) (w : World) (hlen : t.ks.length ≤ 9223372036854775807) (h0 : 0 ≤ n) (h8 : n < 8) (hh : t.h < 8)
   (hk : KeysIn w a t.ks) (hn : a = none → cap = 0) (hty : (t.ty == 0) = false → 0 ≤ t.h) :
    Calls Try.prog 20 #[.agg #[.int .u32 t.g, .slice a t.ks.length cap, .int .i64 t.h, .int .i64 t.ty, .bool t.ap], .int .i64 n, .agg #[.int .i64 ac, .int .i64 oty, .int .u64 key, .int .u64 other, .bool oap]] w (ActPost (ractF t n ac oty key other oap) w) := by
  cases g0 : decide (ac < 0) with
  | true => exact ract_l t n ac oty key other oap a cap w hlen h0 h8 hh hk hn hty g0
  | false =>
    cases g6 : decide (6 < ac) with
    | true => exact ract_g t n ac oty key other oap a cap w hlen h0 h8 hh hk hn hty g0 g6
    | false =>
      simp only [decide_eq_false_iff_not] at g0 g6
      have : ac = 0 ∨ ac = 1 ∨ ac = 2 ∨ ac = 3 ∨ ac = 4 ∨ ac = 5 ∨ ac = 6 := by omega
      clear g0 g6
      rcases this with rfl | rfl | rfl | rfl | rfl | rfl | rfl
      · exact ract_0 t n oty key other oap a cap w hlen h0 h8 hh hk hn hty
      · cases qz : ((keysF t.ks).getD n.toNat 0 == 0) with
        | true => exact ract_m t n 1 oty key other oap a cap w hlen h0 h8 hh hk hn hty rfl rfl rfl rfl qz
        | false =>
          cases qn : (key != (keysF t.ks).getD n.toNat 0) with
          | true => exact ract_n t n 1 oty key other oap a cap w hlen h0 h8 hh hk hn hty rfl rfl rfl rfl qz qn
          | false =>
            cases qk : knownF oty with
            | false => exact ract_1u t n oty key other oap a cap w hlen h0 h8 hh hk hn hty qz qn qk
            | true =>
              cases cz : (t.ty == 0) with
              | true => exact ract_1s t n oty key other oap a cap w hlen h0 h8 hh hk hn hty qz qn qk cz
              | false =>
                cases qh : rholdsF t.ks t.h t.ty n with
                | false => exact ract_1x t n oty key other oap a cap w hlen h0 h8 hh hk hn hty qz qn qk cz qh
                | true =>
                  cases qt : (t.ty == oty) with
                  | true => exact ract_1h t n oty key other oap a cap w hlen h0 h8 hh hk hn hty qz qn qk cz qh qt
                  | false => exact ract_1y t n oty key other oap a cap w hlen h0 h8 hh hk hn hty qz qn qk cz qh qt
      · cases qz : ((keysF t.ks).getD n.toNat 0 == 0) with
        | true => exact ract_m t n 2 oty key other oap a cap w hlen h0 h8 hh hk hn hty rfl rfl rfl rfl qz
        | false =>
          cases qn : (key != (keysF t.ks).getD n.toNat 0) with
          | true => exact ract_n t n 2 oty key other oap a cap w hlen h0 h8 hh hk hn hty rfl rfl rfl rfl qz qn
          | false =>
            cases qh : rholdsF t.ks t.h t.ty n with
            | false => exact ract_2e t n oty key other oap a cap w hlen h0 h8 hh hk hn hty qz qn qh
            | true =>
              cases qt : (t.ty != oty) with
              | true => exact ract_2w t n oty key other oap a cap w hlen h0 h8 hh hk hn hty qz qn qh qt
              | false => exact ract_2s t n oty key other oap a cap w hlen h0 h8 hh hk hn hty qz qn qh qt
      · cases qz : ((keysF t.ks).getD n.toNat 0 == 0) with
        | true => exact ract_m t n 3 oty key other oap a cap w hlen h0 h8 hh hk hn hty rfl rfl rfl rfl qz
        | false =>
          cases qn : (key != (keysF t.ks).getD n.toNat 0) with
          | true => exact ract_n t n 3 oty key other oap a cap w hlen h0 h8 hh hk hn hty rfl rfl rfl rfl qz qn
          | false =>
            exact ract_3p t n oty key other oap a cap w hlen h0 h8 hh hk hn hty qz qn
      · cases qz : ((keysF t.ks).getD n.toNat 0 == 0) with
        | true => exact ract_m t n 4 oty key other oap a cap w hlen h0 h8 hh hk hn hty rfl rfl rfl rfl qz
        | false =>
          cases qn : (key != (keysF t.ks).getD n.toNat 0) with
          | true => exact ract_n t n 4 oty key other oap a cap w hlen h0 h8 hh hk hn hty rfl rfl rfl rfl qz qn
          | false =>
            exact ract_4p t n oty key other oap a cap w hlen h0 h8 hh hk hn hty qz qn
      · cases qz : ((keysF t.ks).getD n.toNat 0 == 0) with
        | true => exact ract_m t n 5 oty key other oap a cap w hlen h0 h8 hh hk hn hty rfl rfl rfl rfl qz
        | false =>
          cases qn : (key != (keysF t.ks).getD n.toNat 0) with
          | true => exact ract_n t n 5 oty key other oap a cap w hlen h0 h8 hh hk hn hty rfl rfl rfl rfl qz qn
          | false =>
            exact ract_5p t n oty key other oap a cap w hlen h0 h8 hh hk hn hty qz qn
      · exact ract_6 t n oty key other oap a cap w hlen h0 h8 hh hk hn hty
end Go.Proofs.Ytopakonpfbbldaa
