/- What preempt of the reference of layer 10 makes, where it refuses. -/
import Derived.Test.YtopakonpfbbldaaKR8
import Derived.Test.YtopakonpfbbldaaKLib6
import Derived.Test.YtopakonpfbbldaaW7a
set_option linter.unusedSimpArgs false
set_option linter.unusedVariables false
namespace Go.Proofs.Ytopakonpfbbldaa
open Go.RowKit

set_option maxRecDepth 100000 in
set_option maxHeartbeats 4000000 in
theorem rpre_zo (t : Tab) (n ac oty key other : Int) (oap : Bool) (a : Option Addr) (cap : Nat) (w : World) (hlen : t.ks.length ≤ 9223372036854775807) (h0 : 0 ≤ n) (h8 : n < 8) (hh : t.h < 8)
   (hk : KeysIn w a t.ks) (hn : a = none → cap = 0) (hty : (t.ty == 0) = false → 0 ≤ t.h) (cz : (t.ty == 0) = true) (qo : (other == 0) = true) :
    Calls Try.prog 39 #[.agg #[.int .u32 t.g, .slice a t.ks.length cap, .int .i64 t.h, .int .i64 t.ty, .bool t.ap], .int .i64 n, .agg #[.int .i64 ac, .int .i64 oty, .int .u64 key, .int .u64 other, .bool oap]] w (ActPost (rpreF t n oty other) w) := by
  have HTK : Hid (rtakesF t other = false) := Lib.hid (by unfold rtakesF rallF; simp_all)
  have czn : (t.ty != 0) = false := by simp_all
  have c7 : (t.ty == 7) = false := by simp_all
  have c8 : (t.ty == 8) = false := by simp_all
  have HK := Lib.hid hk; clear hk
  have HN := Lib.hid hn; clear hn
  go_enter Try.func39, Try.ntmps39
  go_wp2_with fail
  obtain ⟨b0, b1, b2⟩ := heap3 w (.cells #[.int .u32 t.g, .slice a t.ks.length cap, .int .i64 t.h, .int .i64 t.ty, .bool t.ap] 25) (.cells #[.int .i64 ac, .int .i64 oty, .int .u64 key, .int .u64 other, .bool oap] 43) (.cells #[.int .u32 0, .slice none 0 0, .int .i64 0, .int .i64 0, .bool false] 25)
  refine (keys_any _ _ _ _ _ _ _ _ hlen (HK.out.below (by repeat (first | with_reducible assumption | (with_reducible refine Below.setCell ?_ (by first | omega | (simp; done) | (simp; omega)) _) | (with_reducible refine Below.alloc ?_ (by first | omega | (simp; done) | (simp; omega)) _) | (with_reducible refine Below.drew ?_) | (with_reducible refine below_dN ?_ _) | with_reducible exact Below.refl _ _ | (with_reducible refine Below.trans ?_ (Below.mono (by assumption) (by first | omega | (simp; done) | (simp; omega)))))))).mono ?_
  rintro e w1 ⟨rfl, hb⟩
  have hz1 := hb.size
  simp only [World.size_alloc] at hz1
  have c0 := (hb.block _ (by first | (simp; done) | (simp; omega))).trans b0
  have c1 := (hb.block _ (by first | (simp; done) | (simp; omega))).trans b1
  have c2 := (hb.block _ (by first | (simp; done) | (simp; omega))).trans b2
  have hbw : Below w.heap.size w w1 := by repeat (first | with_reducible assumption | (with_reducible refine Below.setCell ?_ (by first | omega | (simp; done) | (simp; omega)) _) | (with_reducible refine Below.alloc ?_ (by first | omega | (simp; done) | (simp; omega)) _) | (with_reducible refine Below.drew ?_) | (with_reducible refine below_dN ?_ _) | with_reducible exact Below.refl _ _ | (with_reducible refine Below.trans ?_ (Below.mono (by assumption) (by first | omega | (simp; done) | (simp; omega)))))
  clear b0 b1 b2 hb
  obtain ⟨k0, k1, k2, k3, k4, k5, k6, k7, hl8⟩ := list8 (keysF t.ks) (keysF_length t.ks)
  unfold arr8
  rw [hl8]
  simp only [List.map_cons, List.map_nil]
  try dsimp only
  repeat (fail_if_success (with_reducible refine stop_pos "ref.go:185" rfl ?_)
          first | go_values | go_skip | go_guarded | go_step | go_upon)
  have d3 := heap_alloc_new w1 (.cells #[.int .u64 k0, .int .u64 k1, .int .u64 k2, .int .u64 k3, .int .u64 k4, .int .u64 k5, .int .u64 k6, .int .u64 k7] 57)
  have d0 := (heap_alloc_old w1 (.cells #[.int .u64 k0, .int .u64 k1, .int .u64 k2, .int .u64 k3, .int .u64 k4, .int .u64 k5, .int .u64 k6, .int .u64 k7] 57) (r := w.heap.size) (by omega)).trans c0
  have d1 := (heap_alloc_old w1 (.cells #[.int .u64 k0, .int .u64 k1, .int .u64 k2, .int .u64 k3, .int .u64 k4, .int .u64 k5, .int .u64 k6, .int .u64 k7] 57) (r := w.heap.size + 1) (by omega)).trans c1
  have d2 := (heap_alloc_old w1 (.cells #[.int .u64 k0, .int .u64 k1, .int .u64 k2, .int .u64 k3, .int .u64 k4, .int .u64 k5, .int .u64 k6, .int .u64 k7] 57) (r := w.heap.size + 1 + 1) (by omega)).trans c2
  have hd3 : (w1.alloc (.cells #[.int .u64 k0, .int .u64 k1, .int .u64 k2, .int .u64 k3, .int .u64 k4, .int .u64 k5, .int .u64 k6, .int .u64 k7] 57)).heap[w1.heap.size]? = some (.cells ((keysF t.ks).map (Value.int .u64)).toArray 57) := by rw [d3, hl8]; rfl
  have hbw2 : Below w.heap.size w (w1.alloc (.cells #[.int .u64 k0, .int .u64 k1, .int .u64 k2, .int .u64 k3, .int .u64 k4, .int .u64 k5, .int .u64 k6, .int .u64 k7] 57)) := by repeat (first | with_reducible assumption | (with_reducible refine Below.setCell ?_ (by first | omega | (simp; done) | (simp; omega)) _) | (with_reducible refine Below.alloc ?_ (by first | omega | (simp; done) | (simp; omega)) _) | (with_reducible refine Below.drew ?_) | (with_reducible refine below_dN ?_ _) | with_reducible exact Below.refl _ _ | (with_reducible refine Below.trans ?_ (Below.mono (by assumption) (by first | omega | (simp; done) | (simp; omega)))))
  have hsz2 : w1.heap.size + 1 = (w1.alloc (.cells #[.int .u64 k0, .int .u64 k1, .int .u64 k2, .int .u64 k3, .int .u64 k4, .int .u64 k5, .int .u64 k6, .int .u64 k7] 57)).heap.size := by simp
  generalize w1.alloc (.cells #[.int .u64 k0, .int .u64 k1, .int .u64 k2, .int .u64 k3, .int .u64 k4, .int .u64 k5, .int .u64 k6, .int .u64 k7] 57) = w2 at d0 d1 d2 hd3 hbw2 hsz2 ⊢
  generalize w1.heap.size = A at hz1 hd3 hsz2 ⊢
  clear d3 c0 c1 c2 hbw hl8
  have HKL := Lib.hid (keysF_length t.ks)
  obtain ⟨K, hK⟩ : ∃ x, x = keysF t.ks := ⟨_, rfl⟩
  have HKK := Lib.hid hK
  rw [← hK] at hd3
  have HKL : Hid (K.length = 8) := Lib.hid (by rw [hK]; exact HKL.out)
  clear hK
  have HD := Lib.hid (And.intro d0 (And.intro d1 (And.intro d2 (And.intro hd3 hbw2))))
  clear d0 d1 d2 hd3 hbw2
  have z0 := (blk5 HD.out.1).1
  have z1 := (blk5 HD.out.1).2.1
  have z2 := (blk5 HD.out.1).2.2.1
  have z3 := (blk5 HD.out.1).2.2.2.1
  have z4 := (blk5 HD.out.1).2.2.2.2.1
  have y0 := (blk5 HD.out.1).2.2.2.2.2.1
  have y1 := (blk5 HD.out.1).2.2.2.2.2.2.1
  have y2 := (blk5 HD.out.1).2.2.2.2.2.2.2.1
  have y3 := (blk5 HD.out.1).2.2.2.2.2.2.2.2.1
  have y4 := (blk5 HD.out.1).2.2.2.2.2.2.2.2.2
  have o0 := (blk5 HD.out.2.1).1
  have o1 := (blk5 HD.out.2.1).2.1
  have o2 := (blk5 HD.out.2.1).2.2.1
  have o3 := (blk5 HD.out.2.1).2.2.2.1
  have o4 := (blk5 HD.out.2.1).2.2.2.2.1
  have p0 := (blk5 HD.out.2.1).2.2.2.2.2.1
  have p1 := (blk5 HD.out.2.1).2.2.2.2.2.2.1
  have p2 := (blk5 HD.out.2.1).2.2.2.2.2.2.2.1
  have p3 := (blk5 HD.out.2.1).2.2.2.2.2.2.2.2.1
  have p4 := (blk5 HD.out.2.1).2.2.2.2.2.2.2.2.2
  have v0 := (blk5 HD.out.2.2.1).1
  have v1 := (blk5 HD.out.2.2.1).2.1
  have v2 := (blk5 HD.out.2.2.1).2.2.1
  have v3 := (blk5 HD.out.2.2.1).2.2.2.1
  have v4 := (blk5 HD.out.2.2.1).2.2.2.2.1
  have s0 := (blk5 HD.out.2.2.1).2.2.2.2.2.1
  have s1 := (blk5 HD.out.2.2.1).2.2.2.2.2.2.1
  have s2 := (blk5 HD.out.2.2.1).2.2.2.2.2.2.2.1
  have s3 := (blk5 HD.out.2.2.1).2.2.2.2.2.2.2.2.1
  have s4 := (blk5 HD.out.2.2.1).2.2.2.2.2.2.2.2.2
  have hn1 : ¬ w.heap.size = A := by omega
  have hn2 : ¬ A = w.heap.size := by omega
  have hn3 : ¬ w.heap.size + 1 = A := by omega
  have hn4 : ¬ A = w.heap.size + 1 := by omega
  have hn5 : ¬ w.heap.size + 1 + 1 = A := by omega
  have hn6 : ¬ A = w.heap.size + 1 + 1 := by omega
  repeat (first | go_values | go_skip | go_guarded | go_step | go_upon | go_quiet (fail) | (simp only [Int.not_lt, Int.not_le] at *; go_simp) | (go_values <;> (try go_simp)) | (go_ite <;> go_prune <;> (try go_simp)))
  refine bodyPost_ret (v := .tuple #[.agg #[.int .u32 t.g, .slice a t.ks.length cap, .int .i64 t.h, .int .i64 t.ty, .bool t.ap], .int .i64 2, .slice none 0 0]) ?_ rfl ?_
  · simp only [results, Try.results39]
    go_simp
  · have hbw := HD.out.2.2.2.2
    unfold ActPost
    rw [show rpreF t n oty other = (t, 2, []) by unfold rpreF; simp only [HTK.out, qo]; rfl]
    refine ⟨a, cap, none, 0, rfl, HK.out.below ?_, HN.out, IntsIn.nil _ _, ?_⟩
    all_goals repeat (first | with_reducible assumption | (with_reducible refine Below.setCell ?_ (by first | omega | (simp; done) | (simp; omega)) _) | (with_reducible refine Below.alloc ?_ (by first | omega | (simp; done) | (simp; omega)) _) | (with_reducible refine Below.drew ?_) | (with_reducible refine below_dN ?_ _) | with_reducible exact Below.refl _ _ | (with_reducible refine Below.trans ?_ (Below.mono (by assumption) (by first | omega | (simp; done) | (simp; omega)))))
set_option maxRecDepth 100000 in
set_option maxHeartbeats 4000000 in
theorem rpre_a7tu (t : Tab) (n ac oty key other : Int) (oap : Bool) (a : Option Addr) (cap : Nat) (w : World) (hlen : t.ks.length ≤ 9223372036854775807) (h0 : 0 ≤ n) (h8 : n < 8) (hh : t.h < 8)
   (hk : KeysIn w a t.ks) (hn : a = none → cap = 0) (hty : (t.ty == 0) = false → 0 ≤ t.h) (cz : (t.ty == 0) = false) (c7 : (t.ty == 7) = true) (qo : (other == 0) = true) (qk : knownF oty = false) :
    Calls Try.prog 39 #[.agg #[.int .u32 t.g, .slice a t.ks.length cap, .int .i64 t.h, .int .i64 t.ty, .bool t.ap], .int .i64 n, .agg #[.int .i64 ac, .int .i64 oty, .int .u64 key, .int .u64 other, .bool oap]] w (ActPost (rpreF t n oty other) w) := by
  have HTK : Hid (rtakesF t other = true) := Lib.hid (by unfold rtakesF rallF; simp_all)
  have czn : (t.ty != 0) = true := by simp_all
  have HK := Lib.hid hk; clear hk
  have HN := Lib.hid hn; clear hn
  go_enter Try.func39, Try.ntmps39
  go_wp2_with fail
  obtain ⟨b0, b1, b2⟩ := heap3 w (.cells #[.int .u32 t.g, .slice a t.ks.length cap, .int .i64 t.h, .int .i64 t.ty, .bool t.ap] 25) (.cells #[.int .i64 ac, .int .i64 oty, .int .u64 key, .int .u64 other, .bool oap] 43) (.cells #[.int .u32 0, .slice none 0 0, .int .i64 0, .int .i64 0, .bool false] 25)
  refine (keys_any _ _ _ _ _ _ _ _ hlen (HK.out.below (by repeat (first | with_reducible assumption | (with_reducible refine Below.setCell ?_ (by first | omega | (simp; done) | (simp; omega)) _) | (with_reducible refine Below.alloc ?_ (by first | omega | (simp; done) | (simp; omega)) _) | (with_reducible refine Below.drew ?_) | (with_reducible refine below_dN ?_ _) | with_reducible exact Below.refl _ _ | (with_reducible refine Below.trans ?_ (Below.mono (by assumption) (by first | omega | (simp; done) | (simp; omega)))))))).mono ?_
  rintro e w1 ⟨rfl, hb⟩
  have hz1 := hb.size
  simp only [World.size_alloc] at hz1
  have c0 := (hb.block _ (by first | (simp; done) | (simp; omega))).trans b0
  have c1 := (hb.block _ (by first | (simp; done) | (simp; omega))).trans b1
  have c2 := (hb.block _ (by first | (simp; done) | (simp; omega))).trans b2
  have hbw : Below w.heap.size w w1 := by repeat (first | with_reducible assumption | (with_reducible refine Below.setCell ?_ (by first | omega | (simp; done) | (simp; omega)) _) | (with_reducible refine Below.alloc ?_ (by first | omega | (simp; done) | (simp; omega)) _) | (with_reducible refine Below.drew ?_) | (with_reducible refine below_dN ?_ _) | with_reducible exact Below.refl _ _ | (with_reducible refine Below.trans ?_ (Below.mono (by assumption) (by first | omega | (simp; done) | (simp; omega)))))
  clear b0 b1 b2 hb
  obtain ⟨k0, k1, k2, k3, k4, k5, k6, k7, hl8⟩ := list8 (keysF t.ks) (keysF_length t.ks)
  unfold arr8
  rw [hl8]
  simp only [List.map_cons, List.map_nil]
  try dsimp only
  repeat (fail_if_success (with_reducible refine stop_pos "ref.go:185" rfl ?_)
          first | go_values | go_skip | go_guarded | go_step | go_upon)
  have d3 := heap_alloc_new w1 (.cells #[.int .u64 k0, .int .u64 k1, .int .u64 k2, .int .u64 k3, .int .u64 k4, .int .u64 k5, .int .u64 k6, .int .u64 k7] 57)
  have d0 := (heap_alloc_old w1 (.cells #[.int .u64 k0, .int .u64 k1, .int .u64 k2, .int .u64 k3, .int .u64 k4, .int .u64 k5, .int .u64 k6, .int .u64 k7] 57) (r := w.heap.size) (by omega)).trans c0
  have d1 := (heap_alloc_old w1 (.cells #[.int .u64 k0, .int .u64 k1, .int .u64 k2, .int .u64 k3, .int .u64 k4, .int .u64 k5, .int .u64 k6, .int .u64 k7] 57) (r := w.heap.size + 1) (by omega)).trans c1
  have d2 := (heap_alloc_old w1 (.cells #[.int .u64 k0, .int .u64 k1, .int .u64 k2, .int .u64 k3, .int .u64 k4, .int .u64 k5, .int .u64 k6, .int .u64 k7] 57) (r := w.heap.size + 1 + 1) (by omega)).trans c2
  have hd3 : (w1.alloc (.cells #[.int .u64 k0, .int .u64 k1, .int .u64 k2, .int .u64 k3, .int .u64 k4, .int .u64 k5, .int .u64 k6, .int .u64 k7] 57)).heap[w1.heap.size]? = some (.cells ((keysF t.ks).map (Value.int .u64)).toArray 57) := by rw [d3, hl8]; rfl
  have hbw2 : Below w.heap.size w (w1.alloc (.cells #[.int .u64 k0, .int .u64 k1, .int .u64 k2, .int .u64 k3, .int .u64 k4, .int .u64 k5, .int .u64 k6, .int .u64 k7] 57)) := by repeat (first | with_reducible assumption | (with_reducible refine Below.setCell ?_ (by first | omega | (simp; done) | (simp; omega)) _) | (with_reducible refine Below.alloc ?_ (by first | omega | (simp; done) | (simp; omega)) _) | (with_reducible refine Below.drew ?_) | (with_reducible refine below_dN ?_ _) | with_reducible exact Below.refl _ _ | (with_reducible refine Below.trans ?_ (Below.mono (by assumption) (by first | omega | (simp; done) | (simp; omega)))))
  have hsz2 : w1.heap.size + 1 = (w1.alloc (.cells #[.int .u64 k0, .int .u64 k1, .int .u64 k2, .int .u64 k3, .int .u64 k4, .int .u64 k5, .int .u64 k6, .int .u64 k7] 57)).heap.size := by simp
  generalize w1.alloc (.cells #[.int .u64 k0, .int .u64 k1, .int .u64 k2, .int .u64 k3, .int .u64 k4, .int .u64 k5, .int .u64 k6, .int .u64 k7] 57) = w2 at d0 d1 d2 hd3 hbw2 hsz2 ⊢
  generalize w1.heap.size = A at hz1 hd3 hsz2 ⊢
  clear d3 c0 c1 c2 hbw hl8
  have HKL := Lib.hid (keysF_length t.ks)
  obtain ⟨K, hK⟩ : ∃ x, x = keysF t.ks := ⟨_, rfl⟩
  have HKK := Lib.hid hK
  rw [← hK] at hd3
  have HKL : Hid (K.length = 8) := Lib.hid (by rw [hK]; exact HKL.out)
  clear hK
  have HD := Lib.hid (And.intro d0 (And.intro d1 (And.intro d2 (And.intro hd3 hbw2))))
  clear d0 d1 d2 hd3 hbw2
  have z0 := (blk5 HD.out.1).1
  have z1 := (blk5 HD.out.1).2.1
  have z2 := (blk5 HD.out.1).2.2.1
  have z3 := (blk5 HD.out.1).2.2.2.1
  have z4 := (blk5 HD.out.1).2.2.2.2.1
  have y0 := (blk5 HD.out.1).2.2.2.2.2.1
  have y1 := (blk5 HD.out.1).2.2.2.2.2.2.1
  have y2 := (blk5 HD.out.1).2.2.2.2.2.2.2.1
  have y3 := (blk5 HD.out.1).2.2.2.2.2.2.2.2.1
  have y4 := (blk5 HD.out.1).2.2.2.2.2.2.2.2.2
  have o0 := (blk5 HD.out.2.1).1
  have o1 := (blk5 HD.out.2.1).2.1
  have o2 := (blk5 HD.out.2.1).2.2.1
  have o3 := (blk5 HD.out.2.1).2.2.2.1
  have o4 := (blk5 HD.out.2.1).2.2.2.2.1
  have p0 := (blk5 HD.out.2.1).2.2.2.2.2.1
  have p1 := (blk5 HD.out.2.1).2.2.2.2.2.2.1
  have p2 := (blk5 HD.out.2.1).2.2.2.2.2.2.2.1
  have p3 := (blk5 HD.out.2.1).2.2.2.2.2.2.2.2.1
  have p4 := (blk5 HD.out.2.1).2.2.2.2.2.2.2.2.2
  have v0 := (blk5 HD.out.2.2.1).1
  have v1 := (blk5 HD.out.2.2.1).2.1
  have v2 := (blk5 HD.out.2.2.1).2.2.1
  have v3 := (blk5 HD.out.2.2.1).2.2.2.1
  have v4 := (blk5 HD.out.2.2.1).2.2.2.2.1
  have s0 := (blk5 HD.out.2.2.1).2.2.2.2.2.1
  have s1 := (blk5 HD.out.2.2.1).2.2.2.2.2.2.1
  have s2 := (blk5 HD.out.2.2.1).2.2.2.2.2.2.2.1
  have s3 := (blk5 HD.out.2.2.1).2.2.2.2.2.2.2.2.1
  have s4 := (blk5 HD.out.2.2.1).2.2.2.2.2.2.2.2.2
  have hn1 : ¬ w.heap.size = A := by omega
  have hn2 : ¬ A = w.heap.size := by omega
  have hn3 : ¬ w.heap.size + 1 = A := by omega
  have hn4 : ¬ A = w.heap.size + 1 := by omega
  have hn5 : ¬ w.heap.size + 1 + 1 = A := by omega
  have hn6 : ¬ A = w.heap.size + 1 + 1 := by omega
  repeat (first | go_values | go_skip | go_guarded | go_step | go_upon | go_quiet (fail) | (simp only [Int.not_lt, Int.not_le] at *; go_simp) | (go_values <;> (try go_simp)) | (go_ite <;> go_prune <;> (try go_simp)))
  refine (rknown_any oty _).mono ?_
  rintro e wk ⟨rfl, hwk⟩
  subst hwk
  dsimp only
  rw [qk]
  repeat (first | go_values | go_skip | go_guarded | go_step | go_upon | go_quiet (fail) | (simp only [Int.not_lt, Int.not_le] at *; go_simp) | (go_values <;> (try go_simp)) | (go_ite <;> go_prune <;> (try go_simp)))
  refine bodyPost_ret (v := .tuple #[.agg #[.int .u32 t.g, .slice a t.ks.length cap, .int .i64 t.h, .int .i64 t.ty, .bool t.ap], .int .i64 2, .slice none 0 0]) ?_ rfl ?_
  · simp only [results, Try.results39]
    go_simp
  · have hbw := HD.out.2.2.2.2
    unfold ActPost
    rw [show rpreF t n oty other = (t, 2, []) by unfold rpreF; simp only [HTK.out, qk, qo]; rfl]
    refine ⟨a, cap, none, 0, rfl, HK.out.below ?_, HN.out, IntsIn.nil _ _, ?_⟩
    all_goals repeat (first | with_reducible assumption | (with_reducible refine Below.setCell ?_ (by first | omega | (simp; done) | (simp; omega)) _) | (with_reducible refine Below.alloc ?_ (by first | omega | (simp; done) | (simp; omega)) _) | (with_reducible refine Below.drew ?_) | (with_reducible refine below_dN ?_ _) | with_reducible exact Below.refl _ _ | (with_reducible refine Below.trans ?_ (Below.mono (by assumption) (by first | omega | (simp; done) | (simp; omega)))))
set_option maxRecDepth 100000 in
set_option maxHeartbeats 4000000 in
theorem rpre_a8tu (t : Tab) (n ac oty key other : Int) (oap : Bool) (a : Option Addr) (cap : Nat) (w : World) (hlen : t.ks.length ≤ 9223372036854775807) (h0 : 0 ≤ n) (h8 : n < 8) (hh : t.h < 8)
   (hk : KeysIn w a t.ks) (hn : a = none → cap = 0) (hty : (t.ty == 0) = false → 0 ≤ t.h) (cz : (t.ty == 0) = false) (c7 : (t.ty == 7) = false) (c8 : (t.ty == 8) = true) (qo : (other == 0) = true) (qk : knownF oty = false) :
    Calls Try.prog 39 #[.agg #[.int .u32 t.g, .slice a t.ks.length cap, .int .i64 t.h, .int .i64 t.ty, .bool t.ap], .int .i64 n, .agg #[.int .i64 ac, .int .i64 oty, .int .u64 key, .int .u64 other, .bool oap]] w (ActPost (rpreF t n oty other) w) := by
  have HTK : Hid (rtakesF t other = true) := Lib.hid (by unfold rtakesF rallF; simp_all)
  have czn : (t.ty != 0) = true := by simp_all
  have HK := Lib.hid hk; clear hk
  have HN := Lib.hid hn; clear hn
  go_enter Try.func39, Try.ntmps39
  go_wp2_with fail
  obtain ⟨b0, b1, b2⟩ := heap3 w (.cells #[.int .u32 t.g, .slice a t.ks.length cap, .int .i64 t.h, .int .i64 t.ty, .bool t.ap] 25) (.cells #[.int .i64 ac, .int .i64 oty, .int .u64 key, .int .u64 other, .bool oap] 43) (.cells #[.int .u32 0, .slice none 0 0, .int .i64 0, .int .i64 0, .bool false] 25)
  refine (keys_any _ _ _ _ _ _ _ _ hlen (HK.out.below (by repeat (first | with_reducible assumption | (with_reducible refine Below.setCell ?_ (by first | omega | (simp; done) | (simp; omega)) _) | (with_reducible refine Below.alloc ?_ (by first | omega | (simp; done) | (simp; omega)) _) | (with_reducible refine Below.drew ?_) | (with_reducible refine below_dN ?_ _) | with_reducible exact Below.refl _ _ | (with_reducible refine Below.trans ?_ (Below.mono (by assumption) (by first | omega | (simp; done) | (simp; omega)))))))).mono ?_
  rintro e w1 ⟨rfl, hb⟩
  have hz1 := hb.size
  simp only [World.size_alloc] at hz1
  have c0 := (hb.block _ (by first | (simp; done) | (simp; omega))).trans b0
  have c1 := (hb.block _ (by first | (simp; done) | (simp; omega))).trans b1
  have c2 := (hb.block _ (by first | (simp; done) | (simp; omega))).trans b2
  have hbw : Below w.heap.size w w1 := by repeat (first | with_reducible assumption | (with_reducible refine Below.setCell ?_ (by first | omega | (simp; done) | (simp; omega)) _) | (with_reducible refine Below.alloc ?_ (by first | omega | (simp; done) | (simp; omega)) _) | (with_reducible refine Below.drew ?_) | (with_reducible refine below_dN ?_ _) | with_reducible exact Below.refl _ _ | (with_reducible refine Below.trans ?_ (Below.mono (by assumption) (by first | omega | (simp; done) | (simp; omega)))))
  clear b0 b1 b2 hb
  obtain ⟨k0, k1, k2, k3, k4, k5, k6, k7, hl8⟩ := list8 (keysF t.ks) (keysF_length t.ks)
  unfold arr8
  rw [hl8]
  simp only [List.map_cons, List.map_nil]
  try dsimp only
  repeat (fail_if_success (with_reducible refine stop_pos "ref.go:185" rfl ?_)
          first | go_values | go_skip | go_guarded | go_step | go_upon)
  have d3 := heap_alloc_new w1 (.cells #[.int .u64 k0, .int .u64 k1, .int .u64 k2, .int .u64 k3, .int .u64 k4, .int .u64 k5, .int .u64 k6, .int .u64 k7] 57)
  have d0 := (heap_alloc_old w1 (.cells #[.int .u64 k0, .int .u64 k1, .int .u64 k2, .int .u64 k3, .int .u64 k4, .int .u64 k5, .int .u64 k6, .int .u64 k7] 57) (r := w.heap.size) (by omega)).trans c0
  have d1 := (heap_alloc_old w1 (.cells #[.int .u64 k0, .int .u64 k1, .int .u64 k2, .int .u64 k3, .int .u64 k4, .int .u64 k5, .int .u64 k6, .int .u64 k7] 57) (r := w.heap.size + 1) (by omega)).trans c1
  have d2 := (heap_alloc_old w1 (.cells #[.int .u64 k0, .int .u64 k1, .int .u64 k2, .int .u64 k3, .int .u64 k4, .int .u64 k5, .int .u64 k6, .int .u64 k7] 57) (r := w.heap.size + 1 + 1) (by omega)).trans c2
  have hd3 : (w1.alloc (.cells #[.int .u64 k0, .int .u64 k1, .int .u64 k2, .int .u64 k3, .int .u64 k4, .int .u64 k5, .int .u64 k6, .int .u64 k7] 57)).heap[w1.heap.size]? = some (.cells ((keysF t.ks).map (Value.int .u64)).toArray 57) := by rw [d3, hl8]; rfl
  have hbw2 : Below w.heap.size w (w1.alloc (.cells #[.int .u64 k0, .int .u64 k1, .int .u64 k2, .int .u64 k3, .int .u64 k4, .int .u64 k5, .int .u64 k6, .int .u64 k7] 57)) := by repeat (first | with_reducible assumption | (with_reducible refine Below.setCell ?_ (by first | omega | (simp; done) | (simp; omega)) _) | (with_reducible refine Below.alloc ?_ (by first | omega | (simp; done) | (simp; omega)) _) | (with_reducible refine Below.drew ?_) | (with_reducible refine below_dN ?_ _) | with_reducible exact Below.refl _ _ | (with_reducible refine Below.trans ?_ (Below.mono (by assumption) (by first | omega | (simp; done) | (simp; omega)))))
  have hsz2 : w1.heap.size + 1 = (w1.alloc (.cells #[.int .u64 k0, .int .u64 k1, .int .u64 k2, .int .u64 k3, .int .u64 k4, .int .u64 k5, .int .u64 k6, .int .u64 k7] 57)).heap.size := by simp
  generalize w1.alloc (.cells #[.int .u64 k0, .int .u64 k1, .int .u64 k2, .int .u64 k3, .int .u64 k4, .int .u64 k5, .int .u64 k6, .int .u64 k7] 57) = w2 at d0 d1 d2 hd3 hbw2 hsz2 ⊢
  generalize w1.heap.size = A at hz1 hd3 hsz2 ⊢
  clear d3 c0 c1 c2 hbw hl8
  have HKL := Lib.hid (keysF_length t.ks)
  obtain ⟨K, hK⟩ : ∃ x, x = keysF t.ks := ⟨_, rfl⟩
  have HKK := Lib.hid hK
  rw [← hK] at hd3
  have HKL : Hid (K.length = 8) := Lib.hid (by rw [hK]; exact HKL.out)
  clear hK
  have HD := Lib.hid (And.intro d0 (And.intro d1 (And.intro d2 (And.intro hd3 hbw2))))
  clear d0 d1 d2 hd3 hbw2
  have z0 := (blk5 HD.out.1).1
  have z1 := (blk5 HD.out.1).2.1
  have z2 := (blk5 HD.out.1).2.2.1
  have z3 := (blk5 HD.out.1).2.2.2.1
  have z4 := (blk5 HD.out.1).2.2.2.2.1
  have y0 := (blk5 HD.out.1).2.2.2.2.2.1
  have y1 := (blk5 HD.out.1).2.2.2.2.2.2.1
  have y2 := (blk5 HD.out.1).2.2.2.2.2.2.2.1
  have y3 := (blk5 HD.out.1).2.2.2.2.2.2.2.2.1
  have y4 := (blk5 HD.out.1).2.2.2.2.2.2.2.2.2
  have o0 := (blk5 HD.out.2.1).1
  have o1 := (blk5 HD.out.2.1).2.1
  have o2 := (blk5 HD.out.2.1).2.2.1
  have o3 := (blk5 HD.out.2.1).2.2.2.1
  have o4 := (blk5 HD.out.2.1).2.2.2.2.1
  have p0 := (blk5 HD.out.2.1).2.2.2.2.2.1
  have p1 := (blk5 HD.out.2.1).2.2.2.2.2.2.1
  have p2 := (blk5 HD.out.2.1).2.2.2.2.2.2.2.1
  have p3 := (blk5 HD.out.2.1).2.2.2.2.2.2.2.2.1
  have p4 := (blk5 HD.out.2.1).2.2.2.2.2.2.2.2.2
  have v0 := (blk5 HD.out.2.2.1).1
  have v1 := (blk5 HD.out.2.2.1).2.1
  have v2 := (blk5 HD.out.2.2.1).2.2.1
  have v3 := (blk5 HD.out.2.2.1).2.2.2.1
  have v4 := (blk5 HD.out.2.2.1).2.2.2.2.1
  have s0 := (blk5 HD.out.2.2.1).2.2.2.2.2.1
  have s1 := (blk5 HD.out.2.2.1).2.2.2.2.2.2.1
  have s2 := (blk5 HD.out.2.2.1).2.2.2.2.2.2.2.1
  have s3 := (blk5 HD.out.2.2.1).2.2.2.2.2.2.2.2.1
  have s4 := (blk5 HD.out.2.2.1).2.2.2.2.2.2.2.2.2
  have hn1 : ¬ w.heap.size = A := by omega
  have hn2 : ¬ A = w.heap.size := by omega
  have hn3 : ¬ w.heap.size + 1 = A := by omega
  have hn4 : ¬ A = w.heap.size + 1 := by omega
  have hn5 : ¬ w.heap.size + 1 + 1 = A := by omega
  have hn6 : ¬ A = w.heap.size + 1 + 1 := by omega
  repeat (first | go_values | go_skip | go_guarded | go_step | go_upon | go_quiet (fail) | (simp only [Int.not_lt, Int.not_le] at *; go_simp) | (go_values <;> (try go_simp)) | (go_ite <;> go_prune <;> (try go_simp)))
  refine (rknown_any oty _).mono ?_
  rintro e wk ⟨rfl, hwk⟩
  subst hwk
  dsimp only
  rw [qk]
  repeat (first | go_values | go_skip | go_guarded | go_step | go_upon | go_quiet (fail) | (simp only [Int.not_lt, Int.not_le] at *; go_simp) | (go_values <;> (try go_simp)) | (go_ite <;> go_prune <;> (try go_simp)))
  refine bodyPost_ret (v := .tuple #[.agg #[.int .u32 t.g, .slice a t.ks.length cap, .int .i64 t.h, .int .i64 t.ty, .bool t.ap], .int .i64 2, .slice none 0 0]) ?_ rfl ?_
  · simp only [results, Try.results39]
    go_simp
  · have hbw := HD.out.2.2.2.2
    unfold ActPost
    rw [show rpreF t n oty other = (t, 2, []) by unfold rpreF; simp only [HTK.out, qk, qo]; rfl]
    refine ⟨a, cap, none, 0, rfl, HK.out.below ?_, HN.out, IntsIn.nil _ _, ?_⟩
    all_goals repeat (first | with_reducible assumption | (with_reducible refine Below.setCell ?_ (by first | omega | (simp; done) | (simp; omega)) _) | (with_reducible refine Below.alloc ?_ (by first | omega | (simp; done) | (simp; omega)) _) | (with_reducible refine Below.drew ?_) | (with_reducible refine below_dN ?_ _) | with_reducible exact Below.refl _ _ | (with_reducible refine Below.trans ?_ (Below.mono (by assumption) (by first | omega | (simp; done) | (simp; omega)))))
set_option maxRecDepth 100000 in
set_option maxHeartbeats 4000000 in
theorem rpre_h0o (t : Tab) (n ac oty key other : Int) (oap : Bool) (a : Option Addr) (cap : Nat) (w : World) (hlen : t.ks.length ≤ 9223372036854775807) (h0 : 0 ≤ n) (h8 : n < 8) (hh : t.h < 8)
   (hk : KeysIn w a t.ks) (hn : a = none → cap = 0) (hty : (t.ty == 0) = false → 0 ≤ t.h) (cz : (t.ty == 0) = false) (c7 : (t.ty == 7) = false) (c8 : (t.ty == 8) = false) (qh : ((keysF t.ks).getD t.h.toNat 0 == other) = false) (qo : (other == 0) = true) :
    Calls Try.prog 39 #[.agg #[.int .u32 t.g, .slice a t.ks.length cap, .int .i64 t.h, .int .i64 t.ty, .bool t.ap], .int .i64 n, .agg #[.int .i64 ac, .int .i64 oty, .int .u64 key, .int .u64 other, .bool oap]] w (ActPost (rpreF t n oty other) w) := by
  have HTK : Hid (rtakesF t other = false) := Lib.hid (by unfold rtakesF rallF; simp_all)
  have czn : (t.ty != 0) = true := by simp_all
  have Hqh := Lib.hid qh; clear qh
  have HK := Lib.hid hk; clear hk
  have HN := Lib.hid hn; clear hn
  go_enter Try.func39, Try.ntmps39
  go_wp2_with fail
  obtain ⟨b0, b1, b2⟩ := heap3 w (.cells #[.int .u32 t.g, .slice a t.ks.length cap, .int .i64 t.h, .int .i64 t.ty, .bool t.ap] 25) (.cells #[.int .i64 ac, .int .i64 oty, .int .u64 key, .int .u64 other, .bool oap] 43) (.cells #[.int .u32 0, .slice none 0 0, .int .i64 0, .int .i64 0, .bool false] 25)
  refine (keys_any _ _ _ _ _ _ _ _ hlen (HK.out.below (by repeat (first | with_reducible assumption | (with_reducible refine Below.setCell ?_ (by first | omega | (simp; done) | (simp; omega)) _) | (with_reducible refine Below.alloc ?_ (by first | omega | (simp; done) | (simp; omega)) _) | (with_reducible refine Below.drew ?_) | (with_reducible refine below_dN ?_ _) | with_reducible exact Below.refl _ _ | (with_reducible refine Below.trans ?_ (Below.mono (by assumption) (by first | omega | (simp; done) | (simp; omega)))))))).mono ?_
  rintro e w1 ⟨rfl, hb⟩
  have hz1 := hb.size
  simp only [World.size_alloc] at hz1
  have c0 := (hb.block _ (by first | (simp; done) | (simp; omega))).trans b0
  have c1 := (hb.block _ (by first | (simp; done) | (simp; omega))).trans b1
  have c2 := (hb.block _ (by first | (simp; done) | (simp; omega))).trans b2
  have hbw : Below w.heap.size w w1 := by repeat (first | with_reducible assumption | (with_reducible refine Below.setCell ?_ (by first | omega | (simp; done) | (simp; omega)) _) | (with_reducible refine Below.alloc ?_ (by first | omega | (simp; done) | (simp; omega)) _) | (with_reducible refine Below.drew ?_) | (with_reducible refine below_dN ?_ _) | with_reducible exact Below.refl _ _ | (with_reducible refine Below.trans ?_ (Below.mono (by assumption) (by first | omega | (simp; done) | (simp; omega)))))
  clear b0 b1 b2 hb
  obtain ⟨k0, k1, k2, k3, k4, k5, k6, k7, hl8⟩ := list8 (keysF t.ks) (keysF_length t.ks)
  unfold arr8
  rw [hl8]
  simp only [List.map_cons, List.map_nil]
  try dsimp only
  repeat (fail_if_success (with_reducible refine stop_pos "ref.go:185" rfl ?_)
          first | go_values | go_skip | go_guarded | go_step | go_upon)
  have d3 := heap_alloc_new w1 (.cells #[.int .u64 k0, .int .u64 k1, .int .u64 k2, .int .u64 k3, .int .u64 k4, .int .u64 k5, .int .u64 k6, .int .u64 k7] 57)
  have d0 := (heap_alloc_old w1 (.cells #[.int .u64 k0, .int .u64 k1, .int .u64 k2, .int .u64 k3, .int .u64 k4, .int .u64 k5, .int .u64 k6, .int .u64 k7] 57) (r := w.heap.size) (by omega)).trans c0
  have d1 := (heap_alloc_old w1 (.cells #[.int .u64 k0, .int .u64 k1, .int .u64 k2, .int .u64 k3, .int .u64 k4, .int .u64 k5, .int .u64 k6, .int .u64 k7] 57) (r := w.heap.size + 1) (by omega)).trans c1
  have d2 := (heap_alloc_old w1 (.cells #[.int .u64 k0, .int .u64 k1, .int .u64 k2, .int .u64 k3, .int .u64 k4, .int .u64 k5, .int .u64 k6, .int .u64 k7] 57) (r := w.heap.size + 1 + 1) (by omega)).trans c2
  have hd3 : (w1.alloc (.cells #[.int .u64 k0, .int .u64 k1, .int .u64 k2, .int .u64 k3, .int .u64 k4, .int .u64 k5, .int .u64 k6, .int .u64 k7] 57)).heap[w1.heap.size]? = some (.cells ((keysF t.ks).map (Value.int .u64)).toArray 57) := by rw [d3, hl8]; rfl
  have hbw2 : Below w.heap.size w (w1.alloc (.cells #[.int .u64 k0, .int .u64 k1, .int .u64 k2, .int .u64 k3, .int .u64 k4, .int .u64 k5, .int .u64 k6, .int .u64 k7] 57)) := by repeat (first | with_reducible assumption | (with_reducible refine Below.setCell ?_ (by first | omega | (simp; done) | (simp; omega)) _) | (with_reducible refine Below.alloc ?_ (by first | omega | (simp; done) | (simp; omega)) _) | (with_reducible refine Below.drew ?_) | (with_reducible refine below_dN ?_ _) | with_reducible exact Below.refl _ _ | (with_reducible refine Below.trans ?_ (Below.mono (by assumption) (by first | omega | (simp; done) | (simp; omega)))))
  have hsz2 : w1.heap.size + 1 = (w1.alloc (.cells #[.int .u64 k0, .int .u64 k1, .int .u64 k2, .int .u64 k3, .int .u64 k4, .int .u64 k5, .int .u64 k6, .int .u64 k7] 57)).heap.size := by simp
  generalize w1.alloc (.cells #[.int .u64 k0, .int .u64 k1, .int .u64 k2, .int .u64 k3, .int .u64 k4, .int .u64 k5, .int .u64 k6, .int .u64 k7] 57) = w2 at d0 d1 d2 hd3 hbw2 hsz2 ⊢
  generalize w1.heap.size = A at hz1 hd3 hsz2 ⊢
  clear d3 c0 c1 c2 hbw hl8
  have HKL := Lib.hid (keysF_length t.ks)
  obtain ⟨K, hK⟩ : ∃ x, x = keysF t.ks := ⟨_, rfl⟩
  have HKK := Lib.hid hK
  rw [← hK] at hd3
  have HKL : Hid (K.length = 8) := Lib.hid (by rw [hK]; exact HKL.out)
  clear hK
  have HD := Lib.hid (And.intro d0 (And.intro d1 (And.intro d2 (And.intro hd3 hbw2))))
  have hh0 : 0 ≤ t.h := hty cz
  obtain ⟨fk, fz⟩ := arr_cell hd3 t.h.toNat (by rw [HKL.out]; omega)
  clear d0 d1 d2 hd3 hbw2
  generalize hx : K.getD t.h.toNat 0 = x at fk
  have HX : Hid ((keysF t.ks).getD t.h.toNat 0 = x) := Lib.hid (by rw [← HKK.out]; exact hx)
  clear hx
  have z0 := (blk5 HD.out.1).1
  have z1 := (blk5 HD.out.1).2.1
  have z2 := (blk5 HD.out.1).2.2.1
  have z3 := (blk5 HD.out.1).2.2.2.1
  have z4 := (blk5 HD.out.1).2.2.2.2.1
  have y0 := (blk5 HD.out.1).2.2.2.2.2.1
  have y1 := (blk5 HD.out.1).2.2.2.2.2.2.1
  have y2 := (blk5 HD.out.1).2.2.2.2.2.2.2.1
  have y3 := (blk5 HD.out.1).2.2.2.2.2.2.2.2.1
  have y4 := (blk5 HD.out.1).2.2.2.2.2.2.2.2.2
  have o0 := (blk5 HD.out.2.1).1
  have o1 := (blk5 HD.out.2.1).2.1
  have o2 := (blk5 HD.out.2.1).2.2.1
  have o3 := (blk5 HD.out.2.1).2.2.2.1
  have o4 := (blk5 HD.out.2.1).2.2.2.2.1
  have p0 := (blk5 HD.out.2.1).2.2.2.2.2.1
  have p1 := (blk5 HD.out.2.1).2.2.2.2.2.2.1
  have p2 := (blk5 HD.out.2.1).2.2.2.2.2.2.2.1
  have p3 := (blk5 HD.out.2.1).2.2.2.2.2.2.2.2.1
  have p4 := (blk5 HD.out.2.1).2.2.2.2.2.2.2.2.2
  have v0 := (blk5 HD.out.2.2.1).1
  have v1 := (blk5 HD.out.2.2.1).2.1
  have v2 := (blk5 HD.out.2.2.1).2.2.1
  have v3 := (blk5 HD.out.2.2.1).2.2.2.1
  have v4 := (blk5 HD.out.2.2.1).2.2.2.2.1
  have s0 := (blk5 HD.out.2.2.1).2.2.2.2.2.1
  have s1 := (blk5 HD.out.2.2.1).2.2.2.2.2.2.1
  have s2 := (blk5 HD.out.2.2.1).2.2.2.2.2.2.2.1
  have s3 := (blk5 HD.out.2.2.1).2.2.2.2.2.2.2.2.1
  have s4 := (blk5 HD.out.2.2.1).2.2.2.2.2.2.2.2.2
  have hn1 : ¬ w.heap.size = A := by omega
  have hn2 : ¬ A = w.heap.size := by omega
  have hn3 : ¬ w.heap.size + 1 = A := by omega
  have hn4 : ¬ A = w.heap.size + 1 := by omega
  have hn5 : ¬ w.heap.size + 1 + 1 = A := by omega
  have hn6 : ¬ A = w.heap.size + 1 + 1 := by omega
  have qh := Hqh.out
  rw [HX.out] at qh
  repeat (first | go_values | go_skip | go_guarded | go_step | go_upon | go_quiet (fail) | (simp only [Int.not_lt, Int.not_le] at *; go_simp) | (go_values <;> (try go_simp)) | (go_ite <;> go_prune <;> (try go_simp)))
  refine bodyPost_ret (v := .tuple #[.agg #[.int .u32 t.g, .slice a t.ks.length cap, .int .i64 t.h, .int .i64 t.ty, .bool t.ap], .int .i64 2, .slice none 0 0]) ?_ rfl ?_
  · simp only [results, Try.results39]
    go_simp
  · have hbw := HD.out.2.2.2.2
    unfold ActPost
    rw [show rpreF t n oty other = (t, 2, []) by unfold rpreF; simp only [HTK.out, qo]; rfl]
    refine ⟨a, cap, none, 0, rfl, HK.out.below ?_, HN.out, IntsIn.nil _ _, ?_⟩
    all_goals repeat (first | with_reducible assumption | (with_reducible refine Below.setCell ?_ (by first | omega | (simp; done) | (simp; omega)) _) | (with_reducible refine Below.alloc ?_ (by first | omega | (simp; done) | (simp; omega)) _) | (with_reducible refine Below.drew ?_) | (with_reducible refine below_dN ?_ _) | with_reducible exact Below.refl _ _ | (with_reducible refine Below.trans ?_ (Below.mono (by assumption) (by first | omega | (simp; done) | (simp; omega)))))
set_option maxRecDepth 100000 in
set_option maxHeartbeats 4000000 in
theorem rpre_h1tu (t : Tab) (n ac oty key other : Int) (oap : Bool) (a : Option Addr) (cap : Nat) (w : World) (hlen : t.ks.length ≤ 9223372036854775807) (h0 : 0 ≤ n) (h8 : n < 8) (hh : t.h < 8)
   (hk : KeysIn w a t.ks) (hn : a = none → cap = 0) (hty : (t.ty == 0) = false → 0 ≤ t.h) (cz : (t.ty == 0) = false) (c7 : (t.ty == 7) = false) (c8 : (t.ty == 8) = false) (qh : ((keysF t.ks).getD t.h.toNat 0 == other) = true) (qo : (other == 0) = true) (qk : knownF oty = false) :
    Calls Try.prog 39 #[.agg #[.int .u32 t.g, .slice a t.ks.length cap, .int .i64 t.h, .int .i64 t.ty, .bool t.ap], .int .i64 n, .agg #[.int .i64 ac, .int .i64 oty, .int .u64 key, .int .u64 other, .bool oap]] w (ActPost (rpreF t n oty other) w) := by
  have HTK : Hid (rtakesF t other = true) := Lib.hid (by unfold rtakesF rallF; simp_all)
  have czn : (t.ty != 0) = true := by simp_all
  have Hqh := Lib.hid qh; clear qh
  have HK := Lib.hid hk; clear hk
  have HN := Lib.hid hn; clear hn
  go_enter Try.func39, Try.ntmps39
  go_wp2_with fail
  obtain ⟨b0, b1, b2⟩ := heap3 w (.cells #[.int .u32 t.g, .slice a t.ks.length cap, .int .i64 t.h, .int .i64 t.ty, .bool t.ap] 25) (.cells #[.int .i64 ac, .int .i64 oty, .int .u64 key, .int .u64 other, .bool oap] 43) (.cells #[.int .u32 0, .slice none 0 0, .int .i64 0, .int .i64 0, .bool false] 25)
  refine (keys_any _ _ _ _ _ _ _ _ hlen (HK.out.below (by repeat (first | with_reducible assumption | (with_reducible refine Below.setCell ?_ (by first | omega | (simp; done) | (simp; omega)) _) | (with_reducible refine Below.alloc ?_ (by first | omega | (simp; done) | (simp; omega)) _) | (with_reducible refine Below.drew ?_) | (with_reducible refine below_dN ?_ _) | with_reducible exact Below.refl _ _ | (with_reducible refine Below.trans ?_ (Below.mono (by assumption) (by first | omega | (simp; done) | (simp; omega)))))))).mono ?_
  rintro e w1 ⟨rfl, hb⟩
  have hz1 := hb.size
  simp only [World.size_alloc] at hz1
  have c0 := (hb.block _ (by first | (simp; done) | (simp; omega))).trans b0
  have c1 := (hb.block _ (by first | (simp; done) | (simp; omega))).trans b1
  have c2 := (hb.block _ (by first | (simp; done) | (simp; omega))).trans b2
  have hbw : Below w.heap.size w w1 := by repeat (first | with_reducible assumption | (with_reducible refine Below.setCell ?_ (by first | omega | (simp; done) | (simp; omega)) _) | (with_reducible refine Below.alloc ?_ (by first | omega | (simp; done) | (simp; omega)) _) | (with_reducible refine Below.drew ?_) | (with_reducible refine below_dN ?_ _) | with_reducible exact Below.refl _ _ | (with_reducible refine Below.trans ?_ (Below.mono (by assumption) (by first | omega | (simp; done) | (simp; omega)))))
  clear b0 b1 b2 hb
  obtain ⟨k0, k1, k2, k3, k4, k5, k6, k7, hl8⟩ := list8 (keysF t.ks) (keysF_length t.ks)
  unfold arr8
  rw [hl8]
  simp only [List.map_cons, List.map_nil]
  try dsimp only
  repeat (fail_if_success (with_reducible refine stop_pos "ref.go:185" rfl ?_)
          first | go_values | go_skip | go_guarded | go_step | go_upon)
  have d3 := heap_alloc_new w1 (.cells #[.int .u64 k0, .int .u64 k1, .int .u64 k2, .int .u64 k3, .int .u64 k4, .int .u64 k5, .int .u64 k6, .int .u64 k7] 57)
  have d0 := (heap_alloc_old w1 (.cells #[.int .u64 k0, .int .u64 k1, .int .u64 k2, .int .u64 k3, .int .u64 k4, .int .u64 k5, .int .u64 k6, .int .u64 k7] 57) (r := w.heap.size) (by omega)).trans c0
  have d1 := (heap_alloc_old w1 (.cells #[.int .u64 k0, .int .u64 k1, .int .u64 k2, .int .u64 k3, .int .u64 k4, .int .u64 k5, .int .u64 k6, .int .u64 k7] 57) (r := w.heap.size + 1) (by omega)).trans c1
  have d2 := (heap_alloc_old w1 (.cells #[.int .u64 k0, .int .u64 k1, .int .u64 k2, .int .u64 k3, .int .u64 k4, .int .u64 k5, .int .u64 k6, .int .u64 k7] 57) (r := w.heap.size + 1 + 1) (by omega)).trans c2
  have hd3 : (w1.alloc (.cells #[.int .u64 k0, .int .u64 k1, .int .u64 k2, .int .u64 k3, .int .u64 k4, .int .u64 k5, .int .u64 k6, .int .u64 k7] 57)).heap[w1.heap.size]? = some (.cells ((keysF t.ks).map (Value.int .u64)).toArray 57) := by rw [d3, hl8]; rfl
  have hbw2 : Below w.heap.size w (w1.alloc (.cells #[.int .u64 k0, .int .u64 k1, .int .u64 k2, .int .u64 k3, .int .u64 k4, .int .u64 k5, .int .u64 k6, .int .u64 k7] 57)) := by repeat (first | with_reducible assumption | (with_reducible refine Below.setCell ?_ (by first | omega | (simp; done) | (simp; omega)) _) | (with_reducible refine Below.alloc ?_ (by first | omega | (simp; done) | (simp; omega)) _) | (with_reducible refine Below.drew ?_) | (with_reducible refine below_dN ?_ _) | with_reducible exact Below.refl _ _ | (with_reducible refine Below.trans ?_ (Below.mono (by assumption) (by first | omega | (simp; done) | (simp; omega)))))
  have hsz2 : w1.heap.size + 1 = (w1.alloc (.cells #[.int .u64 k0, .int .u64 k1, .int .u64 k2, .int .u64 k3, .int .u64 k4, .int .u64 k5, .int .u64 k6, .int .u64 k7] 57)).heap.size := by simp
  generalize w1.alloc (.cells #[.int .u64 k0, .int .u64 k1, .int .u64 k2, .int .u64 k3, .int .u64 k4, .int .u64 k5, .int .u64 k6, .int .u64 k7] 57) = w2 at d0 d1 d2 hd3 hbw2 hsz2 ⊢
  generalize w1.heap.size = A at hz1 hd3 hsz2 ⊢
  clear d3 c0 c1 c2 hbw hl8
  have HKL := Lib.hid (keysF_length t.ks)
  obtain ⟨K, hK⟩ : ∃ x, x = keysF t.ks := ⟨_, rfl⟩
  have HKK := Lib.hid hK
  rw [← hK] at hd3
  have HKL : Hid (K.length = 8) := Lib.hid (by rw [hK]; exact HKL.out)
  clear hK
  have HD := Lib.hid (And.intro d0 (And.intro d1 (And.intro d2 (And.intro hd3 hbw2))))
  have hh0 : 0 ≤ t.h := hty cz
  obtain ⟨fk, fz⟩ := arr_cell hd3 t.h.toNat (by rw [HKL.out]; omega)
  clear d0 d1 d2 hd3 hbw2
  generalize hx : K.getD t.h.toNat 0 = x at fk
  have HX : Hid ((keysF t.ks).getD t.h.toNat 0 = x) := Lib.hid (by rw [← HKK.out]; exact hx)
  clear hx
  have z0 := (blk5 HD.out.1).1
  have z1 := (blk5 HD.out.1).2.1
  have z2 := (blk5 HD.out.1).2.2.1
  have z3 := (blk5 HD.out.1).2.2.2.1
  have z4 := (blk5 HD.out.1).2.2.2.2.1
  have y0 := (blk5 HD.out.1).2.2.2.2.2.1
  have y1 := (blk5 HD.out.1).2.2.2.2.2.2.1
  have y2 := (blk5 HD.out.1).2.2.2.2.2.2.2.1
  have y3 := (blk5 HD.out.1).2.2.2.2.2.2.2.2.1
  have y4 := (blk5 HD.out.1).2.2.2.2.2.2.2.2.2
  have o0 := (blk5 HD.out.2.1).1
  have o1 := (blk5 HD.out.2.1).2.1
  have o2 := (blk5 HD.out.2.1).2.2.1
  have o3 := (blk5 HD.out.2.1).2.2.2.1
  have o4 := (blk5 HD.out.2.1).2.2.2.2.1
  have p0 := (blk5 HD.out.2.1).2.2.2.2.2.1
  have p1 := (blk5 HD.out.2.1).2.2.2.2.2.2.1
  have p2 := (blk5 HD.out.2.1).2.2.2.2.2.2.2.1
  have p3 := (blk5 HD.out.2.1).2.2.2.2.2.2.2.2.1
  have p4 := (blk5 HD.out.2.1).2.2.2.2.2.2.2.2.2
  have v0 := (blk5 HD.out.2.2.1).1
  have v1 := (blk5 HD.out.2.2.1).2.1
  have v2 := (blk5 HD.out.2.2.1).2.2.1
  have v3 := (blk5 HD.out.2.2.1).2.2.2.1
  have v4 := (blk5 HD.out.2.2.1).2.2.2.2.1
  have s0 := (blk5 HD.out.2.2.1).2.2.2.2.2.1
  have s1 := (blk5 HD.out.2.2.1).2.2.2.2.2.2.1
  have s2 := (blk5 HD.out.2.2.1).2.2.2.2.2.2.2.1
  have s3 := (blk5 HD.out.2.2.1).2.2.2.2.2.2.2.2.1
  have s4 := (blk5 HD.out.2.2.1).2.2.2.2.2.2.2.2.2
  have hn1 : ¬ w.heap.size = A := by omega
  have hn2 : ¬ A = w.heap.size := by omega
  have hn3 : ¬ w.heap.size + 1 = A := by omega
  have hn4 : ¬ A = w.heap.size + 1 := by omega
  have hn5 : ¬ w.heap.size + 1 + 1 = A := by omega
  have hn6 : ¬ A = w.heap.size + 1 + 1 := by omega
  have qh := Hqh.out
  rw [HX.out] at qh
  repeat (first | go_values | go_skip | go_guarded | go_step | go_upon | go_quiet (fail) | (simp only [Int.not_lt, Int.not_le] at *; go_simp) | (go_values <;> (try go_simp)) | (go_ite <;> go_prune <;> (try go_simp)))
  refine (rknown_any oty _).mono ?_
  rintro e wk ⟨rfl, hwk⟩
  subst hwk
  dsimp only
  rw [qk]
  repeat (first | go_values | go_skip | go_guarded | go_step | go_upon | go_quiet (fail) | (simp only [Int.not_lt, Int.not_le] at *; go_simp) | (go_values <;> (try go_simp)) | (go_ite <;> go_prune <;> (try go_simp)))
  refine bodyPost_ret (v := .tuple #[.agg #[.int .u32 t.g, .slice a t.ks.length cap, .int .i64 t.h, .int .i64 t.ty, .bool t.ap], .int .i64 2, .slice none 0 0]) ?_ rfl ?_
  · simp only [results, Try.results39]
    go_simp
  · have hbw := HD.out.2.2.2.2
    unfold ActPost
    rw [show rpreF t n oty other = (t, 2, []) by unfold rpreF; simp only [HTK.out, qk, qo]; rfl]
    refine ⟨a, cap, none, 0, rfl, HK.out.below ?_, HN.out, IntsIn.nil _ _, ?_⟩
    all_goals repeat (first | with_reducible assumption | (with_reducible refine Below.setCell ?_ (by first | omega | (simp; done) | (simp; omega)) _) | (with_reducible refine Below.alloc ?_ (by first | omega | (simp; done) | (simp; omega)) _) | (with_reducible refine Below.drew ?_) | (with_reducible refine below_dN ?_ _) | with_reducible exact Below.refl _ _ | (with_reducible refine Below.trans ?_ (Below.mono (by assumption) (by first | omega | (simp; done) | (simp; omega)))))
set_option maxRecDepth 100000 in
set_option maxHeartbeats 4000000 in
theorem rpre_h1fu (t : Tab) (n ac oty key other : Int) (oap : Bool) (a : Option Addr) (cap : Nat) (w : World) (hlen : t.ks.length ≤ 9223372036854775807) (h0 : 0 ≤ n) (h8 : n < 8) (hh : t.h < 8)
   (hk : KeysIn w a t.ks) (hn : a = none → cap = 0) (hty : (t.ty == 0) = false → 0 ≤ t.h) (cz : (t.ty == 0) = false) (c7 : (t.ty == 7) = false) (c8 : (t.ty == 8) = false) (qh : ((keysF t.ks).getD t.h.toNat 0 == other) = true) (qo : (other == 0) = false) (qk : knownF oty = false) :
    Calls Try.prog 39 #[.agg #[.int .u32 t.g, .slice a t.ks.length cap, .int .i64 t.h, .int .i64 t.ty, .bool t.ap], .int .i64 n, .agg #[.int .i64 ac, .int .i64 oty, .int .u64 key, .int .u64 other, .bool oap]] w (ActPost (rpreF t n oty other) w) := by
  have HTK : Hid (rtakesF t other = true) := Lib.hid (by unfold rtakesF rallF; simp_all)
  have czn : (t.ty != 0) = true := by simp_all
  have Hqh := Lib.hid qh; clear qh
  have HK := Lib.hid hk; clear hk
  have HN := Lib.hid hn; clear hn
  go_enter Try.func39, Try.ntmps39
  go_wp2_with fail
  obtain ⟨b0, b1, b2⟩ := heap3 w (.cells #[.int .u32 t.g, .slice a t.ks.length cap, .int .i64 t.h, .int .i64 t.ty, .bool t.ap] 25) (.cells #[.int .i64 ac, .int .i64 oty, .int .u64 key, .int .u64 other, .bool oap] 43) (.cells #[.int .u32 0, .slice none 0 0, .int .i64 0, .int .i64 0, .bool false] 25)
  refine (keys_any _ _ _ _ _ _ _ _ hlen (HK.out.below (by repeat (first | with_reducible assumption | (with_reducible refine Below.setCell ?_ (by first | omega | (simp; done) | (simp; omega)) _) | (with_reducible refine Below.alloc ?_ (by first | omega | (simp; done) | (simp; omega)) _) | (with_reducible refine Below.drew ?_) | (with_reducible refine below_dN ?_ _) | with_reducible exact Below.refl _ _ | (with_reducible refine Below.trans ?_ (Below.mono (by assumption) (by first | omega | (simp; done) | (simp; omega)))))))).mono ?_
  rintro e w1 ⟨rfl, hb⟩
  have hz1 := hb.size
  simp only [World.size_alloc] at hz1
  have c0 := (hb.block _ (by first | (simp; done) | (simp; omega))).trans b0
  have c1 := (hb.block _ (by first | (simp; done) | (simp; omega))).trans b1
  have c2 := (hb.block _ (by first | (simp; done) | (simp; omega))).trans b2
  have hbw : Below w.heap.size w w1 := by repeat (first | with_reducible assumption | (with_reducible refine Below.setCell ?_ (by first | omega | (simp; done) | (simp; omega)) _) | (with_reducible refine Below.alloc ?_ (by first | omega | (simp; done) | (simp; omega)) _) | (with_reducible refine Below.drew ?_) | (with_reducible refine below_dN ?_ _) | with_reducible exact Below.refl _ _ | (with_reducible refine Below.trans ?_ (Below.mono (by assumption) (by first | omega | (simp; done) | (simp; omega)))))
  clear b0 b1 b2 hb
  obtain ⟨k0, k1, k2, k3, k4, k5, k6, k7, hl8⟩ := list8 (keysF t.ks) (keysF_length t.ks)
  unfold arr8
  rw [hl8]
  simp only [List.map_cons, List.map_nil]
  try dsimp only
  repeat (fail_if_success (with_reducible refine stop_pos "ref.go:185" rfl ?_)
          first | go_values | go_skip | go_guarded | go_step | go_upon)
  have d3 := heap_alloc_new w1 (.cells #[.int .u64 k0, .int .u64 k1, .int .u64 k2, .int .u64 k3, .int .u64 k4, .int .u64 k5, .int .u64 k6, .int .u64 k7] 57)
  have d0 := (heap_alloc_old w1 (.cells #[.int .u64 k0, .int .u64 k1, .int .u64 k2, .int .u64 k3, .int .u64 k4, .int .u64 k5, .int .u64 k6, .int .u64 k7] 57) (r := w.heap.size) (by omega)).trans c0
  have d1 := (heap_alloc_old w1 (.cells #[.int .u64 k0, .int .u64 k1, .int .u64 k2, .int .u64 k3, .int .u64 k4, .int .u64 k5, .int .u64 k6, .int .u64 k7] 57) (r := w.heap.size + 1) (by omega)).trans c1
  have d2 := (heap_alloc_old w1 (.cells #[.int .u64 k0, .int .u64 k1, .int .u64 k2, .int .u64 k3, .int .u64 k4, .int .u64 k5, .int .u64 k6, .int .u64 k7] 57) (r := w.heap.size + 1 + 1) (by omega)).trans c2
  have hd3 : (w1.alloc (.cells #[.int .u64 k0, .int .u64 k1, .int .u64 k2, .int .u64 k3, .int .u64 k4, .int .u64 k5, .int .u64 k6, .int .u64 k7] 57)).heap[w1.heap.size]? = some (.cells ((keysF t.ks).map (Value.int .u64)).toArray 57) := by rw [d3, hl8]; rfl
  have hbw2 : Below w.heap.size w (w1.alloc (.cells #[.int .u64 k0, .int .u64 k1, .int .u64 k2, .int .u64 k3, .int .u64 k4, .int .u64 k5, .int .u64 k6, .int .u64 k7] 57)) := by repeat (first | with_reducible assumption | (with_reducible refine Below.setCell ?_ (by first | omega | (simp; done) | (simp; omega)) _) | (with_reducible refine Below.alloc ?_ (by first | omega | (simp; done) | (simp; omega)) _) | (with_reducible refine Below.drew ?_) | (with_reducible refine below_dN ?_ _) | with_reducible exact Below.refl _ _ | (with_reducible refine Below.trans ?_ (Below.mono (by assumption) (by first | omega | (simp; done) | (simp; omega)))))
  have hsz2 : w1.heap.size + 1 = (w1.alloc (.cells #[.int .u64 k0, .int .u64 k1, .int .u64 k2, .int .u64 k3, .int .u64 k4, .int .u64 k5, .int .u64 k6, .int .u64 k7] 57)).heap.size := by simp
  generalize w1.alloc (.cells #[.int .u64 k0, .int .u64 k1, .int .u64 k2, .int .u64 k3, .int .u64 k4, .int .u64 k5, .int .u64 k6, .int .u64 k7] 57) = w2 at d0 d1 d2 hd3 hbw2 hsz2 ⊢
  generalize w1.heap.size = A at hz1 hd3 hsz2 ⊢
  clear d3 c0 c1 c2 hbw hl8
  have HKL := Lib.hid (keysF_length t.ks)
  obtain ⟨K, hK⟩ : ∃ x, x = keysF t.ks := ⟨_, rfl⟩
  have HKK := Lib.hid hK
  rw [← hK] at hd3
  have HKL : Hid (K.length = 8) := Lib.hid (by rw [hK]; exact HKL.out)
  clear hK
  have HD := Lib.hid (And.intro d0 (And.intro d1 (And.intro d2 (And.intro hd3 hbw2))))
  have hh0 : 0 ≤ t.h := hty cz
  obtain ⟨fk, fz⟩ := arr_cell hd3 t.h.toNat (by rw [HKL.out]; omega)
  clear d0 d1 d2 hd3 hbw2
  generalize hx : K.getD t.h.toNat 0 = x at fk
  have HX : Hid ((keysF t.ks).getD t.h.toNat 0 = x) := Lib.hid (by rw [← HKK.out]; exact hx)
  clear hx
  have z0 := (blk5 HD.out.1).1
  have z1 := (blk5 HD.out.1).2.1
  have z2 := (blk5 HD.out.1).2.2.1
  have z3 := (blk5 HD.out.1).2.2.2.1
  have z4 := (blk5 HD.out.1).2.2.2.2.1
  have y0 := (blk5 HD.out.1).2.2.2.2.2.1
  have y1 := (blk5 HD.out.1).2.2.2.2.2.2.1
  have y2 := (blk5 HD.out.1).2.2.2.2.2.2.2.1
  have y3 := (blk5 HD.out.1).2.2.2.2.2.2.2.2.1
  have y4 := (blk5 HD.out.1).2.2.2.2.2.2.2.2.2
  have o0 := (blk5 HD.out.2.1).1
  have o1 := (blk5 HD.out.2.1).2.1
  have o2 := (blk5 HD.out.2.1).2.2.1
  have o3 := (blk5 HD.out.2.1).2.2.2.1
  have o4 := (blk5 HD.out.2.1).2.2.2.2.1
  have p0 := (blk5 HD.out.2.1).2.2.2.2.2.1
  have p1 := (blk5 HD.out.2.1).2.2.2.2.2.2.1
  have p2 := (blk5 HD.out.2.1).2.2.2.2.2.2.2.1
  have p3 := (blk5 HD.out.2.1).2.2.2.2.2.2.2.2.1
  have p4 := (blk5 HD.out.2.1).2.2.2.2.2.2.2.2.2
  have v0 := (blk5 HD.out.2.2.1).1
  have v1 := (blk5 HD.out.2.2.1).2.1
  have v2 := (blk5 HD.out.2.2.1).2.2.1
  have v3 := (blk5 HD.out.2.2.1).2.2.2.1
  have v4 := (blk5 HD.out.2.2.1).2.2.2.2.1
  have s0 := (blk5 HD.out.2.2.1).2.2.2.2.2.1
  have s1 := (blk5 HD.out.2.2.1).2.2.2.2.2.2.1
  have s2 := (blk5 HD.out.2.2.1).2.2.2.2.2.2.2.1
  have s3 := (blk5 HD.out.2.2.1).2.2.2.2.2.2.2.2.1
  have s4 := (blk5 HD.out.2.2.1).2.2.2.2.2.2.2.2.2
  have hn1 : ¬ w.heap.size = A := by omega
  have hn2 : ¬ A = w.heap.size := by omega
  have hn3 : ¬ w.heap.size + 1 = A := by omega
  have hn4 : ¬ A = w.heap.size + 1 := by omega
  have hn5 : ¬ w.heap.size + 1 + 1 = A := by omega
  have hn6 : ¬ A = w.heap.size + 1 + 1 := by omega
  have qh := Hqh.out
  rw [HX.out] at qh
  repeat (first | go_values | go_skip | go_guarded | go_step | go_upon | go_quiet (fail) | (simp only [Int.not_lt, Int.not_le] at *; go_simp) | (go_values <;> (try go_simp)) | (go_ite <;> go_prune <;> (try go_simp)))
  refine (rknown_any oty _).mono ?_
  rintro e wk ⟨rfl, hwk⟩
  subst hwk
  dsimp only
  rw [qk]
  repeat (first | go_values | go_skip | go_guarded | go_step | go_upon | go_quiet (fail) | (simp only [Int.not_lt, Int.not_le] at *; go_simp) | (go_values <;> (try go_simp)) | (go_ite <;> go_prune <;> (try go_simp)))
  refine bodyPost_ret (v := .tuple #[.agg #[.int .u32 t.g, .slice a t.ks.length cap, .int .i64 t.h, .int .i64 t.ty, .bool t.ap], .int .i64 2, .slice none 0 0]) ?_ rfl ?_
  · simp only [results, Try.results39]
    go_simp
  · have hbw := HD.out.2.2.2.2
    unfold ActPost
    rw [show rpreF t n oty other = (t, 2, []) by unfold rpreF; simp only [HTK.out, qk, qo]; rfl]
    refine ⟨a, cap, none, 0, rfl, HK.out.below ?_, HN.out, IntsIn.nil _ _, ?_⟩
    all_goals repeat (first | with_reducible assumption | (with_reducible refine Below.setCell ?_ (by first | omega | (simp; done) | (simp; omega)) _) | (with_reducible refine Below.alloc ?_ (by first | omega | (simp; done) | (simp; omega)) _) | (with_reducible refine Below.drew ?_) | (with_reducible refine below_dN ?_ _) | with_reducible exact Below.refl _ _ | (with_reducible refine Below.trans ?_ (Below.mono (by assumption) (by first | omega | (simp; done) | (simp; omega)))))
end Go.Proofs.Ytopakonpfbbldaa
namespace Go.Proofs.Ytopakonpfbbldaa
open Go.RowKit

set_option maxRecDepth 100000 in
set_option maxHeartbeats 4000000 in
theorem rpre_z (t : Tab) (n ac oty key other : Int) (oap : Bool) (a : Option Addr) (cap : Nat) (w : World) (hlen : t.ks.length ≤ 9223372036854775807) (h0 : 0 ≤ n) (h8 : n < 8) (hh : t.h < 8)
   (hk : KeysIn w a t.ks) (hn : a = none → cap = 0) (hty : (t.ty == 0) = false → 0 ≤ t.h) (cz : (t.ty == 0) = true) (qo : (other == 0) = false) :
    Calls Try.prog 39 #[.agg #[.int .u32 t.g, .slice a t.ks.length cap, .int .i64 t.h, .int .i64 t.ty, .bool t.ap], .int .i64 n, .agg #[.int .i64 ac, .int .i64 oty, .int .u64 key, .int .u64 other, .bool oap]] w (ActPost (rpreF t n oty other) w) := by
  have HTK : Hid (rtakesF t other = false) := Lib.hid (by unfold rtakesF rallF; simp_all)
  have czn : (t.ty != 0) = false := by simp_all
  have c7 : (t.ty == 7) = false := by simp_all
  have c8 : (t.ty == 8) = false := by simp_all
  have HK := Lib.hid hk; clear hk
  have HN := Lib.hid hn; clear hn
  go_enter Try.func39, Try.ntmps39
  go_wp2_with fail
  obtain ⟨b0, b1, b2⟩ := heap3 w (.cells #[.int .u32 t.g, .slice a t.ks.length cap, .int .i64 t.h, .int .i64 t.ty, .bool t.ap] 25) (.cells #[.int .i64 ac, .int .i64 oty, .int .u64 key, .int .u64 other, .bool oap] 43) (.cells #[.int .u32 0, .slice none 0 0, .int .i64 0, .int .i64 0, .bool false] 25)
  refine (keys_any _ _ _ _ _ _ _ _ hlen (HK.out.below (by repeat (first | with_reducible assumption | (with_reducible refine Below.setCell ?_ (by first | omega | (simp; done) | (simp; omega)) _) | (with_reducible refine Below.alloc ?_ (by first | omega | (simp; done) | (simp; omega)) _) | (with_reducible refine Below.drew ?_) | (with_reducible refine below_dN ?_ _) | with_reducible exact Below.refl _ _ | (with_reducible refine Below.trans ?_ (Below.mono (by assumption) (by first | omega | (simp; done) | (simp; omega)))))))).mono ?_
  rintro e w1 ⟨rfl, hb⟩
  have hz1 := hb.size
  simp only [World.size_alloc] at hz1
  have c0 := (hb.block _ (by first | (simp; done) | (simp; omega))).trans b0
  have c1 := (hb.block _ (by first | (simp; done) | (simp; omega))).trans b1
  have c2 := (hb.block _ (by first | (simp; done) | (simp; omega))).trans b2
  have hbw : Below w.heap.size w w1 := by repeat (first | with_reducible assumption | (with_reducible refine Below.setCell ?_ (by first | omega | (simp; done) | (simp; omega)) _) | (with_reducible refine Below.alloc ?_ (by first | omega | (simp; done) | (simp; omega)) _) | (with_reducible refine Below.drew ?_) | (with_reducible refine below_dN ?_ _) | with_reducible exact Below.refl _ _ | (with_reducible refine Below.trans ?_ (Below.mono (by assumption) (by first | omega | (simp; done) | (simp; omega)))))
  clear b0 b1 b2 hb
  obtain ⟨k0, k1, k2, k3, k4, k5, k6, k7, hl8⟩ := list8 (keysF t.ks) (keysF_length t.ks)
  unfold arr8
  rw [hl8]
  simp only [List.map_cons, List.map_nil]
  try dsimp only
  repeat (fail_if_success (with_reducible refine stop_pos "ref.go:185" rfl ?_)
          first | go_values | go_skip | go_guarded | go_step | go_upon)
  have d3 := heap_alloc_new w1 (.cells #[.int .u64 k0, .int .u64 k1, .int .u64 k2, .int .u64 k3, .int .u64 k4, .int .u64 k5, .int .u64 k6, .int .u64 k7] 57)
  have d0 := (heap_alloc_old w1 (.cells #[.int .u64 k0, .int .u64 k1, .int .u64 k2, .int .u64 k3, .int .u64 k4, .int .u64 k5, .int .u64 k6, .int .u64 k7] 57) (r := w.heap.size) (by omega)).trans c0
  have d1 := (heap_alloc_old w1 (.cells #[.int .u64 k0, .int .u64 k1, .int .u64 k2, .int .u64 k3, .int .u64 k4, .int .u64 k5, .int .u64 k6, .int .u64 k7] 57) (r := w.heap.size + 1) (by omega)).trans c1
  have d2 := (heap_alloc_old w1 (.cells #[.int .u64 k0, .int .u64 k1, .int .u64 k2, .int .u64 k3, .int .u64 k4, .int .u64 k5, .int .u64 k6, .int .u64 k7] 57) (r := w.heap.size + 1 + 1) (by omega)).trans c2
  have hd3 : (w1.alloc (.cells #[.int .u64 k0, .int .u64 k1, .int .u64 k2, .int .u64 k3, .int .u64 k4, .int .u64 k5, .int .u64 k6, .int .u64 k7] 57)).heap[w1.heap.size]? = some (.cells ((keysF t.ks).map (Value.int .u64)).toArray 57) := by rw [d3, hl8]; rfl
  have hbw2 : Below w.heap.size w (w1.alloc (.cells #[.int .u64 k0, .int .u64 k1, .int .u64 k2, .int .u64 k3, .int .u64 k4, .int .u64 k5, .int .u64 k6, .int .u64 k7] 57)) := by repeat (first | with_reducible assumption | (with_reducible refine Below.setCell ?_ (by first | omega | (simp; done) | (simp; omega)) _) | (with_reducible refine Below.alloc ?_ (by first | omega | (simp; done) | (simp; omega)) _) | (with_reducible refine Below.drew ?_) | (with_reducible refine below_dN ?_ _) | with_reducible exact Below.refl _ _ | (with_reducible refine Below.trans ?_ (Below.mono (by assumption) (by first | omega | (simp; done) | (simp; omega)))))
  have hsz2 : w1.heap.size + 1 = (w1.alloc (.cells #[.int .u64 k0, .int .u64 k1, .int .u64 k2, .int .u64 k3, .int .u64 k4, .int .u64 k5, .int .u64 k6, .int .u64 k7] 57)).heap.size := by simp
  generalize w1.alloc (.cells #[.int .u64 k0, .int .u64 k1, .int .u64 k2, .int .u64 k3, .int .u64 k4, .int .u64 k5, .int .u64 k6, .int .u64 k7] 57) = w2 at d0 d1 d2 hd3 hbw2 hsz2 ⊢
  generalize w1.heap.size = A at hz1 hd3 hsz2 ⊢
  clear d3 c0 c1 c2 hbw hl8
  have HKL := Lib.hid (keysF_length t.ks)
  obtain ⟨K, hK⟩ : ∃ x, x = keysF t.ks := ⟨_, rfl⟩
  have HKK := Lib.hid hK
  rw [← hK] at hd3
  have HKL : Hid (K.length = 8) := Lib.hid (by rw [hK]; exact HKL.out)
  clear hK
  have HD := Lib.hid (And.intro d0 (And.intro d1 (And.intro d2 (And.intro hd3 hbw2))))
  clear d0 d1 d2 hd3 hbw2
  have z0 := (blk5 HD.out.1).1
  have z1 := (blk5 HD.out.1).2.1
  have z2 := (blk5 HD.out.1).2.2.1
  have z3 := (blk5 HD.out.1).2.2.2.1
  have z4 := (blk5 HD.out.1).2.2.2.2.1
  have y0 := (blk5 HD.out.1).2.2.2.2.2.1
  have y1 := (blk5 HD.out.1).2.2.2.2.2.2.1
  have y2 := (blk5 HD.out.1).2.2.2.2.2.2.2.1
  have y3 := (blk5 HD.out.1).2.2.2.2.2.2.2.2.1
  have y4 := (blk5 HD.out.1).2.2.2.2.2.2.2.2.2
  have o0 := (blk5 HD.out.2.1).1
  have o1 := (blk5 HD.out.2.1).2.1
  have o2 := (blk5 HD.out.2.1).2.2.1
  have o3 := (blk5 HD.out.2.1).2.2.2.1
  have o4 := (blk5 HD.out.2.1).2.2.2.2.1
  have p0 := (blk5 HD.out.2.1).2.2.2.2.2.1
  have p1 := (blk5 HD.out.2.1).2.2.2.2.2.2.1
  have p2 := (blk5 HD.out.2.1).2.2.2.2.2.2.2.1
  have p3 := (blk5 HD.out.2.1).2.2.2.2.2.2.2.2.1
  have p4 := (blk5 HD.out.2.1).2.2.2.2.2.2.2.2.2
  have v0 := (blk5 HD.out.2.2.1).1
  have v1 := (blk5 HD.out.2.2.1).2.1
  have v2 := (blk5 HD.out.2.2.1).2.2.1
  have v3 := (blk5 HD.out.2.2.1).2.2.2.1
  have v4 := (blk5 HD.out.2.2.1).2.2.2.2.1
  have s0 := (blk5 HD.out.2.2.1).2.2.2.2.2.1
  have s1 := (blk5 HD.out.2.2.1).2.2.2.2.2.2.1
  have s2 := (blk5 HD.out.2.2.1).2.2.2.2.2.2.2.1
  have s3 := (blk5 HD.out.2.2.1).2.2.2.2.2.2.2.2.1
  have s4 := (blk5 HD.out.2.2.1).2.2.2.2.2.2.2.2.2
  have hn1 : ¬ w.heap.size = A := by omega
  have hn2 : ¬ A = w.heap.size := by omega
  have hn3 : ¬ w.heap.size + 1 = A := by omega
  have hn4 : ¬ A = w.heap.size + 1 := by omega
  have hn5 : ¬ w.heap.size + 1 + 1 = A := by omega
  have hn6 : ¬ A = w.heap.size + 1 + 1 := by omega
  repeat (fail_if_success (with_reducible refine stop_pos "ref.go:190" rfl ?_)
          first | go_values | go_skip | go_guarded | go_step | go_upon | go_quiet (fail) | (simp only [Int.not_lt, Int.not_le] at *; go_simp) | (go_values <;> (try go_simp)) | (go_ite <;> go_prune <;> (try go_simp)))
  refine gen_world (fun wx => wx.heap[w.heap.size]? = some (.cells #[.int .u32 t.g, .slice a t.ks.length cap, .int .i64 t.h, .int .i64 t.ty, .bool t.ap] 25) ∧ wx.heap[w.heap.size + 1]? = some (.cells #[.int .i64 ac, .int .i64 oty, .int .u64 key, .int .u64 other, .bool oap] 43) ∧ wx.heap[w.heap.size + 1 + 1]? = some (.cells #[.int .u32 0, .slice none 0 0, .int .i64 0, .int .i64 0, .bool false] 25) ∧ wx.heap[A]? = some (.cells (K.map (Value.int .u64)).toArray 57) ∧ Below w.heap.size w wx ∧ A < wx.heap.size) ?_ ?_
  · have hbw := HD.out.2.2.2.2
    exact ⟨HD.out.1, HD.out.2.1, HD.out.2.2.1, HD.out.2.2.2.1, by repeat (first | with_reducible assumption | (with_reducible refine Below.setCell ?_ (by first | omega | (simp; done) | (simp; omega)) _) | (with_reducible refine Below.alloc ?_ (by first | omega | (simp; done) | (simp; omega)) _) | (with_reducible refine Below.drew ?_) | (with_reducible refine below_dN ?_ _) | with_reducible exact Below.refl _ _ | (with_reducible refine Below.trans ?_ (Below.mono (by assumption) (by first | omega | (simp; done) | (simp; omega))))), by have := (Array.getElem?_eq_some_iff.1 HD.out.2.2.2.1).1; exact this⟩
  intro w3 hw3
  have H3 := Lib.hid hw3
  clear hw3
  clear z0 z1 z2 z3 z4 y0 y1 y2 y3 y4 o0 o1 o2 o3 o4 p0 p1 p2 p3 p4 v0 v1 v2 v3 v4 s0 s1 s2 s3 s4
  have hA3 := H3.out.2.2.2.2.2
  repeat (fail_if_success (with_reducible refine stop_pos "ref.go:191" rfl ?_)
          first | go_values | go_skip | go_guarded | go_step | go_upon | go_quiet (fail) | (simp only [Int.not_lt, Int.not_le] at *; go_simp) | (go_values <;> (try go_simp)) | (go_ite <;> go_prune <;> (try go_simp)))
  refine gen_world (fun wx => wx.heap[w.heap.size]? = some (.cells #[.int .u32 t.g, .slice a t.ks.length cap, .int .i64 t.h, .int .i64 t.ty, .bool t.ap] 25) ∧ wx.heap[w.heap.size + 1]? = some (.cells #[.int .i64 ac, .int .i64 oty, .int .u64 key, .int .u64 other, .bool oap] 43) ∧ wx.heap[w.heap.size + 1 + 1]? = some (.cells #[.int .u32 0, .slice none 0 0, .int .i64 0, .int .i64 0, .bool false] 25) ∧ wx.heap[A]? = some (.cells (K.map (Value.int .u64)).toArray 57) ∧ wx.heap[w3.heap.size]? = some (.cells ((List.replicate 8 false).map Value.bool).toArray 71) ∧ Below w.heap.size w wx) ?_ ?_
  · have hbw := H3.out.2.2.2.2.1
    exact ⟨(heap_alloc_old w3 _ (by omega)).trans H3.out.1, (heap_alloc_old w3 _ (by omega)).trans H3.out.2.1, (heap_alloc_old w3 _ (by omega)).trans H3.out.2.2.1, (heap_alloc_old w3 _ (by omega)).trans H3.out.2.2.2.1, heap_alloc_new w3 _, by repeat (first | with_reducible assumption | (with_reducible refine Below.setCell ?_ (by first | omega | (simp; done) | (simp; omega)) _) | (with_reducible refine Below.alloc ?_ (by first | omega | (simp; done) | (simp; omega)) _) | (with_reducible refine Below.drew ?_) | (with_reducible refine below_dN ?_ _) | with_reducible exact Below.refl _ _ | (with_reducible refine Below.trans ?_ (Below.mono (by assumption) (by first | omega | (simp; done) | (simp; omega)))))⟩
  intro w4 hw4
  have H4 := Lib.hid hw4
  clear hw4
  generalize hS : w3.heap.size = S at H4 hA3 ⊢
  clear hS H3
  have hS1 : ¬ S = w.heap.size := by omega
  have hS2 : ¬ S = w.heap.size + 1 := by omega
  have hS3 : ¬ S = w.heap.size + 1 + 1 := by omega
  have hS4 : ¬ S = A := by omega
  repeat (first | go_values | go_skip | go_guarded | go_step | go_upon)
  go_loopw [13, 14] (fun b i wr => ∃ (k : Nat) (nm : Bool), k ≤ 8 ∧ i = .int .i64 k ∧ b = .bool nm ∧ nm = (rsome false n other 0 (K.take k)).any id ∧ wr.heap[w.heap.size]? = some (.cells #[.int .u32 t.g, .slice a t.ks.length cap, .int .i64 t.h, .int .i64 t.ty, .bool t.ap] 25) ∧ wr.heap[w.heap.size + 1]? = some (.cells #[.int .i64 ac, .int .i64 oty, .int .u64 key, .int .u64 other, .bool oap] 43) ∧ wr.heap[w.heap.size + 1 + 1]? = some (.cells #[.int .u32 0, .slice none 0 0, .int .i64 0, .int .i64 0, .bool false] 25) ∧ wr.heap[A]? = some (.cells (K.map (Value.int .u64)).toArray 57) ∧ wr.heap[S]? = some (.cells ((rsome false n other 0 (K.take k) ++ List.replicate (8 - k) false).map Value.bool).toArray 71) ∧ Below w.heap.size w wr) (fun _ i _ => 8 - (intOf i).toNat)
  case atStart => exact ⟨0, false, by omega, rfl, rfl, by simp [rsome], H4.out.1, H4.out.2.1, H4.out.2.2.1, H4.out.2.2.2.1, by rw [some_start]; exact H4.out.2.2.2.2.1, H4.out.2.2.2.2.2⟩
  case round =>
    obtain ⟨k, nm, hk, rfl, rfl, hnm, d0, d1, d2, d3, d4, hbel⟩ := hrel
    have hAw : A < wr.heap.size := (Array.getElem?_eq_some_iff.1 d3).1
    have hSw : S < wr.heap.size := (Array.getElem?_eq_some_iff.1 d4).1
    by_cases hlt : k < 8
    · have hkK : k < K.length := by rw [HKL.out]; exact hlt
      obtain ⟨f2, f3⟩ := arr_cell d3 k hkK
      rw [show K.getD k 0 = K[k] by simp [hkK]] at f2
      rw [some_here false n other K k hlt] at d4
      have hXL : (rsome false n other 0 (K.take k)).length = k := by rw [rsome_length, List.length_take]; omega
      obtain ⟨f4, f5⟩ := barr_cell d4 hXL
      have o3 := (blk5 d1).2.2.2.1
      have HE := Lib.hid (And.intro d0 (And.intro d1 (And.intro d2 (And.intro d3 (And.intro d4 hbel)))))
      have hi0 : (0 : Int) ≤ k := by omega
      have hi8 : (k : Int) < 8 := by omega
      have kA := cell_regrown f2
      have kO := cell_regrown o3
      have HNX := Lib.hid (some_next false n other K k hkK)
      have HAX := Lib.hid (any_next false n other K k hkK)
      have HNM := Lib.hid hnm
      clear d0 d1 d2 d3 d4 hbel hnm
      cases q1 : (K[k] != 0)
      · repeat (first | go_values | go_skip | go_guarded | go_step | go_upon)
        refine wp_region_mix [(0, true), (1, true), (2, true), (3, true), (4, true), (5, true), (6, true), (7, true), (8, true), (9, true), (10, true), (11, true), (12, true), (13, true), (14, true), (15, true), (16, true), (17, true), (18, true), (19, true), (20, true), (21, true), (22, false)] 22 (fun w' => ∃ p : Regrown, w' = Go.Sort.grow (redrawn wr p.d) p.os) (by kernel_rfl) (by kernel_rfl) (fun _ _ d _ _ h => by cases d <;> exact h) (grows_drew _) ?_
        (repeat (with_reducible refine mix_q ?_; simp only [List.drop_succ_cons, List.drop_zero, List.take_succ_cons, List.take_zero]; go_big_quiet_step (fail); with_reducible refine wpQuiet_nil ?_))
        with_reducible refine mix_a ?_; simp only [List.drop_succ_cons, List.drop_zero, List.take_succ_cons, List.take_zero]
        go_wp2_with fail
        refine mixQ_normal ⟨fun h => absurd h (by simp), mix_nil ?_⟩
        repeat (fail_if_success (with_reducible refine stop_pos "ref.go:194" rfl ?_)
                first | go_values | go_skip | go_guarded | go_step | go_upon | go_quiet (fail))
        refine gen_world (PB w t a cap ac oty key other oap K A S (rsome false n other 0 (K.take k) ++ false :: List.replicate (7 - k) false)) ?_ ?_
        · have hbw := HE.out.2.2.2.2.2
          unfold PB
          exact ⟨heap_set_ne hS1 HE.out.1, heap_set_ne hS2 HE.out.2.1, heap_set_ne hS3 HE.out.2.2.1, heap_set_ne hS4 HE.out.2.2.2.1, barr_set HE.out.2.2.2.2.1 hXL, by repeat (first | with_reducible assumption | (with_reducible refine Below.setCell ?_ (by first | omega | (simp; done) | (simp; omega)) _) | (with_reducible refine Below.alloc ?_ (by first | omega | (simp; done) | (simp; omega)) _) | (with_reducible refine Below.drew ?_) | (with_reducible refine below_dN ?_ _) | with_reducible exact Below.refl _ _ | (with_reducible refine Below.trans ?_ (Below.mono (by assumption) (by first | omega | (simp; done) | (simp; omega))))), by simp; omega, by simp; omega⟩
        intro w5 hw5
        have H5 := Lib.hid hw5
        clear hw5
        obtain ⟨f6, f7⟩ := barr_cell H5.out.2.2.2.2.1 hXL
        have hAx := H5.out.2.2.2.2.2.2.1
        have hSx := H5.out.2.2.2.2.2.2.2
        clear f2 f3 f4 f5 o3
        cases nm
        · repeat (first | go_values | go_skip | go_guarded | go_step | go_upon | go_quiet (fail))
          go_roundw
          case rel =>
            refine ⟨k + 1, _, by omega, by go_num, rfl, by rw [HAX.out false (by simp only [q1]; rfl), ← HNM.out]; rfl, H5.out.1, H5.out.2.1, H5.out.2.2.1, H5.out.2.2.2.1, by rw [HNX.out false (by simp only [q1]; rfl)]; exact H5.out.2.2.2.2.1, H5.out.2.2.2.2.2.1⟩
          case measure => simp [intOf]; omega
        · repeat (first | go_values | go_skip | go_guarded | go_step | go_upon | go_quiet (fail))
          go_roundw
          case rel =>
            refine ⟨k + 1, _, by omega, by go_num, rfl, by rw [HAX.out false (by simp only [q1]; rfl), ← HNM.out]; rfl, H5.out.1, H5.out.2.1, H5.out.2.2.1, H5.out.2.2.2.1, by rw [HNX.out false (by simp only [q1]; rfl)]; exact H5.out.2.2.2.2.1, H5.out.2.2.2.2.2.1⟩
          case measure => simp [intOf]; omega
      · cases q2 : (K[k] == other)
        · repeat (first | go_values | go_skip | go_guarded | go_step | go_upon)
          refine wp_region_mix [(0, true), (1, true), (2, true), (3, true), (4, true), (5, true), (6, true), (7, true), (8, true), (9, true), (10, true), (11, true), (12, true), (13, true), (14, true), (15, true), (16, true), (17, true), (18, true), (19, true), (20, true), (21, true), (22, false)] 22 (fun w' => ∃ p : Regrown, w' = Go.Sort.grow (redrawn wr p.d) p.os) (by kernel_rfl) (by kernel_rfl) (fun _ _ d _ _ h => by cases d <;> exact h) (grows_drew _) ?_
          (repeat (with_reducible refine mix_q ?_; simp only [List.drop_succ_cons, List.drop_zero, List.take_succ_cons, List.take_zero]; go_big_quiet_step (fail); with_reducible refine wpQuiet_nil ?_))
          with_reducible refine mix_a ?_; simp only [List.drop_succ_cons, List.drop_zero, List.take_succ_cons, List.take_zero]
          go_wp2_with fail
          refine mixQ_normal ⟨fun h => absurd h (by simp), mix_nil ?_⟩
          repeat (fail_if_success (with_reducible refine stop_pos "ref.go:194" rfl ?_)
                  first | go_values | go_skip | go_guarded | go_step | go_upon | go_quiet (fail))
          refine gen_world (PB w t a cap ac oty key other oap K A S (rsome false n other 0 (K.take k) ++ false :: List.replicate (7 - k) false)) ?_ ?_
          · have hbw := HE.out.2.2.2.2.2
            unfold PB
            exact ⟨heap_set_ne hS1 HE.out.1, heap_set_ne hS2 HE.out.2.1, heap_set_ne hS3 HE.out.2.2.1, heap_set_ne hS4 HE.out.2.2.2.1, barr_set HE.out.2.2.2.2.1 hXL, by repeat (first | with_reducible assumption | (with_reducible refine Below.setCell ?_ (by first | omega | (simp; done) | (simp; omega)) _) | (with_reducible refine Below.alloc ?_ (by first | omega | (simp; done) | (simp; omega)) _) | (with_reducible refine Below.drew ?_) | (with_reducible refine below_dN ?_ _) | with_reducible exact Below.refl _ _ | (with_reducible refine Below.trans ?_ (Below.mono (by assumption) (by first | omega | (simp; done) | (simp; omega))))), by simp; omega, by simp; omega⟩
          intro w5 hw5
          have H5 := Lib.hid hw5
          clear hw5
          obtain ⟨f6, f7⟩ := barr_cell H5.out.2.2.2.2.1 hXL
          have hAx := H5.out.2.2.2.2.2.2.1
          have hSx := H5.out.2.2.2.2.2.2.2
          clear f2 f3 f4 f5 o3
          cases nm
          · repeat (first | go_values | go_skip | go_guarded | go_step | go_upon | go_quiet (fail))
            go_roundw
            case rel =>
              refine ⟨k + 1, _, by omega, by go_num, rfl, by rw [HAX.out false (by simp only [q1, q2, qo]; rfl), ← HNM.out]; rfl, H5.out.1, H5.out.2.1, H5.out.2.2.1, H5.out.2.2.2.1, by rw [HNX.out false (by simp only [q1, q2, qo]; rfl)]; exact H5.out.2.2.2.2.1, H5.out.2.2.2.2.2.1⟩
            case measure => simp [intOf]; omega
          · repeat (first | go_values | go_skip | go_guarded | go_step | go_upon | go_quiet (fail))
            go_roundw
            case rel =>
              refine ⟨k + 1, _, by omega, by go_num, rfl, by rw [HAX.out false (by simp only [q1, q2, qo]; rfl), ← HNM.out]; rfl, H5.out.1, H5.out.2.1, H5.out.2.2.1, H5.out.2.2.2.1, by rw [HNX.out false (by simp only [q1, q2, qo]; rfl)]; exact H5.out.2.2.2.2.1, H5.out.2.2.2.2.2.1⟩
            case measure => simp [intOf]; omega
        · repeat (first | go_values | go_skip | go_guarded | go_step | go_upon)
          refine wp_region_mix [(0, true), (1, true), (2, true), (3, true), (4, true), (5, true), (6, true), (7, true), (8, true), (9, true), (10, true), (11, true), (12, true), (13, true), (14, true), (15, true), (16, true), (17, true), (18, true), (19, true), (20, true), (21, true), (22, false)] 22 (fun w' => ∃ p : Regrown, w' = Go.Sort.grow (redrawn wr p.d) p.os) (by kernel_rfl) (by kernel_rfl) (fun _ _ d _ _ h => by cases d <;> exact h) (grows_drew _) ?_
          (repeat (with_reducible refine mix_q ?_; simp only [List.drop_succ_cons, List.drop_zero, List.take_succ_cons, List.take_zero]; go_big_quiet_step (fail); with_reducible refine wpQuiet_nil ?_))
          with_reducible refine mix_a ?_; simp only [List.drop_succ_cons, List.drop_zero, List.take_succ_cons, List.take_zero]
          go_wp2_with fail
          refine mixQ_normal ⟨fun h => absurd h (by simp), mix_nil ?_⟩
          repeat (fail_if_success (with_reducible refine stop_pos "ref.go:194" rfl ?_)
                  first | go_values | go_skip | go_guarded | go_step | go_upon | go_quiet (fail))
          refine gen_world (PB w t a cap ac oty key other oap K A S (rsome false n other 0 (K.take k) ++ true :: List.replicate (7 - k) false)) ?_ ?_
          · have hbw := HE.out.2.2.2.2.2
            unfold PB
            exact ⟨heap_set_ne hS1 HE.out.1, heap_set_ne hS2 HE.out.2.1, heap_set_ne hS3 HE.out.2.2.1, heap_set_ne hS4 HE.out.2.2.2.1, barr_set HE.out.2.2.2.2.1 hXL, by repeat (first | with_reducible assumption | (with_reducible refine Below.setCell ?_ (by first | omega | (simp; done) | (simp; omega)) _) | (with_reducible refine Below.alloc ?_ (by first | omega | (simp; done) | (simp; omega)) _) | (with_reducible refine Below.drew ?_) | (with_reducible refine below_dN ?_ _) | with_reducible exact Below.refl _ _ | (with_reducible refine Below.trans ?_ (Below.mono (by assumption) (by first | omega | (simp; done) | (simp; omega))))), by simp; omega, by simp; omega⟩
          intro w5 hw5
          have H5 := Lib.hid hw5
          clear hw5
          obtain ⟨f6, f7⟩ := barr_cell H5.out.2.2.2.2.1 hXL
          have hAx := H5.out.2.2.2.2.2.2.1
          have hSx := H5.out.2.2.2.2.2.2.2
          clear f2 f3 f4 f5 o3
          cases nm
          · repeat (first | go_values | go_skip | go_guarded | go_step | go_upon | go_quiet (fail))
            go_roundw
            case rel =>
              refine ⟨k + 1, _, by omega, by go_num, rfl, by rw [HAX.out true (by simp only [q1, q2]; rfl), ← HNM.out]; rfl, H5.out.1, H5.out.2.1, H5.out.2.2.1, H5.out.2.2.2.1, by rw [HNX.out true (by simp only [q1, q2]; rfl)]; exact H5.out.2.2.2.2.1, H5.out.2.2.2.2.2.1⟩
            case measure => simp [intOf]; omega
          · repeat (first | go_values | go_skip | go_guarded | go_step | go_upon | go_quiet (fail))
            go_roundw
            case rel =>
              refine ⟨k + 1, _, by omega, by go_num, rfl, by rw [HAX.out true (by simp only [q1, q2]; rfl), ← HNM.out]; rfl, H5.out.1, H5.out.2.1, H5.out.2.2.1, H5.out.2.2.2.1, by rw [HNX.out true (by simp only [q1, q2]; rfl)]; exact H5.out.2.2.2.2.1, H5.out.2.2.2.2.2.1⟩
            case measure => simp [intOf]; omega
    · obtain rfl : k = 8 := by omega
      have htk : K.take 8 = K := by rw [← HKL.out]; exact List.take_length
      rw [htk] at d4 hnm
      clear htk
      obtain ⟨b0, b1, b2, b3, b4, b5, b6, b7, hbb⟩ := list8b (rsome false n other 0 K) (by rw [rsome_length]; exact HKL.out)
      have HBB := Lib.hid hbb
      have HNM := Lib.hid hnm
      rw [show rsome false n other 0 K ++ List.replicate (8 - 8) false = rsome false n other 0 K by simp, hbb] at d4
      simp only [List.map_cons, List.map_nil] at d4
      have z0 := (blk5 d0).1
      have z1 := (blk5 d0).2.1
      have z2 := (blk5 d0).2.2.1
      have z3 := (blk5 d0).2.2.2.1
      have z4 := (blk5 d0).2.2.2.2.1
      have y0 := (blk5 d0).2.2.2.2.2.1
      have y1 := (blk5 d0).2.2.2.2.2.2.1
      have y2 := (blk5 d0).2.2.2.2.2.2.2.1
      have y3 := (blk5 d0).2.2.2.2.2.2.2.2.1
      have y4 := (blk5 d0).2.2.2.2.2.2.2.2.2
      have v0 := (blk5 d2).1
      have v1 := (blk5 d2).2.1
      have v2 := (blk5 d2).2.2.1
      have v3 := (blk5 d2).2.2.2.1
      have v4 := (blk5 d2).2.2.2.2.1
      have s0 := (blk5 d2).2.2.2.2.2.1
      have s1 := (blk5 d2).2.2.2.2.2.2.1
      have s2 := (blk5 d2).2.2.2.2.2.2.2.1
      have s3 := (blk5 d2).2.2.2.2.2.2.2.2.1
      have s4 := (blk5 d2).2.2.2.2.2.2.2.2.2
      have x0 := (blk8 d4).1
      have x1 := (blk8 d4).2.1
      have x2 := (blk8 d4).2.2.1
      have x3 := (blk8 d4).2.2.2.1
      have x4 := (blk8 d4).2.2.2.2.1
      have x5 := (blk8 d4).2.2.2.2.2.1
      have x6 := (blk8 d4).2.2.2.2.2.2.1
      have x7 := (blk8 d4).2.2.2.2.2.2.2.1
      have fz := (blk8 d4).2.2.2.2.2.2.2.2
      have HE := Lib.hid (And.intro d0 (And.intro d1 (And.intro d2 hbel)))
      clear hbb hnm d0 d1 d2 d3 d4 hbel
      cases nm
      · repeat (first | go_values | go_skip | go_guarded | go_step | go_upon | go_quiet (fail))
        refine bodyPost_ret (v := .tuple #[.agg #[.int .u32 t.g, .slice a t.ks.length cap, .int .i64 t.h, .int .i64 t.ty, .bool t.ap], .int .i64 24, .slice none 0 0]) ?_ rfl ?_
        · simp only [results, Try.results39]
          go_simp
        · unfold ActPost
          have hbw := HE.out.2.2.2
          have hany := HNM.out.symm
          rw [show rpreF t n oty other = (t, 24, []) by unfold rpreF; simp only [HTK.out, ← HKK.out, hany, qo]; rfl]
          refine ⟨a, cap, none, 0, rfl, HK.out.below ?_, HN.out, IntsIn.nil _ _, ?_⟩
          all_goals repeat (first | with_reducible assumption | (with_reducible refine Below.setCell ?_ (by first | omega | (simp; done) | (simp; omega)) _) | (with_reducible refine Below.alloc ?_ (by first | omega | (simp; done) | (simp; omega)) _) | (with_reducible refine Below.drew ?_) | (with_reducible refine below_dN ?_ _) | with_reducible exact Below.refl _ _ | (with_reducible refine Below.trans ?_ (Below.mono (by assumption) (by first | omega | (simp; done) | (simp; omega)))))
      · repeat (first | go_values | go_skip | go_guarded | go_step | go_upon | go_quiet (fail))
        refine (rremove_any t [b0, b1, b2, b3, b4, b5, b6, b7] n a cap wr hlen rfl hh (HK.out.below HE.out.2.2.2)).mono ?_
        rintro e w5 ⟨vt, vi, rfl, ⟨a5, c5, rfl, hk5, hn5⟩, ⟨a6, c6, rfl, hi5⟩, hb5⟩
        dsimp only
        have hany := HNM.out.symm
        have hr : rpreF t n oty other = ({ (rremoveF t (rsome false n other 0 K) n).1 with h := (rremoveF t (rsome false n other 0 K) n).1.h, ty := (rremoveF t (rsome false n other 0 K) n).1.ty, g := u32 ((rremoveF t (rsome false n other 0 K) n).1.g + 1) }, 0, (rremoveF t (rsome false n other 0 K) n).2) := by
          unfold rpreF
          simp only [HTK.out, ← HKK.out, hany, qo]
          rfl
        rw [HBB.out] at hr
        generalize rremoveF t [b0, b1, b2, b3, b4, b5, b6, b7] n = R at hk5 hn5 hi5 hr ⊢
        have HR := Lib.hid hr
        have HN5 := Lib.hid hn5
        clear hr hn5 hany
        have hsz5 := hb5.size
        have e1 := (hb5.block (w.heap.size + 1) (by omega)).trans HE.out.2.1
        have e2 := (hb5.block (w.heap.size + 1 + 1) (by omega)).trans HE.out.2.2.1
        have HX5 := Lib.hid (And.intro e1 (And.intro e2 (And.intro hk5 (And.intro hi5 (HE.out.2.2.2.trans (hb5.mono (by omega)))))))
        clear e1 e2 hk5 hi5 hb5 z0 z1 z2 z3 z4 y0 y1 y2 y3 y4 v0 v1 v2 v3 v4 s0 s1 s2 s3 s4 x0 x1 x2 x3 x4 x5 x6 x7 fz
        repeat (fail_if_success (with_reducible refine stop_pos "ref.go:203" rfl ?_)
                first | go_values | go_skip | go_guarded | go_step | go_upon | go_quiet (fail))
        refine gen_world (PF w R a5 c5 a6 ac oty key other oap w5.heap.size R.1.g R.1.h R.1.ty) ?_ ?_
        · have hbw := HX5.out.2.2.2.2
          unfold PF
          exact ⟨heap_alloc_new w5 _, (heap_alloc_old w5 _ (by omega)).trans HX5.out.1, (heap_alloc_old w5 _ (by omega)).trans HX5.out.2.1, HX5.out.2.2.1.below (Below.alloc (Below.refl _ _) (Nat.le_refl _) _), HX5.out.2.2.2.1.below (Below.alloc (Below.refl _ _) (Nat.le_refl _) _), by repeat (first | with_reducible assumption | (with_reducible refine Below.setCell ?_ (by first | omega | (simp; done) | (simp; omega)) _) | (with_reducible refine Below.alloc ?_ (by first | omega | (simp; done) | (simp; omega)) _) | (with_reducible refine Below.drew ?_) | (with_reducible refine below_dN ?_ _) | with_reducible exact Below.refl _ _ | (with_reducible refine Below.trans ?_ (Below.mono (by assumption) (by first | omega | (simp; done) | (simp; omega))))), by simp⟩
        intro w6 hw6
        generalize hM : w5.heap.size = M at hw6 hsz5 ⊢
        clear hM
        have H6 := Lib.hid hw6
        clear hw6 HX5
        have hM1 : ¬ M = w.heap.size + 1 := by omega
        have hM2 : ¬ M = w.heap.size + 1 + 1 := by omega
        have hM3 : ¬ w.heap.size + 1 + 1 = M := by omega
        have z0 := (blk5 H6.out.1).1
        have z1 := (blk5 H6.out.1).2.1
        have z2 := (blk5 H6.out.1).2.2.1
        have z3 := (blk5 H6.out.1).2.2.2.1
        have z4 := (blk5 H6.out.1).2.2.2.2.1
        have y0 := (blk5 H6.out.1).2.2.2.2.2.1
        have y1 := (blk5 H6.out.1).2.2.2.2.2.2.1
        have y2 := (blk5 H6.out.1).2.2.2.2.2.2.2.1
        have y3 := (blk5 H6.out.1).2.2.2.2.2.2.2.2.1
        have y4 := (blk5 H6.out.1).2.2.2.2.2.2.2.2.2
        have o0 := (blk5 H6.out.2.1).1
        have o1 := (blk5 H6.out.2.1).2.1
        have o2 := (blk5 H6.out.2.1).2.2.1
        have o3 := (blk5 H6.out.2.1).2.2.2.1
        have o4 := (blk5 H6.out.2.1).2.2.2.2.1
        have p0 := (blk5 H6.out.2.1).2.2.2.2.2.1
        have p1 := (blk5 H6.out.2.1).2.2.2.2.2.2.1
        have p2 := (blk5 H6.out.2.1).2.2.2.2.2.2.2.1
        have p3 := (blk5 H6.out.2.1).2.2.2.2.2.2.2.2.1
        have p4 := (blk5 H6.out.2.1).2.2.2.2.2.2.2.2.2
        repeat (fail_if_success (with_reducible refine stop_pos "ref.go:208" rfl ?_)
                first | go_values | go_skip | go_guarded | go_step | go_upon | go_quiet (fail))
        refine gen_world (PF w R a5 c5 a6 ac oty key other oap M (u32 (R.1.g + 1)) (R.1.h) (R.1.ty)) ?_ ?_
        · have hbw := H6.out.2.2.2.2.2.1
          have hml := H6.out.2.2.2.2.2.2
          unfold PF
          refine ⟨?_, heap_set_ne hM1 (H6.out.2.1), heap_set_ne hM2 (H6.out.2.2.1), H6.out.2.2.2.1.grown (grown_set _ M 0 _) H6.out.1 (by simp) (by simp) (by simp), H6.out.2.2.2.2.1.grown (grown_set _ M 0 _) H6.out.1 (by decide), by repeat (first | with_reducible assumption | (with_reducible refine Below.setCell ?_ (by first | omega | (simp; done) | (simp; omega)) _) | (with_reducible refine Below.alloc ?_ (by first | omega | (simp; done) | (simp; omega)) _) | (with_reducible refine Below.drew ?_) | (with_reducible refine below_dN ?_ _) | with_reducible exact Below.refl _ _ | (with_reducible refine Below.trans ?_ (Below.mono (by assumption) (by first | omega | (simp; done) | (simp; omega))))), by simpa using hml⟩
          rw [set_blk H6.out.1 _]
          simp [u32]
        intro w8 hw7
        have H8 := Lib.hid hw7
        clear hw7
        clear z0 z1 z2 z3 z4 y0 y1 y2 y3 y4 o0 o1 o2 o3 o4 p0 p1 p2 p3 p4
        have z0 := (blk5 H8.out.1).1
        have z1 := (blk5 H8.out.1).2.1
        have z2 := (blk5 H8.out.1).2.2.1
        have z3 := (blk5 H8.out.1).2.2.2.1
        have z4 := (blk5 H8.out.1).2.2.2.2.1
        have y0 := (blk5 H8.out.1).2.2.2.2.2.1
        have y1 := (blk5 H8.out.1).2.2.2.2.2.2.1
        have y2 := (blk5 H8.out.1).2.2.2.2.2.2.2.1
        have y3 := (blk5 H8.out.1).2.2.2.2.2.2.2.2.1
        have y4 := (blk5 H8.out.1).2.2.2.2.2.2.2.2.2
        have o0 := (blk5 H8.out.2.1).1
        have o1 := (blk5 H8.out.2.1).2.1
        have o2 := (blk5 H8.out.2.1).2.2.1
        have o3 := (blk5 H8.out.2.1).2.2.2.1
        have o4 := (blk5 H8.out.2.1).2.2.2.2.1
        have p0 := (blk5 H8.out.2.1).2.2.2.2.2.1
        have p1 := (blk5 H8.out.2.1).2.2.2.2.2.2.1
        have p2 := (blk5 H8.out.2.1).2.2.2.2.2.2.2.1
        have p3 := (blk5 H8.out.2.1).2.2.2.2.2.2.2.2.1
        have p4 := (blk5 H8.out.2.1).2.2.2.2.2.2.2.2.2
        have v0 := (blk5 H8.out.2.2.1).1
        have v1 := (blk5 H8.out.2.2.1).2.1
        have v2 := (blk5 H8.out.2.2.1).2.2.1
        have v3 := (blk5 H8.out.2.2.1).2.2.2.1
        have v4 := (blk5 H8.out.2.2.1).2.2.2.2.1
        have s0 := (blk5 H8.out.2.2.1).2.2.2.2.2.1
        have s1 := (blk5 H8.out.2.2.1).2.2.2.2.2.2.1
        have s2 := (blk5 H8.out.2.2.1).2.2.2.2.2.2.2.1
        have s3 := (blk5 H8.out.2.2.1).2.2.2.2.2.2.2.2.1
        have s4 := (blk5 H8.out.2.2.1).2.2.2.2.2.2.2.2.2
        repeat (first | go_values | go_skip | go_guarded | go_step | go_upon | go_quiet (fail))
        refine bodyPost_ret (v := .tuple #[.agg #[.int .u32 (u32 (R.1.g + 1)), .slice a5 R.1.ks.length c5, .int .i64 (R.1.h), .int .i64 (R.1.ty), .bool R.1.ap], .int .i64 0, .slice a6 R.2.length c6]) ?_ rfl ?_
        · simp only [results, Try.results39]
          go_simp
        · unfold ActPost
          rw [HR.out]
          have hbw := H8.out.2.2.2.2.2.1
          refine ⟨a5, c5, a6, c6, rfl, keys_ret H8.out.2.2.2.1 H8.out.2.2.1, HN5.out, ints_ret H8.out.2.2.2.2.1 H8.out.2.2.1, ?_⟩
          repeat (first | with_reducible assumption | (with_reducible refine Below.setCell ?_ (by first | omega | (simp; done) | (simp; omega)) _) | (with_reducible refine Below.alloc ?_ (by first | omega | (simp; done) | (simp; omega)) _) | (with_reducible refine Below.drew ?_) | (with_reducible refine below_dN ?_ _) | with_reducible exact Below.refl _ _ | (with_reducible refine Below.trans ?_ (Below.mono (by assumption) (by first | omega | (simp; done) | (simp; omega)))))
set_option maxRecDepth 100000 in
set_option maxHeartbeats 4000000 in
theorem rpre_a7t (t : Tab) (n ac oty key other : Int) (oap : Bool) (a : Option Addr) (cap : Nat) (w : World) (hlen : t.ks.length ≤ 9223372036854775807) (h0 : 0 ≤ n) (h8 : n < 8) (hh : t.h < 8)
   (hk : KeysIn w a t.ks) (hn : a = none → cap = 0) (hty : (t.ty == 0) = false → 0 ≤ t.h) (cz : (t.ty == 0) = false) (c7 : (t.ty == 7) = true) (qo : (other == 0) = true) (qk : knownF oty = true) :
    Calls Try.prog 39 #[.agg #[.int .u32 t.g, .slice a t.ks.length cap, .int .i64 t.h, .int .i64 t.ty, .bool t.ap], .int .i64 n, .agg #[.int .i64 ac, .int .i64 oty, .int .u64 key, .int .u64 other, .bool oap]] w (ActPost (rpreF t n oty other) w) := by
  have HTK : Hid (rtakesF t other = true) := Lib.hid (by unfold rtakesF rallF; simp_all)
  have czn : (t.ty != 0) = true := by simp_all
  have HK := Lib.hid hk; clear hk
  have HN := Lib.hid hn; clear hn
  go_enter Try.func39, Try.ntmps39
  go_wp2_with fail
  obtain ⟨b0, b1, b2⟩ := heap3 w (.cells #[.int .u32 t.g, .slice a t.ks.length cap, .int .i64 t.h, .int .i64 t.ty, .bool t.ap] 25) (.cells #[.int .i64 ac, .int .i64 oty, .int .u64 key, .int .u64 other, .bool oap] 43) (.cells #[.int .u32 0, .slice none 0 0, .int .i64 0, .int .i64 0, .bool false] 25)
  refine (keys_any _ _ _ _ _ _ _ _ hlen (HK.out.below (by repeat (first | with_reducible assumption | (with_reducible refine Below.setCell ?_ (by first | omega | (simp; done) | (simp; omega)) _) | (with_reducible refine Below.alloc ?_ (by first | omega | (simp; done) | (simp; omega)) _) | (with_reducible refine Below.drew ?_) | (with_reducible refine below_dN ?_ _) | with_reducible exact Below.refl _ _ | (with_reducible refine Below.trans ?_ (Below.mono (by assumption) (by first | omega | (simp; done) | (simp; omega)))))))).mono ?_
  rintro e w1 ⟨rfl, hb⟩
  have hz1 := hb.size
  simp only [World.size_alloc] at hz1
  have c0 := (hb.block _ (by first | (simp; done) | (simp; omega))).trans b0
  have c1 := (hb.block _ (by first | (simp; done) | (simp; omega))).trans b1
  have c2 := (hb.block _ (by first | (simp; done) | (simp; omega))).trans b2
  have hbw : Below w.heap.size w w1 := by repeat (first | with_reducible assumption | (with_reducible refine Below.setCell ?_ (by first | omega | (simp; done) | (simp; omega)) _) | (with_reducible refine Below.alloc ?_ (by first | omega | (simp; done) | (simp; omega)) _) | (with_reducible refine Below.drew ?_) | (with_reducible refine below_dN ?_ _) | with_reducible exact Below.refl _ _ | (with_reducible refine Below.trans ?_ (Below.mono (by assumption) (by first | omega | (simp; done) | (simp; omega)))))
  clear b0 b1 b2 hb
  obtain ⟨k0, k1, k2, k3, k4, k5, k6, k7, hl8⟩ := list8 (keysF t.ks) (keysF_length t.ks)
  unfold arr8
  rw [hl8]
  simp only [List.map_cons, List.map_nil]
  try dsimp only
  repeat (fail_if_success (with_reducible refine stop_pos "ref.go:185" rfl ?_)
          first | go_values | go_skip | go_guarded | go_step | go_upon)
  have d3 := heap_alloc_new w1 (.cells #[.int .u64 k0, .int .u64 k1, .int .u64 k2, .int .u64 k3, .int .u64 k4, .int .u64 k5, .int .u64 k6, .int .u64 k7] 57)
  have d0 := (heap_alloc_old w1 (.cells #[.int .u64 k0, .int .u64 k1, .int .u64 k2, .int .u64 k3, .int .u64 k4, .int .u64 k5, .int .u64 k6, .int .u64 k7] 57) (r := w.heap.size) (by omega)).trans c0
  have d1 := (heap_alloc_old w1 (.cells #[.int .u64 k0, .int .u64 k1, .int .u64 k2, .int .u64 k3, .int .u64 k4, .int .u64 k5, .int .u64 k6, .int .u64 k7] 57) (r := w.heap.size + 1) (by omega)).trans c1
  have d2 := (heap_alloc_old w1 (.cells #[.int .u64 k0, .int .u64 k1, .int .u64 k2, .int .u64 k3, .int .u64 k4, .int .u64 k5, .int .u64 k6, .int .u64 k7] 57) (r := w.heap.size + 1 + 1) (by omega)).trans c2
  have hd3 : (w1.alloc (.cells #[.int .u64 k0, .int .u64 k1, .int .u64 k2, .int .u64 k3, .int .u64 k4, .int .u64 k5, .int .u64 k6, .int .u64 k7] 57)).heap[w1.heap.size]? = some (.cells ((keysF t.ks).map (Value.int .u64)).toArray 57) := by rw [d3, hl8]; rfl
  have hbw2 : Below w.heap.size w (w1.alloc (.cells #[.int .u64 k0, .int .u64 k1, .int .u64 k2, .int .u64 k3, .int .u64 k4, .int .u64 k5, .int .u64 k6, .int .u64 k7] 57)) := by repeat (first | with_reducible assumption | (with_reducible refine Below.setCell ?_ (by first | omega | (simp; done) | (simp; omega)) _) | (with_reducible refine Below.alloc ?_ (by first | omega | (simp; done) | (simp; omega)) _) | (with_reducible refine Below.drew ?_) | (with_reducible refine below_dN ?_ _) | with_reducible exact Below.refl _ _ | (with_reducible refine Below.trans ?_ (Below.mono (by assumption) (by first | omega | (simp; done) | (simp; omega)))))
  have hsz2 : w1.heap.size + 1 = (w1.alloc (.cells #[.int .u64 k0, .int .u64 k1, .int .u64 k2, .int .u64 k3, .int .u64 k4, .int .u64 k5, .int .u64 k6, .int .u64 k7] 57)).heap.size := by simp
  generalize w1.alloc (.cells #[.int .u64 k0, .int .u64 k1, .int .u64 k2, .int .u64 k3, .int .u64 k4, .int .u64 k5, .int .u64 k6, .int .u64 k7] 57) = w2 at d0 d1 d2 hd3 hbw2 hsz2 ⊢
  generalize w1.heap.size = A at hz1 hd3 hsz2 ⊢
  clear d3 c0 c1 c2 hbw hl8
  have HKL := Lib.hid (keysF_length t.ks)
  obtain ⟨K, hK⟩ : ∃ x, x = keysF t.ks := ⟨_, rfl⟩
  have HKK := Lib.hid hK
  rw [← hK] at hd3
  have HKL : Hid (K.length = 8) := Lib.hid (by rw [hK]; exact HKL.out)
  clear hK
  have HD := Lib.hid (And.intro d0 (And.intro d1 (And.intro d2 (And.intro hd3 hbw2))))
  clear d0 d1 d2 hd3 hbw2
  have z0 := (blk5 HD.out.1).1
  have z1 := (blk5 HD.out.1).2.1
  have z2 := (blk5 HD.out.1).2.2.1
  have z3 := (blk5 HD.out.1).2.2.2.1
  have z4 := (blk5 HD.out.1).2.2.2.2.1
  have y0 := (blk5 HD.out.1).2.2.2.2.2.1
  have y1 := (blk5 HD.out.1).2.2.2.2.2.2.1
  have y2 := (blk5 HD.out.1).2.2.2.2.2.2.2.1
  have y3 := (blk5 HD.out.1).2.2.2.2.2.2.2.2.1
  have y4 := (blk5 HD.out.1).2.2.2.2.2.2.2.2.2
  have o0 := (blk5 HD.out.2.1).1
  have o1 := (blk5 HD.out.2.1).2.1
  have o2 := (blk5 HD.out.2.1).2.2.1
  have o3 := (blk5 HD.out.2.1).2.2.2.1
  have o4 := (blk5 HD.out.2.1).2.2.2.2.1
  have p0 := (blk5 HD.out.2.1).2.2.2.2.2.1
  have p1 := (blk5 HD.out.2.1).2.2.2.2.2.2.1
  have p2 := (blk5 HD.out.2.1).2.2.2.2.2.2.2.1
  have p3 := (blk5 HD.out.2.1).2.2.2.2.2.2.2.2.1
  have p4 := (blk5 HD.out.2.1).2.2.2.2.2.2.2.2.2
  have v0 := (blk5 HD.out.2.2.1).1
  have v1 := (blk5 HD.out.2.2.1).2.1
  have v2 := (blk5 HD.out.2.2.1).2.2.1
  have v3 := (blk5 HD.out.2.2.1).2.2.2.1
  have v4 := (blk5 HD.out.2.2.1).2.2.2.2.1
  have s0 := (blk5 HD.out.2.2.1).2.2.2.2.2.1
  have s1 := (blk5 HD.out.2.2.1).2.2.2.2.2.2.1
  have s2 := (blk5 HD.out.2.2.1).2.2.2.2.2.2.2.1
  have s3 := (blk5 HD.out.2.2.1).2.2.2.2.2.2.2.2.1
  have s4 := (blk5 HD.out.2.2.1).2.2.2.2.2.2.2.2.2
  have hn1 : ¬ w.heap.size = A := by omega
  have hn2 : ¬ A = w.heap.size := by omega
  have hn3 : ¬ w.heap.size + 1 = A := by omega
  have hn4 : ¬ A = w.heap.size + 1 := by omega
  have hn5 : ¬ w.heap.size + 1 + 1 = A := by omega
  have hn6 : ¬ A = w.heap.size + 1 + 1 := by omega
  repeat (first | go_values | go_skip | go_guarded | go_step | go_upon | go_quiet (fail) | (simp only [Int.not_lt, Int.not_le] at *; go_simp) | (go_values <;> (try go_simp)) | (go_ite <;> go_prune <;> (try go_simp)))
  refine (rknown_any oty _).mono ?_
  rintro e wk ⟨rfl, hwk⟩
  subst hwk
  dsimp only
  rw [qk]
  repeat (fail_if_success (with_reducible refine stop_pos "ref.go:190" rfl ?_)
          first | go_values | go_skip | go_guarded | go_step | go_upon | go_quiet (fail) | (simp only [Int.not_lt, Int.not_le] at *; go_simp) | (go_values <;> (try go_simp)) | (go_ite <;> go_prune <;> (try go_simp)))
  refine gen_world (fun wx => wx.heap[w.heap.size]? = some (.cells #[.int .u32 t.g, .slice a t.ks.length cap, .int .i64 t.h, .int .i64 t.ty, .bool t.ap] 25) ∧ wx.heap[w.heap.size + 1]? = some (.cells #[.int .i64 ac, .int .i64 oty, .int .u64 key, .int .u64 other, .bool oap] 43) ∧ wx.heap[w.heap.size + 1 + 1]? = some (.cells #[.int .u32 0, .slice none 0 0, .int .i64 0, .int .i64 0, .bool false] 25) ∧ wx.heap[A]? = some (.cells (K.map (Value.int .u64)).toArray 57) ∧ Below w.heap.size w wx ∧ A < wx.heap.size) ?_ ?_
  · have hbw := HD.out.2.2.2.2
    exact ⟨HD.out.1, HD.out.2.1, HD.out.2.2.1, HD.out.2.2.2.1, by repeat (first | with_reducible assumption | (with_reducible refine Below.setCell ?_ (by first | omega | (simp; done) | (simp; omega)) _) | (with_reducible refine Below.alloc ?_ (by first | omega | (simp; done) | (simp; omega)) _) | (with_reducible refine Below.drew ?_) | (with_reducible refine below_dN ?_ _) | with_reducible exact Below.refl _ _ | (with_reducible refine Below.trans ?_ (Below.mono (by assumption) (by first | omega | (simp; done) | (simp; omega))))), by have := (Array.getElem?_eq_some_iff.1 HD.out.2.2.2.1).1; exact this⟩
  intro w3 hw3
  have H3 := Lib.hid hw3
  clear hw3
  clear z0 z1 z2 z3 z4 y0 y1 y2 y3 y4 o0 o1 o2 o3 o4 p0 p1 p2 p3 p4 v0 v1 v2 v3 v4 s0 s1 s2 s3 s4
  have hA3 := H3.out.2.2.2.2.2
  repeat (fail_if_success (with_reducible refine stop_pos "ref.go:191" rfl ?_)
          first | go_values | go_skip | go_guarded | go_step | go_upon | go_quiet (fail) | (simp only [Int.not_lt, Int.not_le] at *; go_simp) | (go_values <;> (try go_simp)) | (go_ite <;> go_prune <;> (try go_simp)))
  refine gen_world (fun wx => wx.heap[w.heap.size]? = some (.cells #[.int .u32 t.g, .slice a t.ks.length cap, .int .i64 t.h, .int .i64 t.ty, .bool t.ap] 25) ∧ wx.heap[w.heap.size + 1]? = some (.cells #[.int .i64 ac, .int .i64 oty, .int .u64 key, .int .u64 other, .bool oap] 43) ∧ wx.heap[w.heap.size + 1 + 1]? = some (.cells #[.int .u32 0, .slice none 0 0, .int .i64 0, .int .i64 0, .bool false] 25) ∧ wx.heap[A]? = some (.cells (K.map (Value.int .u64)).toArray 57) ∧ wx.heap[w3.heap.size]? = some (.cells ((List.replicate 8 false).map Value.bool).toArray 71) ∧ Below w.heap.size w wx) ?_ ?_
  · have hbw := H3.out.2.2.2.2.1
    exact ⟨(heap_alloc_old w3 _ (by omega)).trans H3.out.1, (heap_alloc_old w3 _ (by omega)).trans H3.out.2.1, (heap_alloc_old w3 _ (by omega)).trans H3.out.2.2.1, (heap_alloc_old w3 _ (by omega)).trans H3.out.2.2.2.1, heap_alloc_new w3 _, by repeat (first | with_reducible assumption | (with_reducible refine Below.setCell ?_ (by first | omega | (simp; done) | (simp; omega)) _) | (with_reducible refine Below.alloc ?_ (by first | omega | (simp; done) | (simp; omega)) _) | (with_reducible refine Below.drew ?_) | (with_reducible refine below_dN ?_ _) | with_reducible exact Below.refl _ _ | (with_reducible refine Below.trans ?_ (Below.mono (by assumption) (by first | omega | (simp; done) | (simp; omega)))))⟩
  intro w4 hw4
  have H4 := Lib.hid hw4
  clear hw4
  generalize hS : w3.heap.size = S at H4 hA3 ⊢
  clear hS H3
  have hS1 : ¬ S = w.heap.size := by omega
  have hS2 : ¬ S = w.heap.size + 1 := by omega
  have hS3 : ¬ S = w.heap.size + 1 + 1 := by omega
  have hS4 : ¬ S = A := by omega
  repeat (first | go_values | go_skip | go_guarded | go_step | go_upon)
  go_loopw [13, 14] (fun b i wr => ∃ (k : Nat) (nm : Bool), k ≤ 8 ∧ i = .int .i64 k ∧ b = .bool nm ∧ nm = (rsome true n other 0 (K.take k)).any id ∧ wr.heap[w.heap.size]? = some (.cells #[.int .u32 t.g, .slice a t.ks.length cap, .int .i64 t.h, .int .i64 t.ty, .bool t.ap] 25) ∧ wr.heap[w.heap.size + 1]? = some (.cells #[.int .i64 ac, .int .i64 oty, .int .u64 key, .int .u64 other, .bool oap] 43) ∧ wr.heap[w.heap.size + 1 + 1]? = some (.cells #[.int .u32 0, .slice none 0 0, .int .i64 0, .int .i64 0, .bool false] 25) ∧ wr.heap[A]? = some (.cells (K.map (Value.int .u64)).toArray 57) ∧ wr.heap[S]? = some (.cells ((rsome true n other 0 (K.take k) ++ List.replicate (8 - k) false).map Value.bool).toArray 71) ∧ Below w.heap.size w wr) (fun _ i _ => 8 - (intOf i).toNat)
  case atStart => exact ⟨0, false, by omega, rfl, rfl, by simp [rsome], H4.out.1, H4.out.2.1, H4.out.2.2.1, H4.out.2.2.2.1, by rw [some_start]; exact H4.out.2.2.2.2.1, H4.out.2.2.2.2.2⟩
  case round =>
    obtain ⟨k, nm, hk, rfl, rfl, hnm, d0, d1, d2, d3, d4, hbel⟩ := hrel
    have hAw : A < wr.heap.size := (Array.getElem?_eq_some_iff.1 d3).1
    have hSw : S < wr.heap.size := (Array.getElem?_eq_some_iff.1 d4).1
    by_cases hlt : k < 8
    · have hkK : k < K.length := by rw [HKL.out]; exact hlt
      obtain ⟨f2, f3⟩ := arr_cell d3 k hkK
      rw [show K.getD k 0 = K[k] by simp [hkK]] at f2
      rw [some_here true n other K k hlt] at d4
      have hXL : (rsome true n other 0 (K.take k)).length = k := by rw [rsome_length, List.length_take]; omega
      obtain ⟨f4, f5⟩ := barr_cell d4 hXL
      have o3 := (blk5 d1).2.2.2.1
      have HE := Lib.hid (And.intro d0 (And.intro d1 (And.intro d2 (And.intro d3 (And.intro d4 hbel)))))
      have hi0 : (0 : Int) ≤ k := by omega
      have hi8 : (k : Int) < 8 := by omega
      have kA := cell_regrown f2
      have kO := cell_regrown o3
      have HNX := Lib.hid (some_next true n other K k hkK)
      have HAX := Lib.hid (any_next true n other K k hkK)
      have HNM := Lib.hid hnm
      clear d0 d1 d2 d3 d4 hbel hnm
      cases q1 : (K[k] != 0)
      · repeat (first | go_values | go_skip | go_guarded | go_step | go_upon)
        refine wp_region_mix [(0, true), (1, true), (2, true), (3, true), (4, true), (5, true), (6, true), (7, true), (8, true), (9, true), (10, true), (11, true), (12, true), (13, true), (14, true), (15, true), (16, true), (17, true), (18, true), (19, true), (20, true), (21, true), (22, false)] 22 (fun w' => ∃ p : Regrown, w' = Go.Sort.grow (redrawn wr p.d) p.os) (by kernel_rfl) (by kernel_rfl) (fun _ _ d _ _ h => by cases d <;> exact h) (grows_drew _) ?_
        (repeat (with_reducible refine mix_q ?_; simp only [List.drop_succ_cons, List.drop_zero, List.take_succ_cons, List.take_zero]; go_big_quiet_step (fail); with_reducible refine wpQuiet_nil ?_))
        with_reducible refine mix_a ?_; simp only [List.drop_succ_cons, List.drop_zero, List.take_succ_cons, List.take_zero]
        go_wp2_with fail
        refine mixQ_normal ⟨fun h => absurd h (by simp), mix_nil ?_⟩
        repeat (fail_if_success (with_reducible refine stop_pos "ref.go:194" rfl ?_)
                first | go_values | go_skip | go_guarded | go_step | go_upon | go_quiet (fail))
        refine gen_world (PB w t a cap ac oty key other oap K A S (rsome true n other 0 (K.take k) ++ false :: List.replicate (7 - k) false)) ?_ ?_
        · have hbw := HE.out.2.2.2.2.2
          unfold PB
          exact ⟨heap_set_ne hS1 HE.out.1, heap_set_ne hS2 HE.out.2.1, heap_set_ne hS3 HE.out.2.2.1, heap_set_ne hS4 HE.out.2.2.2.1, barr_set HE.out.2.2.2.2.1 hXL, by repeat (first | with_reducible assumption | (with_reducible refine Below.setCell ?_ (by first | omega | (simp; done) | (simp; omega)) _) | (with_reducible refine Below.alloc ?_ (by first | omega | (simp; done) | (simp; omega)) _) | (with_reducible refine Below.drew ?_) | (with_reducible refine below_dN ?_ _) | with_reducible exact Below.refl _ _ | (with_reducible refine Below.trans ?_ (Below.mono (by assumption) (by first | omega | (simp; done) | (simp; omega))))), by simp; omega, by simp; omega⟩
        intro w5 hw5
        have H5 := Lib.hid hw5
        clear hw5
        obtain ⟨f6, f7⟩ := barr_cell H5.out.2.2.2.2.1 hXL
        have hAx := H5.out.2.2.2.2.2.2.1
        have hSx := H5.out.2.2.2.2.2.2.2
        clear f2 f3 f4 f5 o3
        cases q3 : ((k : Int) == n)
        · cases nm
          · repeat (first | go_values | go_skip | go_guarded | go_step | go_upon | go_quiet (fail))
            go_roundw
            case rel =>
              refine ⟨k + 1, _, by omega, by go_num, rfl, by rw [HAX.out false (by simp only [q1, q3]; rfl), ← HNM.out]; rfl, H5.out.1, H5.out.2.1, H5.out.2.2.1, H5.out.2.2.2.1, by rw [HNX.out false (by simp only [q1, q3]; rfl)]; exact H5.out.2.2.2.2.1, H5.out.2.2.2.2.2.1⟩
            case measure => simp [intOf]; omega
          · repeat (first | go_values | go_skip | go_guarded | go_step | go_upon | go_quiet (fail))
            go_roundw
            case rel =>
              refine ⟨k + 1, _, by omega, by go_num, rfl, by rw [HAX.out false (by simp only [q1, q3]; rfl), ← HNM.out]; rfl, H5.out.1, H5.out.2.1, H5.out.2.2.1, H5.out.2.2.2.1, by rw [HNX.out false (by simp only [q1, q3]; rfl)]; exact H5.out.2.2.2.2.1, H5.out.2.2.2.2.2.1⟩
            case measure => simp [intOf]; omega
        · repeat (fail_if_success (with_reducible refine stop_pos "ref.go:197" rfl ?_)
                  first | go_values | go_skip | go_guarded | go_step | go_upon | go_quiet (fail))
          clear f6 f7
          refine gen_world (PB w t a cap ac oty key other oap K A S (rsome true n other 0 (K.take k) ++ false :: List.replicate (7 - k) false)) (PB_set H5.out hXL hS1 hS2 hS3 hS4 (by omega)) ?_
          intro w6 hw5
          have H6 := Lib.hid hw5
          clear hw5
          obtain ⟨f6, f7⟩ := barr_cell H6.out.2.2.2.2.1 hXL
          have hAx := H6.out.2.2.2.2.2.2.1
          have hSx := H6.out.2.2.2.2.2.2.2
          cases nm
          · repeat (first | go_values | go_skip | go_guarded | go_step | go_upon | go_quiet (fail))
            go_roundw
            case rel =>
              refine ⟨k + 1, _, by omega, by go_num, rfl, by rw [HAX.out false (by simp only [q1, q3]; rfl), ← HNM.out]; rfl, H6.out.1, H6.out.2.1, H6.out.2.2.1, H6.out.2.2.2.1, by rw [HNX.out false (by simp only [q1, q3]; rfl)]; exact H6.out.2.2.2.2.1, H6.out.2.2.2.2.2.1⟩
            case measure => simp [intOf]; omega
          · repeat (first | go_values | go_skip | go_guarded | go_step | go_upon | go_quiet (fail))
            go_roundw
            case rel =>
              refine ⟨k + 1, _, by omega, by go_num, rfl, by rw [HAX.out false (by simp only [q1, q3]; rfl), ← HNM.out]; rfl, H6.out.1, H6.out.2.1, H6.out.2.2.1, H6.out.2.2.2.1, by rw [HNX.out false (by simp only [q1, q3]; rfl)]; exact H6.out.2.2.2.2.1, H6.out.2.2.2.2.2.1⟩
            case measure => simp [intOf]; omega
      · cases q2 : (K[k] == other)
        · repeat (first | go_values | go_skip | go_guarded | go_step | go_upon)
          refine wp_region_mix [(0, true), (1, true), (2, true), (3, true), (4, true), (5, true), (6, true), (7, true), (8, true), (9, true), (10, true), (11, true), (12, true), (13, true), (14, true), (15, true), (16, true), (17, true), (18, true), (19, true), (20, true), (21, true), (22, false)] 22 (fun w' => ∃ p : Regrown, w' = Go.Sort.grow (redrawn wr p.d) p.os) (by kernel_rfl) (by kernel_rfl) (fun _ _ d _ _ h => by cases d <;> exact h) (grows_drew _) ?_
          (repeat (with_reducible refine mix_q ?_; simp only [List.drop_succ_cons, List.drop_zero, List.take_succ_cons, List.take_zero]; go_big_quiet_step (fail); with_reducible refine wpQuiet_nil ?_))
          with_reducible refine mix_a ?_; simp only [List.drop_succ_cons, List.drop_zero, List.take_succ_cons, List.take_zero]
          go_wp2_with fail
          refine mixQ_normal ⟨fun h => absurd h (by simp), mix_nil ?_⟩
          repeat (fail_if_success (with_reducible refine stop_pos "ref.go:194" rfl ?_)
                  first | go_values | go_skip | go_guarded | go_step | go_upon | go_quiet (fail))
          refine gen_world (PB w t a cap ac oty key other oap K A S (rsome true n other 0 (K.take k) ++ true :: List.replicate (7 - k) false)) ?_ ?_
          · have hbw := HE.out.2.2.2.2.2
            unfold PB
            exact ⟨heap_set_ne hS1 HE.out.1, heap_set_ne hS2 HE.out.2.1, heap_set_ne hS3 HE.out.2.2.1, heap_set_ne hS4 HE.out.2.2.2.1, barr_set HE.out.2.2.2.2.1 hXL, by repeat (first | with_reducible assumption | (with_reducible refine Below.setCell ?_ (by first | omega | (simp; done) | (simp; omega)) _) | (with_reducible refine Below.alloc ?_ (by first | omega | (simp; done) | (simp; omega)) _) | (with_reducible refine Below.drew ?_) | (with_reducible refine below_dN ?_ _) | with_reducible exact Below.refl _ _ | (with_reducible refine Below.trans ?_ (Below.mono (by assumption) (by first | omega | (simp; done) | (simp; omega))))), by simp; omega, by simp; omega⟩
          intro w5 hw5
          have H5 := Lib.hid hw5
          clear hw5
          obtain ⟨f6, f7⟩ := barr_cell H5.out.2.2.2.2.1 hXL
          have hAx := H5.out.2.2.2.2.2.2.1
          have hSx := H5.out.2.2.2.2.2.2.2
          clear f2 f3 f4 f5 o3
          cases q3 : ((k : Int) == n)
          · cases nm
            · repeat (first | go_values | go_skip | go_guarded | go_step | go_upon | go_quiet (fail))
              go_roundw
              case rel =>
                refine ⟨k + 1, _, by omega, by go_num, rfl, by rw [HAX.out true (by simp only [q1, q2, qo, q3]; rfl), ← HNM.out]; rfl, H5.out.1, H5.out.2.1, H5.out.2.2.1, H5.out.2.2.2.1, by rw [HNX.out true (by simp only [q1, q2, qo, q3]; rfl)]; exact H5.out.2.2.2.2.1, H5.out.2.2.2.2.2.1⟩
              case measure => simp [intOf]; omega
            · repeat (first | go_values | go_skip | go_guarded | go_step | go_upon | go_quiet (fail))
              go_roundw
              case rel =>
                refine ⟨k + 1, _, by omega, by go_num, rfl, by rw [HAX.out true (by simp only [q1, q2, qo, q3]; rfl), ← HNM.out]; rfl, H5.out.1, H5.out.2.1, H5.out.2.2.1, H5.out.2.2.2.1, by rw [HNX.out true (by simp only [q1, q2, qo, q3]; rfl)]; exact H5.out.2.2.2.2.1, H5.out.2.2.2.2.2.1⟩
              case measure => simp [intOf]; omega
          · repeat (fail_if_success (with_reducible refine stop_pos "ref.go:197" rfl ?_)
                    first | go_values | go_skip | go_guarded | go_step | go_upon | go_quiet (fail))
            clear f6 f7
            refine gen_world (PB w t a cap ac oty key other oap K A S (rsome true n other 0 (K.take k) ++ false :: List.replicate (7 - k) false)) (PB_set H5.out hXL hS1 hS2 hS3 hS4 (by omega)) ?_
            intro w6 hw5
            have H6 := Lib.hid hw5
            clear hw5
            obtain ⟨f6, f7⟩ := barr_cell H6.out.2.2.2.2.1 hXL
            have hAx := H6.out.2.2.2.2.2.2.1
            have hSx := H6.out.2.2.2.2.2.2.2
            cases nm
            · repeat (first | go_values | go_skip | go_guarded | go_step | go_upon | go_quiet (fail))
              go_roundw
              case rel =>
                refine ⟨k + 1, _, by omega, by go_num, rfl, by rw [HAX.out false (by simp only [q1, q2, qo, q3]; rfl), ← HNM.out]; rfl, H6.out.1, H6.out.2.1, H6.out.2.2.1, H6.out.2.2.2.1, by rw [HNX.out false (by simp only [q1, q2, qo, q3]; rfl)]; exact H6.out.2.2.2.2.1, H6.out.2.2.2.2.2.1⟩
              case measure => simp [intOf]; omega
            · repeat (first | go_values | go_skip | go_guarded | go_step | go_upon | go_quiet (fail))
              go_roundw
              case rel =>
                refine ⟨k + 1, _, by omega, by go_num, rfl, by rw [HAX.out false (by simp only [q1, q2, qo, q3]; rfl), ← HNM.out]; rfl, H6.out.1, H6.out.2.1, H6.out.2.2.1, H6.out.2.2.2.1, by rw [HNX.out false (by simp only [q1, q2, qo, q3]; rfl)]; exact H6.out.2.2.2.2.1, H6.out.2.2.2.2.2.1⟩
              case measure => simp [intOf]; omega
        · repeat (first | go_values | go_skip | go_guarded | go_step | go_upon)
          refine wp_region_mix [(0, true), (1, true), (2, true), (3, true), (4, true), (5, true), (6, true), (7, true), (8, true), (9, true), (10, true), (11, true), (12, true), (13, true), (14, true), (15, true), (16, true), (17, true), (18, true), (19, true), (20, true), (21, true), (22, false)] 22 (fun w' => ∃ p : Regrown, w' = Go.Sort.grow (redrawn wr p.d) p.os) (by kernel_rfl) (by kernel_rfl) (fun _ _ d _ _ h => by cases d <;> exact h) (grows_drew _) ?_
          (repeat (with_reducible refine mix_q ?_; simp only [List.drop_succ_cons, List.drop_zero, List.take_succ_cons, List.take_zero]; go_big_quiet_step (fail); with_reducible refine wpQuiet_nil ?_))
          with_reducible refine mix_a ?_; simp only [List.drop_succ_cons, List.drop_zero, List.take_succ_cons, List.take_zero]
          go_wp2_with fail
          refine mixQ_normal ⟨fun h => absurd h (by simp), mix_nil ?_⟩
          repeat (fail_if_success (with_reducible refine stop_pos "ref.go:194" rfl ?_)
                  first | go_values | go_skip | go_guarded | go_step | go_upon | go_quiet (fail))
          refine gen_world (PB w t a cap ac oty key other oap K A S (rsome true n other 0 (K.take k) ++ true :: List.replicate (7 - k) false)) ?_ ?_
          · have hbw := HE.out.2.2.2.2.2
            unfold PB
            exact ⟨heap_set_ne hS1 HE.out.1, heap_set_ne hS2 HE.out.2.1, heap_set_ne hS3 HE.out.2.2.1, heap_set_ne hS4 HE.out.2.2.2.1, barr_set HE.out.2.2.2.2.1 hXL, by repeat (first | with_reducible assumption | (with_reducible refine Below.setCell ?_ (by first | omega | (simp; done) | (simp; omega)) _) | (with_reducible refine Below.alloc ?_ (by first | omega | (simp; done) | (simp; omega)) _) | (with_reducible refine Below.drew ?_) | (with_reducible refine below_dN ?_ _) | with_reducible exact Below.refl _ _ | (with_reducible refine Below.trans ?_ (Below.mono (by assumption) (by first | omega | (simp; done) | (simp; omega))))), by simp; omega, by simp; omega⟩
          intro w5 hw5
          have H5 := Lib.hid hw5
          clear hw5
          obtain ⟨f6, f7⟩ := barr_cell H5.out.2.2.2.2.1 hXL
          have hAx := H5.out.2.2.2.2.2.2.1
          have hSx := H5.out.2.2.2.2.2.2.2
          clear f2 f3 f4 f5 o3
          cases q3 : ((k : Int) == n)
          · cases nm
            · repeat (first | go_values | go_skip | go_guarded | go_step | go_upon | go_quiet (fail))
              go_roundw
              case rel =>
                refine ⟨k + 1, _, by omega, by go_num, rfl, by rw [HAX.out true (by simp only [q1, q2, q3]; rfl), ← HNM.out]; rfl, H5.out.1, H5.out.2.1, H5.out.2.2.1, H5.out.2.2.2.1, by rw [HNX.out true (by simp only [q1, q2, q3]; rfl)]; exact H5.out.2.2.2.2.1, H5.out.2.2.2.2.2.1⟩
              case measure => simp [intOf]; omega
            · repeat (first | go_values | go_skip | go_guarded | go_step | go_upon | go_quiet (fail))
              go_roundw
              case rel =>
                refine ⟨k + 1, _, by omega, by go_num, rfl, by rw [HAX.out true (by simp only [q1, q2, q3]; rfl), ← HNM.out]; rfl, H5.out.1, H5.out.2.1, H5.out.2.2.1, H5.out.2.2.2.1, by rw [HNX.out true (by simp only [q1, q2, q3]; rfl)]; exact H5.out.2.2.2.2.1, H5.out.2.2.2.2.2.1⟩
              case measure => simp [intOf]; omega
          · repeat (fail_if_success (with_reducible refine stop_pos "ref.go:197" rfl ?_)
                    first | go_values | go_skip | go_guarded | go_step | go_upon | go_quiet (fail))
            clear f6 f7
            refine gen_world (PB w t a cap ac oty key other oap K A S (rsome true n other 0 (K.take k) ++ false :: List.replicate (7 - k) false)) (PB_set H5.out hXL hS1 hS2 hS3 hS4 (by omega)) ?_
            intro w6 hw5
            have H6 := Lib.hid hw5
            clear hw5
            obtain ⟨f6, f7⟩ := barr_cell H6.out.2.2.2.2.1 hXL
            have hAx := H6.out.2.2.2.2.2.2.1
            have hSx := H6.out.2.2.2.2.2.2.2
            cases nm
            · repeat (first | go_values | go_skip | go_guarded | go_step | go_upon | go_quiet (fail))
              go_roundw
              case rel =>
                refine ⟨k + 1, _, by omega, by go_num, rfl, by rw [HAX.out false (by simp only [q1, q2, q3]; rfl), ← HNM.out]; rfl, H6.out.1, H6.out.2.1, H6.out.2.2.1, H6.out.2.2.2.1, by rw [HNX.out false (by simp only [q1, q2, q3]; rfl)]; exact H6.out.2.2.2.2.1, H6.out.2.2.2.2.2.1⟩
              case measure => simp [intOf]; omega
            · repeat (first | go_values | go_skip | go_guarded | go_step | go_upon | go_quiet (fail))
              go_roundw
              case rel =>
                refine ⟨k + 1, _, by omega, by go_num, rfl, by rw [HAX.out false (by simp only [q1, q2, q3]; rfl), ← HNM.out]; rfl, H6.out.1, H6.out.2.1, H6.out.2.2.1, H6.out.2.2.2.1, by rw [HNX.out false (by simp only [q1, q2, q3]; rfl)]; exact H6.out.2.2.2.2.1, H6.out.2.2.2.2.2.1⟩
              case measure => simp [intOf]; omega
    · obtain rfl : k = 8 := by omega
      have htk : K.take 8 = K := by rw [← HKL.out]; exact List.take_length
      rw [htk] at d4 hnm
      clear htk
      obtain ⟨b0, b1, b2, b3, b4, b5, b6, b7, hbb⟩ := list8b (rsome true n other 0 K) (by rw [rsome_length]; exact HKL.out)
      have HBB := Lib.hid hbb
      have HNM := Lib.hid hnm
      rw [show rsome true n other 0 K ++ List.replicate (8 - 8) false = rsome true n other 0 K by simp, hbb] at d4
      simp only [List.map_cons, List.map_nil] at d4
      have z0 := (blk5 d0).1
      have z1 := (blk5 d0).2.1
      have z2 := (blk5 d0).2.2.1
      have z3 := (blk5 d0).2.2.2.1
      have z4 := (blk5 d0).2.2.2.2.1
      have y0 := (blk5 d0).2.2.2.2.2.1
      have y1 := (blk5 d0).2.2.2.2.2.2.1
      have y2 := (blk5 d0).2.2.2.2.2.2.2.1
      have y3 := (blk5 d0).2.2.2.2.2.2.2.2.1
      have y4 := (blk5 d0).2.2.2.2.2.2.2.2.2
      have v0 := (blk5 d2).1
      have v1 := (blk5 d2).2.1
      have v2 := (blk5 d2).2.2.1
      have v3 := (blk5 d2).2.2.2.1
      have v4 := (blk5 d2).2.2.2.2.1
      have s0 := (blk5 d2).2.2.2.2.2.1
      have s1 := (blk5 d2).2.2.2.2.2.2.1
      have s2 := (blk5 d2).2.2.2.2.2.2.2.1
      have s3 := (blk5 d2).2.2.2.2.2.2.2.2.1
      have s4 := (blk5 d2).2.2.2.2.2.2.2.2.2
      have x0 := (blk8 d4).1
      have x1 := (blk8 d4).2.1
      have x2 := (blk8 d4).2.2.1
      have x3 := (blk8 d4).2.2.2.1
      have x4 := (blk8 d4).2.2.2.2.1
      have x5 := (blk8 d4).2.2.2.2.2.1
      have x6 := (blk8 d4).2.2.2.2.2.2.1
      have x7 := (blk8 d4).2.2.2.2.2.2.2.1
      have fz := (blk8 d4).2.2.2.2.2.2.2.2
      have HE := Lib.hid (And.intro d0 (And.intro d1 (And.intro d2 hbel)))
      clear hbb hnm d0 d1 d2 d3 d4 hbel
      cases nm
      · repeat (first | go_values | go_skip | go_guarded | go_step | go_upon | go_quiet (fail))
        refine (rremove_any t [b0, b1, b2, b3, b4, b5, b6, b7] n a cap wr hlen rfl hh (HK.out.below HE.out.2.2.2)).mono ?_
        rintro e w5 ⟨vt, vi, rfl, ⟨a5, c5, rfl, hk5, hn5⟩, ⟨a6, c6, rfl, hi5⟩, hb5⟩
        dsimp only
        have hany := HNM.out.symm
        have hr : rpreF t n oty other = ({ (rremoveF t (rsome true n other 0 K) n).1 with h := n, ty := oty, g := u32 ((rremoveF t (rsome true n other 0 K) n).1.g + 1) }, 0, (rremoveF t (rsome true n other 0 K) n).2) := by
          unfold rpreF
          simp only [HTK.out, ← HKK.out, hany, qk, qo]
          rfl
        rw [HBB.out] at hr
        generalize rremoveF t [b0, b1, b2, b3, b4, b5, b6, b7] n = R at hk5 hn5 hi5 hr ⊢
        have HR := Lib.hid hr
        have HN5 := Lib.hid hn5
        clear hr hn5 hany
        have hsz5 := hb5.size
        have e1 := (hb5.block (w.heap.size + 1) (by omega)).trans HE.out.2.1
        have e2 := (hb5.block (w.heap.size + 1 + 1) (by omega)).trans HE.out.2.2.1
        have HX5 := Lib.hid (And.intro e1 (And.intro e2 (And.intro hk5 (And.intro hi5 (HE.out.2.2.2.trans (hb5.mono (by omega)))))))
        clear e1 e2 hk5 hi5 hb5 z0 z1 z2 z3 z4 y0 y1 y2 y3 y4 v0 v1 v2 v3 v4 s0 s1 s2 s3 s4 x0 x1 x2 x3 x4 x5 x6 x7 fz
        repeat (fail_if_success (with_reducible refine stop_pos "ref.go:203" rfl ?_)
                first | go_values | go_skip | go_guarded | go_step | go_upon | go_quiet (fail))
        refine gen_world (PF w R a5 c5 a6 ac oty key other oap w5.heap.size R.1.g R.1.h R.1.ty) ?_ ?_
        · have hbw := HX5.out.2.2.2.2
          unfold PF
          exact ⟨heap_alloc_new w5 _, (heap_alloc_old w5 _ (by omega)).trans HX5.out.1, (heap_alloc_old w5 _ (by omega)).trans HX5.out.2.1, HX5.out.2.2.1.below (Below.alloc (Below.refl _ _) (Nat.le_refl _) _), HX5.out.2.2.2.1.below (Below.alloc (Below.refl _ _) (Nat.le_refl _) _), by repeat (first | with_reducible assumption | (with_reducible refine Below.setCell ?_ (by first | omega | (simp; done) | (simp; omega)) _) | (with_reducible refine Below.alloc ?_ (by first | omega | (simp; done) | (simp; omega)) _) | (with_reducible refine Below.drew ?_) | (with_reducible refine below_dN ?_ _) | with_reducible exact Below.refl _ _ | (with_reducible refine Below.trans ?_ (Below.mono (by assumption) (by first | omega | (simp; done) | (simp; omega))))), by simp⟩
        intro w6 hw6
        generalize hM : w5.heap.size = M at hw6 hsz5 ⊢
        clear hM
        have H6 := Lib.hid hw6
        clear hw6 HX5
        have hM1 : ¬ M = w.heap.size + 1 := by omega
        have hM2 : ¬ M = w.heap.size + 1 + 1 := by omega
        have hM3 : ¬ w.heap.size + 1 + 1 = M := by omega
        have z0 := (blk5 H6.out.1).1
        have z1 := (blk5 H6.out.1).2.1
        have z2 := (blk5 H6.out.1).2.2.1
        have z3 := (blk5 H6.out.1).2.2.2.1
        have z4 := (blk5 H6.out.1).2.2.2.2.1
        have y0 := (blk5 H6.out.1).2.2.2.2.2.1
        have y1 := (blk5 H6.out.1).2.2.2.2.2.2.1
        have y2 := (blk5 H6.out.1).2.2.2.2.2.2.2.1
        have y3 := (blk5 H6.out.1).2.2.2.2.2.2.2.2.1
        have y4 := (blk5 H6.out.1).2.2.2.2.2.2.2.2.2
        have o0 := (blk5 H6.out.2.1).1
        have o1 := (blk5 H6.out.2.1).2.1
        have o2 := (blk5 H6.out.2.1).2.2.1
        have o3 := (blk5 H6.out.2.1).2.2.2.1
        have o4 := (blk5 H6.out.2.1).2.2.2.2.1
        have p0 := (blk5 H6.out.2.1).2.2.2.2.2.1
        have p1 := (blk5 H6.out.2.1).2.2.2.2.2.2.1
        have p2 := (blk5 H6.out.2.1).2.2.2.2.2.2.2.1
        have p3 := (blk5 H6.out.2.1).2.2.2.2.2.2.2.2.1
        have p4 := (blk5 H6.out.2.1).2.2.2.2.2.2.2.2.2
        repeat (fail_if_success (with_reducible refine stop_pos "ref.go:207" rfl ?_)
                first | go_values | go_skip | go_guarded | go_step | go_upon | go_quiet (fail))
        refine gen_world (PF w R a5 c5 a6 ac oty key other oap M (R.1.g) (n) (oty)) ?_ ?_
        · have hbw := H6.out.2.2.2.2.2.1
          have hml := H6.out.2.2.2.2.2.2
          unfold PF
          refine ⟨?_, heap_set_ne hM1 (heap_set_ne hM1 (H6.out.2.1)), heap_set_ne hM2 (heap_set_ne hM2 (H6.out.2.2.1)), H6.out.2.2.2.1.grown (grown_trans (grown_set _ M 2 _) (grown_set _ _ 3 _)) H6.out.1 (by simp) (by simp) (by simp), H6.out.2.2.2.2.1.grown (grown_trans (grown_set _ M 2 _) (grown_set _ _ 3 _)) H6.out.1 (by decide), by repeat (first | with_reducible assumption | (with_reducible refine Below.setCell ?_ (by first | omega | (simp; done) | (simp; omega)) _) | (with_reducible refine Below.alloc ?_ (by first | omega | (simp; done) | (simp; omega)) _) | (with_reducible refine Below.drew ?_) | (with_reducible refine below_dN ?_ _) | with_reducible exact Below.refl _ _ | (with_reducible refine Below.trans ?_ (Below.mono (by assumption) (by first | omega | (simp; done) | (simp; omega))))), by simpa using hml⟩
          rw [set_blk (set_blk H6.out.1 _) _]
          simp [u32]
        intro w7 hw7
        have H7 := Lib.hid hw7
        clear hw7
        clear z0 z1 z2 z3 z4 y0 y1 y2 y3 y4 o0 o1 o2 o3 o4 p0 p1 p2 p3 p4
        have z0 := (blk5 H7.out.1).1
        have z1 := (blk5 H7.out.1).2.1
        have z2 := (blk5 H7.out.1).2.2.1
        have z3 := (blk5 H7.out.1).2.2.2.1
        have z4 := (blk5 H7.out.1).2.2.2.2.1
        have y0 := (blk5 H7.out.1).2.2.2.2.2.1
        have y1 := (blk5 H7.out.1).2.2.2.2.2.2.1
        have y2 := (blk5 H7.out.1).2.2.2.2.2.2.2.1
        have y3 := (blk5 H7.out.1).2.2.2.2.2.2.2.2.1
        have y4 := (blk5 H7.out.1).2.2.2.2.2.2.2.2.2
        have o0 := (blk5 H7.out.2.1).1
        have o1 := (blk5 H7.out.2.1).2.1
        have o2 := (blk5 H7.out.2.1).2.2.1
        have o3 := (blk5 H7.out.2.1).2.2.2.1
        have o4 := (blk5 H7.out.2.1).2.2.2.2.1
        have p0 := (blk5 H7.out.2.1).2.2.2.2.2.1
        have p1 := (blk5 H7.out.2.1).2.2.2.2.2.2.1
        have p2 := (blk5 H7.out.2.1).2.2.2.2.2.2.2.1
        have p3 := (blk5 H7.out.2.1).2.2.2.2.2.2.2.2.1
        have p4 := (blk5 H7.out.2.1).2.2.2.2.2.2.2.2.2
        repeat (fail_if_success (with_reducible refine stop_pos "ref.go:208" rfl ?_)
                first | go_values | go_skip | go_guarded | go_step | go_upon | go_quiet (fail))
        refine gen_world (PF w R a5 c5 a6 ac oty key other oap M (u32 (R.1.g + 1)) (n) (oty)) ?_ ?_
        · have hbw := H7.out.2.2.2.2.2.1
          have hml := H7.out.2.2.2.2.2.2
          unfold PF
          refine ⟨?_, heap_set_ne hM1 (H7.out.2.1), heap_set_ne hM2 (H7.out.2.2.1), H7.out.2.2.2.1.grown (grown_set _ M 0 _) H7.out.1 (by simp) (by simp) (by simp), H7.out.2.2.2.2.1.grown (grown_set _ M 0 _) H7.out.1 (by decide), by repeat (first | with_reducible assumption | (with_reducible refine Below.setCell ?_ (by first | omega | (simp; done) | (simp; omega)) _) | (with_reducible refine Below.alloc ?_ (by first | omega | (simp; done) | (simp; omega)) _) | (with_reducible refine Below.drew ?_) | (with_reducible refine below_dN ?_ _) | with_reducible exact Below.refl _ _ | (with_reducible refine Below.trans ?_ (Below.mono (by assumption) (by first | omega | (simp; done) | (simp; omega))))), by simpa using hml⟩
          rw [set_blk H7.out.1 _]
          simp [u32]
        intro w8 hw7
        have H8 := Lib.hid hw7
        clear hw7
        clear z0 z1 z2 z3 z4 y0 y1 y2 y3 y4 o0 o1 o2 o3 o4 p0 p1 p2 p3 p4
        have z0 := (blk5 H8.out.1).1
        have z1 := (blk5 H8.out.1).2.1
        have z2 := (blk5 H8.out.1).2.2.1
        have z3 := (blk5 H8.out.1).2.2.2.1
        have z4 := (blk5 H8.out.1).2.2.2.2.1
        have y0 := (blk5 H8.out.1).2.2.2.2.2.1
        have y1 := (blk5 H8.out.1).2.2.2.2.2.2.1
        have y2 := (blk5 H8.out.1).2.2.2.2.2.2.2.1
        have y3 := (blk5 H8.out.1).2.2.2.2.2.2.2.2.1
        have y4 := (blk5 H8.out.1).2.2.2.2.2.2.2.2.2
        have o0 := (blk5 H8.out.2.1).1
        have o1 := (blk5 H8.out.2.1).2.1
        have o2 := (blk5 H8.out.2.1).2.2.1
        have o3 := (blk5 H8.out.2.1).2.2.2.1
        have o4 := (blk5 H8.out.2.1).2.2.2.2.1
        have p0 := (blk5 H8.out.2.1).2.2.2.2.2.1
        have p1 := (blk5 H8.out.2.1).2.2.2.2.2.2.1
        have p2 := (blk5 H8.out.2.1).2.2.2.2.2.2.2.1
        have p3 := (blk5 H8.out.2.1).2.2.2.2.2.2.2.2.1
        have p4 := (blk5 H8.out.2.1).2.2.2.2.2.2.2.2.2
        have v0 := (blk5 H8.out.2.2.1).1
        have v1 := (blk5 H8.out.2.2.1).2.1
        have v2 := (blk5 H8.out.2.2.1).2.2.1
        have v3 := (blk5 H8.out.2.2.1).2.2.2.1
        have v4 := (blk5 H8.out.2.2.1).2.2.2.2.1
        have s0 := (blk5 H8.out.2.2.1).2.2.2.2.2.1
        have s1 := (blk5 H8.out.2.2.1).2.2.2.2.2.2.1
        have s2 := (blk5 H8.out.2.2.1).2.2.2.2.2.2.2.1
        have s3 := (blk5 H8.out.2.2.1).2.2.2.2.2.2.2.2.1
        have s4 := (blk5 H8.out.2.2.1).2.2.2.2.2.2.2.2.2
        repeat (first | go_values | go_skip | go_guarded | go_step | go_upon | go_quiet (fail))
        refine bodyPost_ret (v := .tuple #[.agg #[.int .u32 (u32 (R.1.g + 1)), .slice a5 R.1.ks.length c5, .int .i64 (n), .int .i64 (oty), .bool R.1.ap], .int .i64 0, .slice a6 R.2.length c6]) ?_ rfl ?_
        · simp only [results, Try.results39]
          go_simp
        · unfold ActPost
          rw [HR.out]
          have hbw := H8.out.2.2.2.2.2.1
          refine ⟨a5, c5, a6, c6, rfl, keys_ret H8.out.2.2.2.1 H8.out.2.2.1, HN5.out, ints_ret H8.out.2.2.2.2.1 H8.out.2.2.1, ?_⟩
          repeat (first | with_reducible assumption | (with_reducible refine Below.setCell ?_ (by first | omega | (simp; done) | (simp; omega)) _) | (with_reducible refine Below.alloc ?_ (by first | omega | (simp; done) | (simp; omega)) _) | (with_reducible refine Below.drew ?_) | (with_reducible refine below_dN ?_ _) | with_reducible exact Below.refl _ _ | (with_reducible refine Below.trans ?_ (Below.mono (by assumption) (by first | omega | (simp; done) | (simp; omega)))))
      · repeat (first | go_values | go_skip | go_guarded | go_step | go_upon | go_quiet (fail))
        refine (rremove_any t [b0, b1, b2, b3, b4, b5, b6, b7] n a cap wr hlen rfl hh (HK.out.below HE.out.2.2.2)).mono ?_
        rintro e w5 ⟨vt, vi, rfl, ⟨a5, c5, rfl, hk5, hn5⟩, ⟨a6, c6, rfl, hi5⟩, hb5⟩
        dsimp only
        have hany := HNM.out.symm
        have hr : rpreF t n oty other = ({ (rremoveF t (rsome true n other 0 K) n).1 with h := n, ty := oty, g := u32 ((rremoveF t (rsome true n other 0 K) n).1.g + 1) }, 0, (rremoveF t (rsome true n other 0 K) n).2) := by
          unfold rpreF
          simp only [HTK.out, ← HKK.out, hany, qk, qo]
          rfl
        rw [HBB.out] at hr
        generalize rremoveF t [b0, b1, b2, b3, b4, b5, b6, b7] n = R at hk5 hn5 hi5 hr ⊢
        have HR := Lib.hid hr
        have HN5 := Lib.hid hn5
        clear hr hn5 hany
        have hsz5 := hb5.size
        have e1 := (hb5.block (w.heap.size + 1) (by omega)).trans HE.out.2.1
        have e2 := (hb5.block (w.heap.size + 1 + 1) (by omega)).trans HE.out.2.2.1
        have HX5 := Lib.hid (And.intro e1 (And.intro e2 (And.intro hk5 (And.intro hi5 (HE.out.2.2.2.trans (hb5.mono (by omega)))))))
        clear e1 e2 hk5 hi5 hb5 z0 z1 z2 z3 z4 y0 y1 y2 y3 y4 v0 v1 v2 v3 v4 s0 s1 s2 s3 s4 x0 x1 x2 x3 x4 x5 x6 x7 fz
        repeat (fail_if_success (with_reducible refine stop_pos "ref.go:203" rfl ?_)
                first | go_values | go_skip | go_guarded | go_step | go_upon | go_quiet (fail))
        refine gen_world (PF w R a5 c5 a6 ac oty key other oap w5.heap.size R.1.g R.1.h R.1.ty) ?_ ?_
        · have hbw := HX5.out.2.2.2.2
          unfold PF
          exact ⟨heap_alloc_new w5 _, (heap_alloc_old w5 _ (by omega)).trans HX5.out.1, (heap_alloc_old w5 _ (by omega)).trans HX5.out.2.1, HX5.out.2.2.1.below (Below.alloc (Below.refl _ _) (Nat.le_refl _) _), HX5.out.2.2.2.1.below (Below.alloc (Below.refl _ _) (Nat.le_refl _) _), by repeat (first | with_reducible assumption | (with_reducible refine Below.setCell ?_ (by first | omega | (simp; done) | (simp; omega)) _) | (with_reducible refine Below.alloc ?_ (by first | omega | (simp; done) | (simp; omega)) _) | (with_reducible refine Below.drew ?_) | (with_reducible refine below_dN ?_ _) | with_reducible exact Below.refl _ _ | (with_reducible refine Below.trans ?_ (Below.mono (by assumption) (by first | omega | (simp; done) | (simp; omega))))), by simp⟩
        intro w6 hw6
        generalize hM : w5.heap.size = M at hw6 hsz5 ⊢
        clear hM
        have H6 := Lib.hid hw6
        clear hw6 HX5
        have hM1 : ¬ M = w.heap.size + 1 := by omega
        have hM2 : ¬ M = w.heap.size + 1 + 1 := by omega
        have hM3 : ¬ w.heap.size + 1 + 1 = M := by omega
        have z0 := (blk5 H6.out.1).1
        have z1 := (blk5 H6.out.1).2.1
        have z2 := (blk5 H6.out.1).2.2.1
        have z3 := (blk5 H6.out.1).2.2.2.1
        have z4 := (blk5 H6.out.1).2.2.2.2.1
        have y0 := (blk5 H6.out.1).2.2.2.2.2.1
        have y1 := (blk5 H6.out.1).2.2.2.2.2.2.1
        have y2 := (blk5 H6.out.1).2.2.2.2.2.2.2.1
        have y3 := (blk5 H6.out.1).2.2.2.2.2.2.2.2.1
        have y4 := (blk5 H6.out.1).2.2.2.2.2.2.2.2.2
        have o0 := (blk5 H6.out.2.1).1
        have o1 := (blk5 H6.out.2.1).2.1
        have o2 := (blk5 H6.out.2.1).2.2.1
        have o3 := (blk5 H6.out.2.1).2.2.2.1
        have o4 := (blk5 H6.out.2.1).2.2.2.2.1
        have p0 := (blk5 H6.out.2.1).2.2.2.2.2.1
        have p1 := (blk5 H6.out.2.1).2.2.2.2.2.2.1
        have p2 := (blk5 H6.out.2.1).2.2.2.2.2.2.2.1
        have p3 := (blk5 H6.out.2.1).2.2.2.2.2.2.2.2.1
        have p4 := (blk5 H6.out.2.1).2.2.2.2.2.2.2.2.2
        repeat (fail_if_success (with_reducible refine stop_pos "ref.go:207" rfl ?_)
                first | go_values | go_skip | go_guarded | go_step | go_upon | go_quiet (fail))
        refine gen_world (PF w R a5 c5 a6 ac oty key other oap M (R.1.g) (n) (oty)) ?_ ?_
        · have hbw := H6.out.2.2.2.2.2.1
          have hml := H6.out.2.2.2.2.2.2
          unfold PF
          refine ⟨?_, heap_set_ne hM1 (heap_set_ne hM1 (H6.out.2.1)), heap_set_ne hM2 (heap_set_ne hM2 (H6.out.2.2.1)), H6.out.2.2.2.1.grown (grown_trans (grown_set _ M 2 _) (grown_set _ _ 3 _)) H6.out.1 (by simp) (by simp) (by simp), H6.out.2.2.2.2.1.grown (grown_trans (grown_set _ M 2 _) (grown_set _ _ 3 _)) H6.out.1 (by decide), by repeat (first | with_reducible assumption | (with_reducible refine Below.setCell ?_ (by first | omega | (simp; done) | (simp; omega)) _) | (with_reducible refine Below.alloc ?_ (by first | omega | (simp; done) | (simp; omega)) _) | (with_reducible refine Below.drew ?_) | (with_reducible refine below_dN ?_ _) | with_reducible exact Below.refl _ _ | (with_reducible refine Below.trans ?_ (Below.mono (by assumption) (by first | omega | (simp; done) | (simp; omega))))), by simpa using hml⟩
          rw [set_blk (set_blk H6.out.1 _) _]
          simp [u32]
        intro w7 hw7
        have H7 := Lib.hid hw7
        clear hw7
        clear z0 z1 z2 z3 z4 y0 y1 y2 y3 y4 o0 o1 o2 o3 o4 p0 p1 p2 p3 p4
        have z0 := (blk5 H7.out.1).1
        have z1 := (blk5 H7.out.1).2.1
        have z2 := (blk5 H7.out.1).2.2.1
        have z3 := (blk5 H7.out.1).2.2.2.1
        have z4 := (blk5 H7.out.1).2.2.2.2.1
        have y0 := (blk5 H7.out.1).2.2.2.2.2.1
        have y1 := (blk5 H7.out.1).2.2.2.2.2.2.1
        have y2 := (blk5 H7.out.1).2.2.2.2.2.2.2.1
        have y3 := (blk5 H7.out.1).2.2.2.2.2.2.2.2.1
        have y4 := (blk5 H7.out.1).2.2.2.2.2.2.2.2.2
        have o0 := (blk5 H7.out.2.1).1
        have o1 := (blk5 H7.out.2.1).2.1
        have o2 := (blk5 H7.out.2.1).2.2.1
        have o3 := (blk5 H7.out.2.1).2.2.2.1
        have o4 := (blk5 H7.out.2.1).2.2.2.2.1
        have p0 := (blk5 H7.out.2.1).2.2.2.2.2.1
        have p1 := (blk5 H7.out.2.1).2.2.2.2.2.2.1
        have p2 := (blk5 H7.out.2.1).2.2.2.2.2.2.2.1
        have p3 := (blk5 H7.out.2.1).2.2.2.2.2.2.2.2.1
        have p4 := (blk5 H7.out.2.1).2.2.2.2.2.2.2.2.2
        repeat (fail_if_success (with_reducible refine stop_pos "ref.go:208" rfl ?_)
                first | go_values | go_skip | go_guarded | go_step | go_upon | go_quiet (fail))
        refine gen_world (PF w R a5 c5 a6 ac oty key other oap M (u32 (R.1.g + 1)) (n) (oty)) ?_ ?_
        · have hbw := H7.out.2.2.2.2.2.1
          have hml := H7.out.2.2.2.2.2.2
          unfold PF
          refine ⟨?_, heap_set_ne hM1 (H7.out.2.1), heap_set_ne hM2 (H7.out.2.2.1), H7.out.2.2.2.1.grown (grown_set _ M 0 _) H7.out.1 (by simp) (by simp) (by simp), H7.out.2.2.2.2.1.grown (grown_set _ M 0 _) H7.out.1 (by decide), by repeat (first | with_reducible assumption | (with_reducible refine Below.setCell ?_ (by first | omega | (simp; done) | (simp; omega)) _) | (with_reducible refine Below.alloc ?_ (by first | omega | (simp; done) | (simp; omega)) _) | (with_reducible refine Below.drew ?_) | (with_reducible refine below_dN ?_ _) | with_reducible exact Below.refl _ _ | (with_reducible refine Below.trans ?_ (Below.mono (by assumption) (by first | omega | (simp; done) | (simp; omega))))), by simpa using hml⟩
          rw [set_blk H7.out.1 _]
          simp [u32]
        intro w8 hw7
        have H8 := Lib.hid hw7
        clear hw7
        clear z0 z1 z2 z3 z4 y0 y1 y2 y3 y4 o0 o1 o2 o3 o4 p0 p1 p2 p3 p4
        have z0 := (blk5 H8.out.1).1
        have z1 := (blk5 H8.out.1).2.1
        have z2 := (blk5 H8.out.1).2.2.1
        have z3 := (blk5 H8.out.1).2.2.2.1
        have z4 := (blk5 H8.out.1).2.2.2.2.1
        have y0 := (blk5 H8.out.1).2.2.2.2.2.1
        have y1 := (blk5 H8.out.1).2.2.2.2.2.2.1
        have y2 := (blk5 H8.out.1).2.2.2.2.2.2.2.1
        have y3 := (blk5 H8.out.1).2.2.2.2.2.2.2.2.1
        have y4 := (blk5 H8.out.1).2.2.2.2.2.2.2.2.2
        have o0 := (blk5 H8.out.2.1).1
        have o1 := (blk5 H8.out.2.1).2.1
        have o2 := (blk5 H8.out.2.1).2.2.1
        have o3 := (blk5 H8.out.2.1).2.2.2.1
        have o4 := (blk5 H8.out.2.1).2.2.2.2.1
        have p0 := (blk5 H8.out.2.1).2.2.2.2.2.1
        have p1 := (blk5 H8.out.2.1).2.2.2.2.2.2.1
        have p2 := (blk5 H8.out.2.1).2.2.2.2.2.2.2.1
        have p3 := (blk5 H8.out.2.1).2.2.2.2.2.2.2.2.1
        have p4 := (blk5 H8.out.2.1).2.2.2.2.2.2.2.2.2
        have v0 := (blk5 H8.out.2.2.1).1
        have v1 := (blk5 H8.out.2.2.1).2.1
        have v2 := (blk5 H8.out.2.2.1).2.2.1
        have v3 := (blk5 H8.out.2.2.1).2.2.2.1
        have v4 := (blk5 H8.out.2.2.1).2.2.2.2.1
        have s0 := (blk5 H8.out.2.2.1).2.2.2.2.2.1
        have s1 := (blk5 H8.out.2.2.1).2.2.2.2.2.2.1
        have s2 := (blk5 H8.out.2.2.1).2.2.2.2.2.2.2.1
        have s3 := (blk5 H8.out.2.2.1).2.2.2.2.2.2.2.2.1
        have s4 := (blk5 H8.out.2.2.1).2.2.2.2.2.2.2.2.2
        repeat (first | go_values | go_skip | go_guarded | go_step | go_upon | go_quiet (fail))
        refine bodyPost_ret (v := .tuple #[.agg #[.int .u32 (u32 (R.1.g + 1)), .slice a5 R.1.ks.length c5, .int .i64 (n), .int .i64 (oty), .bool R.1.ap], .int .i64 0, .slice a6 R.2.length c6]) ?_ rfl ?_
        · simp only [results, Try.results39]
          go_simp
        · unfold ActPost
          rw [HR.out]
          have hbw := H8.out.2.2.2.2.2.1
          refine ⟨a5, c5, a6, c6, rfl, keys_ret H8.out.2.2.2.1 H8.out.2.2.1, HN5.out, ints_ret H8.out.2.2.2.2.1 H8.out.2.2.1, ?_⟩
          repeat (first | with_reducible assumption | (with_reducible refine Below.setCell ?_ (by first | omega | (simp; done) | (simp; omega)) _) | (with_reducible refine Below.alloc ?_ (by first | omega | (simp; done) | (simp; omega)) _) | (with_reducible refine Below.drew ?_) | (with_reducible refine below_dN ?_ _) | with_reducible exact Below.refl _ _ | (with_reducible refine Below.trans ?_ (Below.mono (by assumption) (by first | omega | (simp; done) | (simp; omega)))))
end Go.Proofs.Ytopakonpfbbldaa
