/- What a walk may forget of a world: all but what is told of it. No condition; no program is named. -/
import Derived.Test.YtopakonpfbbldaaKStop
import Derived.Test.YtopakonpfbbldaaKR8
import Derived.Test.YtopakonpfbbldaaW7a
set_option linter.unusedSimpArgs false
set_option linter.unusedVariables false
namespace Go.Proofs.Ytopakonpfbbldaa
open Go.RowKit

theorem gen_world {P : Program} {ops : Array Oper} {Q : Exit → Act → World → Prop} {l : List Oper} {a : Act} {w : World} (F : World → Prop) (h : F w) (k : ∀ w', F w' → wpList P ops Q l a w') : wpList P ops Q l a w := k w h
theorem heap_set_ne {w : World} {B i k : Nat} {v : Value} {o : Option Obj} (hb : B ≠ i) (h : w.heap[i]? = o) : (w.setCell ⟨B, k, none⟩ v).heap[i]? = o := by
  rw [← h]; simp [World.setCell, Array.getElem?_modify, hb]
theorem list8b (l : List Bool) (h : l.length = 8) : ∃ a b c d e f g i, l = [a, b, c, d, e, f, g, i] := by
  match l, h with
  | [a, b, c, d, e, f, g, i], _ => exact ⟨a, b, c, d, e, f, g, i, rfl⟩
theorem oneB_len (n : Int) : (oneB n).length = 8 := by simp [oneB]
theorem arr_setv {w : World} {B T : Nat} {l : List Value} (h : w.heap[B]? = some (.cells l.toArray T)) (i : Nat) (x : Value) : (w.setCell ⟨B, i, none⟩ x).heap[B]? = some (.cells (l.set i x).toArray T) := by
  rw [set_blk h]; simp
theorem keys_ret {w : World} {B : Nat} {a : Option Addr} {ks : List (Int × Int)} {v0 v1 v2 v3 v4 : Value} (h : KeysIn w a ks) (hB : w.heap[B]? = some (.cells #[.int .u32 0, .slice none 0 0, .int .i64 0, .int .i64 0, .bool false] 25)) :
    KeysIn (((((w.setCell ⟨B, 0, none⟩ v0).setCell ⟨B, 1, none⟩ v1).setCell ⟨B, 2, none⟩ v2).setCell ⟨B, 3, none⟩ v3).setCell ⟨B, 4, none⟩ v4) a ks :=
  h.grown (grown_trans (grown_trans (grown_trans (grown_trans (grown_set _ _ 0 _) (grown_set _ _ 1 _)) (grown_set _ _ 2 _)) (grown_set _ _ 3 _)) (grown_set _ _ 4 _)) hB (by simp) (by simp) (by simp)
theorem keys_ret_alloc {w : World} {B : Nat} {a : Option Addr} {ks : List (Int × Int)} {v0 v1 v2 v3 v4 : Value} {o : Obj} (h : KeysIn w a ks) (hB : w.heap[B]? = some (.cells #[.int .u32 0, .slice none 0 0, .int .i64 0, .int .i64 0, .bool false] 25)) :
    KeysIn ((((((w.setCell ⟨B, 0, none⟩ v0).setCell ⟨B, 1, none⟩ v1).setCell ⟨B, 2, none⟩ v2).setCell ⟨B, 3, none⟩ v3).setCell ⟨B, 4, none⟩ v4).alloc o) a ks :=
  (keys_ret h hB).below (Below.alloc (Below.refl _ _) (Nat.le_refl _) o)
end Go.Proofs.Ytopakonpfbbldaa
namespace Go.Proofs.Ytopakonpfbbldaa
open Go.RowKit

set_option maxRecDepth 100000 in
set_option maxHeartbeats 4000000 in
theorem rreg_a (t : Tab) (n ac oty key other : Int) (oap : Bool) (a : Option Addr) (cap : Nat) (w : World) (hlen : t.ks.length ≤ 9223372036854775807) (h0 : 0 ≤ n) (h8 : n < 8) (hh : t.h < 8)
   (hk : KeysIn w a t.ks) (hn : a = none → cap = 0) (q0 : (ac == 0) = true) (qn : (key != (keysF t.ks).getD n.toNat 0) = true) :
    Calls Try.prog 37 #[.agg #[.int .u32 t.g, .slice a t.ks.length cap, .int .i64 t.h, .int .i64 t.ty, .bool t.ap], .int .i64 n, .agg #[.int .i64 ac, .int .i64 oty, .int .u64 key, .int .u64 other, .bool oap]] w (ActPost (rregF t n ac key other oap) w) := by
  have Hqn := Lib.hid qn; clear qn
  have HK := Lib.hid hk; clear hk
  have HN := Lib.hid hn; clear hn
  go_enter Try.func37, Try.ntmps37
  go_wp2_with fail
  obtain ⟨b0, b1, b2⟩ := heap3 w (.cells #[.int .u32 t.g, .slice a t.ks.length cap, .int .i64 t.h, .int .i64 t.ty, .bool t.ap] 25) (.cells #[.int .i64 ac, .int .i64 oty, .int .u64 key, .int .u64 other, .bool oap] 43) (.cells #[.int .u32 0, .slice none 0 0, .int .i64 0, .int .i64 0, .bool false] 25)
  refine (keys_any _ _ _ _ _ _ _ _ hlen (HK.out.below (by repeat (first | with_reducible assumption | (with_reducible refine Below.setCell ?_ (by first | omega | (simp; done) | (simp; omega)) _) | (with_reducible refine Below.alloc ?_ (by first | omega | (simp; done) | (simp; omega)) _) | (with_reducible refine Below.drew ?_) | (with_reducible refine below_dN ?_ _) | with_reducible exact Below.refl _ _ | (with_reducible refine Below.trans ?_ (Below.mono (by assumption) (by first | omega | (simp; done) | (simp; omega)))))))).mono ?_
  rintro e w1 ⟨rfl, hb⟩
  have hz1 := hb.size
  simp only [World.size_alloc] at hz1
  have c0 := (hb.block _ (by first | (simp; done) | (simp; omega))).trans b0
  have c1 := (hb.block _ (by first | (simp; done) | (simp; omega))).trans b1
  have c2 := (hb.block _ (by first | (simp; done) | (simp; omega))).trans b2
  have hbw : Below w.heap.size w w1 := by repeat (first | with_reducible assumption | (with_reducible refine Below.setCell ?_ (by first | omega | (simp; done) | (simp; omega)) _) | (with_reducible refine Below.alloc ?_ (by first | omega | (simp; done) | (simp; omega)) _) | (with_reducible refine Below.drew ?_) | (with_reducible refine below_dN ?_ _) | with_reducible exact Below.refl _ _ | (with_reducible refine Below.trans ?_ (Below.mono (by assumption) (by first | omega | (simp; done) | (simp; omega)))))
  clear b0 b1 b2 hb
  obtain ⟨k0, k1, k2, k3, k4, k5, k6, k7, hl8⟩ := list8 (keysF t.ks) (keysF_length t.ks)
  unfold arr8
  rw [hl8]
  simp only [List.map_cons, List.map_nil]
  try dsimp only
  repeat (fail_if_success (with_reducible refine stop_pos "ref.go:161" rfl ?_)
          first | go_values | go_skip | go_guarded | go_step | go_upon)
  have d3 := heap_alloc_new w1 (.cells #[.int .u64 k0, .int .u64 k1, .int .u64 k2, .int .u64 k3, .int .u64 k4, .int .u64 k5, .int .u64 k6, .int .u64 k7] 57)
  have d0 := (heap_alloc_old w1 (.cells #[.int .u64 k0, .int .u64 k1, .int .u64 k2, .int .u64 k3, .int .u64 k4, .int .u64 k5, .int .u64 k6, .int .u64 k7] 57) (r := w.heap.size) (by omega)).trans c0
  have d1 := (heap_alloc_old w1 (.cells #[.int .u64 k0, .int .u64 k1, .int .u64 k2, .int .u64 k3, .int .u64 k4, .int .u64 k5, .int .u64 k6, .int .u64 k7] 57) (r := w.heap.size + 1) (by omega)).trans c1
  have d2 := (heap_alloc_old w1 (.cells #[.int .u64 k0, .int .u64 k1, .int .u64 k2, .int .u64 k3, .int .u64 k4, .int .u64 k5, .int .u64 k6, .int .u64 k7] 57) (r := w.heap.size + 1 + 1) (by omega)).trans c2
  have hd3 : (w1.alloc (.cells #[.int .u64 k0, .int .u64 k1, .int .u64 k2, .int .u64 k3, .int .u64 k4, .int .u64 k5, .int .u64 k6, .int .u64 k7] 57)).heap[w1.heap.size]? = some (.cells ((keysF t.ks).map (Value.int .u64)).toArray 57) := by rw [d3, hl8]; rfl
  have hbw2 : Below w.heap.size w (w1.alloc (.cells #[.int .u64 k0, .int .u64 k1, .int .u64 k2, .int .u64 k3, .int .u64 k4, .int .u64 k5, .int .u64 k6, .int .u64 k7] 57)) := by repeat (first | with_reducible assumption | (with_reducible refine Below.setCell ?_ (by first | omega | (simp; done) | (simp; omega)) _) | (with_reducible refine Below.alloc ?_ (by first | omega | (simp; done) | (simp; omega)) _) | (with_reducible refine Below.drew ?_) | (with_reducible refine below_dN ?_ _) | with_reducible exact Below.refl _ _ | (with_reducible refine Below.trans ?_ (Below.mono (by assumption) (by first | omega | (simp; done) | (simp; omega)))))
  have hsz2 : w1.heap.size + 1 = (w1.alloc (.cells #[.int .u64 k0, .int .u64 k1, .int .u64 k2, .int .u64 k3, .int .u64 k4, .int .u64 k5, .int .u64 k6, .int .u64 k7] 57)).heap.size := by simp
  generalize w1.alloc (.cells #[.int .u64 k0, .int .u64 k1, .int .u64 k2, .int .u64 k3, .int .u64 k4, .int .u64 k5, .int .u64 k6, .int .u64 k7] 57) = w2 at d0 d1 d2 hd3 hbw2 hsz2 ⊢
  generalize w1.heap.size = A at hz1 hd3 hsz2 ⊢
  clear d3 c0 c1 c2 hbw hl8
  have HKL := Lib.hid (keysF_length t.ks)
  obtain ⟨K, hK⟩ : ∃ x, x = keysF t.ks := ⟨_, rfl⟩
  have HKK := Lib.hid hK
  rw [← hK] at hd3
  have HKL : Hid (K.length = 8) := Lib.hid (by rw [hK]; exact HKL.out)
  clear hK
  have HD := Lib.hid (And.intro d0 (And.intro d1 (And.intro d2 (And.intro hd3 hbw2))))
  obtain ⟨fk, fz⟩ := arr_cell hd3 n.toNat (by rw [HKL.out]; omega)
  clear d0 d1 d2 hd3 hbw2
  generalize hx : K.getD n.toNat 0 = x at fk
  have HX : Hid ((keysF t.ks).getD n.toNat 0 = x) := Lib.hid (by rw [← HKK.out]; exact hx)
  clear hx
  have z0 := (blk5 HD.out.1).1
  have z1 := (blk5 HD.out.1).2.1
  have z2 := (blk5 HD.out.1).2.2.1
  have z3 := (blk5 HD.out.1).2.2.2.1
  have z4 := (blk5 HD.out.1).2.2.2.2.1
  have y0 := (blk5 HD.out.1).2.2.2.2.2.1
  have y1 := (blk5 HD.out.1).2.2.2.2.2.2.1
  have y2 := (blk5 HD.out.1).2.2.2.2.2.2.2.1
  have y3 := (blk5 HD.out.1).2.2.2.2.2.2.2.2.1
  have y4 := (blk5 HD.out.1).2.2.2.2.2.2.2.2.2
  have o0 := (blk5 HD.out.2.1).1
  have o1 := (blk5 HD.out.2.1).2.1
  have o2 := (blk5 HD.out.2.1).2.2.1
  have o3 := (blk5 HD.out.2.1).2.2.2.1
  have o4 := (blk5 HD.out.2.1).2.2.2.2.1
  have p0 := (blk5 HD.out.2.1).2.2.2.2.2.1
  have p1 := (blk5 HD.out.2.1).2.2.2.2.2.2.1
  have p2 := (blk5 HD.out.2.1).2.2.2.2.2.2.2.1
  have p3 := (blk5 HD.out.2.1).2.2.2.2.2.2.2.2.1
  have p4 := (blk5 HD.out.2.1).2.2.2.2.2.2.2.2.2
  have v0 := (blk5 HD.out.2.2.1).1
  have v1 := (blk5 HD.out.2.2.1).2.1
  have v2 := (blk5 HD.out.2.2.1).2.2.1
  have v3 := (blk5 HD.out.2.2.1).2.2.2.1
  have v4 := (blk5 HD.out.2.2.1).2.2.2.2.1
  have s0 := (blk5 HD.out.2.2.1).2.2.2.2.2.1
  have s1 := (blk5 HD.out.2.2.1).2.2.2.2.2.2.1
  have s2 := (blk5 HD.out.2.2.1).2.2.2.2.2.2.2.1
  have s3 := (blk5 HD.out.2.2.1).2.2.2.2.2.2.2.2.1
  have s4 := (blk5 HD.out.2.2.1).2.2.2.2.2.2.2.2.2
  have hn1 : ¬ w.heap.size = A := by omega
  have hn2 : ¬ A = w.heap.size := by omega
  have hn3 : ¬ w.heap.size + 1 = A := by omega
  have hn4 : ¬ A = w.heap.size + 1 := by omega
  have hn5 : ¬ w.heap.size + 1 + 1 = A := by omega
  have hn6 : ¬ A = w.heap.size + 1 + 1 := by omega
  have qn : (key != x) = true := by have h := Hqn.out; rw [HX.out] at h; exact h
  repeat (first | go_values | go_skip | go_guarded | go_step | go_upon | go_quiet (fail) | (simp only [Int.not_lt, Int.not_le] at *; go_simp) | (go_values <;> (try go_simp)) | (go_ite <;> go_prune <;> (try go_simp)))
  refine bodyPost_ret (v := .tuple #[.agg #[.int .u32 t.g, .slice a t.ks.length cap, .int .i64 t.h, .int .i64 t.ty, .bool t.ap], .int .i64 24, .slice none 0 0]) ?_ rfl ?_
  · simp only [results, Try.results37]
    go_simp
  · have hbw := HD.out.2.2.2.2
    unfold ActPost
    rw [show rregF t n ac key other oap = (t, 24, []) by unfold rregF; rw [HX.out]; simp [q0, qn]]
    refine ⟨a, cap, none, 0, rfl, HK.out.below ?_, HN.out, IntsIn.nil _ _, ?_⟩
    all_goals repeat (first | with_reducible assumption | (with_reducible refine Below.setCell ?_ (by first | omega | (simp; done) | (simp; omega)) _) | (with_reducible refine Below.alloc ?_ (by first | omega | (simp; done) | (simp; omega)) _) | (with_reducible refine Below.drew ?_) | (with_reducible refine below_dN ?_ _) | with_reducible exact Below.refl _ _ | (with_reducible refine Below.trans ?_ (Below.mono (by assumption) (by first | omega | (simp; done) | (simp; omega)))))
set_option maxRecDepth 100000 in
set_option maxHeartbeats 4000000 in
theorem rreg_b0 (t : Tab) (n ac oty key other : Int) (oap : Bool) (a : Option Addr) (cap : Nat) (w : World) (hlen : t.ks.length ≤ 9223372036854775807) (h0 : 0 ≤ n) (h8 : n < 8) (hh : t.h < 8)
   (hk : KeysIn w a t.ks) (hn : a = none → cap = 0) (q0 : (ac == 0) = true) (qn : (key != (keysF t.ks).getD n.toNat 0) = false) (qz : ((keysF t.ks).getD n.toNat 0 == 0) = true) (qo : (other == 0) = true) :
    Calls Try.prog 37 #[.agg #[.int .u32 t.g, .slice a t.ks.length cap, .int .i64 t.h, .int .i64 t.ty, .bool t.ap], .int .i64 n, .agg #[.int .i64 ac, .int .i64 oty, .int .u64 key, .int .u64 other, .bool oap]] w (ActPost (rregF t n ac key other oap) w) := by
  have Hqn := Lib.hid qn; clear qn
  have Hqz := Lib.hid qz; clear qz
  have HK := Lib.hid hk; clear hk
  have HN := Lib.hid hn; clear hn
  go_enter Try.func37, Try.ntmps37
  go_wp2_with fail
  obtain ⟨b0, b1, b2⟩ := heap3 w (.cells #[.int .u32 t.g, .slice a t.ks.length cap, .int .i64 t.h, .int .i64 t.ty, .bool t.ap] 25) (.cells #[.int .i64 ac, .int .i64 oty, .int .u64 key, .int .u64 other, .bool oap] 43) (.cells #[.int .u32 0, .slice none 0 0, .int .i64 0, .int .i64 0, .bool false] 25)
  refine (keys_any _ _ _ _ _ _ _ _ hlen (HK.out.below (by repeat (first | with_reducible assumption | (with_reducible refine Below.setCell ?_ (by first | omega | (simp; done) | (simp; omega)) _) | (with_reducible refine Below.alloc ?_ (by first | omega | (simp; done) | (simp; omega)) _) | (with_reducible refine Below.drew ?_) | (with_reducible refine below_dN ?_ _) | with_reducible exact Below.refl _ _ | (with_reducible refine Below.trans ?_ (Below.mono (by assumption) (by first | omega | (simp; done) | (simp; omega)))))))).mono ?_
  rintro e w1 ⟨rfl, hb⟩
  have hz1 := hb.size
  simp only [World.size_alloc] at hz1
  have c0 := (hb.block _ (by first | (simp; done) | (simp; omega))).trans b0
  have c1 := (hb.block _ (by first | (simp; done) | (simp; omega))).trans b1
  have c2 := (hb.block _ (by first | (simp; done) | (simp; omega))).trans b2
  have hbw : Below w.heap.size w w1 := by repeat (first | with_reducible assumption | (with_reducible refine Below.setCell ?_ (by first | omega | (simp; done) | (simp; omega)) _) | (with_reducible refine Below.alloc ?_ (by first | omega | (simp; done) | (simp; omega)) _) | (with_reducible refine Below.drew ?_) | (with_reducible refine below_dN ?_ _) | with_reducible exact Below.refl _ _ | (with_reducible refine Below.trans ?_ (Below.mono (by assumption) (by first | omega | (simp; done) | (simp; omega)))))
  clear b0 b1 b2 hb
  obtain ⟨k0, k1, k2, k3, k4, k5, k6, k7, hl8⟩ := list8 (keysF t.ks) (keysF_length t.ks)
  unfold arr8
  rw [hl8]
  simp only [List.map_cons, List.map_nil]
  try dsimp only
  repeat (fail_if_success (with_reducible refine stop_pos "ref.go:161" rfl ?_)
          first | go_values | go_skip | go_guarded | go_step | go_upon)
  have d3 := heap_alloc_new w1 (.cells #[.int .u64 k0, .int .u64 k1, .int .u64 k2, .int .u64 k3, .int .u64 k4, .int .u64 k5, .int .u64 k6, .int .u64 k7] 57)
  have d0 := (heap_alloc_old w1 (.cells #[.int .u64 k0, .int .u64 k1, .int .u64 k2, .int .u64 k3, .int .u64 k4, .int .u64 k5, .int .u64 k6, .int .u64 k7] 57) (r := w.heap.size) (by omega)).trans c0
  have d1 := (heap_alloc_old w1 (.cells #[.int .u64 k0, .int .u64 k1, .int .u64 k2, .int .u64 k3, .int .u64 k4, .int .u64 k5, .int .u64 k6, .int .u64 k7] 57) (r := w.heap.size + 1) (by omega)).trans c1
  have d2 := (heap_alloc_old w1 (.cells #[.int .u64 k0, .int .u64 k1, .int .u64 k2, .int .u64 k3, .int .u64 k4, .int .u64 k5, .int .u64 k6, .int .u64 k7] 57) (r := w.heap.size + 1 + 1) (by omega)).trans c2
  have hd3 : (w1.alloc (.cells #[.int .u64 k0, .int .u64 k1, .int .u64 k2, .int .u64 k3, .int .u64 k4, .int .u64 k5, .int .u64 k6, .int .u64 k7] 57)).heap[w1.heap.size]? = some (.cells ((keysF t.ks).map (Value.int .u64)).toArray 57) := by rw [d3, hl8]; rfl
  have hbw2 : Below w.heap.size w (w1.alloc (.cells #[.int .u64 k0, .int .u64 k1, .int .u64 k2, .int .u64 k3, .int .u64 k4, .int .u64 k5, .int .u64 k6, .int .u64 k7] 57)) := by repeat (first | with_reducible assumption | (with_reducible refine Below.setCell ?_ (by first | omega | (simp; done) | (simp; omega)) _) | (with_reducible refine Below.alloc ?_ (by first | omega | (simp; done) | (simp; omega)) _) | (with_reducible refine Below.drew ?_) | (with_reducible refine below_dN ?_ _) | with_reducible exact Below.refl _ _ | (with_reducible refine Below.trans ?_ (Below.mono (by assumption) (by first | omega | (simp; done) | (simp; omega)))))
  have hsz2 : w1.heap.size + 1 = (w1.alloc (.cells #[.int .u64 k0, .int .u64 k1, .int .u64 k2, .int .u64 k3, .int .u64 k4, .int .u64 k5, .int .u64 k6, .int .u64 k7] 57)).heap.size := by simp
  generalize w1.alloc (.cells #[.int .u64 k0, .int .u64 k1, .int .u64 k2, .int .u64 k3, .int .u64 k4, .int .u64 k5, .int .u64 k6, .int .u64 k7] 57) = w2 at d0 d1 d2 hd3 hbw2 hsz2 ⊢
  generalize w1.heap.size = A at hz1 hd3 hsz2 ⊢
  clear d3 c0 c1 c2 hbw hl8
  have HKL := Lib.hid (keysF_length t.ks)
  obtain ⟨K, hK⟩ : ∃ x, x = keysF t.ks := ⟨_, rfl⟩
  have HKK := Lib.hid hK
  rw [← hK] at hd3
  have HKL : Hid (K.length = 8) := Lib.hid (by rw [hK]; exact HKL.out)
  clear hK
  have HD := Lib.hid (And.intro d0 (And.intro d1 (And.intro d2 (And.intro hd3 hbw2))))
  obtain ⟨fk, fz⟩ := arr_cell hd3 n.toNat (by rw [HKL.out]; omega)
  clear d0 d1 d2 hd3 hbw2
  generalize hx : K.getD n.toNat 0 = x at fk
  have HX : Hid ((keysF t.ks).getD n.toNat 0 = x) := Lib.hid (by rw [← HKK.out]; exact hx)
  clear hx
  have z0 := (blk5 HD.out.1).1
  have z1 := (blk5 HD.out.1).2.1
  have z2 := (blk5 HD.out.1).2.2.1
  have z3 := (blk5 HD.out.1).2.2.2.1
  have z4 := (blk5 HD.out.1).2.2.2.2.1
  have y0 := (blk5 HD.out.1).2.2.2.2.2.1
  have y1 := (blk5 HD.out.1).2.2.2.2.2.2.1
  have y2 := (blk5 HD.out.1).2.2.2.2.2.2.2.1
  have y3 := (blk5 HD.out.1).2.2.2.2.2.2.2.2.1
  have y4 := (blk5 HD.out.1).2.2.2.2.2.2.2.2.2
  have o0 := (blk5 HD.out.2.1).1
  have o1 := (blk5 HD.out.2.1).2.1
  have o2 := (blk5 HD.out.2.1).2.2.1
  have o3 := (blk5 HD.out.2.1).2.2.2.1
  have o4 := (blk5 HD.out.2.1).2.2.2.2.1
  have p0 := (blk5 HD.out.2.1).2.2.2.2.2.1
  have p1 := (blk5 HD.out.2.1).2.2.2.2.2.2.1
  have p2 := (blk5 HD.out.2.1).2.2.2.2.2.2.2.1
  have p3 := (blk5 HD.out.2.1).2.2.2.2.2.2.2.2.1
  have p4 := (blk5 HD.out.2.1).2.2.2.2.2.2.2.2.2
  have v0 := (blk5 HD.out.2.2.1).1
  have v1 := (blk5 HD.out.2.2.1).2.1
  have v2 := (blk5 HD.out.2.2.1).2.2.1
  have v3 := (blk5 HD.out.2.2.1).2.2.2.1
  have v4 := (blk5 HD.out.2.2.1).2.2.2.2.1
  have s0 := (blk5 HD.out.2.2.1).2.2.2.2.2.1
  have s1 := (blk5 HD.out.2.2.1).2.2.2.2.2.2.1
  have s2 := (blk5 HD.out.2.2.1).2.2.2.2.2.2.2.1
  have s3 := (blk5 HD.out.2.2.1).2.2.2.2.2.2.2.2.1
  have s4 := (blk5 HD.out.2.2.1).2.2.2.2.2.2.2.2.2
  have hn1 : ¬ w.heap.size = A := by omega
  have hn2 : ¬ A = w.heap.size := by omega
  have hn3 : ¬ w.heap.size + 1 = A := by omega
  have hn4 : ¬ A = w.heap.size + 1 := by omega
  have hn5 : ¬ w.heap.size + 1 + 1 = A := by omega
  have hn6 : ¬ A = w.heap.size + 1 + 1 := by omega
  have qn : (key != x) = false := by have h := Hqn.out; rw [HX.out] at h; exact h
  have qz : (x == 0) = true := by have h := Hqz.out; rw [HX.out] at h; exact h
  repeat (first | go_values | go_skip | go_guarded | go_step | go_upon | go_quiet (fail) | (simp only [Int.not_lt, Int.not_le] at *; go_simp) | (go_values <;> (try go_simp)) | (go_ite <;> go_prune <;> (try go_simp)))
  refine bodyPost_ret (v := .tuple #[.agg #[.int .u32 t.g, .slice a t.ks.length cap, .int .i64 t.h, .int .i64 t.ty, .bool t.ap], .int .i64 0, .slice none 0 0]) ?_ rfl ?_
  · simp only [results, Try.results37]
    go_simp
  · have hbw := HD.out.2.2.2.2
    unfold ActPost
    rw [show rregF t n ac key other oap = (t, 0, []) by unfold rregF; rw [HX.out]; simp [q0, qn, qz, qo]]
    refine ⟨a, cap, none, 0, rfl, HK.out.below ?_, HN.out, IntsIn.nil _ _, ?_⟩
    all_goals repeat (first | with_reducible assumption | (with_reducible refine Below.setCell ?_ (by first | omega | (simp; done) | (simp; omega)) _) | (with_reducible refine Below.alloc ?_ (by first | omega | (simp; done) | (simp; omega)) _) | (with_reducible refine Below.drew ?_) | (with_reducible refine below_dN ?_ _) | with_reducible exact Below.refl _ _ | (with_reducible refine Below.trans ?_ (Below.mono (by assumption) (by first | omega | (simp; done) | (simp; omega)))))
set_option maxRecDepth 100000 in
set_option maxHeartbeats 4000000 in
theorem rreg_c0 (t : Tab) (n ac oty key other : Int) (oap : Bool) (a : Option Addr) (cap : Nat) (w : World) (hlen : t.ks.length ≤ 9223372036854775807) (h0 : 0 ≤ n) (h8 : n < 8) (hh : t.h < 8)
   (hk : KeysIn w a t.ks) (hn : a = none → cap = 0) (q0 : (ac == 0) = true) (qn : (key != (keysF t.ks).getD n.toNat 0) = false) (qz : ((keysF t.ks).getD n.toNat 0 == 0) = true) (qo : (other == 0) = false) (ql : ((t.ks.length : Int) == 6) = true) :
    Calls Try.prog 37 #[.agg #[.int .u32 t.g, .slice a t.ks.length cap, .int .i64 t.h, .int .i64 t.ty, .bool t.ap], .int .i64 n, .agg #[.int .i64 ac, .int .i64 oty, .int .u64 key, .int .u64 other, .bool oap]] w (ActPost (rregF t n ac key other oap) w) := by
  have Hqn := Lib.hid qn; clear qn
  have Hqz := Lib.hid qz; clear qz
  have HK := Lib.hid hk; clear hk
  have HN := Lib.hid hn; clear hn
  go_enter Try.func37, Try.ntmps37
  go_wp2_with fail
  obtain ⟨b0, b1, b2⟩ := heap3 w (.cells #[.int .u32 t.g, .slice a t.ks.length cap, .int .i64 t.h, .int .i64 t.ty, .bool t.ap] 25) (.cells #[.int .i64 ac, .int .i64 oty, .int .u64 key, .int .u64 other, .bool oap] 43) (.cells #[.int .u32 0, .slice none 0 0, .int .i64 0, .int .i64 0, .bool false] 25)
  refine (keys_any _ _ _ _ _ _ _ _ hlen (HK.out.below (by repeat (first | with_reducible assumption | (with_reducible refine Below.setCell ?_ (by first | omega | (simp; done) | (simp; omega)) _) | (with_reducible refine Below.alloc ?_ (by first | omega | (simp; done) | (simp; omega)) _) | (with_reducible refine Below.drew ?_) | (with_reducible refine below_dN ?_ _) | with_reducible exact Below.refl _ _ | (with_reducible refine Below.trans ?_ (Below.mono (by assumption) (by first | omega | (simp; done) | (simp; omega)))))))).mono ?_
  rintro e w1 ⟨rfl, hb⟩
  have hz1 := hb.size
  simp only [World.size_alloc] at hz1
  have c0 := (hb.block _ (by first | (simp; done) | (simp; omega))).trans b0
  have c1 := (hb.block _ (by first | (simp; done) | (simp; omega))).trans b1
  have c2 := (hb.block _ (by first | (simp; done) | (simp; omega))).trans b2
  have hbw : Below w.heap.size w w1 := by repeat (first | with_reducible assumption | (with_reducible refine Below.setCell ?_ (by first | omega | (simp; done) | (simp; omega)) _) | (with_reducible refine Below.alloc ?_ (by first | omega | (simp; done) | (simp; omega)) _) | (with_reducible refine Below.drew ?_) | (with_reducible refine below_dN ?_ _) | with_reducible exact Below.refl _ _ | (with_reducible refine Below.trans ?_ (Below.mono (by assumption) (by first | omega | (simp; done) | (simp; omega)))))
  clear b0 b1 b2 hb
  obtain ⟨k0, k1, k2, k3, k4, k5, k6, k7, hl8⟩ := list8 (keysF t.ks) (keysF_length t.ks)
  unfold arr8
  rw [hl8]
  simp only [List.map_cons, List.map_nil]
  try dsimp only
  repeat (fail_if_success (with_reducible refine stop_pos "ref.go:161" rfl ?_)
          first | go_values | go_skip | go_guarded | go_step | go_upon)
  have d3 := heap_alloc_new w1 (.cells #[.int .u64 k0, .int .u64 k1, .int .u64 k2, .int .u64 k3, .int .u64 k4, .int .u64 k5, .int .u64 k6, .int .u64 k7] 57)
  have d0 := (heap_alloc_old w1 (.cells #[.int .u64 k0, .int .u64 k1, .int .u64 k2, .int .u64 k3, .int .u64 k4, .int .u64 k5, .int .u64 k6, .int .u64 k7] 57) (r := w.heap.size) (by omega)).trans c0
  have d1 := (heap_alloc_old w1 (.cells #[.int .u64 k0, .int .u64 k1, .int .u64 k2, .int .u64 k3, .int .u64 k4, .int .u64 k5, .int .u64 k6, .int .u64 k7] 57) (r := w.heap.size + 1) (by omega)).trans c1
  have d2 := (heap_alloc_old w1 (.cells #[.int .u64 k0, .int .u64 k1, .int .u64 k2, .int .u64 k3, .int .u64 k4, .int .u64 k5, .int .u64 k6, .int .u64 k7] 57) (r := w.heap.size + 1 + 1) (by omega)).trans c2
  have hd3 : (w1.alloc (.cells #[.int .u64 k0, .int .u64 k1, .int .u64 k2, .int .u64 k3, .int .u64 k4, .int .u64 k5, .int .u64 k6, .int .u64 k7] 57)).heap[w1.heap.size]? = some (.cells ((keysF t.ks).map (Value.int .u64)).toArray 57) := by rw [d3, hl8]; rfl
  have hbw2 : Below w.heap.size w (w1.alloc (.cells #[.int .u64 k0, .int .u64 k1, .int .u64 k2, .int .u64 k3, .int .u64 k4, .int .u64 k5, .int .u64 k6, .int .u64 k7] 57)) := by repeat (first | with_reducible assumption | (with_reducible refine Below.setCell ?_ (by first | omega | (simp; done) | (simp; omega)) _) | (with_reducible refine Below.alloc ?_ (by first | omega | (simp; done) | (simp; omega)) _) | (with_reducible refine Below.drew ?_) | (with_reducible refine below_dN ?_ _) | with_reducible exact Below.refl _ _ | (with_reducible refine Below.trans ?_ (Below.mono (by assumption) (by first | omega | (simp; done) | (simp; omega)))))
  have hsz2 : w1.heap.size + 1 = (w1.alloc (.cells #[.int .u64 k0, .int .u64 k1, .int .u64 k2, .int .u64 k3, .int .u64 k4, .int .u64 k5, .int .u64 k6, .int .u64 k7] 57)).heap.size := by simp
  generalize w1.alloc (.cells #[.int .u64 k0, .int .u64 k1, .int .u64 k2, .int .u64 k3, .int .u64 k4, .int .u64 k5, .int .u64 k6, .int .u64 k7] 57) = w2 at d0 d1 d2 hd3 hbw2 hsz2 ⊢
  generalize w1.heap.size = A at hz1 hd3 hsz2 ⊢
  clear d3 c0 c1 c2 hbw hl8
  have HKL := Lib.hid (keysF_length t.ks)
  obtain ⟨K, hK⟩ : ∃ x, x = keysF t.ks := ⟨_, rfl⟩
  have HKK := Lib.hid hK
  rw [← hK] at hd3
  have HKL : Hid (K.length = 8) := Lib.hid (by rw [hK]; exact HKL.out)
  clear hK
  have HD := Lib.hid (And.intro d0 (And.intro d1 (And.intro d2 (And.intro hd3 hbw2))))
  obtain ⟨fk, fz⟩ := arr_cell hd3 n.toNat (by rw [HKL.out]; omega)
  clear d0 d1 d2 hd3 hbw2
  generalize hx : K.getD n.toNat 0 = x at fk
  have HX : Hid ((keysF t.ks).getD n.toNat 0 = x) := Lib.hid (by rw [← HKK.out]; exact hx)
  clear hx
  have z0 := (blk5 HD.out.1).1
  have z1 := (blk5 HD.out.1).2.1
  have z2 := (blk5 HD.out.1).2.2.1
  have z3 := (blk5 HD.out.1).2.2.2.1
  have z4 := (blk5 HD.out.1).2.2.2.2.1
  have y0 := (blk5 HD.out.1).2.2.2.2.2.1
  have y1 := (blk5 HD.out.1).2.2.2.2.2.2.1
  have y2 := (blk5 HD.out.1).2.2.2.2.2.2.2.1
  have y3 := (blk5 HD.out.1).2.2.2.2.2.2.2.2.1
  have y4 := (blk5 HD.out.1).2.2.2.2.2.2.2.2.2
  have o0 := (blk5 HD.out.2.1).1
  have o1 := (blk5 HD.out.2.1).2.1
  have o2 := (blk5 HD.out.2.1).2.2.1
  have o3 := (blk5 HD.out.2.1).2.2.2.1
  have o4 := (blk5 HD.out.2.1).2.2.2.2.1
  have p0 := (blk5 HD.out.2.1).2.2.2.2.2.1
  have p1 := (blk5 HD.out.2.1).2.2.2.2.2.2.1
  have p2 := (blk5 HD.out.2.1).2.2.2.2.2.2.2.1
  have p3 := (blk5 HD.out.2.1).2.2.2.2.2.2.2.2.1
  have p4 := (blk5 HD.out.2.1).2.2.2.2.2.2.2.2.2
  have v0 := (blk5 HD.out.2.2.1).1
  have v1 := (blk5 HD.out.2.2.1).2.1
  have v2 := (blk5 HD.out.2.2.1).2.2.1
  have v3 := (blk5 HD.out.2.2.1).2.2.2.1
  have v4 := (blk5 HD.out.2.2.1).2.2.2.2.1
  have s0 := (blk5 HD.out.2.2.1).2.2.2.2.2.1
  have s1 := (blk5 HD.out.2.2.1).2.2.2.2.2.2.1
  have s2 := (blk5 HD.out.2.2.1).2.2.2.2.2.2.2.1
  have s3 := (blk5 HD.out.2.2.1).2.2.2.2.2.2.2.2.1
  have s4 := (blk5 HD.out.2.2.1).2.2.2.2.2.2.2.2.2
  have hn1 : ¬ w.heap.size = A := by omega
  have hn2 : ¬ A = w.heap.size := by omega
  have hn3 : ¬ w.heap.size + 1 = A := by omega
  have hn4 : ¬ A = w.heap.size + 1 := by omega
  have hn5 : ¬ w.heap.size + 1 + 1 = A := by omega
  have hn6 : ¬ A = w.heap.size + 1 + 1 := by omega
  have qn : (key != x) = false := by have h := Hqn.out; rw [HX.out] at h; exact h
  have qz : (x == 0) = true := by have h := Hqz.out; rw [HX.out] at h; exact h
  repeat (first | go_values | go_skip | go_guarded | go_step | go_upon | go_quiet (fail) | (simp only [Int.not_lt, Int.not_le] at *; go_simp) | (go_values <;> (try go_simp)) | (go_ite <;> go_prune <;> (try go_simp)))
  refine bodyPost_ret (v := .tuple #[.agg #[.int .u32 t.g, .slice a t.ks.length cap, .int .i64 t.h, .int .i64 t.ty, .bool t.ap], .int .i64 8, .slice none 0 0]) ?_ rfl ?_
  · simp only [results, Try.results37]
    go_simp
  · have hbw := HD.out.2.2.2.2
    unfold ActPost
    rw [show rregF t n ac key other oap = (t, 8, []) by unfold rregF; rw [HX.out]; simp [q0, qn, qz, qo, show t.ks.length = 6 by simp at ql; omega]]
    refine ⟨a, cap, none, 0, rfl, HK.out.below ?_, HN.out, IntsIn.nil _ _, ?_⟩
    all_goals repeat (first | with_reducible assumption | (with_reducible refine Below.setCell ?_ (by first | omega | (simp; done) | (simp; omega)) _) | (with_reducible refine Below.alloc ?_ (by first | omega | (simp; done) | (simp; omega)) _) | (with_reducible refine Below.drew ?_) | (with_reducible refine below_dN ?_ _) | with_reducible exact Below.refl _ _ | (with_reducible refine Below.trans ?_ (Below.mono (by assumption) (by first | omega | (simp; done) | (simp; omega)))))
set_option maxRecDepth 100000 in
set_option maxHeartbeats 4000000 in
theorem rreg_b1 (t : Tab) (n ac oty key other : Int) (oap : Bool) (a : Option Addr) (cap : Nat) (w : World) (hlen : t.ks.length ≤ 9223372036854775807) (h0 : 0 ≤ n) (h8 : n < 8) (hh : t.h < 8)
   (hk : KeysIn w a t.ks) (hn : a = none → cap = 0) (q0 : (ac == 0) = false) (qz : ((keysF t.ks).getD n.toNat 0 == 0) = true) (qo : (other == 0) = true) :
    Calls Try.prog 37 #[.agg #[.int .u32 t.g, .slice a t.ks.length cap, .int .i64 t.h, .int .i64 t.ty, .bool t.ap], .int .i64 n, .agg #[.int .i64 ac, .int .i64 oty, .int .u64 key, .int .u64 other, .bool oap]] w (ActPost (rregF t n ac key other oap) w) := by
  have Hqz := Lib.hid qz; clear qz
  have HK := Lib.hid hk; clear hk
  have HN := Lib.hid hn; clear hn
  go_enter Try.func37, Try.ntmps37
  go_wp2_with fail
  obtain ⟨b0, b1, b2⟩ := heap3 w (.cells #[.int .u32 t.g, .slice a t.ks.length cap, .int .i64 t.h, .int .i64 t.ty, .bool t.ap] 25) (.cells #[.int .i64 ac, .int .i64 oty, .int .u64 key, .int .u64 other, .bool oap] 43) (.cells #[.int .u32 0, .slice none 0 0, .int .i64 0, .int .i64 0, .bool false] 25)
  refine (keys_any _ _ _ _ _ _ _ _ hlen (HK.out.below (by repeat (first | with_reducible assumption | (with_reducible refine Below.setCell ?_ (by first | omega | (simp; done) | (simp; omega)) _) | (with_reducible refine Below.alloc ?_ (by first | omega | (simp; done) | (simp; omega)) _) | (with_reducible refine Below.drew ?_) | (with_reducible refine below_dN ?_ _) | with_reducible exact Below.refl _ _ | (with_reducible refine Below.trans ?_ (Below.mono (by assumption) (by first | omega | (simp; done) | (simp; omega)))))))).mono ?_
  rintro e w1 ⟨rfl, hb⟩
  have hz1 := hb.size
  simp only [World.size_alloc] at hz1
  have c0 := (hb.block _ (by first | (simp; done) | (simp; omega))).trans b0
  have c1 := (hb.block _ (by first | (simp; done) | (simp; omega))).trans b1
  have c2 := (hb.block _ (by first | (simp; done) | (simp; omega))).trans b2
  have hbw : Below w.heap.size w w1 := by repeat (first | with_reducible assumption | (with_reducible refine Below.setCell ?_ (by first | omega | (simp; done) | (simp; omega)) _) | (with_reducible refine Below.alloc ?_ (by first | omega | (simp; done) | (simp; omega)) _) | (with_reducible refine Below.drew ?_) | (with_reducible refine below_dN ?_ _) | with_reducible exact Below.refl _ _ | (with_reducible refine Below.trans ?_ (Below.mono (by assumption) (by first | omega | (simp; done) | (simp; omega)))))
  clear b0 b1 b2 hb
  obtain ⟨k0, k1, k2, k3, k4, k5, k6, k7, hl8⟩ := list8 (keysF t.ks) (keysF_length t.ks)
  unfold arr8
  rw [hl8]
  simp only [List.map_cons, List.map_nil]
  try dsimp only
  repeat (fail_if_success (with_reducible refine stop_pos "ref.go:161" rfl ?_)
          first | go_values | go_skip | go_guarded | go_step | go_upon)
  have d3 := heap_alloc_new w1 (.cells #[.int .u64 k0, .int .u64 k1, .int .u64 k2, .int .u64 k3, .int .u64 k4, .int .u64 k5, .int .u64 k6, .int .u64 k7] 57)
  have d0 := (heap_alloc_old w1 (.cells #[.int .u64 k0, .int .u64 k1, .int .u64 k2, .int .u64 k3, .int .u64 k4, .int .u64 k5, .int .u64 k6, .int .u64 k7] 57) (r := w.heap.size) (by omega)).trans c0
  have d1 := (heap_alloc_old w1 (.cells #[.int .u64 k0, .int .u64 k1, .int .u64 k2, .int .u64 k3, .int .u64 k4, .int .u64 k5, .int .u64 k6, .int .u64 k7] 57) (r := w.heap.size + 1) (by omega)).trans c1
  have d2 := (heap_alloc_old w1 (.cells #[.int .u64 k0, .int .u64 k1, .int .u64 k2, .int .u64 k3, .int .u64 k4, .int .u64 k5, .int .u64 k6, .int .u64 k7] 57) (r := w.heap.size + 1 + 1) (by omega)).trans c2
  have hd3 : (w1.alloc (.cells #[.int .u64 k0, .int .u64 k1, .int .u64 k2, .int .u64 k3, .int .u64 k4, .int .u64 k5, .int .u64 k6, .int .u64 k7] 57)).heap[w1.heap.size]? = some (.cells ((keysF t.ks).map (Value.int .u64)).toArray 57) := by rw [d3, hl8]; rfl
  have hbw2 : Below w.heap.size w (w1.alloc (.cells #[.int .u64 k0, .int .u64 k1, .int .u64 k2, .int .u64 k3, .int .u64 k4, .int .u64 k5, .int .u64 k6, .int .u64 k7] 57)) := by repeat (first | with_reducible assumption | (with_reducible refine Below.setCell ?_ (by first | omega | (simp; done) | (simp; omega)) _) | (with_reducible refine Below.alloc ?_ (by first | omega | (simp; done) | (simp; omega)) _) | (with_reducible refine Below.drew ?_) | (with_reducible refine below_dN ?_ _) | with_reducible exact Below.refl _ _ | (with_reducible refine Below.trans ?_ (Below.mono (by assumption) (by first | omega | (simp; done) | (simp; omega)))))
  have hsz2 : w1.heap.size + 1 = (w1.alloc (.cells #[.int .u64 k0, .int .u64 k1, .int .u64 k2, .int .u64 k3, .int .u64 k4, .int .u64 k5, .int .u64 k6, .int .u64 k7] 57)).heap.size := by simp
  generalize w1.alloc (.cells #[.int .u64 k0, .int .u64 k1, .int .u64 k2, .int .u64 k3, .int .u64 k4, .int .u64 k5, .int .u64 k6, .int .u64 k7] 57) = w2 at d0 d1 d2 hd3 hbw2 hsz2 ⊢
  generalize w1.heap.size = A at hz1 hd3 hsz2 ⊢
  clear d3 c0 c1 c2 hbw hl8
  have HKL := Lib.hid (keysF_length t.ks)
  obtain ⟨K, hK⟩ : ∃ x, x = keysF t.ks := ⟨_, rfl⟩
  have HKK := Lib.hid hK
  rw [← hK] at hd3
  have HKL : Hid (K.length = 8) := Lib.hid (by rw [hK]; exact HKL.out)
  clear hK
  have HD := Lib.hid (And.intro d0 (And.intro d1 (And.intro d2 (And.intro hd3 hbw2))))
  obtain ⟨fk, fz⟩ := arr_cell hd3 n.toNat (by rw [HKL.out]; omega)
  clear d0 d1 d2 hd3 hbw2
  generalize hx : K.getD n.toNat 0 = x at fk
  have HX : Hid ((keysF t.ks).getD n.toNat 0 = x) := Lib.hid (by rw [← HKK.out]; exact hx)
  clear hx
  have z0 := (blk5 HD.out.1).1
  have z1 := (blk5 HD.out.1).2.1
  have z2 := (blk5 HD.out.1).2.2.1
  have z3 := (blk5 HD.out.1).2.2.2.1
  have z4 := (blk5 HD.out.1).2.2.2.2.1
  have y0 := (blk5 HD.out.1).2.2.2.2.2.1
  have y1 := (blk5 HD.out.1).2.2.2.2.2.2.1
  have y2 := (blk5 HD.out.1).2.2.2.2.2.2.2.1
  have y3 := (blk5 HD.out.1).2.2.2.2.2.2.2.2.1
  have y4 := (blk5 HD.out.1).2.2.2.2.2.2.2.2.2
  have o0 := (blk5 HD.out.2.1).1
  have o1 := (blk5 HD.out.2.1).2.1
  have o2 := (blk5 HD.out.2.1).2.2.1
  have o3 := (blk5 HD.out.2.1).2.2.2.1
  have o4 := (blk5 HD.out.2.1).2.2.2.2.1
  have p0 := (blk5 HD.out.2.1).2.2.2.2.2.1
  have p1 := (blk5 HD.out.2.1).2.2.2.2.2.2.1
  have p2 := (blk5 HD.out.2.1).2.2.2.2.2.2.2.1
  have p3 := (blk5 HD.out.2.1).2.2.2.2.2.2.2.2.1
  have p4 := (blk5 HD.out.2.1).2.2.2.2.2.2.2.2.2
  have v0 := (blk5 HD.out.2.2.1).1
  have v1 := (blk5 HD.out.2.2.1).2.1
  have v2 := (blk5 HD.out.2.2.1).2.2.1
  have v3 := (blk5 HD.out.2.2.1).2.2.2.1
  have v4 := (blk5 HD.out.2.2.1).2.2.2.2.1
  have s0 := (blk5 HD.out.2.2.1).2.2.2.2.2.1
  have s1 := (blk5 HD.out.2.2.1).2.2.2.2.2.2.1
  have s2 := (blk5 HD.out.2.2.1).2.2.2.2.2.2.2.1
  have s3 := (blk5 HD.out.2.2.1).2.2.2.2.2.2.2.2.1
  have s4 := (blk5 HD.out.2.2.1).2.2.2.2.2.2.2.2.2
  have hn1 : ¬ w.heap.size = A := by omega
  have hn2 : ¬ A = w.heap.size := by omega
  have hn3 : ¬ w.heap.size + 1 = A := by omega
  have hn4 : ¬ A = w.heap.size + 1 := by omega
  have hn5 : ¬ w.heap.size + 1 + 1 = A := by omega
  have hn6 : ¬ A = w.heap.size + 1 + 1 := by omega
  have qz : (x == 0) = true := by have h := Hqz.out; rw [HX.out] at h; exact h
  repeat (first | go_values | go_skip | go_guarded | go_step | go_upon | go_quiet (fail) | (simp only [Int.not_lt, Int.not_le] at *; go_simp) | (go_values <;> (try go_simp)) | (go_ite <;> go_prune <;> (try go_simp)))
  refine bodyPost_ret (v := .tuple #[.agg #[.int .u32 t.g, .slice a t.ks.length cap, .int .i64 t.h, .int .i64 t.ty, .bool t.ap], .int .i64 0, .slice none 0 0]) ?_ rfl ?_
  · simp only [results, Try.results37]
    go_simp
  · have hbw := HD.out.2.2.2.2
    unfold ActPost
    rw [show rregF t n ac key other oap = (t, 0, []) by unfold rregF; rw [HX.out]; simp [q0, qz, qo]]
    refine ⟨a, cap, none, 0, rfl, HK.out.below ?_, HN.out, IntsIn.nil _ _, ?_⟩
    all_goals repeat (first | with_reducible assumption | (with_reducible refine Below.setCell ?_ (by first | omega | (simp; done) | (simp; omega)) _) | (with_reducible refine Below.alloc ?_ (by first | omega | (simp; done) | (simp; omega)) _) | (with_reducible refine Below.drew ?_) | (with_reducible refine below_dN ?_ _) | with_reducible exact Below.refl _ _ | (with_reducible refine Below.trans ?_ (Below.mono (by assumption) (by first | omega | (simp; done) | (simp; omega)))))
set_option maxRecDepth 100000 in
set_option maxHeartbeats 4000000 in
theorem rreg_c1 (t : Tab) (n ac oty key other : Int) (oap : Bool) (a : Option Addr) (cap : Nat) (w : World) (hlen : t.ks.length ≤ 9223372036854775807) (h0 : 0 ≤ n) (h8 : n < 8) (hh : t.h < 8)
   (hk : KeysIn w a t.ks) (hn : a = none → cap = 0) (q0 : (ac == 0) = false) (qz : ((keysF t.ks).getD n.toNat 0 == 0) = true) (qo : (other == 0) = false) (ql : ((t.ks.length : Int) == 6) = true) :
    Calls Try.prog 37 #[.agg #[.int .u32 t.g, .slice a t.ks.length cap, .int .i64 t.h, .int .i64 t.ty, .bool t.ap], .int .i64 n, .agg #[.int .i64 ac, .int .i64 oty, .int .u64 key, .int .u64 other, .bool oap]] w (ActPost (rregF t n ac key other oap) w) := by
  have Hqz := Lib.hid qz; clear qz
  have HK := Lib.hid hk; clear hk
  have HN := Lib.hid hn; clear hn
  go_enter Try.func37, Try.ntmps37
  go_wp2_with fail
  obtain ⟨b0, b1, b2⟩ := heap3 w (.cells #[.int .u32 t.g, .slice a t.ks.length cap, .int .i64 t.h, .int .i64 t.ty, .bool t.ap] 25) (.cells #[.int .i64 ac, .int .i64 oty, .int .u64 key, .int .u64 other, .bool oap] 43) (.cells #[.int .u32 0, .slice none 0 0, .int .i64 0, .int .i64 0, .bool false] 25)
  refine (keys_any _ _ _ _ _ _ _ _ hlen (HK.out.below (by repeat (first | with_reducible assumption | (with_reducible refine Below.setCell ?_ (by first | omega | (simp; done) | (simp; omega)) _) | (with_reducible refine Below.alloc ?_ (by first | omega | (simp; done) | (simp; omega)) _) | (with_reducible refine Below.drew ?_) | (with_reducible refine below_dN ?_ _) | with_reducible exact Below.refl _ _ | (with_reducible refine Below.trans ?_ (Below.mono (by assumption) (by first | omega | (simp; done) | (simp; omega)))))))).mono ?_
  rintro e w1 ⟨rfl, hb⟩
  have hz1 := hb.size
  simp only [World.size_alloc] at hz1
  have c0 := (hb.block _ (by first | (simp; done) | (simp; omega))).trans b0
  have c1 := (hb.block _ (by first | (simp; done) | (simp; omega))).trans b1
  have c2 := (hb.block _ (by first | (simp; done) | (simp; omega))).trans b2
  have hbw : Below w.heap.size w w1 := by repeat (first | with_reducible assumption | (with_reducible refine Below.setCell ?_ (by first | omega | (simp; done) | (simp; omega)) _) | (with_reducible refine Below.alloc ?_ (by first | omega | (simp; done) | (simp; omega)) _) | (with_reducible refine Below.drew ?_) | (with_reducible refine below_dN ?_ _) | with_reducible exact Below.refl _ _ | (with_reducible refine Below.trans ?_ (Below.mono (by assumption) (by first | omega | (simp; done) | (simp; omega)))))
  clear b0 b1 b2 hb
  obtain ⟨k0, k1, k2, k3, k4, k5, k6, k7, hl8⟩ := list8 (keysF t.ks) (keysF_length t.ks)
  unfold arr8
  rw [hl8]
  simp only [List.map_cons, List.map_nil]
  try dsimp only
  repeat (fail_if_success (with_reducible refine stop_pos "ref.go:161" rfl ?_)
          first | go_values | go_skip | go_guarded | go_step | go_upon)
  have d3 := heap_alloc_new w1 (.cells #[.int .u64 k0, .int .u64 k1, .int .u64 k2, .int .u64 k3, .int .u64 k4, .int .u64 k5, .int .u64 k6, .int .u64 k7] 57)
  have d0 := (heap_alloc_old w1 (.cells #[.int .u64 k0, .int .u64 k1, .int .u64 k2, .int .u64 k3, .int .u64 k4, .int .u64 k5, .int .u64 k6, .int .u64 k7] 57) (r := w.heap.size) (by omega)).trans c0
  have d1 := (heap_alloc_old w1 (.cells #[.int .u64 k0, .int .u64 k1, .int .u64 k2, .int .u64 k3, .int .u64 k4, .int .u64 k5, .int .u64 k6, .int .u64 k7] 57) (r := w.heap.size + 1) (by omega)).trans c1
  have d2 := (heap_alloc_old w1 (.cells #[.int .u64 k0, .int .u64 k1, .int .u64 k2, .int .u64 k3, .int .u64 k4, .int .u64 k5, .int .u64 k6, .int .u64 k7] 57) (r := w.heap.size + 1 + 1) (by omega)).trans c2
  have hd3 : (w1.alloc (.cells #[.int .u64 k0, .int .u64 k1, .int .u64 k2, .int .u64 k3, .int .u64 k4, .int .u64 k5, .int .u64 k6, .int .u64 k7] 57)).heap[w1.heap.size]? = some (.cells ((keysF t.ks).map (Value.int .u64)).toArray 57) := by rw [d3, hl8]; rfl
  have hbw2 : Below w.heap.size w (w1.alloc (.cells #[.int .u64 k0, .int .u64 k1, .int .u64 k2, .int .u64 k3, .int .u64 k4, .int .u64 k5, .int .u64 k6, .int .u64 k7] 57)) := by repeat (first | with_reducible assumption | (with_reducible refine Below.setCell ?_ (by first | omega | (simp; done) | (simp; omega)) _) | (with_reducible refine Below.alloc ?_ (by first | omega | (simp; done) | (simp; omega)) _) | (with_reducible refine Below.drew ?_) | (with_reducible refine below_dN ?_ _) | with_reducible exact Below.refl _ _ | (with_reducible refine Below.trans ?_ (Below.mono (by assumption) (by first | omega | (simp; done) | (simp; omega)))))
  have hsz2 : w1.heap.size + 1 = (w1.alloc (.cells #[.int .u64 k0, .int .u64 k1, .int .u64 k2, .int .u64 k3, .int .u64 k4, .int .u64 k5, .int .u64 k6, .int .u64 k7] 57)).heap.size := by simp
  generalize w1.alloc (.cells #[.int .u64 k0, .int .u64 k1, .int .u64 k2, .int .u64 k3, .int .u64 k4, .int .u64 k5, .int .u64 k6, .int .u64 k7] 57) = w2 at d0 d1 d2 hd3 hbw2 hsz2 ⊢
  generalize w1.heap.size = A at hz1 hd3 hsz2 ⊢
  clear d3 c0 c1 c2 hbw hl8
  have HKL := Lib.hid (keysF_length t.ks)
  obtain ⟨K, hK⟩ : ∃ x, x = keysF t.ks := ⟨_, rfl⟩
  have HKK := Lib.hid hK
  rw [← hK] at hd3
  have HKL : Hid (K.length = 8) := Lib.hid (by rw [hK]; exact HKL.out)
  clear hK
  have HD := Lib.hid (And.intro d0 (And.intro d1 (And.intro d2 (And.intro hd3 hbw2))))
  obtain ⟨fk, fz⟩ := arr_cell hd3 n.toNat (by rw [HKL.out]; omega)
  clear d0 d1 d2 hd3 hbw2
  generalize hx : K.getD n.toNat 0 = x at fk
  have HX : Hid ((keysF t.ks).getD n.toNat 0 = x) := Lib.hid (by rw [← HKK.out]; exact hx)
  clear hx
  have z0 := (blk5 HD.out.1).1
  have z1 := (blk5 HD.out.1).2.1
  have z2 := (blk5 HD.out.1).2.2.1
  have z3 := (blk5 HD.out.1).2.2.2.1
  have z4 := (blk5 HD.out.1).2.2.2.2.1
  have y0 := (blk5 HD.out.1).2.2.2.2.2.1
  have y1 := (blk5 HD.out.1).2.2.2.2.2.2.1
  have y2 := (blk5 HD.out.1).2.2.2.2.2.2.2.1
  have y3 := (blk5 HD.out.1).2.2.2.2.2.2.2.2.1
  have y4 := (blk5 HD.out.1).2.2.2.2.2.2.2.2.2
  have o0 := (blk5 HD.out.2.1).1
  have o1 := (blk5 HD.out.2.1).2.1
  have o2 := (blk5 HD.out.2.1).2.2.1
  have o3 := (blk5 HD.out.2.1).2.2.2.1
  have o4 := (blk5 HD.out.2.1).2.2.2.2.1
  have p0 := (blk5 HD.out.2.1).2.2.2.2.2.1
  have p1 := (blk5 HD.out.2.1).2.2.2.2.2.2.1
  have p2 := (blk5 HD.out.2.1).2.2.2.2.2.2.2.1
  have p3 := (blk5 HD.out.2.1).2.2.2.2.2.2.2.2.1
  have p4 := (blk5 HD.out.2.1).2.2.2.2.2.2.2.2.2
  have v0 := (blk5 HD.out.2.2.1).1
  have v1 := (blk5 HD.out.2.2.1).2.1
  have v2 := (blk5 HD.out.2.2.1).2.2.1
  have v3 := (blk5 HD.out.2.2.1).2.2.2.1
  have v4 := (blk5 HD.out.2.2.1).2.2.2.2.1
  have s0 := (blk5 HD.out.2.2.1).2.2.2.2.2.1
  have s1 := (blk5 HD.out.2.2.1).2.2.2.2.2.2.1
  have s2 := (blk5 HD.out.2.2.1).2.2.2.2.2.2.2.1
  have s3 := (blk5 HD.out.2.2.1).2.2.2.2.2.2.2.2.1
  have s4 := (blk5 HD.out.2.2.1).2.2.2.2.2.2.2.2.2
  have hn1 : ¬ w.heap.size = A := by omega
  have hn2 : ¬ A = w.heap.size := by omega
  have hn3 : ¬ w.heap.size + 1 = A := by omega
  have hn4 : ¬ A = w.heap.size + 1 := by omega
  have hn5 : ¬ w.heap.size + 1 + 1 = A := by omega
  have hn6 : ¬ A = w.heap.size + 1 + 1 := by omega
  have qz : (x == 0) = true := by have h := Hqz.out; rw [HX.out] at h; exact h
  repeat (first | go_values | go_skip | go_guarded | go_step | go_upon | go_quiet (fail) | (simp only [Int.not_lt, Int.not_le] at *; go_simp) | (go_values <;> (try go_simp)) | (go_ite <;> go_prune <;> (try go_simp)))
  refine bodyPost_ret (v := .tuple #[.agg #[.int .u32 t.g, .slice a t.ks.length cap, .int .i64 t.h, .int .i64 t.ty, .bool t.ap], .int .i64 8, .slice none 0 0]) ?_ rfl ?_
  · simp only [results, Try.results37]
    go_simp
  · have hbw := HD.out.2.2.2.2
    unfold ActPost
    rw [show rregF t n ac key other oap = (t, 8, []) by unfold rregF; rw [HX.out]; simp [q0, qz, qo, show t.ks.length = 6 by simp at ql; omega]]
    refine ⟨a, cap, none, 0, rfl, HK.out.below ?_, HN.out, IntsIn.nil _ _, ?_⟩
    all_goals repeat (first | with_reducible assumption | (with_reducible refine Below.setCell ?_ (by first | omega | (simp; done) | (simp; omega)) _) | (with_reducible refine Below.alloc ?_ (by first | omega | (simp; done) | (simp; omega)) _) | (with_reducible refine Below.drew ?_) | (with_reducible refine below_dN ?_ _) | with_reducible exact Below.refl _ _ | (with_reducible refine Below.trans ?_ (Below.mono (by assumption) (by first | omega | (simp; done) | (simp; omega)))))
end Go.Proofs.Ytopakonpfbbldaa
namespace Go.Proofs.Ytopakonpfbbldaa
open Go.RowKit

set_option maxRecDepth 100000 in
set_option maxHeartbeats 4000000 in
theorem rreg_d0 (t : Tab) (n ac oty key other : Int) (oap : Bool) (a : Option Addr) (cap : Nat) (w : World) (hlen : t.ks.length ≤ 9223372036854775807) (h0 : 0 ≤ n) (h8 : n < 8) (hh : t.h < 8)
   (hk : KeysIn w a t.ks) (hn : a = none → cap = 0) (q0 : (ac == 0) = true) (qn : (key != (keysF t.ks).getD n.toNat 0) = false) (qz : ((keysF t.ks).getD n.toNat 0 == 0) = false) (qo : (other == 0) = true) :
    Calls Try.prog 37 #[.agg #[.int .u32 t.g, .slice a t.ks.length cap, .int .i64 t.h, .int .i64 t.ty, .bool t.ap], .int .i64 n, .agg #[.int .i64 ac, .int .i64 oty, .int .u64 key, .int .u64 other, .bool oap]] w (ActPost (rregF t n ac key other oap) w) := by
  have Hqn := Lib.hid qn; clear qn
  have Hqz := Lib.hid qz; clear qz
  have HK := Lib.hid hk; clear hk
  have HN := Lib.hid hn; clear hn
  go_enter Try.func37, Try.ntmps37
  go_wp2_with fail
  obtain ⟨b0, b1, b2⟩ := heap3 w (.cells #[.int .u32 t.g, .slice a t.ks.length cap, .int .i64 t.h, .int .i64 t.ty, .bool t.ap] 25) (.cells #[.int .i64 ac, .int .i64 oty, .int .u64 key, .int .u64 other, .bool oap] 43) (.cells #[.int .u32 0, .slice none 0 0, .int .i64 0, .int .i64 0, .bool false] 25)
  refine (keys_any _ _ _ _ _ _ _ _ hlen (HK.out.below (by repeat (first | with_reducible assumption | (with_reducible refine Below.setCell ?_ (by first | omega | (simp; done) | (simp; omega)) _) | (with_reducible refine Below.alloc ?_ (by first | omega | (simp; done) | (simp; omega)) _) | (with_reducible refine Below.drew ?_) | (with_reducible refine below_dN ?_ _) | with_reducible exact Below.refl _ _ | (with_reducible refine Below.trans ?_ (Below.mono (by assumption) (by first | omega | (simp; done) | (simp; omega)))))))).mono ?_
  rintro e w1 ⟨rfl, hb⟩
  have hz1 := hb.size
  simp only [World.size_alloc] at hz1
  have c0 := (hb.block _ (by first | (simp; done) | (simp; omega))).trans b0
  have c1 := (hb.block _ (by first | (simp; done) | (simp; omega))).trans b1
  have c2 := (hb.block _ (by first | (simp; done) | (simp; omega))).trans b2
  have hbw : Below w.heap.size w w1 := by repeat (first | with_reducible assumption | (with_reducible refine Below.setCell ?_ (by first | omega | (simp; done) | (simp; omega)) _) | (with_reducible refine Below.alloc ?_ (by first | omega | (simp; done) | (simp; omega)) _) | (with_reducible refine Below.drew ?_) | (with_reducible refine below_dN ?_ _) | with_reducible exact Below.refl _ _ | (with_reducible refine Below.trans ?_ (Below.mono (by assumption) (by first | omega | (simp; done) | (simp; omega)))))
  clear b0 b1 b2 hb
  obtain ⟨k0, k1, k2, k3, k4, k5, k6, k7, hl8⟩ := list8 (keysF t.ks) (keysF_length t.ks)
  unfold arr8
  rw [hl8]
  simp only [List.map_cons, List.map_nil]
  try dsimp only
  repeat (fail_if_success (with_reducible refine stop_pos "ref.go:161" rfl ?_)
          first | go_values | go_skip | go_guarded | go_step | go_upon)
  have d3 := heap_alloc_new w1 (.cells #[.int .u64 k0, .int .u64 k1, .int .u64 k2, .int .u64 k3, .int .u64 k4, .int .u64 k5, .int .u64 k6, .int .u64 k7] 57)
  have d0 := (heap_alloc_old w1 (.cells #[.int .u64 k0, .int .u64 k1, .int .u64 k2, .int .u64 k3, .int .u64 k4, .int .u64 k5, .int .u64 k6, .int .u64 k7] 57) (r := w.heap.size) (by omega)).trans c0
  have d1 := (heap_alloc_old w1 (.cells #[.int .u64 k0, .int .u64 k1, .int .u64 k2, .int .u64 k3, .int .u64 k4, .int .u64 k5, .int .u64 k6, .int .u64 k7] 57) (r := w.heap.size + 1) (by omega)).trans c1
  have d2 := (heap_alloc_old w1 (.cells #[.int .u64 k0, .int .u64 k1, .int .u64 k2, .int .u64 k3, .int .u64 k4, .int .u64 k5, .int .u64 k6, .int .u64 k7] 57) (r := w.heap.size + 1 + 1) (by omega)).trans c2
  have hd3 : (w1.alloc (.cells #[.int .u64 k0, .int .u64 k1, .int .u64 k2, .int .u64 k3, .int .u64 k4, .int .u64 k5, .int .u64 k6, .int .u64 k7] 57)).heap[w1.heap.size]? = some (.cells ((keysF t.ks).map (Value.int .u64)).toArray 57) := by rw [d3, hl8]; rfl
  have hbw2 : Below w.heap.size w (w1.alloc (.cells #[.int .u64 k0, .int .u64 k1, .int .u64 k2, .int .u64 k3, .int .u64 k4, .int .u64 k5, .int .u64 k6, .int .u64 k7] 57)) := by repeat (first | with_reducible assumption | (with_reducible refine Below.setCell ?_ (by first | omega | (simp; done) | (simp; omega)) _) | (with_reducible refine Below.alloc ?_ (by first | omega | (simp; done) | (simp; omega)) _) | (with_reducible refine Below.drew ?_) | (with_reducible refine below_dN ?_ _) | with_reducible exact Below.refl _ _ | (with_reducible refine Below.trans ?_ (Below.mono (by assumption) (by first | omega | (simp; done) | (simp; omega)))))
  have hsz2 : w1.heap.size + 1 = (w1.alloc (.cells #[.int .u64 k0, .int .u64 k1, .int .u64 k2, .int .u64 k3, .int .u64 k4, .int .u64 k5, .int .u64 k6, .int .u64 k7] 57)).heap.size := by simp
  generalize w1.alloc (.cells #[.int .u64 k0, .int .u64 k1, .int .u64 k2, .int .u64 k3, .int .u64 k4, .int .u64 k5, .int .u64 k6, .int .u64 k7] 57) = w2 at d0 d1 d2 hd3 hbw2 hsz2 ⊢
  generalize w1.heap.size = A at hz1 hd3 hsz2 ⊢
  clear d3 c0 c1 c2 hbw hl8
  have HKL := Lib.hid (keysF_length t.ks)
  obtain ⟨K, hK⟩ : ∃ x, x = keysF t.ks := ⟨_, rfl⟩
  have HKK := Lib.hid hK
  rw [← hK] at hd3
  have HKL : Hid (K.length = 8) := Lib.hid (by rw [hK]; exact HKL.out)
  clear hK
  have HD := Lib.hid (And.intro d0 (And.intro d1 (And.intro d2 (And.intro hd3 hbw2))))
  obtain ⟨fk, fz⟩ := arr_cell hd3 n.toNat (by rw [HKL.out]; omega)
  clear d0 d1 d2 hd3 hbw2
  generalize hx : K.getD n.toNat 0 = x at fk
  have HX : Hid ((keysF t.ks).getD n.toNat 0 = x) := Lib.hid (by rw [← HKK.out]; exact hx)
  clear hx
  have z0 := (blk5 HD.out.1).1
  have z1 := (blk5 HD.out.1).2.1
  have z2 := (blk5 HD.out.1).2.2.1
  have z3 := (blk5 HD.out.1).2.2.2.1
  have z4 := (blk5 HD.out.1).2.2.2.2.1
  have y0 := (blk5 HD.out.1).2.2.2.2.2.1
  have y1 := (blk5 HD.out.1).2.2.2.2.2.2.1
  have y2 := (blk5 HD.out.1).2.2.2.2.2.2.2.1
  have y3 := (blk5 HD.out.1).2.2.2.2.2.2.2.2.1
  have y4 := (blk5 HD.out.1).2.2.2.2.2.2.2.2.2
  have o0 := (blk5 HD.out.2.1).1
  have o1 := (blk5 HD.out.2.1).2.1
  have o2 := (blk5 HD.out.2.1).2.2.1
  have o3 := (blk5 HD.out.2.1).2.2.2.1
  have o4 := (blk5 HD.out.2.1).2.2.2.2.1
  have p0 := (blk5 HD.out.2.1).2.2.2.2.2.1
  have p1 := (blk5 HD.out.2.1).2.2.2.2.2.2.1
  have p2 := (blk5 HD.out.2.1).2.2.2.2.2.2.2.1
  have p3 := (blk5 HD.out.2.1).2.2.2.2.2.2.2.2.1
  have p4 := (blk5 HD.out.2.1).2.2.2.2.2.2.2.2.2
  have v0 := (blk5 HD.out.2.2.1).1
  have v1 := (blk5 HD.out.2.2.1).2.1
  have v2 := (blk5 HD.out.2.2.1).2.2.1
  have v3 := (blk5 HD.out.2.2.1).2.2.2.1
  have v4 := (blk5 HD.out.2.2.1).2.2.2.2.1
  have s0 := (blk5 HD.out.2.2.1).2.2.2.2.2.1
  have s1 := (blk5 HD.out.2.2.1).2.2.2.2.2.2.1
  have s2 := (blk5 HD.out.2.2.1).2.2.2.2.2.2.2.1
  have s3 := (blk5 HD.out.2.2.1).2.2.2.2.2.2.2.2.1
  have s4 := (blk5 HD.out.2.2.1).2.2.2.2.2.2.2.2.2
  have hn1 : ¬ w.heap.size = A := by omega
  have hn2 : ¬ A = w.heap.size := by omega
  have hn3 : ¬ w.heap.size + 1 = A := by omega
  have hn4 : ¬ A = w.heap.size + 1 := by omega
  have hn5 : ¬ w.heap.size + 1 + 1 = A := by omega
  have hn6 : ¬ A = w.heap.size + 1 + 1 := by omega
  have qn : (key != x) = false := by have h := Hqn.out; rw [HX.out] at h; exact h
  have qz : (x == 0) = false := by have h := Hqz.out; rw [HX.out] at h; exact h
  repeat (fail_if_success (with_reducible refine stop_pos "ref.go:173" rfl ?_)
          first | go_values | go_skip | go_guarded | go_step | go_upon | go_quiet (fail) | (simp only [Int.not_lt, Int.not_le] at *; go_simp) | (go_values <;> (try go_simp)) | (go_ite <;> go_prune <;> (try go_simp)))
  refine gen_world (fun wx => wx.heap[w.heap.size]? = some (.cells #[.int .u32 (u32 (t.g + 1)), .slice a t.ks.length cap, .int .i64 t.h, .int .i64 t.ty, .bool oap] 25) ∧ wx.heap[w.heap.size + 1]? = some (.cells #[.int .i64 ac, .int .i64 oty, .int .u64 key, .int .u64 other, .bool oap] 43) ∧ wx.heap[w.heap.size + 1 + 1]? = some (.cells #[.int .u32 0, .slice none 0 0, .int .i64 0, .int .i64 0, .bool false] 25) ∧ wx.heap[A]? = some (.cells (K.map (Value.int .u64)).toArray 57) ∧ Below w.heap.size w wx) ?_ ?_
  · refine ⟨?_, ?_, ?_, ?_, ?_⟩
    · rw [set_blk (set_blk (show (World.drewN w2 _).heap[w.heap.size]? = _ from HD.out.1) _) _]
      simp [u32]
    · exact heap_set_ne (by omega) (heap_set_ne (by omega) HD.out.2.1)
    · exact heap_set_ne (by omega) (heap_set_ne (by omega) HD.out.2.2.1)
    · exact heap_set_ne hn1 (heap_set_ne hn1 HD.out.2.2.2.1)
    · have hbw := HD.out.2.2.2.2
      repeat (first | with_reducible assumption | (with_reducible refine Below.setCell ?_ (by first | omega | (simp; done) | (simp; omega)) _) | (with_reducible refine Below.alloc ?_ (by first | omega | (simp; done) | (simp; omega)) _) | (with_reducible refine Below.drew ?_) | (with_reducible refine below_dN ?_ _) | with_reducible exact Below.refl _ _ | (with_reducible refine Below.trans ?_ (Below.mono (by assumption) (by first | omega | (simp; done) | (simp; omega)))))
  intro w3 hw3
  have H3 := Lib.hid hw3
  clear hw3
  clear z0 z1 z2 z3 z4 y0 y1 y2 y3 y4 o0 o1 o2 o3 o4 p0 p1 p2 p3 p4 v0 v1 v2 v3 v4 s0 s1 s2 s3 s4
  clear fk fz
  have z0 := (blk5 H3.out.1).1
  have z1 := (blk5 H3.out.1).2.1
  have z2 := (blk5 H3.out.1).2.2.1
  have z3 := (blk5 H3.out.1).2.2.2.1
  have z4 := (blk5 H3.out.1).2.2.2.2.1
  have y0 := (blk5 H3.out.1).2.2.2.2.2.1
  have y1 := (blk5 H3.out.1).2.2.2.2.2.2.1
  have y2 := (blk5 H3.out.1).2.2.2.2.2.2.2.1
  have y3 := (blk5 H3.out.1).2.2.2.2.2.2.2.2.1
  have y4 := (blk5 H3.out.1).2.2.2.2.2.2.2.2.2
  have o0 := (blk5 H3.out.2.1).1
  have o1 := (blk5 H3.out.2.1).2.1
  have o2 := (blk5 H3.out.2.1).2.2.1
  have o3 := (blk5 H3.out.2.1).2.2.2.1
  have o4 := (blk5 H3.out.2.1).2.2.2.2.1
  have p0 := (blk5 H3.out.2.1).2.2.2.2.2.1
  have p1 := (blk5 H3.out.2.1).2.2.2.2.2.2.1
  have p2 := (blk5 H3.out.2.1).2.2.2.2.2.2.2.1
  have p3 := (blk5 H3.out.2.1).2.2.2.2.2.2.2.2.1
  have p4 := (blk5 H3.out.2.1).2.2.2.2.2.2.2.2.2
  have v0 := (blk5 H3.out.2.2.1).1
  have v1 := (blk5 H3.out.2.2.1).2.1
  have v2 := (blk5 H3.out.2.2.1).2.2.1
  have v3 := (blk5 H3.out.2.2.1).2.2.2.1
  have v4 := (blk5 H3.out.2.2.1).2.2.2.2.1
  have s0 := (blk5 H3.out.2.2.1).2.2.2.2.2.1
  have s1 := (blk5 H3.out.2.2.1).2.2.2.2.2.2.1
  have s2 := (blk5 H3.out.2.2.1).2.2.2.2.2.2.2.1
  have s3 := (blk5 H3.out.2.2.1).2.2.2.2.2.2.2.2.1
  have s4 := (blk5 H3.out.2.2.1).2.2.2.2.2.2.2.2.2
  have hsz3 := H3.out.2.2.2.2.size
  have hA3 := (Array.getElem?_eq_some_iff.1 H3.out.2.2.2.1).1
  repeat (fail_if_success (with_reducible refine stop_pos "ref.go:175" rfl ?_)
          first | go_values | go_skip | go_guarded | go_step | go_upon | go_quiet (fail) | (simp only [Int.not_lt, Int.not_le] at *; go_simp) | (go_values <;> (try go_simp)) | (go_ite <;> go_prune <;> (try go_simp)))
  refine gen_world (fun wx => wx.heap[w.heap.size]? = some (.cells #[.int .u32 (u32 (t.g + 1)), .slice a t.ks.length cap, .int .i64 t.h, .int .i64 t.ty, .bool oap] 25) ∧ wx.heap[w.heap.size + 1 + 1]? = some (.cells #[.int .u32 0, .slice none 0 0, .int .i64 0, .int .i64 0, .bool false] 25) ∧ wx.heap[w3.heap.size]? = some (.cells ((oneB n).map Value.bool).toArray 71) ∧ Below w.heap.size w wx) ?_ ?_
  · refine ⟨?_, ?_, ?_, ?_⟩
    · exact (heap_alloc_old w3 _ (by omega)).trans H3.out.1
    · exact (heap_alloc_old w3 _ (by omega)).trans H3.out.2.2.1
    · rw [show (oneB n).map Value.bool = [Value.bool false, Value.bool false, Value.bool false, Value.bool false, Value.bool false, Value.bool false, Value.bool false, Value.bool false].set n.toNat (.bool true) by unfold oneB; rw [List.map_set]; rfl]
      exact heap_alloc_new w3 _
    · have hbw := H3.out.2.2.2.2
      repeat (first | with_reducible assumption | (with_reducible refine Below.setCell ?_ (by first | omega | (simp; done) | (simp; omega)) _) | (with_reducible refine Below.alloc ?_ (by first | omega | (simp; done) | (simp; omega)) _) | (with_reducible refine Below.drew ?_) | (with_reducible refine below_dN ?_ _) | with_reducible exact Below.refl _ _ | (with_reducible refine Below.trans ?_ (Below.mono (by assumption) (by first | omega | (simp; done) | (simp; omega)))))
  clear z0 z1 z2 z3 z4 y0 y1 y2 y3 y4 o0 o1 o2 o3 o4 p0 p1 p2 p3 p4 v0 v1 v2 v3 v4 s0 s1 s2 s3 s4
  intro w4 hw4
  have H4 := Lib.hid hw4
  clear hw4
  have hsz4 := (Array.getElem?_eq_some_iff.1 H4.out.2.2.1).1
  obtain ⟨b0, b1, b2, b3, b4, b5, b6, b7, hbb⟩ := list8b (oneB n) (oneB_len n)
  have HBB := Lib.hid hbb
  have e4 := H4.out.2.2.1
  rw [hbb] at e4
  clear hbb
  simp only [List.map_cons, List.map_nil] at e4
  have z0 := (blk5 H4.out.1).1
  have z1 := (blk5 H4.out.1).2.1
  have z2 := (blk5 H4.out.1).2.2.1
  have z3 := (blk5 H4.out.1).2.2.2.1
  have z4 := (blk5 H4.out.1).2.2.2.2.1
  have y0 := (blk5 H4.out.1).2.2.2.2.2.1
  have y1 := (blk5 H4.out.1).2.2.2.2.2.2.1
  have y2 := (blk5 H4.out.1).2.2.2.2.2.2.2.1
  have y3 := (blk5 H4.out.1).2.2.2.2.2.2.2.2.1
  have y4 := (blk5 H4.out.1).2.2.2.2.2.2.2.2.2
  have v0 := (blk5 H4.out.2.1).1
  have v1 := (blk5 H4.out.2.1).2.1
  have v2 := (blk5 H4.out.2.1).2.2.1
  have v3 := (blk5 H4.out.2.1).2.2.2.1
  have v4 := (blk5 H4.out.2.1).2.2.2.2.1
  have s0 := (blk5 H4.out.2.1).2.2.2.2.2.1
  have s1 := (blk5 H4.out.2.1).2.2.2.2.2.2.1
  have s2 := (blk5 H4.out.2.1).2.2.2.2.2.2.2.1
  have s3 := (blk5 H4.out.2.1).2.2.2.2.2.2.2.2.1
  have s4 := (blk5 H4.out.2.1).2.2.2.2.2.2.2.2.2
  have x0 := (blk8 e4).1
  have x1 := (blk8 e4).2.1
  have x2 := (blk8 e4).2.2.1
  have x3 := (blk8 e4).2.2.2.1
  have x4 := (blk8 e4).2.2.2.2.1
  have x5 := (blk8 e4).2.2.2.2.2.1
  have x6 := (blk8 e4).2.2.2.2.2.2.1
  have x7 := (blk8 e4).2.2.2.2.2.2.2.1
  have fz := (blk8 e4).2.2.2.2.2.2.2.2
  clear e4
  repeat (first | go_values | go_skip | go_guarded | go_step | go_upon | go_quiet (fail))
  refine (rremove_any ⟨u32 (t.g + 1), t.ks, t.h, t.ty, oap⟩ [b0, b1, b2, b3, b4, b5, b6, b7] n a cap w4 hlen rfl hh (HK.out.below H4.out.2.2.2)).mono ?_
  rintro e w5 ⟨vt, vi, rfl, ⟨a5, c5, rfl, hk5, hn5⟩, hi5, hb5⟩
  have HK5 := Lib.hid hk5
  have HN5 := Lib.hid hn5
  have HR : Hid (rregF t n ac key other oap = ((rremoveF ⟨u32 (t.g + 1), t.ks, t.h, t.ty, oap⟩ [b0, b1, b2, b3, b4, b5, b6, b7] n).1, 0, [])) := Lib.hid (by
    unfold rregF
    rw [HX.out, HBB.out]
    simp [q0, qn, qz, qo])
  clear hk5 hn5 hi5
  generalize rremoveF ⟨u32 (t.g + 1), t.ks, t.h, t.ty, oap⟩ [b0, b1, b2, b3, b4, b5, b6, b7] n = R at HK5 HR ⊢
  have hsz5 := hb5.size
  have e2 := (hb5.block (w.heap.size + 1 + 1) (by omega)).trans H4.out.2.1
  have hl5 : w.heap.size + 1 + 1 < w5.heap.size := by omega
  have HB5 := Lib.hid (H4.out.2.2.2.trans (hb5.mono (by omega)))
  clear z0 z1 z2 z3 z4 y0 y1 y2 y3 y4 v0 v1 v2 v3 v4 s0 s1 s2 s3 s4 x0 x1 x2 x3 x4 x5 x6 x7
  have v0 := (blk5 e2).1
  have v1 := (blk5 e2).2.1
  have v2 := (blk5 e2).2.2.1
  have v3 := (blk5 e2).2.2.2.1
  have v4 := (blk5 e2).2.2.2.2.1
  have s0 := (blk5 e2).2.2.2.2.2.1
  have s1 := (blk5 e2).2.2.2.2.2.2.1
  have s2 := (blk5 e2).2.2.2.2.2.2.2.1
  have s3 := (blk5 e2).2.2.2.2.2.2.2.2.1
  have s4 := (blk5 e2).2.2.2.2.2.2.2.2.2
  have E2 := Lib.hid e2
  clear e2 hb5
  dsimp only
  repeat (first | go_values | go_skip | go_guarded | go_step | go_upon | go_quiet (fail))
  refine bodyPost_ret (v := .tuple #[.agg #[.int .u32 R.1.g, .slice a5 R.1.ks.length c5, .int .i64 R.1.h, .int .i64 R.1.ty, .bool R.1.ap], .int .i64 0, .slice none 0 0]) ?_ rfl ?_
  · simp only [results, Try.results37]
    go_simp
  · unfold ActPost
    rw [HR.out]
    have hbw := HB5.out
    refine ⟨a5, c5, none, 0, rfl, ?_, HN5.out, IntsIn.nil _ _, ?_⟩
    · exact keys_ret_alloc HK5.out E2.out
    · repeat (first | with_reducible assumption | (with_reducible refine Below.setCell ?_ (by first | omega | (simp; done) | (simp; omega)) _) | (with_reducible refine Below.alloc ?_ (by first | omega | (simp; done) | (simp; omega)) _) | (with_reducible refine Below.drew ?_) | (with_reducible refine below_dN ?_ _) | with_reducible exact Below.refl _ _ | (with_reducible refine Below.trans ?_ (Below.mono (by assumption) (by first | omega | (simp; done) | (simp; omega)))))
set_option maxRecDepth 100000 in
set_option maxHeartbeats 4000000 in
theorem rreg_d1 (t : Tab) (n ac oty key other : Int) (oap : Bool) (a : Option Addr) (cap : Nat) (w : World) (hlen : t.ks.length ≤ 9223372036854775807) (h0 : 0 ≤ n) (h8 : n < 8) (hh : t.h < 8)
   (hk : KeysIn w a t.ks) (hn : a = none → cap = 0) (q0 : (ac == 0) = false) (qz : ((keysF t.ks).getD n.toNat 0 == 0) = false) (qo : (other == 0) = true) :
    Calls Try.prog 37 #[.agg #[.int .u32 t.g, .slice a t.ks.length cap, .int .i64 t.h, .int .i64 t.ty, .bool t.ap], .int .i64 n, .agg #[.int .i64 ac, .int .i64 oty, .int .u64 key, .int .u64 other, .bool oap]] w (ActPost (rregF t n ac key other oap) w) := by
  have Hqz := Lib.hid qz; clear qz
  have HK := Lib.hid hk; clear hk
  have HN := Lib.hid hn; clear hn
  go_enter Try.func37, Try.ntmps37
  go_wp2_with fail
  obtain ⟨b0, b1, b2⟩ := heap3 w (.cells #[.int .u32 t.g, .slice a t.ks.length cap, .int .i64 t.h, .int .i64 t.ty, .bool t.ap] 25) (.cells #[.int .i64 ac, .int .i64 oty, .int .u64 key, .int .u64 other, .bool oap] 43) (.cells #[.int .u32 0, .slice none 0 0, .int .i64 0, .int .i64 0, .bool false] 25)
  refine (keys_any _ _ _ _ _ _ _ _ hlen (HK.out.below (by repeat (first | with_reducible assumption | (with_reducible refine Below.setCell ?_ (by first | omega | (simp; done) | (simp; omega)) _) | (with_reducible refine Below.alloc ?_ (by first | omega | (simp; done) | (simp; omega)) _) | (with_reducible refine Below.drew ?_) | (with_reducible refine below_dN ?_ _) | with_reducible exact Below.refl _ _ | (with_reducible refine Below.trans ?_ (Below.mono (by assumption) (by first | omega | (simp; done) | (simp; omega)))))))).mono ?_
  rintro e w1 ⟨rfl, hb⟩
  have hz1 := hb.size
  simp only [World.size_alloc] at hz1
  have c0 := (hb.block _ (by first | (simp; done) | (simp; omega))).trans b0
  have c1 := (hb.block _ (by first | (simp; done) | (simp; omega))).trans b1
  have c2 := (hb.block _ (by first | (simp; done) | (simp; omega))).trans b2
  have hbw : Below w.heap.size w w1 := by repeat (first | with_reducible assumption | (with_reducible refine Below.setCell ?_ (by first | omega | (simp; done) | (simp; omega)) _) | (with_reducible refine Below.alloc ?_ (by first | omega | (simp; done) | (simp; omega)) _) | (with_reducible refine Below.drew ?_) | (with_reducible refine below_dN ?_ _) | with_reducible exact Below.refl _ _ | (with_reducible refine Below.trans ?_ (Below.mono (by assumption) (by first | omega | (simp; done) | (simp; omega)))))
  clear b0 b1 b2 hb
  obtain ⟨k0, k1, k2, k3, k4, k5, k6, k7, hl8⟩ := list8 (keysF t.ks) (keysF_length t.ks)
  unfold arr8
  rw [hl8]
  simp only [List.map_cons, List.map_nil]
  try dsimp only
  repeat (fail_if_success (with_reducible refine stop_pos "ref.go:161" rfl ?_)
          first | go_values | go_skip | go_guarded | go_step | go_upon)
  have d3 := heap_alloc_new w1 (.cells #[.int .u64 k0, .int .u64 k1, .int .u64 k2, .int .u64 k3, .int .u64 k4, .int .u64 k5, .int .u64 k6, .int .u64 k7] 57)
  have d0 := (heap_alloc_old w1 (.cells #[.int .u64 k0, .int .u64 k1, .int .u64 k2, .int .u64 k3, .int .u64 k4, .int .u64 k5, .int .u64 k6, .int .u64 k7] 57) (r := w.heap.size) (by omega)).trans c0
  have d1 := (heap_alloc_old w1 (.cells #[.int .u64 k0, .int .u64 k1, .int .u64 k2, .int .u64 k3, .int .u64 k4, .int .u64 k5, .int .u64 k6, .int .u64 k7] 57) (r := w.heap.size + 1) (by omega)).trans c1
  have d2 := (heap_alloc_old w1 (.cells #[.int .u64 k0, .int .u64 k1, .int .u64 k2, .int .u64 k3, .int .u64 k4, .int .u64 k5, .int .u64 k6, .int .u64 k7] 57) (r := w.heap.size + 1 + 1) (by omega)).trans c2
  have hd3 : (w1.alloc (.cells #[.int .u64 k0, .int .u64 k1, .int .u64 k2, .int .u64 k3, .int .u64 k4, .int .u64 k5, .int .u64 k6, .int .u64 k7] 57)).heap[w1.heap.size]? = some (.cells ((keysF t.ks).map (Value.int .u64)).toArray 57) := by rw [d3, hl8]; rfl
  have hbw2 : Below w.heap.size w (w1.alloc (.cells #[.int .u64 k0, .int .u64 k1, .int .u64 k2, .int .u64 k3, .int .u64 k4, .int .u64 k5, .int .u64 k6, .int .u64 k7] 57)) := by repeat (first | with_reducible assumption | (with_reducible refine Below.setCell ?_ (by first | omega | (simp; done) | (simp; omega)) _) | (with_reducible refine Below.alloc ?_ (by first | omega | (simp; done) | (simp; omega)) _) | (with_reducible refine Below.drew ?_) | (with_reducible refine below_dN ?_ _) | with_reducible exact Below.refl _ _ | (with_reducible refine Below.trans ?_ (Below.mono (by assumption) (by first | omega | (simp; done) | (simp; omega)))))
  have hsz2 : w1.heap.size + 1 = (w1.alloc (.cells #[.int .u64 k0, .int .u64 k1, .int .u64 k2, .int .u64 k3, .int .u64 k4, .int .u64 k5, .int .u64 k6, .int .u64 k7] 57)).heap.size := by simp
  generalize w1.alloc (.cells #[.int .u64 k0, .int .u64 k1, .int .u64 k2, .int .u64 k3, .int .u64 k4, .int .u64 k5, .int .u64 k6, .int .u64 k7] 57) = w2 at d0 d1 d2 hd3 hbw2 hsz2 ⊢
  generalize w1.heap.size = A at hz1 hd3 hsz2 ⊢
  clear d3 c0 c1 c2 hbw hl8
  have HKL := Lib.hid (keysF_length t.ks)
  obtain ⟨K, hK⟩ : ∃ x, x = keysF t.ks := ⟨_, rfl⟩
  have HKK := Lib.hid hK
  rw [← hK] at hd3
  have HKL : Hid (K.length = 8) := Lib.hid (by rw [hK]; exact HKL.out)
  clear hK
  have HD := Lib.hid (And.intro d0 (And.intro d1 (And.intro d2 (And.intro hd3 hbw2))))
  obtain ⟨fk, fz⟩ := arr_cell hd3 n.toNat (by rw [HKL.out]; omega)
  clear d0 d1 d2 hd3 hbw2
  generalize hx : K.getD n.toNat 0 = x at fk
  have HX : Hid ((keysF t.ks).getD n.toNat 0 = x) := Lib.hid (by rw [← HKK.out]; exact hx)
  clear hx
  have z0 := (blk5 HD.out.1).1
  have z1 := (blk5 HD.out.1).2.1
  have z2 := (blk5 HD.out.1).2.2.1
  have z3 := (blk5 HD.out.1).2.2.2.1
  have z4 := (blk5 HD.out.1).2.2.2.2.1
  have y0 := (blk5 HD.out.1).2.2.2.2.2.1
  have y1 := (blk5 HD.out.1).2.2.2.2.2.2.1
  have y2 := (blk5 HD.out.1).2.2.2.2.2.2.2.1
  have y3 := (blk5 HD.out.1).2.2.2.2.2.2.2.2.1
  have y4 := (blk5 HD.out.1).2.2.2.2.2.2.2.2.2
  have o0 := (blk5 HD.out.2.1).1
  have o1 := (blk5 HD.out.2.1).2.1
  have o2 := (blk5 HD.out.2.1).2.2.1
  have o3 := (blk5 HD.out.2.1).2.2.2.1
  have o4 := (blk5 HD.out.2.1).2.2.2.2.1
  have p0 := (blk5 HD.out.2.1).2.2.2.2.2.1
  have p1 := (blk5 HD.out.2.1).2.2.2.2.2.2.1
  have p2 := (blk5 HD.out.2.1).2.2.2.2.2.2.2.1
  have p3 := (blk5 HD.out.2.1).2.2.2.2.2.2.2.2.1
  have p4 := (blk5 HD.out.2.1).2.2.2.2.2.2.2.2.2
  have v0 := (blk5 HD.out.2.2.1).1
  have v1 := (blk5 HD.out.2.2.1).2.1
  have v2 := (blk5 HD.out.2.2.1).2.2.1
  have v3 := (blk5 HD.out.2.2.1).2.2.2.1
  have v4 := (blk5 HD.out.2.2.1).2.2.2.2.1
  have s0 := (blk5 HD.out.2.2.1).2.2.2.2.2.1
  have s1 := (blk5 HD.out.2.2.1).2.2.2.2.2.2.1
  have s2 := (blk5 HD.out.2.2.1).2.2.2.2.2.2.2.1
  have s3 := (blk5 HD.out.2.2.1).2.2.2.2.2.2.2.2.1
  have s4 := (blk5 HD.out.2.2.1).2.2.2.2.2.2.2.2.2
  have hn1 : ¬ w.heap.size = A := by omega
  have hn2 : ¬ A = w.heap.size := by omega
  have hn3 : ¬ w.heap.size + 1 = A := by omega
  have hn4 : ¬ A = w.heap.size + 1 := by omega
  have hn5 : ¬ w.heap.size + 1 + 1 = A := by omega
  have hn6 : ¬ A = w.heap.size + 1 + 1 := by omega
  have qz : (x == 0) = false := by have h := Hqz.out; rw [HX.out] at h; exact h
  repeat (fail_if_success (with_reducible refine stop_pos "ref.go:173" rfl ?_)
          first | go_values | go_skip | go_guarded | go_step | go_upon | go_quiet (fail) | (simp only [Int.not_lt, Int.not_le] at *; go_simp) | (go_values <;> (try go_simp)) | (go_ite <;> go_prune <;> (try go_simp)))
  refine gen_world (fun wx => wx.heap[w.heap.size]? = some (.cells #[.int .u32 (u32 (t.g + 1)), .slice a t.ks.length cap, .int .i64 t.h, .int .i64 t.ty, .bool oap] 25) ∧ wx.heap[w.heap.size + 1]? = some (.cells #[.int .i64 ac, .int .i64 oty, .int .u64 key, .int .u64 other, .bool oap] 43) ∧ wx.heap[w.heap.size + 1 + 1]? = some (.cells #[.int .u32 0, .slice none 0 0, .int .i64 0, .int .i64 0, .bool false] 25) ∧ wx.heap[A]? = some (.cells (K.map (Value.int .u64)).toArray 57) ∧ Below w.heap.size w wx) ?_ ?_
  · refine ⟨?_, ?_, ?_, ?_, ?_⟩
    · rw [set_blk (set_blk (show (World.drewN w2 _).heap[w.heap.size]? = _ from HD.out.1) _) _]
      simp [u32]
    · exact heap_set_ne (by omega) (heap_set_ne (by omega) HD.out.2.1)
    · exact heap_set_ne (by omega) (heap_set_ne (by omega) HD.out.2.2.1)
    · exact heap_set_ne hn1 (heap_set_ne hn1 HD.out.2.2.2.1)
    · have hbw := HD.out.2.2.2.2
      repeat (first | with_reducible assumption | (with_reducible refine Below.setCell ?_ (by first | omega | (simp; done) | (simp; omega)) _) | (with_reducible refine Below.alloc ?_ (by first | omega | (simp; done) | (simp; omega)) _) | (with_reducible refine Below.drew ?_) | (with_reducible refine below_dN ?_ _) | with_reducible exact Below.refl _ _ | (with_reducible refine Below.trans ?_ (Below.mono (by assumption) (by first | omega | (simp; done) | (simp; omega)))))
  intro w3 hw3
  have H3 := Lib.hid hw3
  clear hw3
  clear z0 z1 z2 z3 z4 y0 y1 y2 y3 y4 o0 o1 o2 o3 o4 p0 p1 p2 p3 p4 v0 v1 v2 v3 v4 s0 s1 s2 s3 s4
  clear fk fz
  have z0 := (blk5 H3.out.1).1
  have z1 := (blk5 H3.out.1).2.1
  have z2 := (blk5 H3.out.1).2.2.1
  have z3 := (blk5 H3.out.1).2.2.2.1
  have z4 := (blk5 H3.out.1).2.2.2.2.1
  have y0 := (blk5 H3.out.1).2.2.2.2.2.1
  have y1 := (blk5 H3.out.1).2.2.2.2.2.2.1
  have y2 := (blk5 H3.out.1).2.2.2.2.2.2.2.1
  have y3 := (blk5 H3.out.1).2.2.2.2.2.2.2.2.1
  have y4 := (blk5 H3.out.1).2.2.2.2.2.2.2.2.2
  have o0 := (blk5 H3.out.2.1).1
  have o1 := (blk5 H3.out.2.1).2.1
  have o2 := (blk5 H3.out.2.1).2.2.1
  have o3 := (blk5 H3.out.2.1).2.2.2.1
  have o4 := (blk5 H3.out.2.1).2.2.2.2.1
  have p0 := (blk5 H3.out.2.1).2.2.2.2.2.1
  have p1 := (blk5 H3.out.2.1).2.2.2.2.2.2.1
  have p2 := (blk5 H3.out.2.1).2.2.2.2.2.2.2.1
  have p3 := (blk5 H3.out.2.1).2.2.2.2.2.2.2.2.1
  have p4 := (blk5 H3.out.2.1).2.2.2.2.2.2.2.2.2
  have v0 := (blk5 H3.out.2.2.1).1
  have v1 := (blk5 H3.out.2.2.1).2.1
  have v2 := (blk5 H3.out.2.2.1).2.2.1
  have v3 := (blk5 H3.out.2.2.1).2.2.2.1
  have v4 := (blk5 H3.out.2.2.1).2.2.2.2.1
  have s0 := (blk5 H3.out.2.2.1).2.2.2.2.2.1
  have s1 := (blk5 H3.out.2.2.1).2.2.2.2.2.2.1
  have s2 := (blk5 H3.out.2.2.1).2.2.2.2.2.2.2.1
  have s3 := (blk5 H3.out.2.2.1).2.2.2.2.2.2.2.2.1
  have s4 := (blk5 H3.out.2.2.1).2.2.2.2.2.2.2.2.2
  have hsz3 := H3.out.2.2.2.2.size
  have hA3 := (Array.getElem?_eq_some_iff.1 H3.out.2.2.2.1).1
  repeat (fail_if_success (with_reducible refine stop_pos "ref.go:175" rfl ?_)
          first | go_values | go_skip | go_guarded | go_step | go_upon | go_quiet (fail) | (simp only [Int.not_lt, Int.not_le] at *; go_simp) | (go_values <;> (try go_simp)) | (go_ite <;> go_prune <;> (try go_simp)))
  refine gen_world (fun wx => wx.heap[w.heap.size]? = some (.cells #[.int .u32 (u32 (t.g + 1)), .slice a t.ks.length cap, .int .i64 t.h, .int .i64 t.ty, .bool oap] 25) ∧ wx.heap[w.heap.size + 1 + 1]? = some (.cells #[.int .u32 0, .slice none 0 0, .int .i64 0, .int .i64 0, .bool false] 25) ∧ wx.heap[w3.heap.size]? = some (.cells ((oneB n).map Value.bool).toArray 71) ∧ Below w.heap.size w wx) ?_ ?_
  · refine ⟨?_, ?_, ?_, ?_⟩
    · exact (heap_alloc_old w3 _ (by omega)).trans H3.out.1
    · exact (heap_alloc_old w3 _ (by omega)).trans H3.out.2.2.1
    · rw [show (oneB n).map Value.bool = [Value.bool false, Value.bool false, Value.bool false, Value.bool false, Value.bool false, Value.bool false, Value.bool false, Value.bool false].set n.toNat (.bool true) by unfold oneB; rw [List.map_set]; rfl]
      exact heap_alloc_new w3 _
    · have hbw := H3.out.2.2.2.2
      repeat (first | with_reducible assumption | (with_reducible refine Below.setCell ?_ (by first | omega | (simp; done) | (simp; omega)) _) | (with_reducible refine Below.alloc ?_ (by first | omega | (simp; done) | (simp; omega)) _) | (with_reducible refine Below.drew ?_) | (with_reducible refine below_dN ?_ _) | with_reducible exact Below.refl _ _ | (with_reducible refine Below.trans ?_ (Below.mono (by assumption) (by first | omega | (simp; done) | (simp; omega)))))
  clear z0 z1 z2 z3 z4 y0 y1 y2 y3 y4 o0 o1 o2 o3 o4 p0 p1 p2 p3 p4 v0 v1 v2 v3 v4 s0 s1 s2 s3 s4
  intro w4 hw4
  have H4 := Lib.hid hw4
  clear hw4
  have hsz4 := (Array.getElem?_eq_some_iff.1 H4.out.2.2.1).1
  obtain ⟨b0, b1, b2, b3, b4, b5, b6, b7, hbb⟩ := list8b (oneB n) (oneB_len n)
  have HBB := Lib.hid hbb
  have e4 := H4.out.2.2.1
  rw [hbb] at e4
  clear hbb
  simp only [List.map_cons, List.map_nil] at e4
  have z0 := (blk5 H4.out.1).1
  have z1 := (blk5 H4.out.1).2.1
  have z2 := (blk5 H4.out.1).2.2.1
  have z3 := (blk5 H4.out.1).2.2.2.1
  have z4 := (blk5 H4.out.1).2.2.2.2.1
  have y0 := (blk5 H4.out.1).2.2.2.2.2.1
  have y1 := (blk5 H4.out.1).2.2.2.2.2.2.1
  have y2 := (blk5 H4.out.1).2.2.2.2.2.2.2.1
  have y3 := (blk5 H4.out.1).2.2.2.2.2.2.2.2.1
  have y4 := (blk5 H4.out.1).2.2.2.2.2.2.2.2.2
  have v0 := (blk5 H4.out.2.1).1
  have v1 := (blk5 H4.out.2.1).2.1
  have v2 := (blk5 H4.out.2.1).2.2.1
  have v3 := (blk5 H4.out.2.1).2.2.2.1
  have v4 := (blk5 H4.out.2.1).2.2.2.2.1
  have s0 := (blk5 H4.out.2.1).2.2.2.2.2.1
  have s1 := (blk5 H4.out.2.1).2.2.2.2.2.2.1
  have s2 := (blk5 H4.out.2.1).2.2.2.2.2.2.2.1
  have s3 := (blk5 H4.out.2.1).2.2.2.2.2.2.2.2.1
  have s4 := (blk5 H4.out.2.1).2.2.2.2.2.2.2.2.2
  have x0 := (blk8 e4).1
  have x1 := (blk8 e4).2.1
  have x2 := (blk8 e4).2.2.1
  have x3 := (blk8 e4).2.2.2.1
  have x4 := (blk8 e4).2.2.2.2.1
  have x5 := (blk8 e4).2.2.2.2.2.1
  have x6 := (blk8 e4).2.2.2.2.2.2.1
  have x7 := (blk8 e4).2.2.2.2.2.2.2.1
  have fz := (blk8 e4).2.2.2.2.2.2.2.2
  clear e4
  repeat (first | go_values | go_skip | go_guarded | go_step | go_upon | go_quiet (fail))
  refine (rremove_any ⟨u32 (t.g + 1), t.ks, t.h, t.ty, oap⟩ [b0, b1, b2, b3, b4, b5, b6, b7] n a cap w4 hlen rfl hh (HK.out.below H4.out.2.2.2)).mono ?_
  rintro e w5 ⟨vt, vi, rfl, ⟨a5, c5, rfl, hk5, hn5⟩, hi5, hb5⟩
  have HK5 := Lib.hid hk5
  have HN5 := Lib.hid hn5
  have HR : Hid (rregF t n ac key other oap = ((rremoveF ⟨u32 (t.g + 1), t.ks, t.h, t.ty, oap⟩ [b0, b1, b2, b3, b4, b5, b6, b7] n).1, 0, [])) := Lib.hid (by
    unfold rregF
    rw [HX.out, HBB.out]
    simp [q0, qz, qo])
  clear hk5 hn5 hi5
  generalize rremoveF ⟨u32 (t.g + 1), t.ks, t.h, t.ty, oap⟩ [b0, b1, b2, b3, b4, b5, b6, b7] n = R at HK5 HR ⊢
  have hsz5 := hb5.size
  have e2 := (hb5.block (w.heap.size + 1 + 1) (by omega)).trans H4.out.2.1
  have hl5 : w.heap.size + 1 + 1 < w5.heap.size := by omega
  have HB5 := Lib.hid (H4.out.2.2.2.trans (hb5.mono (by omega)))
  clear z0 z1 z2 z3 z4 y0 y1 y2 y3 y4 v0 v1 v2 v3 v4 s0 s1 s2 s3 s4 x0 x1 x2 x3 x4 x5 x6 x7
  have v0 := (blk5 e2).1
  have v1 := (blk5 e2).2.1
  have v2 := (blk5 e2).2.2.1
  have v3 := (blk5 e2).2.2.2.1
  have v4 := (blk5 e2).2.2.2.2.1
  have s0 := (blk5 e2).2.2.2.2.2.1
  have s1 := (blk5 e2).2.2.2.2.2.2.1
  have s2 := (blk5 e2).2.2.2.2.2.2.2.1
  have s3 := (blk5 e2).2.2.2.2.2.2.2.2.1
  have s4 := (blk5 e2).2.2.2.2.2.2.2.2.2
  have E2 := Lib.hid e2
  clear e2 hb5
  dsimp only
  repeat (first | go_values | go_skip | go_guarded | go_step | go_upon | go_quiet (fail))
  refine bodyPost_ret (v := .tuple #[.agg #[.int .u32 R.1.g, .slice a5 R.1.ks.length c5, .int .i64 R.1.h, .int .i64 R.1.ty, .bool R.1.ap], .int .i64 0, .slice none 0 0]) ?_ rfl ?_
  · simp only [results, Try.results37]
    go_simp
  · unfold ActPost
    rw [HR.out]
    have hbw := HB5.out
    refine ⟨a5, c5, none, 0, rfl, ?_, HN5.out, IntsIn.nil _ _, ?_⟩
    · exact keys_ret_alloc HK5.out E2.out
    · repeat (first | with_reducible assumption | (with_reducible refine Below.setCell ?_ (by first | omega | (simp; done) | (simp; omega)) _) | (with_reducible refine Below.alloc ?_ (by first | omega | (simp; done) | (simp; omega)) _) | (with_reducible refine Below.drew ?_) | (with_reducible refine below_dN ?_ _) | with_reducible exact Below.refl _ _ | (with_reducible refine Below.trans ?_ (Below.mono (by assumption) (by first | omega | (simp; done) | (simp; omega)))))
end Go.Proofs.Ytopakonpfbbldaa
namespace Go.Proofs.Ytopakonpfbbldaa
open Go.RowKit

set_option maxRecDepth 100000 in
set_option maxHeartbeats 4000000 in
theorem rreg_e00 (t : Tab) (n ac oty key other : Int) (oap : Bool) (a : Option Addr) (cap : Nat) (w : World) (hlen : t.ks.length ≤ 9223372036854775807) (h0 : 0 ≤ n) (h8 : n < 8) (hh : t.h < 8)
   (hk : KeysIn w a t.ks) (hn : a = none → cap = 0) (q0 : (ac == 0) = true) (qn : (key != (keysF t.ks).getD n.toNat 0) = false) (qz : ((keysF t.ks).getD n.toNat 0 == 0) = false) (qo : (other == 0) = false) :
    Calls Try.prog 37 #[.agg #[.int .u32 t.g, .slice a t.ks.length cap, .int .i64 t.h, .int .i64 t.ty, .bool t.ap], .int .i64 n, .agg #[.int .i64 ac, .int .i64 oty, .int .u64 key, .int .u64 other, .bool oap]] w (ActPost (rregF t n ac key other oap) w) := by
  have Hqn := Lib.hid qn; clear qn
  have Hqz := Lib.hid qz; clear qz
  have HK := Lib.hid hk; clear hk
  have HN := Lib.hid hn; clear hn
  go_enter Try.func37, Try.ntmps37
  go_wp2_with fail
  obtain ⟨b0, b1, b2⟩ := heap3 w (.cells #[.int .u32 t.g, .slice a t.ks.length cap, .int .i64 t.h, .int .i64 t.ty, .bool t.ap] 25) (.cells #[.int .i64 ac, .int .i64 oty, .int .u64 key, .int .u64 other, .bool oap] 43) (.cells #[.int .u32 0, .slice none 0 0, .int .i64 0, .int .i64 0, .bool false] 25)
  refine (keys_any _ _ _ _ _ _ _ _ hlen (HK.out.below (by repeat (first | with_reducible assumption | (with_reducible refine Below.setCell ?_ (by first | omega | (simp; done) | (simp; omega)) _) | (with_reducible refine Below.alloc ?_ (by first | omega | (simp; done) | (simp; omega)) _) | (with_reducible refine Below.drew ?_) | (with_reducible refine below_dN ?_ _) | with_reducible exact Below.refl _ _ | (with_reducible refine Below.trans ?_ (Below.mono (by assumption) (by first | omega | (simp; done) | (simp; omega)))))))).mono ?_
  rintro e w1 ⟨rfl, hb⟩
  have hz1 := hb.size
  simp only [World.size_alloc] at hz1
  have c0 := (hb.block _ (by first | (simp; done) | (simp; omega))).trans b0
  have c1 := (hb.block _ (by first | (simp; done) | (simp; omega))).trans b1
  have c2 := (hb.block _ (by first | (simp; done) | (simp; omega))).trans b2
  have hbw : Below w.heap.size w w1 := by repeat (first | with_reducible assumption | (with_reducible refine Below.setCell ?_ (by first | omega | (simp; done) | (simp; omega)) _) | (with_reducible refine Below.alloc ?_ (by first | omega | (simp; done) | (simp; omega)) _) | (with_reducible refine Below.drew ?_) | (with_reducible refine below_dN ?_ _) | with_reducible exact Below.refl _ _ | (with_reducible refine Below.trans ?_ (Below.mono (by assumption) (by first | omega | (simp; done) | (simp; omega)))))
  clear b0 b1 b2 hb
  obtain ⟨k0, k1, k2, k3, k4, k5, k6, k7, hl8⟩ := list8 (keysF t.ks) (keysF_length t.ks)
  unfold arr8
  rw [hl8]
  simp only [List.map_cons, List.map_nil]
  try dsimp only
  repeat (fail_if_success (with_reducible refine stop_pos "ref.go:161" rfl ?_)
          first | go_values | go_skip | go_guarded | go_step | go_upon)
  have d3 := heap_alloc_new w1 (.cells #[.int .u64 k0, .int .u64 k1, .int .u64 k2, .int .u64 k3, .int .u64 k4, .int .u64 k5, .int .u64 k6, .int .u64 k7] 57)
  have d0 := (heap_alloc_old w1 (.cells #[.int .u64 k0, .int .u64 k1, .int .u64 k2, .int .u64 k3, .int .u64 k4, .int .u64 k5, .int .u64 k6, .int .u64 k7] 57) (r := w.heap.size) (by omega)).trans c0
  have d1 := (heap_alloc_old w1 (.cells #[.int .u64 k0, .int .u64 k1, .int .u64 k2, .int .u64 k3, .int .u64 k4, .int .u64 k5, .int .u64 k6, .int .u64 k7] 57) (r := w.heap.size + 1) (by omega)).trans c1
  have d2 := (heap_alloc_old w1 (.cells #[.int .u64 k0, .int .u64 k1, .int .u64 k2, .int .u64 k3, .int .u64 k4, .int .u64 k5, .int .u64 k6, .int .u64 k7] 57) (r := w.heap.size + 1 + 1) (by omega)).trans c2
  have hd3 : (w1.alloc (.cells #[.int .u64 k0, .int .u64 k1, .int .u64 k2, .int .u64 k3, .int .u64 k4, .int .u64 k5, .int .u64 k6, .int .u64 k7] 57)).heap[w1.heap.size]? = some (.cells ((keysF t.ks).map (Value.int .u64)).toArray 57) := by rw [d3, hl8]; rfl
  have hbw2 : Below w.heap.size w (w1.alloc (.cells #[.int .u64 k0, .int .u64 k1, .int .u64 k2, .int .u64 k3, .int .u64 k4, .int .u64 k5, .int .u64 k6, .int .u64 k7] 57)) := by repeat (first | with_reducible assumption | (with_reducible refine Below.setCell ?_ (by first | omega | (simp; done) | (simp; omega)) _) | (with_reducible refine Below.alloc ?_ (by first | omega | (simp; done) | (simp; omega)) _) | (with_reducible refine Below.drew ?_) | (with_reducible refine below_dN ?_ _) | with_reducible exact Below.refl _ _ | (with_reducible refine Below.trans ?_ (Below.mono (by assumption) (by first | omega | (simp; done) | (simp; omega)))))
  have hsz2 : w1.heap.size + 1 = (w1.alloc (.cells #[.int .u64 k0, .int .u64 k1, .int .u64 k2, .int .u64 k3, .int .u64 k4, .int .u64 k5, .int .u64 k6, .int .u64 k7] 57)).heap.size := by simp
  generalize w1.alloc (.cells #[.int .u64 k0, .int .u64 k1, .int .u64 k2, .int .u64 k3, .int .u64 k4, .int .u64 k5, .int .u64 k6, .int .u64 k7] 57) = w2 at d0 d1 d2 hd3 hbw2 hsz2 ⊢
  generalize w1.heap.size = A at hz1 hd3 hsz2 ⊢
  clear d3 c0 c1 c2 hbw hl8
  have HKL := Lib.hid (keysF_length t.ks)
  obtain ⟨K, hK⟩ : ∃ x, x = keysF t.ks := ⟨_, rfl⟩
  have HKK := Lib.hid hK
  rw [← hK] at hd3
  have HKL : Hid (K.length = 8) := Lib.hid (by rw [hK]; exact HKL.out)
  clear hK
  have HD := Lib.hid (And.intro d0 (And.intro d1 (And.intro d2 (And.intro hd3 hbw2))))
  obtain ⟨fk, fz⟩ := arr_cell hd3 n.toNat (by rw [HKL.out]; omega)
  clear d0 d1 d2 hd3 hbw2
  generalize hx : K.getD n.toNat 0 = x at fk
  have HX : Hid ((keysF t.ks).getD n.toNat 0 = x) := Lib.hid (by rw [← HKK.out]; exact hx)
  clear hx
  have z0 := (blk5 HD.out.1).1
  have z1 := (blk5 HD.out.1).2.1
  have z2 := (blk5 HD.out.1).2.2.1
  have z3 := (blk5 HD.out.1).2.2.2.1
  have z4 := (blk5 HD.out.1).2.2.2.2.1
  have y0 := (blk5 HD.out.1).2.2.2.2.2.1
  have y1 := (blk5 HD.out.1).2.2.2.2.2.2.1
  have y2 := (blk5 HD.out.1).2.2.2.2.2.2.2.1
  have y3 := (blk5 HD.out.1).2.2.2.2.2.2.2.2.1
  have y4 := (blk5 HD.out.1).2.2.2.2.2.2.2.2.2
  have o0 := (blk5 HD.out.2.1).1
  have o1 := (blk5 HD.out.2.1).2.1
  have o2 := (blk5 HD.out.2.1).2.2.1
  have o3 := (blk5 HD.out.2.1).2.2.2.1
  have o4 := (blk5 HD.out.2.1).2.2.2.2.1
  have p0 := (blk5 HD.out.2.1).2.2.2.2.2.1
  have p1 := (blk5 HD.out.2.1).2.2.2.2.2.2.1
  have p2 := (blk5 HD.out.2.1).2.2.2.2.2.2.2.1
  have p3 := (blk5 HD.out.2.1).2.2.2.2.2.2.2.2.1
  have p4 := (blk5 HD.out.2.1).2.2.2.2.2.2.2.2.2
  have v0 := (blk5 HD.out.2.2.1).1
  have v1 := (blk5 HD.out.2.2.1).2.1
  have v2 := (blk5 HD.out.2.2.1).2.2.1
  have v3 := (blk5 HD.out.2.2.1).2.2.2.1
  have v4 := (blk5 HD.out.2.2.1).2.2.2.2.1
  have s0 := (blk5 HD.out.2.2.1).2.2.2.2.2.1
  have s1 := (blk5 HD.out.2.2.1).2.2.2.2.2.2.1
  have s2 := (blk5 HD.out.2.2.1).2.2.2.2.2.2.2.1
  have s3 := (blk5 HD.out.2.2.1).2.2.2.2.2.2.2.2.1
  have s4 := (blk5 HD.out.2.2.1).2.2.2.2.2.2.2.2.2
  have hn1 : ¬ w.heap.size = A := by omega
  have hn2 : ¬ A = w.heap.size := by omega
  have hn3 : ¬ w.heap.size + 1 = A := by omega
  have hn4 : ¬ A = w.heap.size + 1 := by omega
  have hn5 : ¬ w.heap.size + 1 + 1 = A := by omega
  have hn6 : ¬ A = w.heap.size + 1 + 1 := by omega
  have qn : (key != x) = false := by have h := Hqn.out; rw [HX.out] at h; exact h
  have qz : (x == 0) = false := by have h := Hqz.out; rw [HX.out] at h; exact h
  repeat (fail_if_success (with_reducible refine stop_pos "ref.go:178" rfl ?_)
          first | go_values | go_skip | go_guarded | go_step | go_upon | go_quiet (fail) | (simp only [Int.not_lt, Int.not_le] at *; go_simp) | (go_values <;> (try go_simp)) | (go_ite <;> go_prune <;> (try go_simp)))
  refine gen_world (fun wx => wx.heap[w.heap.size]? = some (.cells #[.int .u32 (u32 (t.g + 1)), .slice a t.ks.length cap, .int .i64 t.h, .int .i64 t.ty, .bool oap] 25) ∧ wx.heap[w.heap.size + 1]? = some (.cells #[.int .i64 ac, .int .i64 oty, .int .u64 key, .int .u64 other, .bool oap] 43) ∧ wx.heap[w.heap.size + 1 + 1]? = some (.cells #[.int .u32 0, .slice none 0 0, .int .i64 0, .int .i64 0, .bool false] 25) ∧ wx.heap[A]? = some (.cells (K.map (Value.int .u64)).toArray 57) ∧ Below w.heap.size w wx) ?_ ?_
  · refine ⟨?_, ?_, ?_, ?_, ?_⟩
    · rw [set_blk (set_blk (show (World.drewN w2 _).heap[w.heap.size]? = _ from HD.out.1) _) _]
      simp [u32]
    · exact heap_set_ne (by omega) (heap_set_ne (by omega) HD.out.2.1)
    · exact heap_set_ne (by omega) (heap_set_ne (by omega) HD.out.2.2.1)
    · exact heap_set_ne hn1 (heap_set_ne hn1 HD.out.2.2.2.1)
    · have hbw := HD.out.2.2.2.2
      repeat (first | with_reducible assumption | (with_reducible refine Below.setCell ?_ (by first | omega | (simp; done) | (simp; omega)) _) | (with_reducible refine Below.alloc ?_ (by first | omega | (simp; done) | (simp; omega)) _) | (with_reducible refine Below.drew ?_) | (with_reducible refine below_dN ?_ _) | with_reducible exact Below.refl _ _ | (with_reducible refine Below.trans ?_ (Below.mono (by assumption) (by first | omega | (simp; done) | (simp; omega)))))
  intro w3 hw3
  have H3 := Lib.hid hw3
  clear hw3
  clear z0 z1 z2 z3 z4 y0 y1 y2 y3 y4 o0 o1 o2 o3 o4 p0 p1 p2 p3 p4 v0 v1 v2 v3 v4 s0 s1 s2 s3 s4
  clear fk fz
  have z0 := (blk5 H3.out.1).1
  have z1 := (blk5 H3.out.1).2.1
  have z2 := (blk5 H3.out.1).2.2.1
  have z3 := (blk5 H3.out.1).2.2.2.1
  have z4 := (blk5 H3.out.1).2.2.2.2.1
  have y0 := (blk5 H3.out.1).2.2.2.2.2.1
  have y1 := (blk5 H3.out.1).2.2.2.2.2.2.1
  have y2 := (blk5 H3.out.1).2.2.2.2.2.2.2.1
  have y3 := (blk5 H3.out.1).2.2.2.2.2.2.2.2.1
  have y4 := (blk5 H3.out.1).2.2.2.2.2.2.2.2.2
  have o0 := (blk5 H3.out.2.1).1
  have o1 := (blk5 H3.out.2.1).2.1
  have o2 := (blk5 H3.out.2.1).2.2.1
  have o3 := (blk5 H3.out.2.1).2.2.2.1
  have o4 := (blk5 H3.out.2.1).2.2.2.2.1
  have p0 := (blk5 H3.out.2.1).2.2.2.2.2.1
  have p1 := (blk5 H3.out.2.1).2.2.2.2.2.2.1
  have p2 := (blk5 H3.out.2.1).2.2.2.2.2.2.2.1
  have p3 := (blk5 H3.out.2.1).2.2.2.2.2.2.2.2.1
  have p4 := (blk5 H3.out.2.1).2.2.2.2.2.2.2.2.2
  have v0 := (blk5 H3.out.2.2.1).1
  have v1 := (blk5 H3.out.2.2.1).2.1
  have v2 := (blk5 H3.out.2.2.1).2.2.1
  have v3 := (blk5 H3.out.2.2.1).2.2.2.1
  have v4 := (blk5 H3.out.2.2.1).2.2.2.2.1
  have s0 := (blk5 H3.out.2.2.1).2.2.2.2.2.1
  have s1 := (blk5 H3.out.2.2.1).2.2.2.2.2.2.1
  have s2 := (blk5 H3.out.2.2.1).2.2.2.2.2.2.2.1
  have s3 := (blk5 H3.out.2.2.1).2.2.2.2.2.2.2.2.1
  have s4 := (blk5 H3.out.2.2.1).2.2.2.2.2.2.2.2.2
  have hsz3 := H3.out.2.2.2.2.size
  have hA3 := (Array.getElem?_eq_some_iff.1 H3.out.2.2.2.1).1
  obtain ⟨fk, fz⟩ := arr_cell H3.out.2.2.2.1 n.toNat (by rw [HKL.out]; omega)
  repeat (fail_if_success (with_reducible refine stop_pos "ref.go:179" rfl ?_)
          first | go_values | go_skip | go_guarded | go_step | go_upon | go_quiet (fail) | (simp only [Int.not_lt, Int.not_le] at *; go_simp) | (go_values <;> (try go_simp)) | (go_ite <;> go_prune <;> (try go_simp)))
  refine gen_world (fun wx => wx.heap[w.heap.size]? = some (.cells #[.int .u32 (u32 (t.g + 1)), .slice a t.ks.length cap, .int .i64 t.h, .int .i64 t.ty, .bool oap] 25) ∧ wx.heap[w.heap.size + 1 + 1]? = some (.cells #[.int .u32 0, .slice none 0 0, .int .i64 0, .int .i64 0, .bool false] 25) ∧ wx.heap[A]? = some (.cells ((K.set n.toNat other).map (Value.int .u64)).toArray 57) ∧ Below w.heap.size w wx) ?_ ?_
  · refine ⟨?_, ?_, ?_, ?_⟩
    · exact heap_set_ne (by omega) H3.out.1
    · exact heap_set_ne (by omega) H3.out.2.2.1
    · exact arr_set H3.out.2.2.2.1 n.toNat other
    · have hbw := H3.out.2.2.2.2
      repeat (first | with_reducible assumption | (with_reducible refine Below.setCell ?_ (by first | omega | (simp; done) | (simp; omega)) _) | (with_reducible refine Below.alloc ?_ (by first | omega | (simp; done) | (simp; omega)) _) | (with_reducible refine Below.drew ?_) | (with_reducible refine below_dN ?_ _) | with_reducible exact Below.refl _ _ | (with_reducible refine Below.trans ?_ (Below.mono (by assumption) (by first | omega | (simp; done) | (simp; omega)))))
  clear z0 z1 z2 z3 z4 y0 y1 y2 y3 y4 o0 o1 o2 o3 o4 p0 p1 p2 p3 p4 v0 v1 v2 v3 v4 s0 s1 s2 s3 s4
  intro w4 hw4
  have H4 := Lib.hid hw4
  clear hw4 fk fz
  have hsz4 := (Array.getElem?_eq_some_iff.1 H4.out.2.2.1).1
  obtain ⟨m0, m1, m2, m3, m4, m5, m6, m7, hmm⟩ := list8 (K.set n.toNat other) (by rw [List.length_set]; exact HKL.out)
  have HMM := Lib.hid hmm
  have e4 := H4.out.2.2.1
  rw [hmm] at e4
  clear hmm
  simp only [List.map_cons, List.map_nil] at e4
  have z0 := (blk5 H4.out.1).1
  have z1 := (blk5 H4.out.1).2.1
  have z2 := (blk5 H4.out.1).2.2.1
  have z3 := (blk5 H4.out.1).2.2.2.1
  have z4 := (blk5 H4.out.1).2.2.2.2.1
  have y0 := (blk5 H4.out.1).2.2.2.2.2.1
  have y1 := (blk5 H4.out.1).2.2.2.2.2.2.1
  have y2 := (blk5 H4.out.1).2.2.2.2.2.2.2.1
  have y3 := (blk5 H4.out.1).2.2.2.2.2.2.2.2.1
  have y4 := (blk5 H4.out.1).2.2.2.2.2.2.2.2.2
  have v0 := (blk5 H4.out.2.1).1
  have v1 := (blk5 H4.out.2.1).2.1
  have v2 := (blk5 H4.out.2.1).2.2.1
  have v3 := (blk5 H4.out.2.1).2.2.2.1
  have v4 := (blk5 H4.out.2.1).2.2.2.2.1
  have s0 := (blk5 H4.out.2.1).2.2.2.2.2.1
  have s1 := (blk5 H4.out.2.1).2.2.2.2.2.2.1
  have s2 := (blk5 H4.out.2.1).2.2.2.2.2.2.2.1
  have s3 := (blk5 H4.out.2.1).2.2.2.2.2.2.2.2.1
  have s4 := (blk5 H4.out.2.1).2.2.2.2.2.2.2.2.2
  have x0 := (blk8 e4).1
  have x1 := (blk8 e4).2.1
  have x2 := (blk8 e4).2.2.1
  have x3 := (blk8 e4).2.2.2.1
  have x4 := (blk8 e4).2.2.2.2.1
  have x5 := (blk8 e4).2.2.2.2.2.1
  have x6 := (blk8 e4).2.2.2.2.2.2.1
  have x7 := (blk8 e4).2.2.2.2.2.2.2.1
  have fz := (blk8 e4).2.2.2.2.2.2.2.2
  clear e4
  repeat (first | go_values | go_skip | go_guarded | go_step | go_upon | go_quiet (fail))
  refine (rput_any (u32 (t.g + 1)) t.h t.ty oap (.slice a t.ks.length cap) [m0, m1, m2, m3, m4, m5, m6, m7] w4 rfl).mono ?_
  rintro e w5 ⟨⟨a5, c5, rfl, ho5⟩, hb5⟩
  have HK5 := Lib.hid (KeysIn.of_own ho5)
  have HN5 := Lib.hid (row_none ho5)
  clear ho5
  have HR : Hid (rregF t n ac key other oap = (⟨u32 (t.g + 1), regsF 0 [m0, m1, m2, m3, m4, m5, m6, m7], t.h, t.ty, oap⟩, 0, [])) := Lib.hid (by
    unfold rregF
    rw [HX.out, ← HKK.out, HMM.out]
    simp [q0, qn, qz, qo])
  generalize regsF 0 [m0, m1, m2, m3, m4, m5, m6, m7] = L at HK5 HN5 HR ⊢
  have hsz5 := hb5.size
  have e2 := (hb5.block (w.heap.size + 1 + 1) (by omega)).trans H4.out.2.1
  have hl5 : w.heap.size + 1 + 1 < w5.heap.size := by omega
  have HB5 := Lib.hid (H4.out.2.2.2.trans (hb5.mono (by omega)))
  clear z0 z1 z2 z3 z4 y0 y1 y2 y3 y4 v0 v1 v2 v3 v4 s0 s1 s2 s3 s4 x0 x1 x2 x3 x4 x5 x6 x7
  have v0 := (blk5 e2).1
  have v1 := (blk5 e2).2.1
  have v2 := (blk5 e2).2.2.1
  have v3 := (blk5 e2).2.2.2.1
  have v4 := (blk5 e2).2.2.2.2.1
  have s0 := (blk5 e2).2.2.2.2.2.1
  have s1 := (blk5 e2).2.2.2.2.2.2.1
  have s2 := (blk5 e2).2.2.2.2.2.2.2.1
  have s3 := (blk5 e2).2.2.2.2.2.2.2.2.1
  have s4 := (blk5 e2).2.2.2.2.2.2.2.2.2
  have E2 := Lib.hid e2
  clear e2 hb5
  dsimp only
  repeat (first | go_values | go_skip | go_guarded | go_step | go_upon | go_quiet (fail))
  refine bodyPost_ret (v := .tuple #[.agg #[.int .u32 (u32 (t.g + 1)), .slice a5 L.length c5, .int .i64 t.h, .int .i64 t.ty, .bool oap], .int .i64 0, .slice none 0 0]) ?_ rfl ?_
  · simp only [results, Try.results37]
    go_simp
  · unfold ActPost
    rw [HR.out]
    have hbw := HB5.out
    refine ⟨a5, c5, none, 0, rfl, ?_, HN5.out, IntsIn.nil _ _, ?_⟩
    · exact keys_ret HK5.out E2.out
    · repeat (first | with_reducible assumption | (with_reducible refine Below.setCell ?_ (by first | omega | (simp; done) | (simp; omega)) _) | (with_reducible refine Below.alloc ?_ (by first | omega | (simp; done) | (simp; omega)) _) | (with_reducible refine Below.drew ?_) | (with_reducible refine below_dN ?_ _) | with_reducible exact Below.refl _ _ | (with_reducible refine Below.trans ?_ (Below.mono (by assumption) (by first | omega | (simp; done) | (simp; omega)))))
set_option maxRecDepth 100000 in
set_option maxHeartbeats 4000000 in
theorem rreg_e01 (t : Tab) (n ac oty key other : Int) (oap : Bool) (a : Option Addr) (cap : Nat) (w : World) (hlen : t.ks.length ≤ 9223372036854775807) (h0 : 0 ≤ n) (h8 : n < 8) (hh : t.h < 8)
   (hk : KeysIn w a t.ks) (hn : a = none → cap = 0) (q0 : (ac == 0) = true) (qn : (key != (keysF t.ks).getD n.toNat 0) = false) (qz : ((keysF t.ks).getD n.toNat 0 == 0) = true) (qo : (other == 0) = false) (ql : ((t.ks.length : Int) == 6) = false) :
    Calls Try.prog 37 #[.agg #[.int .u32 t.g, .slice a t.ks.length cap, .int .i64 t.h, .int .i64 t.ty, .bool t.ap], .int .i64 n, .agg #[.int .i64 ac, .int .i64 oty, .int .u64 key, .int .u64 other, .bool oap]] w (ActPost (rregF t n ac key other oap) w) := by
  have Hqn := Lib.hid qn; clear qn
  have Hqz := Lib.hid qz; clear qz
  have HK := Lib.hid hk; clear hk
  have HN := Lib.hid hn; clear hn
  go_enter Try.func37, Try.ntmps37
  go_wp2_with fail
  obtain ⟨b0, b1, b2⟩ := heap3 w (.cells #[.int .u32 t.g, .slice a t.ks.length cap, .int .i64 t.h, .int .i64 t.ty, .bool t.ap] 25) (.cells #[.int .i64 ac, .int .i64 oty, .int .u64 key, .int .u64 other, .bool oap] 43) (.cells #[.int .u32 0, .slice none 0 0, .int .i64 0, .int .i64 0, .bool false] 25)
  refine (keys_any _ _ _ _ _ _ _ _ hlen (HK.out.below (by repeat (first | with_reducible assumption | (with_reducible refine Below.setCell ?_ (by first | omega | (simp; done) | (simp; omega)) _) | (with_reducible refine Below.alloc ?_ (by first | omega | (simp; done) | (simp; omega)) _) | (with_reducible refine Below.drew ?_) | (with_reducible refine below_dN ?_ _) | with_reducible exact Below.refl _ _ | (with_reducible refine Below.trans ?_ (Below.mono (by assumption) (by first | omega | (simp; done) | (simp; omega)))))))).mono ?_
  rintro e w1 ⟨rfl, hb⟩
  have hz1 := hb.size
  simp only [World.size_alloc] at hz1
  have c0 := (hb.block _ (by first | (simp; done) | (simp; omega))).trans b0
  have c1 := (hb.block _ (by first | (simp; done) | (simp; omega))).trans b1
  have c2 := (hb.block _ (by first | (simp; done) | (simp; omega))).trans b2
  have hbw : Below w.heap.size w w1 := by repeat (first | with_reducible assumption | (with_reducible refine Below.setCell ?_ (by first | omega | (simp; done) | (simp; omega)) _) | (with_reducible refine Below.alloc ?_ (by first | omega | (simp; done) | (simp; omega)) _) | (with_reducible refine Below.drew ?_) | (with_reducible refine below_dN ?_ _) | with_reducible exact Below.refl _ _ | (with_reducible refine Below.trans ?_ (Below.mono (by assumption) (by first | omega | (simp; done) | (simp; omega)))))
  clear b0 b1 b2 hb
  obtain ⟨k0, k1, k2, k3, k4, k5, k6, k7, hl8⟩ := list8 (keysF t.ks) (keysF_length t.ks)
  unfold arr8
  rw [hl8]
  simp only [List.map_cons, List.map_nil]
  try dsimp only
  repeat (fail_if_success (with_reducible refine stop_pos "ref.go:161" rfl ?_)
          first | go_values | go_skip | go_guarded | go_step | go_upon)
  have d3 := heap_alloc_new w1 (.cells #[.int .u64 k0, .int .u64 k1, .int .u64 k2, .int .u64 k3, .int .u64 k4, .int .u64 k5, .int .u64 k6, .int .u64 k7] 57)
  have d0 := (heap_alloc_old w1 (.cells #[.int .u64 k0, .int .u64 k1, .int .u64 k2, .int .u64 k3, .int .u64 k4, .int .u64 k5, .int .u64 k6, .int .u64 k7] 57) (r := w.heap.size) (by omega)).trans c0
  have d1 := (heap_alloc_old w1 (.cells #[.int .u64 k0, .int .u64 k1, .int .u64 k2, .int .u64 k3, .int .u64 k4, .int .u64 k5, .int .u64 k6, .int .u64 k7] 57) (r := w.heap.size + 1) (by omega)).trans c1
  have d2 := (heap_alloc_old w1 (.cells #[.int .u64 k0, .int .u64 k1, .int .u64 k2, .int .u64 k3, .int .u64 k4, .int .u64 k5, .int .u64 k6, .int .u64 k7] 57) (r := w.heap.size + 1 + 1) (by omega)).trans c2
  have hd3 : (w1.alloc (.cells #[.int .u64 k0, .int .u64 k1, .int .u64 k2, .int .u64 k3, .int .u64 k4, .int .u64 k5, .int .u64 k6, .int .u64 k7] 57)).heap[w1.heap.size]? = some (.cells ((keysF t.ks).map (Value.int .u64)).toArray 57) := by rw [d3, hl8]; rfl
  have hbw2 : Below w.heap.size w (w1.alloc (.cells #[.int .u64 k0, .int .u64 k1, .int .u64 k2, .int .u64 k3, .int .u64 k4, .int .u64 k5, .int .u64 k6, .int .u64 k7] 57)) := by repeat (first | with_reducible assumption | (with_reducible refine Below.setCell ?_ (by first | omega | (simp; done) | (simp; omega)) _) | (with_reducible refine Below.alloc ?_ (by first | omega | (simp; done) | (simp; omega)) _) | (with_reducible refine Below.drew ?_) | (with_reducible refine below_dN ?_ _) | with_reducible exact Below.refl _ _ | (with_reducible refine Below.trans ?_ (Below.mono (by assumption) (by first | omega | (simp; done) | (simp; omega)))))
  have hsz2 : w1.heap.size + 1 = (w1.alloc (.cells #[.int .u64 k0, .int .u64 k1, .int .u64 k2, .int .u64 k3, .int .u64 k4, .int .u64 k5, .int .u64 k6, .int .u64 k7] 57)).heap.size := by simp
  generalize w1.alloc (.cells #[.int .u64 k0, .int .u64 k1, .int .u64 k2, .int .u64 k3, .int .u64 k4, .int .u64 k5, .int .u64 k6, .int .u64 k7] 57) = w2 at d0 d1 d2 hd3 hbw2 hsz2 ⊢
  generalize w1.heap.size = A at hz1 hd3 hsz2 ⊢
  clear d3 c0 c1 c2 hbw hl8
  have HKL := Lib.hid (keysF_length t.ks)
  obtain ⟨K, hK⟩ : ∃ x, x = keysF t.ks := ⟨_, rfl⟩
  have HKK := Lib.hid hK
  rw [← hK] at hd3
  have HKL : Hid (K.length = 8) := Lib.hid (by rw [hK]; exact HKL.out)
  clear hK
  have HD := Lib.hid (And.intro d0 (And.intro d1 (And.intro d2 (And.intro hd3 hbw2))))
  obtain ⟨fk, fz⟩ := arr_cell hd3 n.toNat (by rw [HKL.out]; omega)
  clear d0 d1 d2 hd3 hbw2
  generalize hx : K.getD n.toNat 0 = x at fk
  have HX : Hid ((keysF t.ks).getD n.toNat 0 = x) := Lib.hid (by rw [← HKK.out]; exact hx)
  clear hx
  have z0 := (blk5 HD.out.1).1
  have z1 := (blk5 HD.out.1).2.1
  have z2 := (blk5 HD.out.1).2.2.1
  have z3 := (blk5 HD.out.1).2.2.2.1
  have z4 := (blk5 HD.out.1).2.2.2.2.1
  have y0 := (blk5 HD.out.1).2.2.2.2.2.1
  have y1 := (blk5 HD.out.1).2.2.2.2.2.2.1
  have y2 := (blk5 HD.out.1).2.2.2.2.2.2.2.1
  have y3 := (blk5 HD.out.1).2.2.2.2.2.2.2.2.1
  have y4 := (blk5 HD.out.1).2.2.2.2.2.2.2.2.2
  have o0 := (blk5 HD.out.2.1).1
  have o1 := (blk5 HD.out.2.1).2.1
  have o2 := (blk5 HD.out.2.1).2.2.1
  have o3 := (blk5 HD.out.2.1).2.2.2.1
  have o4 := (blk5 HD.out.2.1).2.2.2.2.1
  have p0 := (blk5 HD.out.2.1).2.2.2.2.2.1
  have p1 := (blk5 HD.out.2.1).2.2.2.2.2.2.1
  have p2 := (blk5 HD.out.2.1).2.2.2.2.2.2.2.1
  have p3 := (blk5 HD.out.2.1).2.2.2.2.2.2.2.2.1
  have p4 := (blk5 HD.out.2.1).2.2.2.2.2.2.2.2.2
  have v0 := (blk5 HD.out.2.2.1).1
  have v1 := (blk5 HD.out.2.2.1).2.1
  have v2 := (blk5 HD.out.2.2.1).2.2.1
  have v3 := (blk5 HD.out.2.2.1).2.2.2.1
  have v4 := (blk5 HD.out.2.2.1).2.2.2.2.1
  have s0 := (blk5 HD.out.2.2.1).2.2.2.2.2.1
  have s1 := (blk5 HD.out.2.2.1).2.2.2.2.2.2.1
  have s2 := (blk5 HD.out.2.2.1).2.2.2.2.2.2.2.1
  have s3 := (blk5 HD.out.2.2.1).2.2.2.2.2.2.2.2.1
  have s4 := (blk5 HD.out.2.2.1).2.2.2.2.2.2.2.2.2
  have hn1 : ¬ w.heap.size = A := by omega
  have hn2 : ¬ A = w.heap.size := by omega
  have hn3 : ¬ w.heap.size + 1 = A := by omega
  have hn4 : ¬ A = w.heap.size + 1 := by omega
  have hn5 : ¬ w.heap.size + 1 + 1 = A := by omega
  have hn6 : ¬ A = w.heap.size + 1 + 1 := by omega
  have qn : (key != x) = false := by have h := Hqn.out; rw [HX.out] at h; exact h
  have qz : (x == 0) = true := by have h := Hqz.out; rw [HX.out] at h; exact h
  repeat (fail_if_success (with_reducible refine stop_pos "ref.go:178" rfl ?_)
          first | go_values | go_skip | go_guarded | go_step | go_upon | go_quiet (fail) | (simp only [Int.not_lt, Int.not_le] at *; go_simp) | (go_values <;> (try go_simp)) | (go_ite <;> go_prune <;> (try go_simp)))
  refine gen_world (fun wx => wx.heap[w.heap.size]? = some (.cells #[.int .u32 (u32 (t.g + 1)), .slice a t.ks.length cap, .int .i64 t.h, .int .i64 t.ty, .bool oap] 25) ∧ wx.heap[w.heap.size + 1]? = some (.cells #[.int .i64 ac, .int .i64 oty, .int .u64 key, .int .u64 other, .bool oap] 43) ∧ wx.heap[w.heap.size + 1 + 1]? = some (.cells #[.int .u32 0, .slice none 0 0, .int .i64 0, .int .i64 0, .bool false] 25) ∧ wx.heap[A]? = some (.cells (K.map (Value.int .u64)).toArray 57) ∧ Below w.heap.size w wx) ?_ ?_
  · refine ⟨?_, ?_, ?_, ?_, ?_⟩
    · rw [set_blk (set_blk (show (World.drewN w2 _).heap[w.heap.size]? = _ from HD.out.1) _) _]
      simp [u32]
    · exact heap_set_ne (by omega) (heap_set_ne (by omega) HD.out.2.1)
    · exact heap_set_ne (by omega) (heap_set_ne (by omega) HD.out.2.2.1)
    · exact heap_set_ne hn1 (heap_set_ne hn1 HD.out.2.2.2.1)
    · have hbw := HD.out.2.2.2.2
      repeat (first | with_reducible assumption | (with_reducible refine Below.setCell ?_ (by first | omega | (simp; done) | (simp; omega)) _) | (with_reducible refine Below.alloc ?_ (by first | omega | (simp; done) | (simp; omega)) _) | (with_reducible refine Below.drew ?_) | (with_reducible refine below_dN ?_ _) | with_reducible exact Below.refl _ _ | (with_reducible refine Below.trans ?_ (Below.mono (by assumption) (by first | omega | (simp; done) | (simp; omega)))))
  intro w3 hw3
  have H3 := Lib.hid hw3
  clear hw3
  clear z0 z1 z2 z3 z4 y0 y1 y2 y3 y4 o0 o1 o2 o3 o4 p0 p1 p2 p3 p4 v0 v1 v2 v3 v4 s0 s1 s2 s3 s4
  clear fk fz
  have z0 := (blk5 H3.out.1).1
  have z1 := (blk5 H3.out.1).2.1
  have z2 := (blk5 H3.out.1).2.2.1
  have z3 := (blk5 H3.out.1).2.2.2.1
  have z4 := (blk5 H3.out.1).2.2.2.2.1
  have y0 := (blk5 H3.out.1).2.2.2.2.2.1
  have y1 := (blk5 H3.out.1).2.2.2.2.2.2.1
  have y2 := (blk5 H3.out.1).2.2.2.2.2.2.2.1
  have y3 := (blk5 H3.out.1).2.2.2.2.2.2.2.2.1
  have y4 := (blk5 H3.out.1).2.2.2.2.2.2.2.2.2
  have o0 := (blk5 H3.out.2.1).1
  have o1 := (blk5 H3.out.2.1).2.1
  have o2 := (blk5 H3.out.2.1).2.2.1
  have o3 := (blk5 H3.out.2.1).2.2.2.1
  have o4 := (blk5 H3.out.2.1).2.2.2.2.1
  have p0 := (blk5 H3.out.2.1).2.2.2.2.2.1
  have p1 := (blk5 H3.out.2.1).2.2.2.2.2.2.1
  have p2 := (blk5 H3.out.2.1).2.2.2.2.2.2.2.1
  have p3 := (blk5 H3.out.2.1).2.2.2.2.2.2.2.2.1
  have p4 := (blk5 H3.out.2.1).2.2.2.2.2.2.2.2.2
  have v0 := (blk5 H3.out.2.2.1).1
  have v1 := (blk5 H3.out.2.2.1).2.1
  have v2 := (blk5 H3.out.2.2.1).2.2.1
  have v3 := (blk5 H3.out.2.2.1).2.2.2.1
  have v4 := (blk5 H3.out.2.2.1).2.2.2.2.1
  have s0 := (blk5 H3.out.2.2.1).2.2.2.2.2.1
  have s1 := (blk5 H3.out.2.2.1).2.2.2.2.2.2.1
  have s2 := (blk5 H3.out.2.2.1).2.2.2.2.2.2.2.1
  have s3 := (blk5 H3.out.2.2.1).2.2.2.2.2.2.2.2.1
  have s4 := (blk5 H3.out.2.2.1).2.2.2.2.2.2.2.2.2
  have hsz3 := H3.out.2.2.2.2.size
  have hA3 := (Array.getElem?_eq_some_iff.1 H3.out.2.2.2.1).1
  obtain ⟨fk, fz⟩ := arr_cell H3.out.2.2.2.1 n.toNat (by rw [HKL.out]; omega)
  repeat (fail_if_success (with_reducible refine stop_pos "ref.go:179" rfl ?_)
          first | go_values | go_skip | go_guarded | go_step | go_upon | go_quiet (fail) | (simp only [Int.not_lt, Int.not_le] at *; go_simp) | (go_values <;> (try go_simp)) | (go_ite <;> go_prune <;> (try go_simp)))
  refine gen_world (fun wx => wx.heap[w.heap.size]? = some (.cells #[.int .u32 (u32 (t.g + 1)), .slice a t.ks.length cap, .int .i64 t.h, .int .i64 t.ty, .bool oap] 25) ∧ wx.heap[w.heap.size + 1 + 1]? = some (.cells #[.int .u32 0, .slice none 0 0, .int .i64 0, .int .i64 0, .bool false] 25) ∧ wx.heap[A]? = some (.cells ((K.set n.toNat other).map (Value.int .u64)).toArray 57) ∧ Below w.heap.size w wx) ?_ ?_
  · refine ⟨?_, ?_, ?_, ?_⟩
    · exact heap_set_ne (by omega) H3.out.1
    · exact heap_set_ne (by omega) H3.out.2.2.1
    · exact arr_set H3.out.2.2.2.1 n.toNat other
    · have hbw := H3.out.2.2.2.2
      repeat (first | with_reducible assumption | (with_reducible refine Below.setCell ?_ (by first | omega | (simp; done) | (simp; omega)) _) | (with_reducible refine Below.alloc ?_ (by first | omega | (simp; done) | (simp; omega)) _) | (with_reducible refine Below.drew ?_) | (with_reducible refine below_dN ?_ _) | with_reducible exact Below.refl _ _ | (with_reducible refine Below.trans ?_ (Below.mono (by assumption) (by first | omega | (simp; done) | (simp; omega)))))
  clear z0 z1 z2 z3 z4 y0 y1 y2 y3 y4 o0 o1 o2 o3 o4 p0 p1 p2 p3 p4 v0 v1 v2 v3 v4 s0 s1 s2 s3 s4
  intro w4 hw4
  have H4 := Lib.hid hw4
  clear hw4 fk fz
  have hsz4 := (Array.getElem?_eq_some_iff.1 H4.out.2.2.1).1
  obtain ⟨m0, m1, m2, m3, m4, m5, m6, m7, hmm⟩ := list8 (K.set n.toNat other) (by rw [List.length_set]; exact HKL.out)
  have HMM := Lib.hid hmm
  have e4 := H4.out.2.2.1
  rw [hmm] at e4
  clear hmm
  simp only [List.map_cons, List.map_nil] at e4
  have z0 := (blk5 H4.out.1).1
  have z1 := (blk5 H4.out.1).2.1
  have z2 := (blk5 H4.out.1).2.2.1
  have z3 := (blk5 H4.out.1).2.2.2.1
  have z4 := (blk5 H4.out.1).2.2.2.2.1
  have y0 := (blk5 H4.out.1).2.2.2.2.2.1
  have y1 := (blk5 H4.out.1).2.2.2.2.2.2.1
  have y2 := (blk5 H4.out.1).2.2.2.2.2.2.2.1
  have y3 := (blk5 H4.out.1).2.2.2.2.2.2.2.2.1
  have y4 := (blk5 H4.out.1).2.2.2.2.2.2.2.2.2
  have v0 := (blk5 H4.out.2.1).1
  have v1 := (blk5 H4.out.2.1).2.1
  have v2 := (blk5 H4.out.2.1).2.2.1
  have v3 := (blk5 H4.out.2.1).2.2.2.1
  have v4 := (blk5 H4.out.2.1).2.2.2.2.1
  have s0 := (blk5 H4.out.2.1).2.2.2.2.2.1
  have s1 := (blk5 H4.out.2.1).2.2.2.2.2.2.1
  have s2 := (blk5 H4.out.2.1).2.2.2.2.2.2.2.1
  have s3 := (blk5 H4.out.2.1).2.2.2.2.2.2.2.2.1
  have s4 := (blk5 H4.out.2.1).2.2.2.2.2.2.2.2.2
  have x0 := (blk8 e4).1
  have x1 := (blk8 e4).2.1
  have x2 := (blk8 e4).2.2.1
  have x3 := (blk8 e4).2.2.2.1
  have x4 := (blk8 e4).2.2.2.2.1
  have x5 := (blk8 e4).2.2.2.2.2.1
  have x6 := (blk8 e4).2.2.2.2.2.2.1
  have x7 := (blk8 e4).2.2.2.2.2.2.2.1
  have fz := (blk8 e4).2.2.2.2.2.2.2.2
  clear e4
  repeat (first | go_values | go_skip | go_guarded | go_step | go_upon | go_quiet (fail))
  refine (rput_any (u32 (t.g + 1)) t.h t.ty oap (.slice a t.ks.length cap) [m0, m1, m2, m3, m4, m5, m6, m7] w4 rfl).mono ?_
  rintro e w5 ⟨⟨a5, c5, rfl, ho5⟩, hb5⟩
  have HK5 := Lib.hid (KeysIn.of_own ho5)
  have HN5 := Lib.hid (row_none ho5)
  clear ho5
  have HR : Hid (rregF t n ac key other oap = (⟨u32 (t.g + 1), regsF 0 [m0, m1, m2, m3, m4, m5, m6, m7], t.h, t.ty, oap⟩, 0, [])) := Lib.hid (by
    unfold rregF
    rw [HX.out, ← HKK.out, HMM.out]
    simp [q0, qn, qz, qo, show t.ks.length ≠ 6 by simp at ql; omega])
  generalize regsF 0 [m0, m1, m2, m3, m4, m5, m6, m7] = L at HK5 HN5 HR ⊢
  have hsz5 := hb5.size
  have e2 := (hb5.block (w.heap.size + 1 + 1) (by omega)).trans H4.out.2.1
  have hl5 : w.heap.size + 1 + 1 < w5.heap.size := by omega
  have HB5 := Lib.hid (H4.out.2.2.2.trans (hb5.mono (by omega)))
  clear z0 z1 z2 z3 z4 y0 y1 y2 y3 y4 v0 v1 v2 v3 v4 s0 s1 s2 s3 s4 x0 x1 x2 x3 x4 x5 x6 x7
  have v0 := (blk5 e2).1
  have v1 := (blk5 e2).2.1
  have v2 := (blk5 e2).2.2.1
  have v3 := (blk5 e2).2.2.2.1
  have v4 := (blk5 e2).2.2.2.2.1
  have s0 := (blk5 e2).2.2.2.2.2.1
  have s1 := (blk5 e2).2.2.2.2.2.2.1
  have s2 := (blk5 e2).2.2.2.2.2.2.2.1
  have s3 := (blk5 e2).2.2.2.2.2.2.2.2.1
  have s4 := (blk5 e2).2.2.2.2.2.2.2.2.2
  have E2 := Lib.hid e2
  clear e2 hb5
  dsimp only
  repeat (first | go_values | go_skip | go_guarded | go_step | go_upon | go_quiet (fail))
  refine bodyPost_ret (v := .tuple #[.agg #[.int .u32 (u32 (t.g + 1)), .slice a5 L.length c5, .int .i64 t.h, .int .i64 t.ty, .bool oap], .int .i64 0, .slice none 0 0]) ?_ rfl ?_
  · simp only [results, Try.results37]
    go_simp
  · unfold ActPost
    rw [HR.out]
    have hbw := HB5.out
    refine ⟨a5, c5, none, 0, rfl, ?_, HN5.out, IntsIn.nil _ _, ?_⟩
    · exact keys_ret HK5.out E2.out
    · repeat (first | with_reducible assumption | (with_reducible refine Below.setCell ?_ (by first | omega | (simp; done) | (simp; omega)) _) | (with_reducible refine Below.alloc ?_ (by first | omega | (simp; done) | (simp; omega)) _) | (with_reducible refine Below.drew ?_) | (with_reducible refine below_dN ?_ _) | with_reducible exact Below.refl _ _ | (with_reducible refine Below.trans ?_ (Below.mono (by assumption) (by first | omega | (simp; done) | (simp; omega)))))
set_option maxRecDepth 100000 in
set_option maxHeartbeats 4000000 in
theorem rreg_e10 (t : Tab) (n ac oty key other : Int) (oap : Bool) (a : Option Addr) (cap : Nat) (w : World) (hlen : t.ks.length ≤ 9223372036854775807) (h0 : 0 ≤ n) (h8 : n < 8) (hh : t.h < 8)
   (hk : KeysIn w a t.ks) (hn : a = none → cap = 0) (q0 : (ac == 0) = false) (qz : ((keysF t.ks).getD n.toNat 0 == 0) = false) (qo : (other == 0) = false) :
    Calls Try.prog 37 #[.agg #[.int .u32 t.g, .slice a t.ks.length cap, .int .i64 t.h, .int .i64 t.ty, .bool t.ap], .int .i64 n, .agg #[.int .i64 ac, .int .i64 oty, .int .u64 key, .int .u64 other, .bool oap]] w (ActPost (rregF t n ac key other oap) w) := by
  have Hqz := Lib.hid qz; clear qz
  have HK := Lib.hid hk; clear hk
  have HN := Lib.hid hn; clear hn
  go_enter Try.func37, Try.ntmps37
  go_wp2_with fail
  obtain ⟨b0, b1, b2⟩ := heap3 w (.cells #[.int .u32 t.g, .slice a t.ks.length cap, .int .i64 t.h, .int .i64 t.ty, .bool t.ap] 25) (.cells #[.int .i64 ac, .int .i64 oty, .int .u64 key, .int .u64 other, .bool oap] 43) (.cells #[.int .u32 0, .slice none 0 0, .int .i64 0, .int .i64 0, .bool false] 25)
  refine (keys_any _ _ _ _ _ _ _ _ hlen (HK.out.below (by repeat (first | with_reducible assumption | (with_reducible refine Below.setCell ?_ (by first | omega | (simp; done) | (simp; omega)) _) | (with_reducible refine Below.alloc ?_ (by first | omega | (simp; done) | (simp; omega)) _) | (with_reducible refine Below.drew ?_) | (with_reducible refine below_dN ?_ _) | with_reducible exact Below.refl _ _ | (with_reducible refine Below.trans ?_ (Below.mono (by assumption) (by first | omega | (simp; done) | (simp; omega)))))))).mono ?_
  rintro e w1 ⟨rfl, hb⟩
  have hz1 := hb.size
  simp only [World.size_alloc] at hz1
  have c0 := (hb.block _ (by first | (simp; done) | (simp; omega))).trans b0
  have c1 := (hb.block _ (by first | (simp; done) | (simp; omega))).trans b1
  have c2 := (hb.block _ (by first | (simp; done) | (simp; omega))).trans b2
  have hbw : Below w.heap.size w w1 := by repeat (first | with_reducible assumption | (with_reducible refine Below.setCell ?_ (by first | omega | (simp; done) | (simp; omega)) _) | (with_reducible refine Below.alloc ?_ (by first | omega | (simp; done) | (simp; omega)) _) | (with_reducible refine Below.drew ?_) | (with_reducible refine below_dN ?_ _) | with_reducible exact Below.refl _ _ | (with_reducible refine Below.trans ?_ (Below.mono (by assumption) (by first | omega | (simp; done) | (simp; omega)))))
  clear b0 b1 b2 hb
  obtain ⟨k0, k1, k2, k3, k4, k5, k6, k7, hl8⟩ := list8 (keysF t.ks) (keysF_length t.ks)
  unfold arr8
  rw [hl8]
  simp only [List.map_cons, List.map_nil]
  try dsimp only
  repeat (fail_if_success (with_reducible refine stop_pos "ref.go:161" rfl ?_)
          first | go_values | go_skip | go_guarded | go_step | go_upon)
  have d3 := heap_alloc_new w1 (.cells #[.int .u64 k0, .int .u64 k1, .int .u64 k2, .int .u64 k3, .int .u64 k4, .int .u64 k5, .int .u64 k6, .int .u64 k7] 57)
  have d0 := (heap_alloc_old w1 (.cells #[.int .u64 k0, .int .u64 k1, .int .u64 k2, .int .u64 k3, .int .u64 k4, .int .u64 k5, .int .u64 k6, .int .u64 k7] 57) (r := w.heap.size) (by omega)).trans c0
  have d1 := (heap_alloc_old w1 (.cells #[.int .u64 k0, .int .u64 k1, .int .u64 k2, .int .u64 k3, .int .u64 k4, .int .u64 k5, .int .u64 k6, .int .u64 k7] 57) (r := w.heap.size + 1) (by omega)).trans c1
  have d2 := (heap_alloc_old w1 (.cells #[.int .u64 k0, .int .u64 k1, .int .u64 k2, .int .u64 k3, .int .u64 k4, .int .u64 k5, .int .u64 k6, .int .u64 k7] 57) (r := w.heap.size + 1 + 1) (by omega)).trans c2
  have hd3 : (w1.alloc (.cells #[.int .u64 k0, .int .u64 k1, .int .u64 k2, .int .u64 k3, .int .u64 k4, .int .u64 k5, .int .u64 k6, .int .u64 k7] 57)).heap[w1.heap.size]? = some (.cells ((keysF t.ks).map (Value.int .u64)).toArray 57) := by rw [d3, hl8]; rfl
  have hbw2 : Below w.heap.size w (w1.alloc (.cells #[.int .u64 k0, .int .u64 k1, .int .u64 k2, .int .u64 k3, .int .u64 k4, .int .u64 k5, .int .u64 k6, .int .u64 k7] 57)) := by repeat (first | with_reducible assumption | (with_reducible refine Below.setCell ?_ (by first | omega | (simp; done) | (simp; omega)) _) | (with_reducible refine Below.alloc ?_ (by first | omega | (simp; done) | (simp; omega)) _) | (with_reducible refine Below.drew ?_) | (with_reducible refine below_dN ?_ _) | with_reducible exact Below.refl _ _ | (with_reducible refine Below.trans ?_ (Below.mono (by assumption) (by first | omega | (simp; done) | (simp; omega)))))
  have hsz2 : w1.heap.size + 1 = (w1.alloc (.cells #[.int .u64 k0, .int .u64 k1, .int .u64 k2, .int .u64 k3, .int .u64 k4, .int .u64 k5, .int .u64 k6, .int .u64 k7] 57)).heap.size := by simp
  generalize w1.alloc (.cells #[.int .u64 k0, .int .u64 k1, .int .u64 k2, .int .u64 k3, .int .u64 k4, .int .u64 k5, .int .u64 k6, .int .u64 k7] 57) = w2 at d0 d1 d2 hd3 hbw2 hsz2 ⊢
  generalize w1.heap.size = A at hz1 hd3 hsz2 ⊢
  clear d3 c0 c1 c2 hbw hl8
  have HKL := Lib.hid (keysF_length t.ks)
  obtain ⟨K, hK⟩ : ∃ x, x = keysF t.ks := ⟨_, rfl⟩
  have HKK := Lib.hid hK
  rw [← hK] at hd3
  have HKL : Hid (K.length = 8) := Lib.hid (by rw [hK]; exact HKL.out)
  clear hK
  have HD := Lib.hid (And.intro d0 (And.intro d1 (And.intro d2 (And.intro hd3 hbw2))))
  obtain ⟨fk, fz⟩ := arr_cell hd3 n.toNat (by rw [HKL.out]; omega)
  clear d0 d1 d2 hd3 hbw2
  generalize hx : K.getD n.toNat 0 = x at fk
  have HX : Hid ((keysF t.ks).getD n.toNat 0 = x) := Lib.hid (by rw [← HKK.out]; exact hx)
  clear hx
  have z0 := (blk5 HD.out.1).1
  have z1 := (blk5 HD.out.1).2.1
  have z2 := (blk5 HD.out.1).2.2.1
  have z3 := (blk5 HD.out.1).2.2.2.1
  have z4 := (blk5 HD.out.1).2.2.2.2.1
  have y0 := (blk5 HD.out.1).2.2.2.2.2.1
  have y1 := (blk5 HD.out.1).2.2.2.2.2.2.1
  have y2 := (blk5 HD.out.1).2.2.2.2.2.2.2.1
  have y3 := (blk5 HD.out.1).2.2.2.2.2.2.2.2.1
  have y4 := (blk5 HD.out.1).2.2.2.2.2.2.2.2.2
  have o0 := (blk5 HD.out.2.1).1
  have o1 := (blk5 HD.out.2.1).2.1
  have o2 := (blk5 HD.out.2.1).2.2.1
  have o3 := (blk5 HD.out.2.1).2.2.2.1
  have o4 := (blk5 HD.out.2.1).2.2.2.2.1
  have p0 := (blk5 HD.out.2.1).2.2.2.2.2.1
  have p1 := (blk5 HD.out.2.1).2.2.2.2.2.2.1
  have p2 := (blk5 HD.out.2.1).2.2.2.2.2.2.2.1
  have p3 := (blk5 HD.out.2.1).2.2.2.2.2.2.2.2.1
  have p4 := (blk5 HD.out.2.1).2.2.2.2.2.2.2.2.2
  have v0 := (blk5 HD.out.2.2.1).1
  have v1 := (blk5 HD.out.2.2.1).2.1
  have v2 := (blk5 HD.out.2.2.1).2.2.1
  have v3 := (blk5 HD.out.2.2.1).2.2.2.1
  have v4 := (blk5 HD.out.2.2.1).2.2.2.2.1
  have s0 := (blk5 HD.out.2.2.1).2.2.2.2.2.1
  have s1 := (blk5 HD.out.2.2.1).2.2.2.2.2.2.1
  have s2 := (blk5 HD.out.2.2.1).2.2.2.2.2.2.2.1
  have s3 := (blk5 HD.out.2.2.1).2.2.2.2.2.2.2.2.1
  have s4 := (blk5 HD.out.2.2.1).2.2.2.2.2.2.2.2.2
  have hn1 : ¬ w.heap.size = A := by omega
  have hn2 : ¬ A = w.heap.size := by omega
  have hn3 : ¬ w.heap.size + 1 = A := by omega
  have hn4 : ¬ A = w.heap.size + 1 := by omega
  have hn5 : ¬ w.heap.size + 1 + 1 = A := by omega
  have hn6 : ¬ A = w.heap.size + 1 + 1 := by omega
  have qz : (x == 0) = false := by have h := Hqz.out; rw [HX.out] at h; exact h
  repeat (fail_if_success (with_reducible refine stop_pos "ref.go:178" rfl ?_)
          first | go_values | go_skip | go_guarded | go_step | go_upon | go_quiet (fail) | (simp only [Int.not_lt, Int.not_le] at *; go_simp) | (go_values <;> (try go_simp)) | (go_ite <;> go_prune <;> (try go_simp)))
  refine gen_world (fun wx => wx.heap[w.heap.size]? = some (.cells #[.int .u32 (u32 (t.g + 1)), .slice a t.ks.length cap, .int .i64 t.h, .int .i64 t.ty, .bool oap] 25) ∧ wx.heap[w.heap.size + 1]? = some (.cells #[.int .i64 ac, .int .i64 oty, .int .u64 key, .int .u64 other, .bool oap] 43) ∧ wx.heap[w.heap.size + 1 + 1]? = some (.cells #[.int .u32 0, .slice none 0 0, .int .i64 0, .int .i64 0, .bool false] 25) ∧ wx.heap[A]? = some (.cells (K.map (Value.int .u64)).toArray 57) ∧ Below w.heap.size w wx) ?_ ?_
  · refine ⟨?_, ?_, ?_, ?_, ?_⟩
    · rw [set_blk (set_blk (show (World.drewN w2 _).heap[w.heap.size]? = _ from HD.out.1) _) _]
      simp [u32]
    · exact heap_set_ne (by omega) (heap_set_ne (by omega) HD.out.2.1)
    · exact heap_set_ne (by omega) (heap_set_ne (by omega) HD.out.2.2.1)
    · exact heap_set_ne hn1 (heap_set_ne hn1 HD.out.2.2.2.1)
    · have hbw := HD.out.2.2.2.2
      repeat (first | with_reducible assumption | (with_reducible refine Below.setCell ?_ (by first | omega | (simp; done) | (simp; omega)) _) | (with_reducible refine Below.alloc ?_ (by first | omega | (simp; done) | (simp; omega)) _) | (with_reducible refine Below.drew ?_) | (with_reducible refine below_dN ?_ _) | with_reducible exact Below.refl _ _ | (with_reducible refine Below.trans ?_ (Below.mono (by assumption) (by first | omega | (simp; done) | (simp; omega)))))
  intro w3 hw3
  have H3 := Lib.hid hw3
  clear hw3
  clear z0 z1 z2 z3 z4 y0 y1 y2 y3 y4 o0 o1 o2 o3 o4 p0 p1 p2 p3 p4 v0 v1 v2 v3 v4 s0 s1 s2 s3 s4
  clear fk fz
  have z0 := (blk5 H3.out.1).1
  have z1 := (blk5 H3.out.1).2.1
  have z2 := (blk5 H3.out.1).2.2.1
  have z3 := (blk5 H3.out.1).2.2.2.1
  have z4 := (blk5 H3.out.1).2.2.2.2.1
  have y0 := (blk5 H3.out.1).2.2.2.2.2.1
  have y1 := (blk5 H3.out.1).2.2.2.2.2.2.1
  have y2 := (blk5 H3.out.1).2.2.2.2.2.2.2.1
  have y3 := (blk5 H3.out.1).2.2.2.2.2.2.2.2.1
  have y4 := (blk5 H3.out.1).2.2.2.2.2.2.2.2.2
  have o0 := (blk5 H3.out.2.1).1
  have o1 := (blk5 H3.out.2.1).2.1
  have o2 := (blk5 H3.out.2.1).2.2.1
  have o3 := (blk5 H3.out.2.1).2.2.2.1
  have o4 := (blk5 H3.out.2.1).2.2.2.2.1
  have p0 := (blk5 H3.out.2.1).2.2.2.2.2.1
  have p1 := (blk5 H3.out.2.1).2.2.2.2.2.2.1
  have p2 := (blk5 H3.out.2.1).2.2.2.2.2.2.2.1
  have p3 := (blk5 H3.out.2.1).2.2.2.2.2.2.2.2.1
  have p4 := (blk5 H3.out.2.1).2.2.2.2.2.2.2.2.2
  have v0 := (blk5 H3.out.2.2.1).1
  have v1 := (blk5 H3.out.2.2.1).2.1
  have v2 := (blk5 H3.out.2.2.1).2.2.1
  have v3 := (blk5 H3.out.2.2.1).2.2.2.1
  have v4 := (blk5 H3.out.2.2.1).2.2.2.2.1
  have s0 := (blk5 H3.out.2.2.1).2.2.2.2.2.1
  have s1 := (blk5 H3.out.2.2.1).2.2.2.2.2.2.1
  have s2 := (blk5 H3.out.2.2.1).2.2.2.2.2.2.2.1
  have s3 := (blk5 H3.out.2.2.1).2.2.2.2.2.2.2.2.1
  have s4 := (blk5 H3.out.2.2.1).2.2.2.2.2.2.2.2.2
  have hsz3 := H3.out.2.2.2.2.size
  have hA3 := (Array.getElem?_eq_some_iff.1 H3.out.2.2.2.1).1
  obtain ⟨fk, fz⟩ := arr_cell H3.out.2.2.2.1 n.toNat (by rw [HKL.out]; omega)
  repeat (fail_if_success (with_reducible refine stop_pos "ref.go:179" rfl ?_)
          first | go_values | go_skip | go_guarded | go_step | go_upon | go_quiet (fail) | (simp only [Int.not_lt, Int.not_le] at *; go_simp) | (go_values <;> (try go_simp)) | (go_ite <;> go_prune <;> (try go_simp)))
  refine gen_world (fun wx => wx.heap[w.heap.size]? = some (.cells #[.int .u32 (u32 (t.g + 1)), .slice a t.ks.length cap, .int .i64 t.h, .int .i64 t.ty, .bool oap] 25) ∧ wx.heap[w.heap.size + 1 + 1]? = some (.cells #[.int .u32 0, .slice none 0 0, .int .i64 0, .int .i64 0, .bool false] 25) ∧ wx.heap[A]? = some (.cells ((K.set n.toNat other).map (Value.int .u64)).toArray 57) ∧ Below w.heap.size w wx) ?_ ?_
  · refine ⟨?_, ?_, ?_, ?_⟩
    · exact heap_set_ne (by omega) H3.out.1
    · exact heap_set_ne (by omega) H3.out.2.2.1
    · exact arr_set H3.out.2.2.2.1 n.toNat other
    · have hbw := H3.out.2.2.2.2
      repeat (first | with_reducible assumption | (with_reducible refine Below.setCell ?_ (by first | omega | (simp; done) | (simp; omega)) _) | (with_reducible refine Below.alloc ?_ (by first | omega | (simp; done) | (simp; omega)) _) | (with_reducible refine Below.drew ?_) | (with_reducible refine below_dN ?_ _) | with_reducible exact Below.refl _ _ | (with_reducible refine Below.trans ?_ (Below.mono (by assumption) (by first | omega | (simp; done) | (simp; omega)))))
  clear z0 z1 z2 z3 z4 y0 y1 y2 y3 y4 o0 o1 o2 o3 o4 p0 p1 p2 p3 p4 v0 v1 v2 v3 v4 s0 s1 s2 s3 s4
  intro w4 hw4
  have H4 := Lib.hid hw4
  clear hw4 fk fz
  have hsz4 := (Array.getElem?_eq_some_iff.1 H4.out.2.2.1).1
  obtain ⟨m0, m1, m2, m3, m4, m5, m6, m7, hmm⟩ := list8 (K.set n.toNat other) (by rw [List.length_set]; exact HKL.out)
  have HMM := Lib.hid hmm
  have e4 := H4.out.2.2.1
  rw [hmm] at e4
  clear hmm
  simp only [List.map_cons, List.map_nil] at e4
  have z0 := (blk5 H4.out.1).1
  have z1 := (blk5 H4.out.1).2.1
  have z2 := (blk5 H4.out.1).2.2.1
  have z3 := (blk5 H4.out.1).2.2.2.1
  have z4 := (blk5 H4.out.1).2.2.2.2.1
  have y0 := (blk5 H4.out.1).2.2.2.2.2.1
  have y1 := (blk5 H4.out.1).2.2.2.2.2.2.1
  have y2 := (blk5 H4.out.1).2.2.2.2.2.2.2.1
  have y3 := (blk5 H4.out.1).2.2.2.2.2.2.2.2.1
  have y4 := (blk5 H4.out.1).2.2.2.2.2.2.2.2.2
  have v0 := (blk5 H4.out.2.1).1
  have v1 := (blk5 H4.out.2.1).2.1
  have v2 := (blk5 H4.out.2.1).2.2.1
  have v3 := (blk5 H4.out.2.1).2.2.2.1
  have v4 := (blk5 H4.out.2.1).2.2.2.2.1
  have s0 := (blk5 H4.out.2.1).2.2.2.2.2.1
  have s1 := (blk5 H4.out.2.1).2.2.2.2.2.2.1
  have s2 := (blk5 H4.out.2.1).2.2.2.2.2.2.2.1
  have s3 := (blk5 H4.out.2.1).2.2.2.2.2.2.2.2.1
  have s4 := (blk5 H4.out.2.1).2.2.2.2.2.2.2.2.2
  have x0 := (blk8 e4).1
  have x1 := (blk8 e4).2.1
  have x2 := (blk8 e4).2.2.1
  have x3 := (blk8 e4).2.2.2.1
  have x4 := (blk8 e4).2.2.2.2.1
  have x5 := (blk8 e4).2.2.2.2.2.1
  have x6 := (blk8 e4).2.2.2.2.2.2.1
  have x7 := (blk8 e4).2.2.2.2.2.2.2.1
  have fz := (blk8 e4).2.2.2.2.2.2.2.2
  clear e4
  repeat (first | go_values | go_skip | go_guarded | go_step | go_upon | go_quiet (fail))
  refine (rput_any (u32 (t.g + 1)) t.h t.ty oap (.slice a t.ks.length cap) [m0, m1, m2, m3, m4, m5, m6, m7] w4 rfl).mono ?_
  rintro e w5 ⟨⟨a5, c5, rfl, ho5⟩, hb5⟩
  have HK5 := Lib.hid (KeysIn.of_own ho5)
  have HN5 := Lib.hid (row_none ho5)
  clear ho5
  have HR : Hid (rregF t n ac key other oap = (⟨u32 (t.g + 1), regsF 0 [m0, m1, m2, m3, m4, m5, m6, m7], t.h, t.ty, oap⟩, 0, [])) := Lib.hid (by
    unfold rregF
    rw [HX.out, ← HKK.out, HMM.out]
    simp [q0, qz, qo])
  generalize regsF 0 [m0, m1, m2, m3, m4, m5, m6, m7] = L at HK5 HN5 HR ⊢
  have hsz5 := hb5.size
  have e2 := (hb5.block (w.heap.size + 1 + 1) (by omega)).trans H4.out.2.1
  have hl5 : w.heap.size + 1 + 1 < w5.heap.size := by omega
  have HB5 := Lib.hid (H4.out.2.2.2.trans (hb5.mono (by omega)))
  clear z0 z1 z2 z3 z4 y0 y1 y2 y3 y4 v0 v1 v2 v3 v4 s0 s1 s2 s3 s4 x0 x1 x2 x3 x4 x5 x6 x7
  have v0 := (blk5 e2).1
  have v1 := (blk5 e2).2.1
  have v2 := (blk5 e2).2.2.1
  have v3 := (blk5 e2).2.2.2.1
  have v4 := (blk5 e2).2.2.2.2.1
  have s0 := (blk5 e2).2.2.2.2.2.1
  have s1 := (blk5 e2).2.2.2.2.2.2.1
  have s2 := (blk5 e2).2.2.2.2.2.2.2.1
  have s3 := (blk5 e2).2.2.2.2.2.2.2.2.1
  have s4 := (blk5 e2).2.2.2.2.2.2.2.2.2
  have E2 := Lib.hid e2
  clear e2 hb5
  dsimp only
  repeat (first | go_values | go_skip | go_guarded | go_step | go_upon | go_quiet (fail))
  refine bodyPost_ret (v := .tuple #[.agg #[.int .u32 (u32 (t.g + 1)), .slice a5 L.length c5, .int .i64 t.h, .int .i64 t.ty, .bool oap], .int .i64 0, .slice none 0 0]) ?_ rfl ?_
  · simp only [results, Try.results37]
    go_simp
  · unfold ActPost
    rw [HR.out]
    have hbw := HB5.out
    refine ⟨a5, c5, none, 0, rfl, ?_, HN5.out, IntsIn.nil _ _, ?_⟩
    · exact keys_ret HK5.out E2.out
    · repeat (first | with_reducible assumption | (with_reducible refine Below.setCell ?_ (by first | omega | (simp; done) | (simp; omega)) _) | (with_reducible refine Below.alloc ?_ (by first | omega | (simp; done) | (simp; omega)) _) | (with_reducible refine Below.drew ?_) | (with_reducible refine below_dN ?_ _) | with_reducible exact Below.refl _ _ | (with_reducible refine Below.trans ?_ (Below.mono (by assumption) (by first | omega | (simp; done) | (simp; omega)))))
set_option maxRecDepth 100000 in
set_option maxHeartbeats 4000000 in
theorem rreg_e11 (t : Tab) (n ac oty key other : Int) (oap : Bool) (a : Option Addr) (cap : Nat) (w : World) (hlen : t.ks.length ≤ 9223372036854775807) (h0 : 0 ≤ n) (h8 : n < 8) (hh : t.h < 8)
   (hk : KeysIn w a t.ks) (hn : a = none → cap = 0) (q0 : (ac == 0) = false) (qz : ((keysF t.ks).getD n.toNat 0 == 0) = true) (qo : (other == 0) = false) (ql : ((t.ks.length : Int) == 6) = false) :
    Calls Try.prog 37 #[.agg #[.int .u32 t.g, .slice a t.ks.length cap, .int .i64 t.h, .int .i64 t.ty, .bool t.ap], .int .i64 n, .agg #[.int .i64 ac, .int .i64 oty, .int .u64 key, .int .u64 other, .bool oap]] w (ActPost (rregF t n ac key other oap) w) := by
  have Hqz := Lib.hid qz; clear qz
  have HK := Lib.hid hk; clear hk
  have HN := Lib.hid hn; clear hn
  go_enter Try.func37, Try.ntmps37
  go_wp2_with fail
  obtain ⟨b0, b1, b2⟩ := heap3 w (.cells #[.int .u32 t.g, .slice a t.ks.length cap, .int .i64 t.h, .int .i64 t.ty, .bool t.ap] 25) (.cells #[.int .i64 ac, .int .i64 oty, .int .u64 key, .int .u64 other, .bool oap] 43) (.cells #[.int .u32 0, .slice none 0 0, .int .i64 0, .int .i64 0, .bool false] 25)
  refine (keys_any _ _ _ _ _ _ _ _ hlen (HK.out.below (by repeat (first | with_reducible assumption | (with_reducible refine Below.setCell ?_ (by first | omega | (simp; done) | (simp; omega)) _) | (with_reducible refine Below.alloc ?_ (by first | omega | (simp; done) | (simp; omega)) _) | (with_reducible refine Below.drew ?_) | (with_reducible refine below_dN ?_ _) | with_reducible exact Below.refl _ _ | (with_reducible refine Below.trans ?_ (Below.mono (by assumption) (by first | omega | (simp; done) | (simp; omega)))))))).mono ?_
  rintro e w1 ⟨rfl, hb⟩
  have hz1 := hb.size
  simp only [World.size_alloc] at hz1
  have c0 := (hb.block _ (by first | (simp; done) | (simp; omega))).trans b0
  have c1 := (hb.block _ (by first | (simp; done) | (simp; omega))).trans b1
  have c2 := (hb.block _ (by first | (simp; done) | (simp; omega))).trans b2
  have hbw : Below w.heap.size w w1 := by repeat (first | with_reducible assumption | (with_reducible refine Below.setCell ?_ (by first | omega | (simp; done) | (simp; omega)) _) | (with_reducible refine Below.alloc ?_ (by first | omega | (simp; done) | (simp; omega)) _) | (with_reducible refine Below.drew ?_) | (with_reducible refine below_dN ?_ _) | with_reducible exact Below.refl _ _ | (with_reducible refine Below.trans ?_ (Below.mono (by assumption) (by first | omega | (simp; done) | (simp; omega)))))
  clear b0 b1 b2 hb
  obtain ⟨k0, k1, k2, k3, k4, k5, k6, k7, hl8⟩ := list8 (keysF t.ks) (keysF_length t.ks)
  unfold arr8
  rw [hl8]
  simp only [List.map_cons, List.map_nil]
  try dsimp only
  repeat (fail_if_success (with_reducible refine stop_pos "ref.go:161" rfl ?_)
          first | go_values | go_skip | go_guarded | go_step | go_upon)
  have d3 := heap_alloc_new w1 (.cells #[.int .u64 k0, .int .u64 k1, .int .u64 k2, .int .u64 k3, .int .u64 k4, .int .u64 k5, .int .u64 k6, .int .u64 k7] 57)
  have d0 := (heap_alloc_old w1 (.cells #[.int .u64 k0, .int .u64 k1, .int .u64 k2, .int .u64 k3, .int .u64 k4, .int .u64 k5, .int .u64 k6, .int .u64 k7] 57) (r := w.heap.size) (by omega)).trans c0
  have d1 := (heap_alloc_old w1 (.cells #[.int .u64 k0, .int .u64 k1, .int .u64 k2, .int .u64 k3, .int .u64 k4, .int .u64 k5, .int .u64 k6, .int .u64 k7] 57) (r := w.heap.size + 1) (by omega)).trans c1
  have d2 := (heap_alloc_old w1 (.cells #[.int .u64 k0, .int .u64 k1, .int .u64 k2, .int .u64 k3, .int .u64 k4, .int .u64 k5, .int .u64 k6, .int .u64 k7] 57) (r := w.heap.size + 1 + 1) (by omega)).trans c2
  have hd3 : (w1.alloc (.cells #[.int .u64 k0, .int .u64 k1, .int .u64 k2, .int .u64 k3, .int .u64 k4, .int .u64 k5, .int .u64 k6, .int .u64 k7] 57)).heap[w1.heap.size]? = some (.cells ((keysF t.ks).map (Value.int .u64)).toArray 57) := by rw [d3, hl8]; rfl
  have hbw2 : Below w.heap.size w (w1.alloc (.cells #[.int .u64 k0, .int .u64 k1, .int .u64 k2, .int .u64 k3, .int .u64 k4, .int .u64 k5, .int .u64 k6, .int .u64 k7] 57)) := by repeat (first | with_reducible assumption | (with_reducible refine Below.setCell ?_ (by first | omega | (simp; done) | (simp; omega)) _) | (with_reducible refine Below.alloc ?_ (by first | omega | (simp; done) | (simp; omega)) _) | (with_reducible refine Below.drew ?_) | (with_reducible refine below_dN ?_ _) | with_reducible exact Below.refl _ _ | (with_reducible refine Below.trans ?_ (Below.mono (by assumption) (by first | omega | (simp; done) | (simp; omega)))))
  have hsz2 : w1.heap.size + 1 = (w1.alloc (.cells #[.int .u64 k0, .int .u64 k1, .int .u64 k2, .int .u64 k3, .int .u64 k4, .int .u64 k5, .int .u64 k6, .int .u64 k7] 57)).heap.size := by simp
  generalize w1.alloc (.cells #[.int .u64 k0, .int .u64 k1, .int .u64 k2, .int .u64 k3, .int .u64 k4, .int .u64 k5, .int .u64 k6, .int .u64 k7] 57) = w2 at d0 d1 d2 hd3 hbw2 hsz2 ⊢
  generalize w1.heap.size = A at hz1 hd3 hsz2 ⊢
  clear d3 c0 c1 c2 hbw hl8
  have HKL := Lib.hid (keysF_length t.ks)
  obtain ⟨K, hK⟩ : ∃ x, x = keysF t.ks := ⟨_, rfl⟩
  have HKK := Lib.hid hK
  rw [← hK] at hd3
  have HKL : Hid (K.length = 8) := Lib.hid (by rw [hK]; exact HKL.out)
  clear hK
  have HD := Lib.hid (And.intro d0 (And.intro d1 (And.intro d2 (And.intro hd3 hbw2))))
  obtain ⟨fk, fz⟩ := arr_cell hd3 n.toNat (by rw [HKL.out]; omega)
  clear d0 d1 d2 hd3 hbw2
  generalize hx : K.getD n.toNat 0 = x at fk
  have HX : Hid ((keysF t.ks).getD n.toNat 0 = x) := Lib.hid (by rw [← HKK.out]; exact hx)
  clear hx
  have z0 := (blk5 HD.out.1).1
  have z1 := (blk5 HD.out.1).2.1
  have z2 := (blk5 HD.out.1).2.2.1
  have z3 := (blk5 HD.out.1).2.2.2.1
  have z4 := (blk5 HD.out.1).2.2.2.2.1
  have y0 := (blk5 HD.out.1).2.2.2.2.2.1
  have y1 := (blk5 HD.out.1).2.2.2.2.2.2.1
  have y2 := (blk5 HD.out.1).2.2.2.2.2.2.2.1
  have y3 := (blk5 HD.out.1).2.2.2.2.2.2.2.2.1
  have y4 := (blk5 HD.out.1).2.2.2.2.2.2.2.2.2
  have o0 := (blk5 HD.out.2.1).1
  have o1 := (blk5 HD.out.2.1).2.1
  have o2 := (blk5 HD.out.2.1).2.2.1
  have o3 := (blk5 HD.out.2.1).2.2.2.1
  have o4 := (blk5 HD.out.2.1).2.2.2.2.1
  have p0 := (blk5 HD.out.2.1).2.2.2.2.2.1
  have p1 := (blk5 HD.out.2.1).2.2.2.2.2.2.1
  have p2 := (blk5 HD.out.2.1).2.2.2.2.2.2.2.1
  have p3 := (blk5 HD.out.2.1).2.2.2.2.2.2.2.2.1
  have p4 := (blk5 HD.out.2.1).2.2.2.2.2.2.2.2.2
  have v0 := (blk5 HD.out.2.2.1).1
  have v1 := (blk5 HD.out.2.2.1).2.1
  have v2 := (blk5 HD.out.2.2.1).2.2.1
  have v3 := (blk5 HD.out.2.2.1).2.2.2.1
  have v4 := (blk5 HD.out.2.2.1).2.2.2.2.1
  have s0 := (blk5 HD.out.2.2.1).2.2.2.2.2.1
  have s1 := (blk5 HD.out.2.2.1).2.2.2.2.2.2.1
  have s2 := (blk5 HD.out.2.2.1).2.2.2.2.2.2.2.1
  have s3 := (blk5 HD.out.2.2.1).2.2.2.2.2.2.2.2.1
  have s4 := (blk5 HD.out.2.2.1).2.2.2.2.2.2.2.2.2
  have hn1 : ¬ w.heap.size = A := by omega
  have hn2 : ¬ A = w.heap.size := by omega
  have hn3 : ¬ w.heap.size + 1 = A := by omega
  have hn4 : ¬ A = w.heap.size + 1 := by omega
  have hn5 : ¬ w.heap.size + 1 + 1 = A := by omega
  have hn6 : ¬ A = w.heap.size + 1 + 1 := by omega
  have qz : (x == 0) = true := by have h := Hqz.out; rw [HX.out] at h; exact h
  repeat (fail_if_success (with_reducible refine stop_pos "ref.go:178" rfl ?_)
          first | go_values | go_skip | go_guarded | go_step | go_upon | go_quiet (fail) | (simp only [Int.not_lt, Int.not_le] at *; go_simp) | (go_values <;> (try go_simp)) | (go_ite <;> go_prune <;> (try go_simp)))
  refine gen_world (fun wx => wx.heap[w.heap.size]? = some (.cells #[.int .u32 (u32 (t.g + 1)), .slice a t.ks.length cap, .int .i64 t.h, .int .i64 t.ty, .bool oap] 25) ∧ wx.heap[w.heap.size + 1]? = some (.cells #[.int .i64 ac, .int .i64 oty, .int .u64 key, .int .u64 other, .bool oap] 43) ∧ wx.heap[w.heap.size + 1 + 1]? = some (.cells #[.int .u32 0, .slice none 0 0, .int .i64 0, .int .i64 0, .bool false] 25) ∧ wx.heap[A]? = some (.cells (K.map (Value.int .u64)).toArray 57) ∧ Below w.heap.size w wx) ?_ ?_
  · refine ⟨?_, ?_, ?_, ?_, ?_⟩
    · rw [set_blk (set_blk (show (World.drewN w2 _).heap[w.heap.size]? = _ from HD.out.1) _) _]
      simp [u32]
    · exact heap_set_ne (by omega) (heap_set_ne (by omega) HD.out.2.1)
    · exact heap_set_ne (by omega) (heap_set_ne (by omega) HD.out.2.2.1)
    · exact heap_set_ne hn1 (heap_set_ne hn1 HD.out.2.2.2.1)
    · have hbw := HD.out.2.2.2.2
      repeat (first | with_reducible assumption | (with_reducible refine Below.setCell ?_ (by first | omega | (simp; done) | (simp; omega)) _) | (with_reducible refine Below.alloc ?_ (by first | omega | (simp; done) | (simp; omega)) _) | (with_reducible refine Below.drew ?_) | (with_reducible refine below_dN ?_ _) | with_reducible exact Below.refl _ _ | (with_reducible refine Below.trans ?_ (Below.mono (by assumption) (by first | omega | (simp; done) | (simp; omega)))))
  intro w3 hw3
  have H3 := Lib.hid hw3
  clear hw3
  clear z0 z1 z2 z3 z4 y0 y1 y2 y3 y4 o0 o1 o2 o3 o4 p0 p1 p2 p3 p4 v0 v1 v2 v3 v4 s0 s1 s2 s3 s4
  clear fk fz
  have z0 := (blk5 H3.out.1).1
  have z1 := (blk5 H3.out.1).2.1
  have z2 := (blk5 H3.out.1).2.2.1
  have z3 := (blk5 H3.out.1).2.2.2.1
  have z4 := (blk5 H3.out.1).2.2.2.2.1
  have y0 := (blk5 H3.out.1).2.2.2.2.2.1
  have y1 := (blk5 H3.out.1).2.2.2.2.2.2.1
  have y2 := (blk5 H3.out.1).2.2.2.2.2.2.2.1
  have y3 := (blk5 H3.out.1).2.2.2.2.2.2.2.2.1
  have y4 := (blk5 H3.out.1).2.2.2.2.2.2.2.2.2
  have o0 := (blk5 H3.out.2.1).1
  have o1 := (blk5 H3.out.2.1).2.1
  have o2 := (blk5 H3.out.2.1).2.2.1
  have o3 := (blk5 H3.out.2.1).2.2.2.1
  have o4 := (blk5 H3.out.2.1).2.2.2.2.1
  have p0 := (blk5 H3.out.2.1).2.2.2.2.2.1
  have p1 := (blk5 H3.out.2.1).2.2.2.2.2.2.1
  have p2 := (blk5 H3.out.2.1).2.2.2.2.2.2.2.1
  have p3 := (blk5 H3.out.2.1).2.2.2.2.2.2.2.2.1
  have p4 := (blk5 H3.out.2.1).2.2.2.2.2.2.2.2.2
  have v0 := (blk5 H3.out.2.2.1).1
  have v1 := (blk5 H3.out.2.2.1).2.1
  have v2 := (blk5 H3.out.2.2.1).2.2.1
  have v3 := (blk5 H3.out.2.2.1).2.2.2.1
  have v4 := (blk5 H3.out.2.2.1).2.2.2.2.1
  have s0 := (blk5 H3.out.2.2.1).2.2.2.2.2.1
  have s1 := (blk5 H3.out.2.2.1).2.2.2.2.2.2.1
  have s2 := (blk5 H3.out.2.2.1).2.2.2.2.2.2.2.1
  have s3 := (blk5 H3.out.2.2.1).2.2.2.2.2.2.2.2.1
  have s4 := (blk5 H3.out.2.2.1).2.2.2.2.2.2.2.2.2
  have hsz3 := H3.out.2.2.2.2.size
  have hA3 := (Array.getElem?_eq_some_iff.1 H3.out.2.2.2.1).1
  obtain ⟨fk, fz⟩ := arr_cell H3.out.2.2.2.1 n.toNat (by rw [HKL.out]; omega)
  repeat (fail_if_success (with_reducible refine stop_pos "ref.go:179" rfl ?_)
          first | go_values | go_skip | go_guarded | go_step | go_upon | go_quiet (fail) | (simp only [Int.not_lt, Int.not_le] at *; go_simp) | (go_values <;> (try go_simp)) | (go_ite <;> go_prune <;> (try go_simp)))
  refine gen_world (fun wx => wx.heap[w.heap.size]? = some (.cells #[.int .u32 (u32 (t.g + 1)), .slice a t.ks.length cap, .int .i64 t.h, .int .i64 t.ty, .bool oap] 25) ∧ wx.heap[w.heap.size + 1 + 1]? = some (.cells #[.int .u32 0, .slice none 0 0, .int .i64 0, .int .i64 0, .bool false] 25) ∧ wx.heap[A]? = some (.cells ((K.set n.toNat other).map (Value.int .u64)).toArray 57) ∧ Below w.heap.size w wx) ?_ ?_
  · refine ⟨?_, ?_, ?_, ?_⟩
    · exact heap_set_ne (by omega) H3.out.1
    · exact heap_set_ne (by omega) H3.out.2.2.1
    · exact arr_set H3.out.2.2.2.1 n.toNat other
    · have hbw := H3.out.2.2.2.2
      repeat (first | with_reducible assumption | (with_reducible refine Below.setCell ?_ (by first | omega | (simp; done) | (simp; omega)) _) | (with_reducible refine Below.alloc ?_ (by first | omega | (simp; done) | (simp; omega)) _) | (with_reducible refine Below.drew ?_) | (with_reducible refine below_dN ?_ _) | with_reducible exact Below.refl _ _ | (with_reducible refine Below.trans ?_ (Below.mono (by assumption) (by first | omega | (simp; done) | (simp; omega)))))
  clear z0 z1 z2 z3 z4 y0 y1 y2 y3 y4 o0 o1 o2 o3 o4 p0 p1 p2 p3 p4 v0 v1 v2 v3 v4 s0 s1 s2 s3 s4
  intro w4 hw4
  have H4 := Lib.hid hw4
  clear hw4 fk fz
  have hsz4 := (Array.getElem?_eq_some_iff.1 H4.out.2.2.1).1
  obtain ⟨m0, m1, m2, m3, m4, m5, m6, m7, hmm⟩ := list8 (K.set n.toNat other) (by rw [List.length_set]; exact HKL.out)
  have HMM := Lib.hid hmm
  have e4 := H4.out.2.2.1
  rw [hmm] at e4
  clear hmm
  simp only [List.map_cons, List.map_nil] at e4
  have z0 := (blk5 H4.out.1).1
  have z1 := (blk5 H4.out.1).2.1
  have z2 := (blk5 H4.out.1).2.2.1
  have z3 := (blk5 H4.out.1).2.2.2.1
  have z4 := (blk5 H4.out.1).2.2.2.2.1
  have y0 := (blk5 H4.out.1).2.2.2.2.2.1
  have y1 := (blk5 H4.out.1).2.2.2.2.2.2.1
  have y2 := (blk5 H4.out.1).2.2.2.2.2.2.2.1
  have y3 := (blk5 H4.out.1).2.2.2.2.2.2.2.2.1
  have y4 := (blk5 H4.out.1).2.2.2.2.2.2.2.2.2
  have v0 := (blk5 H4.out.2.1).1
  have v1 := (blk5 H4.out.2.1).2.1
  have v2 := (blk5 H4.out.2.1).2.2.1
  have v3 := (blk5 H4.out.2.1).2.2.2.1
  have v4 := (blk5 H4.out.2.1).2.2.2.2.1
  have s0 := (blk5 H4.out.2.1).2.2.2.2.2.1
  have s1 := (blk5 H4.out.2.1).2.2.2.2.2.2.1
  have s2 := (blk5 H4.out.2.1).2.2.2.2.2.2.2.1
  have s3 := (blk5 H4.out.2.1).2.2.2.2.2.2.2.2.1
  have s4 := (blk5 H4.out.2.1).2.2.2.2.2.2.2.2.2
  have x0 := (blk8 e4).1
  have x1 := (blk8 e4).2.1
  have x2 := (blk8 e4).2.2.1
  have x3 := (blk8 e4).2.2.2.1
  have x4 := (blk8 e4).2.2.2.2.1
  have x5 := (blk8 e4).2.2.2.2.2.1
  have x6 := (blk8 e4).2.2.2.2.2.2.1
  have x7 := (blk8 e4).2.2.2.2.2.2.2.1
  have fz := (blk8 e4).2.2.2.2.2.2.2.2
  clear e4
  repeat (first | go_values | go_skip | go_guarded | go_step | go_upon | go_quiet (fail))
  refine (rput_any (u32 (t.g + 1)) t.h t.ty oap (.slice a t.ks.length cap) [m0, m1, m2, m3, m4, m5, m6, m7] w4 rfl).mono ?_
  rintro e w5 ⟨⟨a5, c5, rfl, ho5⟩, hb5⟩
  have HK5 := Lib.hid (KeysIn.of_own ho5)
  have HN5 := Lib.hid (row_none ho5)
  clear ho5
  have HR : Hid (rregF t n ac key other oap = (⟨u32 (t.g + 1), regsF 0 [m0, m1, m2, m3, m4, m5, m6, m7], t.h, t.ty, oap⟩, 0, [])) := Lib.hid (by
    unfold rregF
    rw [HX.out, ← HKK.out, HMM.out]
    simp [q0, qz, qo, show t.ks.length ≠ 6 by simp at ql; omega])
  generalize regsF 0 [m0, m1, m2, m3, m4, m5, m6, m7] = L at HK5 HN5 HR ⊢
  have hsz5 := hb5.size
  have e2 := (hb5.block (w.heap.size + 1 + 1) (by omega)).trans H4.out.2.1
  have hl5 : w.heap.size + 1 + 1 < w5.heap.size := by omega
  have HB5 := Lib.hid (H4.out.2.2.2.trans (hb5.mono (by omega)))
  clear z0 z1 z2 z3 z4 y0 y1 y2 y3 y4 v0 v1 v2 v3 v4 s0 s1 s2 s3 s4 x0 x1 x2 x3 x4 x5 x6 x7
  have v0 := (blk5 e2).1
  have v1 := (blk5 e2).2.1
  have v2 := (blk5 e2).2.2.1
  have v3 := (blk5 e2).2.2.2.1
  have v4 := (blk5 e2).2.2.2.2.1
  have s0 := (blk5 e2).2.2.2.2.2.1
  have s1 := (blk5 e2).2.2.2.2.2.2.1
  have s2 := (blk5 e2).2.2.2.2.2.2.2.1
  have s3 := (blk5 e2).2.2.2.2.2.2.2.2.1
  have s4 := (blk5 e2).2.2.2.2.2.2.2.2.2
  have E2 := Lib.hid e2
  clear e2 hb5
  dsimp only
  repeat (first | go_values | go_skip | go_guarded | go_step | go_upon | go_quiet (fail))
  refine bodyPost_ret (v := .tuple #[.agg #[.int .u32 (u32 (t.g + 1)), .slice a5 L.length c5, .int .i64 t.h, .int .i64 t.ty, .bool oap], .int .i64 0, .slice none 0 0]) ?_ rfl ?_
  · simp only [results, Try.results37]
    go_simp
  · unfold ActPost
    rw [HR.out]
    have hbw := HB5.out
    refine ⟨a5, c5, none, 0, rfl, ?_, HN5.out, IntsIn.nil _ _, ?_⟩
    · exact keys_ret HK5.out E2.out
    · repeat (first | with_reducible assumption | (with_reducible refine Below.setCell ?_ (by first | omega | (simp; done) | (simp; omega)) _) | (with_reducible refine Below.alloc ?_ (by first | omega | (simp; done) | (simp; omega)) _) | (with_reducible refine Below.drew ?_) | (with_reducible refine below_dN ?_ _) | with_reducible exact Below.refl _ _ | (with_reducible refine Below.trans ?_ (Below.mono (by assumption) (by first | omega | (simp; done) | (simp; omega)))))
end Go.Proofs.Ytopakonpfbbldaa
namespace Go.Proofs.Ytopakonpfbbldaa
open Go.RowKit

theorem rreg_any (t : Tab) (n ac oty key other : Int) (oap : Bool) (a : Option Addr) (cap : Nat) (w : World) (hlen : t.ks.length ≤ 9223372036854775807) (h0 : 0 ≤ n) (h8 : n < 8) (hh : t.h < 8)
   (hk : KeysIn w a t.ks) (hn : a = none → cap = 0) :
    Calls Try.prog 37 #[.agg #[.int .u32 t.g, .slice a t.ks.length cap, .int .i64 t.h, .int .i64 t.ty, .bool t.ap], .int .i64 n, .agg #[.int .i64 ac, .int .i64 oty, .int .u64 key, .int .u64 other, .bool oap]] w (ActPost (rregF t n ac key other oap) w) := by
  cases q0 : (ac == 0) with
  | true =>
    cases qn : (key != (keysF t.ks).getD n.toNat 0) with
    | true => exact rreg_a t n ac oty key other oap a cap w hlen h0 h8 hh hk hn q0 qn
    | false =>
      cases qz : ((keysF t.ks).getD n.toNat 0 == 0) with
      | true =>
        cases qo : (other == 0) with
        | true => exact rreg_b0 t n ac oty key other oap a cap w hlen h0 h8 hh hk hn q0 qn qz qo
        | false =>
          cases ql : ((t.ks.length : Int) == 6) with
          | true => exact rreg_c0 t n ac oty key other oap a cap w hlen h0 h8 hh hk hn q0 qn qz qo ql
          | false => exact rreg_e01 t n ac oty key other oap a cap w hlen h0 h8 hh hk hn q0 qn qz qo ql
      | false =>
        cases qo : (other == 0) with
        | true => exact rreg_d0 t n ac oty key other oap a cap w hlen h0 h8 hh hk hn q0 qn qz qo
        | false => exact rreg_e00 t n ac oty key other oap a cap w hlen h0 h8 hh hk hn q0 qn qz qo
  | false =>
    cases qz : ((keysF t.ks).getD n.toNat 0 == 0) with
    | true =>
      cases qo : (other == 0) with
      | true => exact rreg_b1 t n ac oty key other oap a cap w hlen h0 h8 hh hk hn q0 qz qo
      | false =>
        cases ql : ((t.ks.length : Int) == 6) with
        | true => exact rreg_c1 t n ac oty key other oap a cap w hlen h0 h8 hh hk hn q0 qz qo ql
        | false => exact rreg_e11 t n ac oty key other oap a cap w hlen h0 h8 hh hk hn q0 qz qo ql
    | false =>
      cases qo : (other == 0) with
      | true => exact rreg_d1 t n ac oty key other oap a cap w hlen h0 h8 hh hk hn q0 qz qo
      | false => exact rreg_e10 t n ac oty key other oap a cap w hlen h0 h8 hh hk hn q0 qz qo
end Go.Proofs.Ytopakonpfbbldaa
