/- What Page makes of a table that can be. -/
import Derived.Test.YtopakonpfbbldaaLib6
import Derived.Test.YtopakonpfbbldaaMix3
import Derived.Test.YtopakonpfbbldaaFnsQ
import Derived.Laws.CopyOwn
namespace Go.Proofs.Ytopakonpfbbldaa
set_option linter.unusedSimpArgs false
set_option linter.unusedVariables false
open Go.RowKit

theorem parr_cell {w : World} {B T : Nat} {l : List Int} (h : w.heap[B]? = some (.cells (l.map (Value.int .u8)).toArray T)) (i : Nat) (hi : i < l.length) : w.cell? ⟨B, i, none⟩ = some (.int .u8 (l.getD i 0)) ∧ w.frozen? ⟨B, i, none⟩ = false := by
  simp [World.cell?, World.frozen?, h, hi]
theorem blk2 {w : World} {B : Nat} {c0 c1 : Value} {T : Nat} (h : w.heap[B]? = some (.cells #[c0, c1] T)) : w.cell? ⟨B, 0, none⟩ = some c0 ∧ w.cell? ⟨B, 1, none⟩ = some c1 := by simp [World.cell?, h]
theorem parr_set {w : World} {B T : Nat} {l : List Int} (h : w.heap[B]? = some (.cells (l.map (Value.int .u8)).toArray T)) (i : Nat) (x : Int) : (w.setCell ⟨B, i, none⟩ (.int .u8 x)).heap[B]? = some (.cells ((l.set i x).map (Value.int .u8)).toArray T) := by
  rw [set_blk h]; simp

def PGs (w : World) (t : Tab) (a : Option Addr) (cap : Nat) (l : List Int) (wx : World) : Prop :=
  wx.heap[w.heap.size]? = some (.cells #[.int .u32 t.g, .slice a t.ks.length cap, .int .i64 t.h, .int .i64 t.ty, .bool t.ap] 25) ∧ wx.heap[w.heap.size + 1]? = some (.cells ((List.replicate 64 0).map (Value.int .u8)).toArray 53) ∧ wx.heap[w.heap.size + 1 + 1]? = some (.cells ((l).map (Value.int .u8)).toArray 53) ∧ l.length = 64 ∧ Below w.heap.size w wx ∧ w.heap.size + 1 + 1 < wx.heap.size
theorem PGs.set {w : World} {t : Tab} {a : Option Addr} {cap : Nat} {l : List Int} {wx : World} (h : PGs w t a cap l wx) (i : Nat) (x : Int) : PGs w t a cap (l.set i x) (wx.setCell ⟨w.heap.size + 1 + 1, i, none⟩ (.int .u8 x)) := by
  obtain ⟨h0, h1, h2, h3, h4, h5⟩ := h
  exact ⟨heap_set_ne (by omega) h0, heap_set_ne (by omega) h1, parr_set h2 i x, by simpa using h3, Below.setCell h4 (by simp; omega) _, by simpa using h5⟩
theorem PGs.below {w : World} {t : Tab} {a : Option Addr} {cap : Nat} {l : List Int} {wx wy : World} (h : PGs w t a cap l wx) (hb : Below wx.heap.size wx wy) : PGs w t a cap l wy := by
  obtain ⟨h0, h1, h2, h3, h4, h5⟩ := h
  exact ⟨(hb.block _ (by omega)).trans h0, (hb.block _ (by omega)).trans h1, (hb.block _ h5).trans h2, h3, h4.trans (hb.mono h4.size), Nat.lt_of_lt_of_le h5 hb.size⟩

set_option maxRecDepth 100000 in
set_option maxHeartbeats 4000000 in
theorem Page_any (t : Tab) (a : Option Addr) (cap : Nat) (w : World) (hlen : t.ks.length ≤ 6) (hh0 : -1 ≤ t.h) (hh8 : t.h < 8) (ht0 : 0 ≤ t.ty) (ht8 : t.ty ≤ 8) (hg0 : 0 ≤ t.g) (hg1 : t.g < 4294967296) (hk : KeysIn w a t.ks)
    (hkk : ∀ r ∈ t.ks, 0 ≤ r.1 ∧ r.1 < 8 ∧ 0 ≤ r.2 ∧ r.2 < 18446744073709551616) :
    Calls Try.prog 24 #[.agg #[.int .u32 t.g, .slice a t.ks.length cap, .int .i64 t.h, .int .i64 t.ty, .bool t.ap]] w fun e w' => e = .returned (.agg ((pageF t).map (Value.int .u8)).toArray) ∧ Below w.heap.size w w' := by
  have HK := Lib.hid hk; clear hk
  have HKK := Lib.hid hkk; clear hkk
  go_enter Try.func24, Try.ntmps24
  repeat (first | go_values | go_skip | go_guarded | go_step | go_upon | go_quiet (fail))
  refine gen_code (PGs w t a cap (List.replicate 64 0)) ?_ ?_
  · obtain ⟨b0, b1, b2⟩ := heap3 w (.cells #[.int .u32 t.g, .slice a t.ks.length cap, .int .i64 t.h, .int .i64 t.ty, .bool t.ap] 25) (.cells ((List.replicate 64 0).map (Value.int .u8)).toArray 53) (.cells ((List.replicate 64 0).map (Value.int .u8)).toArray 53)
    unfold PGs
    exact ⟨b0, b1, b2, by simp, by repeat (first | with_reducible assumption | (with_reducible refine Below.setCell ?_ (by first | omega | (simp; done) | (simp; omega)) _) | (with_reducible refine Below.alloc ?_ (by first | omega | (simp; done) | (simp; omega)) _) | (with_reducible refine Below.drew ?_) | (with_reducible refine below_dN ?_ _) | with_reducible exact Below.refl _ _ | (with_reducible refine Below.trans ?_ (Below.mono (by assumption) (by first | omega | (simp; done) | (simp; omega))))), by simp⟩
  intro w1 hw1
  have H1 := Lib.hid hw1
  have hR := hw1.2.2.2.2.2
  clear hw1
  have z0 := (blk5 H1.out.1).1
  have z1 := (blk5 H1.out.1).2.1
  have z2 := (blk5 H1.out.1).2.2.1
  have z3 := (blk5 H1.out.1).2.2.2.1
  have z4 := (blk5 H1.out.1).2.2.2.2.1
  have y0 := (blk5 H1.out.1).2.2.2.2.2.1
  have y1 := (blk5 H1.out.1).2.2.2.2.2.2.1
  have y2 := (blk5 H1.out.1).2.2.2.2.2.2.2.1
  have y3 := (blk5 H1.out.1).2.2.2.2.2.2.2.2.1
  have y4 := (blk5 H1.out.1).2.2.2.2.2.2.2.2.2
  have k0 := cellB (R := w.heap.size + 1 + 1) z0 (by first | (simp; done) | (simp; omega))
  have k1 := cellB (R := w.heap.size + 1 + 1) z1 (by first | (simp; done) | (simp; omega))
  have k2 := cellB (R := w.heap.size + 1 + 1) z2 (by first | (simp; done) | (simp; omega))
  have k3 := cellB (R := w.heap.size + 1 + 1) z3 (by first | (simp; done) | (simp; omega))
  have k4 := cellB (R := w.heap.size + 1 + 1) z4 (by first | (simp; done) | (simp; omega))
  refine wp_region_plan (.quiet 0 (.quiet 1 (.quiet 2 (.quiet 3 (.quiet 4 (.quiet 5 (.quiet 6 (.quiet 7 (.quiet 8 (.quiet 9 (.quiet 10 (.quiet 11 (.one 12 (.quiet 13 (.one 14 (.quiet 15 (.one 16 (.quiet 17 (.one 18 .nil)))))))))))))))))))
    (fun w' => ∃ p : RegrownB, w' = setO (Go.Sort.grow (redrawn w1 p.d) p.os) (w.heap.size + 1 + 1) p.o) (by kernel_rfl) (by kernel_rfl) (fun _ _ d _ _ h => by cases d <;> exact h) (growsB_drew hR) ?_
  with_reducible refine plan_q ?_
  simp only [List.drop_succ_cons, List.drop_zero, List.take_succ_cons, List.take_zero]
  go_big_quiet_step (fail)
  with_reducible refine wpQuiet_nil ?_
  with_reducible refine plan_q ?_
  simp only [List.drop_succ_cons, List.drop_zero, List.take_succ_cons, List.take_zero]
  go_big_quiet_step (fail)
  with_reducible refine wpQuiet_nil ?_
  with_reducible refine plan_q ?_
  simp only [List.drop_succ_cons, List.drop_zero, List.take_succ_cons, List.take_zero]
  go_big_quiet_step (fail)
  with_reducible refine wpQuiet_nil ?_
  with_reducible refine plan_q ?_
  simp only [List.drop_succ_cons, List.drop_zero, List.take_succ_cons, List.take_zero]
  go_big_quiet_step (fail)
  with_reducible refine wpQuiet_nil ?_
  with_reducible refine plan_q ?_
  simp only [List.drop_succ_cons, List.drop_zero, List.take_succ_cons, List.take_zero]
  go_big_quiet_step (fail)
  with_reducible refine wpQuiet_nil ?_
  with_reducible refine plan_q ?_
  simp only [List.drop_succ_cons, List.drop_zero, List.take_succ_cons, List.take_zero]
  go_big_quiet_step (fail)
  with_reducible refine wpQuiet_nil ?_
  with_reducible refine plan_q ?_
  simp only [List.drop_succ_cons, List.drop_zero, List.take_succ_cons, List.take_zero]
  go_big_quiet_step (fail)
  with_reducible refine wpQuiet_nil ?_
  with_reducible refine plan_q ?_
  simp only [List.drop_succ_cons, List.drop_zero, List.take_succ_cons, List.take_zero]
  go_big_quiet_step (fail)
  with_reducible refine wpQuiet_nil ?_
  with_reducible refine plan_q ?_
  simp only [List.drop_succ_cons, List.drop_zero, List.take_succ_cons, List.take_zero]
  go_big_quiet_step (fail)
  with_reducible refine wpQuiet_nil ?_
  with_reducible refine plan_q ?_
  simp only [List.drop_succ_cons, List.drop_zero, List.take_succ_cons, List.take_zero]
  go_big_quiet_step (fail)
  with_reducible refine wpQuiet_nil ?_
  with_reducible refine plan_q ?_
  simp only [List.drop_succ_cons, List.drop_zero, List.take_succ_cons, List.take_zero]
  go_big_quiet_step (fail)
  with_reducible refine wpQuiet_nil ?_
  with_reducible refine plan_q ?_
  simp only [List.drop_succ_cons, List.drop_zero, List.take_succ_cons, List.take_zero]
  go_big_quiet_step (fail)
  with_reducible refine wpQuiet_nil ?_
  with_reducible refine plan_a ?_
  have J0 := Lib.hid (show PGs w t a cap (List.replicate 64 0) w1.drew from H1.out.below ((Below.refl _ _).drew))
  have G0 := Lib.hid (grown_drew w1 (some (w.heap.size + 1 + 1)))
  clear z0 z1 z2 z3 z4 y0 y1 y2 y3 y4
  obtain ⟨hp1, hp2⟩ := parr_cell J0.out.2.2.1 0 (by rw [J0.out.2.2.2.1]; decide)
  simp only [List.drop_succ_cons, List.drop_zero, List.take_succ_cons, List.take_zero]
  go_wp2_with fail
  refine mixQ_normal ⟨growsB_of hR (grown_trans G0.out (grown_set _ _ _ _)), ?_⟩
  refine gen_plan (fun wx => PGs w t a cap (((List.replicate 64 0).set 0 (82))) wx ∧ w1.grownBy wx (some (w.heap.size + 1 + 1))) ⟨J0.out.set 0 _, grown_trans G0.out (grown_set _ _ _ _)⟩ ?_
  intro x1 hx
  have J1 := Lib.hid hx.1
  have G1 := Lib.hid hx.2
  clear hx hp1 hp2
  with_reducible refine plan_q ?_
  simp only [List.drop_succ_cons, List.drop_zero, List.take_succ_cons, List.take_zero]
  go_big_quiet_step (fail)
  with_reducible refine wpQuiet_nil ?_
  with_reducible refine plan_a ?_
  obtain ⟨hp1, hp2⟩ := parr_cell J1.out.2.2.1 1 (by rw [J1.out.2.2.2.1]; decide)
  simp only [List.drop_succ_cons, List.drop_zero, List.take_succ_cons, List.take_zero]
  go_wp2_with fail
  refine mixQ_normal ⟨growsB_of hR (grown_trans G1.out (grown_set _ _ _ _)), ?_⟩
  refine gen_plan (fun wx => PGs w t a cap ((((List.replicate 64 0).set 0 (82)).set 1 (t.h + 1))) wx ∧ w1.grownBy wx (some (w.heap.size + 1 + 1))) ⟨J1.out.set 1 _, grown_trans G1.out (grown_set _ _ _ _)⟩ ?_
  intro x2 hx
  have J2 := Lib.hid hx.1
  have G2 := Lib.hid hx.2
  clear hx hp1 hp2
  with_reducible refine plan_q ?_
  simp only [List.drop_succ_cons, List.drop_zero, List.take_succ_cons, List.take_zero]
  go_big_quiet_step (fail)
  with_reducible refine wpQuiet_nil ?_
  with_reducible refine plan_a ?_
  obtain ⟨hp1, hp2⟩ := parr_cell J2.out.2.2.1 2 (by rw [J2.out.2.2.2.1]; decide)
  simp only [List.drop_succ_cons, List.drop_zero, List.take_succ_cons, List.take_zero]
  go_wp2_with fail
  refine mixQ_normal ⟨growsB_of hR (grown_trans G2.out (grown_set _ _ _ _)), ?_⟩
  refine gen_plan (fun wx => PGs w t a cap (((((List.replicate 64 0).set 0 (82)).set 1 (t.h + 1)).set 2 (t.ty))) wx ∧ w1.grownBy wx (some (w.heap.size + 1 + 1))) ⟨J2.out.set 2 _, grown_trans G2.out (grown_set _ _ _ _)⟩ ?_
  intro x3 hx
  have J3 := Lib.hid hx.1
  have G3 := Lib.hid hx.2
  clear hx hp1 hp2
  with_reducible refine plan_q ?_
  simp only [List.drop_succ_cons, List.drop_zero, List.take_succ_cons, List.take_zero]
  go_big_quiet_step (fail)
  with_reducible refine wpQuiet_nil ?_
  with_reducible refine plan_a ?_
  obtain ⟨hp1, hp2⟩ := parr_cell J3.out.2.2.1 3 (by rw [J3.out.2.2.2.1]; decide)
  simp only [List.drop_succ_cons, List.drop_zero, List.take_succ_cons, List.take_zero]
  go_wp2_with fail
  refine mixQ_normal ⟨growsB_of hR (grown_trans G3.out (grown_set _ _ _ _)), ?_⟩
  refine gen_plan (PGs w t a cap (pg4 t)) (J3.out.set 3 _) ?_
  intro x4 hx
  have J4 := Lib.hid hx
  clear hx hp1 hp2 H1 J0 J1 J2 J3 G0 G1 G2 G3 k0 k1 k2 k3 k4
  with_reducible refine plan_nil ?_
  repeat (first | go_values | go_skip | go_guarded | go_step | go_upon | go_quiet (fail))
  go_loopw [23] (fun iv wr => ∃ k : Nat, k ≤ 4 ∧ iv = .int .i64 k ∧ PGs w t a cap (setB (pg4 t) 4 t.g k) wr) (fun iv _ => 4 - (intOf iv).toNat)
  case atStart => exact ⟨0, by omega, rfl, J4.out⟩
  case round =>
    obtain ⟨k, hk, rfl, hpg⟩ := hrel
    have HP := Lib.hid hpg
    clear hpg
    by_cases hlt : k < 4
    · obtain ⟨hp1, hp2⟩ := parr_cell HP.out.2.2.1 (4 + k) (by rw [HP.out.2.2.2.1]; omega)
      have hi0 : (0 : Int) ≤ k := by omega
      have hi4 : (k : Int) < 4 := by omega
      have z0 := (blk5 HP.out.1).1
      have z1 := (blk5 HP.out.1).2.1
      have z2 := (blk5 HP.out.1).2.2.1
      have z3 := (blk5 HP.out.1).2.2.2.1
      have z4 := (blk5 HP.out.1).2.2.2.2.1
      have y0 := (blk5 HP.out.1).2.2.2.2.2.1
      have y1 := (blk5 HP.out.1).2.2.2.2.2.2.1
      have y2 := (blk5 HP.out.1).2.2.2.2.2.2.2.1
      have y3 := (blk5 HP.out.1).2.2.2.2.2.2.2.2.1
      have y4 := (blk5 HP.out.1).2.2.2.2.2.2.2.2.2
      repeat (first | go_values | go_skip | go_guarded | go_step | go_upon | go_quiet (fail))
      exact ⟨⟨k + 1, by omega, by go_num, HP.out.set (4 + k) _⟩, by simp [intOf]; omega⟩
    · obtain rfl : k = 4 := by omega
      generalize hQ : setB (pg4 t) 4 t.g 4 = Q at HP
      have HQ := Lib.hid hQ
      clear hQ
      have z0 := (blk5 HP.out.1).1
      have z1 := (blk5 HP.out.1).2.1
      have z2 := (blk5 HP.out.1).2.2.1
      have z3 := (blk5 HP.out.1).2.2.2.1
      have z4 := (blk5 HP.out.1).2.2.2.2.1
      have y0 := (blk5 HP.out.1).2.2.2.2.2.1
      have y1 := (blk5 HP.out.1).2.2.2.2.2.2.1
      have y2 := (blk5 HP.out.1).2.2.2.2.2.2.2.1
      have y3 := (blk5 HP.out.1).2.2.2.2.2.2.2.2.1
      have y4 := (blk5 HP.out.1).2.2.2.2.2.2.2.2.2
      repeat (first | go_values | go_skip | go_guarded | go_step | go_upon | go_quiet (fail))
      clear z0 z1 z2 z3 z4 y0 y1 y2 y3 y4
      go_loopw [39] (fun iv wx => ∃ m : Nat, m ≤ t.ks.length ∧ iv = .int .i64 m ∧ PGs w t a cap (pgK Q t.ks m) wx) (fun iv _ => t.ks.length - (intOf iv).toNat)
      case atStart => exact ⟨0, by omega, rfl, HP.out⟩
      case round =>
        obtain ⟨m, hm, rfl, hpg⟩ := hrel
        have HO := Lib.hid hpg
        clear hpg HP
        by_cases hlt2 : m < t.ks.length
        · obtain ⟨b, off, hab, hbs, e1, e2⟩ := HK.out m hlt2
          subst hab
          have hbel := HO.out.2.2.2.2.1
          have d1 := (hbel.cell (p := ⟨b, off + m * 2, none⟩) hbs).trans e1
          have d2 := (hbel.cell (p := ⟨b, off + m * 2 + 1, none⟩) hbs).trans e2
          have hm0 : (0 : Int) ≤ m := by omega
          have hm1 : (m : Int) < t.ks.length := by omega
          have hm6 : (m : Int) < 6 := by omega
          have hm7 : ((m : Int) == 6) = false := by simp; omega
          obtain ⟨hn0, hn8, hy0, hy1⟩ := HKK.out t.ks[m] (List.getElem_mem hlt2)
          clear e1 e2 hbel
          repeat (fail_if_success (with_reducible refine stop_pos "pers.go:251" rfl ?_)
                  first | go_values | go_skip | go_guarded | go_step | go_upon | go_quiet (fail))
          refine gen_world (fun wx => PGs w t (some ⟨b, off, none⟩) cap (pgK Q t.ks m) wx ∧ wx.heap[wr.heap.size]? = some (.cells #[.int .i64 t.ks[m].1, .int .u64 t.ks[m].2] 32) ∧ wr.heap.size < wx.heap.size) ⟨HO.out.below (Below.alloc (Below.refl _ _) (Nat.le_refl _) _), heap_alloc_new wr _, by simp⟩ ?_
          intro w4 hw4
          have hCP : w.heap.size + 1 + 1 < wr.heap.size := HO.out.2.2.2.2.2
          generalize hC : wr.heap.size = C at hw4 hCP ⊢
          have H4 := Lib.hid hw4
          clear hw4 hC d1 d2
          have c0 := (blk2 H4.out.2.1).1
          have c1 := (blk2 H4.out.2.1).2
          obtain ⟨hp1, hp2⟩ := parr_cell H4.out.1.2.2.1 (8 + 9 * m) (by rw [H4.out.1.2.2.2.1]; omega)
          repeat (fail_if_success (with_reducible refine stop_pos "pers.go:255" rfl ?_)
                  first | go_values | go_skip | go_guarded | go_step | go_upon | go_quiet (fail))
          refine gen_world (fun wx => PGs w t (some ⟨b, off, none⟩) cap ((pgK Q t.ks m).set (8 + 9 * m) t.ks[m].1) wx ∧ wx.heap[C]? = some (.cells #[.int .i64 t.ks[m].1, .int .u64 t.ks[m].2] 32) ∧ C < wx.heap.size) ?_ ?_
          · exact ⟨H4.out.1.set (8 + 9 * m) _, heap_set_ne (by omega) H4.out.2.1, by simpa using H4.out.2.2⟩
          intro w5 hw5
          have H5 := Lib.hid hw5
          clear hw5 c0 c1 hp1 hp2 H4
          repeat (first | go_values | go_skip | go_guarded | go_step | go_upon | go_quiet (fail))
          go_loopw [53] (fun iv wx => ∃ q : Nat, q ≤ 8 ∧ iv = .int .i64 q ∧ PGs w t (some ⟨b, off, none⟩) cap (setB ((pgK Q t.ks m).set (8 + 9 * m) t.ks[m].1) (9 + 9 * m) t.ks[m].2 q) wx ∧ wx.heap[C]? = some (.cells #[.int .i64 t.ks[m].1, .int .u64 t.ks[m].2] 32) ∧ C < wx.heap.size) (fun iv _ => 8 - (intOf iv).toNat)
          case atStart => exact ⟨0, by omega, rfl, H5.out.1, H5.out.2.1, H5.out.2.2⟩
          case round =>
            obtain ⟨q, hq, rfl, hpg2, hcc, hcl⟩ := hrel
            have HP2 := Lib.hid (And.intro hpg2 (And.intro hcc hcl))
            clear hpg2 hcl
            by_cases hq8 : q < 8
            · obtain ⟨hp1, hp2⟩ := parr_cell HP2.out.1.2.2.1 (9 + 9 * m + q) (by rw [HP2.out.1.2.2.2.1]; omega)
              have hq0 : (0 : Int) ≤ q := by omega
              have hq7 : (q : Int) < 8 := by omega
              have c0 := (blk2 hcc).1
              have c1 := (blk2 hcc).2
              clear hcc
              repeat (first | go_values | go_skip | go_guarded | go_step | go_upon | go_quiet (fail))
              exact ⟨⟨q + 1, by omega, by go_num, HP2.out.1.set (9 + 9 * m + q) _, heap_set_ne (by omega) HP2.out.2.1, by simpa using HP2.out.2.2⟩, by simp [intOf]; omega⟩
            · obtain rfl : q = 8 := by omega
              clear hcc
              repeat (first | go_values | go_skip | go_guarded | go_step | go_upon | go_quiet (fail))
              refine ⟨⟨m + 1, by omega, by go_num, ?_⟩, by simp [intOf]; omega⟩
              show PGs w t (some ⟨b, off, none⟩) cap (setB ((pgK Q t.ks m).set (8 + 9 * m) (t.ks.getD m (0, 0)).1) (9 + 9 * m) (t.ks.getD m (0, 0)).2 8) wr
              rw [show t.ks.getD m (0, 0) = t.ks[m] by simp [hlt2]]
              exact HP2.out.1
        · obtain rfl : m = t.ks.length := by omega
          repeat (fail_if_success (with_reducible refine stop_pos "pers.go:259" rfl ?_)
                  first | go_values | go_skip | go_guarded | go_step | go_upon | go_quiet (fail))
          have hsz : ((pgK Q t.ks t.ks.length).map (Value.int .u8)).toArray.size = 64 := by simp [HO.out.2.2.2.1]
          have hone : ((pgK Q t.ks t.ks.length).map (Value.int .u8)).toArray.all (·.oneCell') = true := by simp [Value.oneCell']
          have hinf : (Try.prog.info? 53).map (·.size) = some 64 := by kernel_rfl
          generalize hL : ((pgK Q t.ks t.ks.length).map (Value.int .u8)).toArray = L at hsz hone
          have hblk : wr.heap[w.heap.size + 1 + 1]? = some (.cells L 53) := by rw [← hL]; exact HO.out.2.2.1
          have hLr := Lib.hid hL
          clear hL
          refine wpList_load_row rfl 53 (.tmp 3) rfl (w.heap.size + 1 + 1) rfl 53 L (0, 0) _ hblk Try.underlying53 rfl (by rw [hsz]; exact hinf) ?_
          simp only [Act.put, List.setIfInBounds_toArray, List.set_cons_zero, List.set_cons_succ]
          refine wpList_store_row rfl 53 (.tmp 2) (.tmp 70) rfl (w.heap.size + 1) L rfl rfl 53 _ HO.out.2.1 (by rw [hsz]; exact hinf) (by rw [hsz]; simp) hone ?_
          simp only [Act.put, List.setIfInBounds_toArray, List.set_cons_zero, List.set_cons_succ]
          have hfin := setRow_heap wr (w.heap.size + 1) _ L 53 (0, 0) HO.out.2.1
          have hbf : Below w.heap.size w (wr.setRow (w.heap.size + 1) L) := below_setRow HO.out.2.2.2.2.1 (by omega) L
          generalize wr.setRow (w.heap.size + 1) L = wf at hfin hbf ⊢
          repeat (first | go_values | go_skip | go_guarded | go_step | go_upon | go_quiet (fail))
          refine bodyPost_ret (results_cell_row Try.results24 _ _ (w.heap.size + 1) 53 L (0, 0) _ rfl hfin Try.underlying53 rfl (by rw [hsz]; exact hinf)) rfl ⟨?_, hbf⟩
          rw [← hLr.out]
          unfold pageF
          rw [HQ.out]
end Go.Proofs.Ytopakonpfbbldaa
