/- What the small functions of the reference of layer 10 answer. -/
import Derived.Test.YtopakonpfbbldaaW1
import Derived.Test.YtopakonpfbbldaaFnsR
import Derived.Test.YtopakonpfbbldaaLib4
import Derived.Test.YtopakonpfbbldaaMix2
namespace Go.Proofs.Ytopakonpfbbldaa
set_option linter.unusedSimpArgs false
set_option linter.unusedVariables false
open Go.RowKit

def arr8 (l : List Int) : Value := .agg (l.map (Value.int .u64)).toArray

theorem arr_cell {w : World} {B T : Nat} {l : List Int} (h : w.heap[B]? = some (.cells (l.map (Value.int .u64)).toArray T)) (i : Nat) (hi : i < l.length) : w.cell? ⟨B, i, none⟩ = some (.int .u64 (l.getD i 0)) ∧ w.frozen? ⟨B, i, none⟩ = false := by
  simp [World.cell?, World.frozen?, h, hi]
theorem arr_set {w : World} {B T : Nat} {l : List Int} (h : w.heap[B]? = some (.cells (l.map (Value.int .u64)).toArray T)) (i : Nat) (x : Int) : (w.setCell ⟨B, i, none⟩ (.int .u64 x)).heap[B]? = some (.cells ((l.set i x).map (Value.int .u64)).toArray T) := by
  rw [set_blk h]; simp

/-- A block of eight cells that is known whole. -/
theorem blk8 {w : World} {B : Nat} {c0 c1 c2 c3 c4 c5 c6 c7 : Value} {T : Nat} (h : w.heap[B]? = some (.cells #[c0, c1, c2, c3, c4, c5, c6, c7] T)) :
    w.cell? ⟨B, 0, none⟩ = some c0 ∧ w.cell? ⟨B, 1, none⟩ = some c1 ∧ w.cell? ⟨B, 2, none⟩ = some c2 ∧ w.cell? ⟨B, 3, none⟩ = some c3 ∧ w.cell? ⟨B, 4, none⟩ = some c4 ∧ w.cell? ⟨B, 5, none⟩ = some c5 ∧ w.cell? ⟨B, 6, none⟩ = some c6 ∧ w.cell? ⟨B, 7, none⟩ = some c7 ∧
    w.frozen? ⟨B, 0, none⟩ = false ∧ w.frozen? ⟨B, 1, none⟩ = false ∧ w.frozen? ⟨B, 2, none⟩ = false ∧ w.frozen? ⟨B, 3, none⟩ = false ∧ w.frozen? ⟨B, 4, none⟩ = false ∧ w.frozen? ⟨B, 5, none⟩ = false ∧ w.frozen? ⟨B, 6, none⟩ = false ∧ w.frozen? ⟨B, 7, none⟩ = false := by
  simp [World.cell?, World.frozen?, h]

set_option maxRecDepth 100000 in
set_option maxHeartbeats 4000000 in
theorem keys_any (g h ty : Int) (ap : Bool) (a : Option Addr) (ks : List (Int × Int)) (cap : Nat) (w : World) (hlen : ks.length ≤ 9223372036854775807)
   (hk : KeysIn w a ks) :
    Calls Try.prog 26 #[.agg #[.int .u32 g, .slice a ks.length cap, .int .i64 h, .int .i64 ty, .bool ap]] w fun e w' => e = .returned (arr8 (keysF ks)) ∧ Below w.heap.size w w' := by
  have HK := Lib.hid hk; clear hk
  go_enter Try.func26, Try.ntmps26
  go_wp2
  obtain ⟨b0, b1, b2⟩ := heap3 w (.cells #[.int .u32 g, .slice a ks.length cap, .int .i64 h, .int .i64 ty, .bool ap] 25) (.cells #[.int .u64 0, .int .u64 0, .int .u64 0, .int .u64 0, .int .u64 0, .int .u64 0, .int .u64 0, .int .u64 0] 57) (.cells #[.int .u64 0, .int .u64 0, .int .u64 0, .int .u64 0, .int .u64 0, .int .u64 0, .int .u64 0, .int .u64 0] 57)
  have HB0 := Lib.hid (And.intro b0 (And.intro b1 b2))
  clear b0 b1 b2
  go_loopw [4] (fun i wr => ∃ k : Nat, k ≤ ks.length ∧ i = .int .i64 k ∧ wr.heap[w.heap.size]? = some (.cells #[.int .u32 g, .slice a ks.length cap, .int .i64 h, .int .i64 ty, .bool ap] 25) ∧
    wr.heap[w.heap.size + 1]? = some (.cells #[.int .u64 0, .int .u64 0, .int .u64 0, .int .u64 0, .int .u64 0, .int .u64 0, .int .u64 0, .int .u64 0] 57) ∧
    wr.heap[w.heap.size + 1 + 1]? = some (.cells ((keysF (ks.take k)).map (Value.int .u64)).toArray 57) ∧ Below w.heap.size w wr) (fun i _ => ks.length - (intOf i).toNat)
  case atStart => exact ⟨0, Nat.zero_le _, rfl, HB0.out.1, HB0.out.2.1, HB0.out.2.2, by repeat (first | with_reducible assumption | (with_reducible refine Below.setCell ?_ (by first | omega | (simp; done) | (simp; omega)) _) | (with_reducible refine Below.alloc ?_ (by first | omega | (simp; done) | (simp; omega)) _) | (with_reducible refine Below.drew ?_) | (with_reducible refine below_dN ?_ _) | with_reducible exact Below.refl _ _ | (with_reducible refine Below.trans ?_ (Below.mono (by assumption) (by first | omega | (simp; done) | (simp; omega)))))⟩
  case round =>
    obtain ⟨k, hk, rfl, d0, d1, d2, hbel⟩ := hrel
    have hR : w.heap.size + 1 + 1 < wr.heap.size := (Array.getElem?_eq_some_iff.1 d2).1
    have HD := Lib.hid (And.intro d0 (And.intro d1 d2))
    obtain ⟨z0, z1, z2, z3, z4, _⟩ := blk5 d0
    by_cases hlt : k < ks.length
    · obtain ⟨b, off, rfl, hb, e1, e2⟩ := HK.out k hlt
      have x1 := (hbel.cell (p := ⟨b, off + k * 2, none⟩) hb).trans e1
      have x2 := (hbel.cell (p := ⟨b, off + k * 2 + 1, none⟩) hb).trans e2
      have hts : ks.take (k + 1) = ks.take k ++ [ks[k]] := List.take_succ_eq_append_getElem hlt
      have HTS : Hid (keysF (ks.take (k + 1)) = keyPut (keysF (ks.take k)) ks[k]) := Lib.hid (by rw [hts]; exact keysF_snoc _ _)
      have hi0 : (0 : Int) ≤ k := by omega
      have hi1 : (k : Int) < ks.length := by omega
      have HBL := Lib.hid hbel
      clear hts e1 e2 d0 d1 hbel
      cases q : (decide (0 ≤ ks[k].1) && decide (ks[k].1 < 8))
      · have HQ := Lib.hid q
        have hq : ks[k].1 < 0 ∨ (0 ≤ ks[k].1 ∧ 8 ≤ ks[k].1) := by simp at q; omega
        clear q
        rcases hq with q1 | ⟨q1, q2⟩
        all_goals
          go_wp2
          go_roundw
          case rel => exact ⟨k + 1, by omega, by go_num, HD.out.1, HD.out.2.1, by rw [HTS.out, keyPut, HQ.out]; exact HD.out.2.2, HBL.out⟩
          case measure => simp [intOf]; omega
      · have hq : 0 ≤ ks[k].1 ∧ ks[k].1 < 8 := by simpa using q
        obtain ⟨q1, q2⟩ := hq
        have HQ := Lib.hid q
        clear q
        have hci := arr_cell d2 ks[k].1.toNat (by rw [keysF_length]; omega)
        obtain ⟨f1, f2⟩ := hci
        have k0 := cellB (R := w.heap.size + 1 + 1) z1 (by first | (simp; done) | (simp; omega))
        have k1 := cellB (R := w.heap.size + 1 + 1) x1 (by first | (simp; done) | (simp; omega))
        have k2 := cellB (R := w.heap.size + 1 + 1) x2 (by first | (simp; done) | (simp; omega))
        clear d2
        go_wp2
        refine wp_region_mix [(0, true), (1, true), (2, true), (3, true), (4, true), (5, true), (6, true), (7, true), (8, true), (9, true), (10, true), (11, true), (12, true), (13, false)] 13 (fun w' => ∃ p : RegrownB, w' = setO (Go.Sort.grow (redrawn wr p.d) p.os) (w.heap.size + 1 + 1) p.o) (by kernel_rfl) (by kernel_rfl) (fun _ _ d _ _ h => by cases d <;> exact h) (growsB_drew hR) ?_
        (repeat (refine mix_q ?_; simp only [List.drop_succ_cons, List.drop_zero, List.take_succ_cons, List.take_zero]; go_big_quiet_step (fail); refine wpQuiet_nil ?_))
        refine mix_a ?_; simp only [List.drop_succ_cons, List.drop_zero, List.take_succ_cons, List.take_zero]
        go_wp2_with fail
        refine mixQ_normal ⟨fun h => absurd h (by simp), mix_nil ?_⟩
        go_wp2
        go_roundw
        case rel =>
          have hgs : wr.grownBy (wr.setCell ⟨w.heap.size + 1 + 1, ks[k].1.toNat, none⟩ (.int .u64 ks[k].2)).drew (some (w.heap.size + 1 + 1)) := grown_trans (grown_set _ _ _ _) (grown_drew _ _)
          refine ⟨k + 1, by omega, by go_num, (hgs.block _ (by omega) (by first | (simp; done) | (simp; omega))).trans HD.out.1, (hgs.block _ (by omega) (by first | (simp; done) | (simp; omega))).trans HD.out.2.1, ?_, HBL.out.grown hgs (by omega) (fun k' hk' => by cases hk'; omega)⟩
          rw [HTS.out, keyPut, HQ.out]
          exact arr_set HD.out.2.2 _ _
        case measure => simp [intOf]; omega
    · obtain rfl : k = ks.length := by omega
      have htk : ks.take ks.length = ks := List.take_length
      rw [htk] at d2
      obtain ⟨c0, c1, c2, c3, c4, c5, c6, c7, hl8⟩ := list8 (keysF ks) (keysF_length ks)
      have HL8 := Lib.hid hl8
      rw [hl8] at d2
      have HBL := Lib.hid hbel
      have hz0 : w.heap.size < wr.heap.size := by omega
      have hz1 : w.heap.size + 1 < wr.heap.size := by omega
      clear hl8 htk hbel
      simp only [List.map_cons, List.map_nil] at d2
      obtain ⟨y0, y1, y2, y3, y4, y5, y6, y7, u0, u1, u2, u3, u4, u5, u6, u7⟩ := blk8 d2
      obtain ⟨r0, r1, r2, r3, r4, r5, r6, r7, s0, s1, s2, s3, s4, s5, s6, s7⟩ := blk8 d1
      clear d0 d1 d2
      go_wp2
      refine bodyPost_ret (v := .agg #[.int .u64 c0, .int .u64 c1, .int .u64 c2, .int .u64 c3, .int .u64 c4, .int .u64 c5, .int .u64 c6, .int .u64 c7]) ?_ rfl ?_
      · simp only [results, Try.results26]
        go_simp
      · refine ⟨by rw [arr8, HL8.out]; rfl, ?_⟩
        have hbl := HBL.out
        repeat (first | with_reducible assumption | (with_reducible refine Below.setCell ?_ (by first | omega | (simp; done) | (simp; omega)) _) | (with_reducible refine Below.alloc ?_ (by first | omega | (simp; done) | (simp; omega)) _) | (with_reducible refine Below.drew ?_) | (with_reducible refine below_dN ?_ _) | with_reducible exact Below.refl _ _ | (with_reducible refine Below.trans ?_ (Below.mono (by assumption) (by first | omega | (simp; done) | (simp; omega)))))
end Go.Proofs.Ytopakonpfbbldaa
