/- The plain functions of layer 10 (pers), as its Go text has them. No condition; no program is named. -/
import Derived.Lib.Hide
import Derived.Test.YtajmcplanlibnaaGreatDoorRows
import Derived.Test.YtajmcplanlibnaaGreatDoorKYLib
import Derived.BigQuiet
import Derived.Test.YtajmcplanlibnaaGreatDoorKYR0
import Derived.Deep.SlicePairs
import Derived.Deep.Grids
import Derived.OpenShut
import Derived.ProofKit
set_option linter.unusedSimpArgs false
set_option linter.unusedVariables false
set_option linter.unnecessarySimpa false
namespace Go.Proofs.YtajmcplanlibnaaGreatDoor.J
def keyF : List (Int × Int) → Int → Int × Bool
  | [], _ => (0, false)
  | (n, k) :: l, m => if n = m then (k, true) else keyF l m
theorem keyF_hit (ks : List (Int × Int)) (k : Nat) (h : k < ks.length) (n : Int) (he : ks[k].1 = n) : keyF (ks.drop k) n = (ks[k].2, true) := by
  rw [List.drop_eq_getElem_cons h]; unfold keyF; simp [he]
theorem keyF_miss (ks : List (Int × Int)) (k : Nat) (h : k < ks.length) (n : Int) (he : ¬ ks[k].1 = n) : keyF (ks.drop k) n = keyF (ks.drop (k + 1)) n := by
  rw [List.drop_eq_getElem_cons h]; rw [keyF]; simp [he]
def Vzg (t : Int) : Bool := t == 1 || t == 3 || (decide (5 ≤ t) && decide (t ≤ 8))
theorem rknownF_eq (t : Int) : (t == 1 || t == 3 || t == 5 || t == 6 || t == 7 || t == 8) = Vzg t := by
  unfold Vzg; rw [Bool.eq_iff_iff]; simp; omega
def okF : Int → List (Int × Int) → Bool
  | _, [] => true
  | last, (n, k) :: l => decide (0 ≤ n) && decide (n < 8) && k != 0 && decide (last < n) && okF n l
def lastF (ks : List (Int × Int)) : Nat → Int
  | 0 => -1
  | k + 1 => (ks.getD k (0, 0)).1
theorem okF_step (ks : List (Int × Int)) (k : Nat) (h : k < ks.length) :
    okF (lastF ks k) (ks.drop k) = (decide (0 ≤ ks[k].1) && decide (ks[k].1 < 8) && ks[k].2 != 0 && decide (lastF ks k < ks[k].1) && okF (lastF ks (k + 1)) (ks.drop (k + 1))) := by
  rw [List.drop_eq_getElem_cons h]; simp [okF, lastF, h]
theorem okF_go (ks : List (Int × Int)) (k : Nat) (h : k < ks.length) (a : 0 ≤ ks[k].1) (b : ks[k].1 < 8) (c : ¬ ks[k].2 = 0) (d : 0 < k → lastF ks k < ks[k].1) :
    okF (lastF ks k) (ks.drop k) = okF (lastF ks (k + 1)) (ks.drop (k + 1)) := by
  have d' : lastF ks k < ks[k].1 := by
    rcases Nat.eq_zero_or_pos k with rfl | h0
    · show (-1 : Int) < _; omega
    · exact d h0
  rw [okF_step ks k h]; simp [a, b, c, d']
def headF (len : Nat) (h ty : Int) : Bool := decide (6 < len) || decide (h < -1) || decide (8 ≤ h) || ((h == -1) != (ty == 0)) || (ty != 0 && !Vzg ty)
def soundF (ks : List (Int × Int)) (h ty : Int) : Bool := !headF ks.length h ty && okF (-1) ks && (h == -1 || (keyF ks h).2)
structure Tab where
  g : Int
  ks : List (Int × Int)
  h : Int
  ty : Int
  ap : Bool
def u32 (n : Int) : Int := n % 4294967296
open Go.RowKit
set_option maxRecDepth 100000 in
set_option maxHeartbeats 400000 in
theorem key_any (g h ty n : Int) (ap : Bool) (a : Option Addr) (ks : List (Int × Int)) (cap : Nat) (w : World) (hlen : ks.length ≤ 9223372036854775807)
   (hk : Jz4 w a ks) :
    Calls Tryz.prog 186 #[.agg #[.int .u32 g, .slice a ks.length cap, .int .i64 h, .int .i64 ty, .bool ap], .int .i64 n] w fun e w' => e = .returned (.tuple #[.int .u64 (keyF ks n).1, .bool (keyF ks n).2]) ∧ Below w.heap.size w w' := by
  have HK := hZ hk; clear hk
  go_enter Tryz.func186, Tryz.ntmps186
  go_wp2
  go_loopw [11] (fun i wr => ∃ k : Nat, k ≤ ks.length ∧ i = .int .i64 k ∧ keyF ks n = keyF (ks.drop k) n ∧ w.heap.size < wr.heap.size ∧ Below w.heap.size w wr) (fun i _ => ks.length - (intOf i).toNat)
  case atStart => exact ⟨0, Nat.zero_le _, rfl, rfl, by simp, bZ⟩
  case round =>
    obtain ⟨k, hk, rfl, hf, hsz, hbel⟩ := hrel
    have HF := hZ hf; clear hf
    by_cases hlt : k < ks.length
    · obtain ⟨b, off, rfl, hb, c1, c2⟩ := HK.out k hlt
      have d1 := (hbel.cell (p := ⟨b, off + k * 2, none⟩) hb).trans c1
      have d2 := (hbel.cell (p := ⟨b, off + k * 2 + 1, none⟩) hb).trans c2
      clear c1 c2
      have hit := keyF_hit ks k hlt n
      have miss := keyF_miss ks k hlt n
      have HH := hZ (And.intro hit miss); clear hit miss
      go_wp2
      · go_ret2
        exact ⟨by simp [HF.out, HH.out.1 (by simp_all)], hbel.alloc (by omega) _⟩
      · go_roundw
        case rel => exact ⟨k + 1, by omega, by go_num, by rw [HF.out, HH.out.2 (by simp_all)], by simp; omega, hbel.alloc (by omega) _⟩
        case measure => simp [intOf]; omega
    · obtain rfl : k = ks.length := by omega
      go_wp2
      go_ret2
      exact ⟨by rw [HF.out]; simp [keyF], hbel⟩
theorem known_any (t : Int) (w : World) : Calls Tryz.prog 185 #[.int .i64 t] w fun e w' => e = .returned (.bool (Vzg t)) ∧ w = w' := by
  go_enter Tryz.func185, Tryz.ntmps185
  go_wp2
  all_goals go_ret
  all_goals exact ⟨by simp_all [Vzg]; try omega, rfl⟩
theorem rknown_any (t : Int) (w : World) : Calls Tryz.prog 129 #[.int .i64 t] w fun e w' => e = .returned (.bool (Vzg t)) ∧ w = w' := by
  go_enter Tryz.func129, Tryz.ntmps129
  go_wp2
  all_goals go_ret
  all_goals refine ⟨?_, rfl⟩
  all_goals first | exact congrArg (fun b => Ending.returned (.bool b)) (rknownF_eq t) | (rw [← rknownF_eq]; simp_all)
def keyPut (acc : List Int) (r : Int × Int) : List Int := if decide (0 ≤ r.1) && decide (r.1 < 8) then acc.set r.1.toNat r.2 else acc
def keysF (ks : List (Int × Int)) : List Int := ks.foldl keyPut (List.replicate 8 0)
theorem keyPut_length (acc : List Int) (r : Int × Int) : (keyPut acc r).length = acc.length := by unfold keyPut; split <;> simp
theorem foldl_keyPut_length (ks : List (Int × Int)) : ∀ acc, (ks.foldl keyPut acc).length = acc.length := by
  induction ks with
  | nil => intro acc; rfl
  | cons r l ih => intro acc; rw [List.foldl_cons, ih, keyPut_length]
theorem Kzd (ks : List (Int × Int)) : (keysF ks).length = 8 := by unfold keysF; rw [foldl_keyPut_length]; simp
theorem keysF_snoc (ks : List (Int × Int)) (r : Int × Int) : keysF (ks ++ [r]) = keyPut (keysF ks) r := by simp [keysF]
theorem list8 (l : List Int) (h : l.length = 8) : ∃ a b c d e f g i, l = [a, b, c, d, e, f, g, i] := by
  match l, h with
  | [a, b, c, d, e, f, g, i], _ => exact ⟨a, b, c, d, e, f, g, i, rfl⟩
def rsoundF (ks : List (Int × Int)) (h ty : Int) : Bool :=
  decide (ks.length ≤ 6) && okF (-1) ks && (if ty == 0 then h == -1 else Vzg ty && decide (0 ≤ h) && decide (h < 8) && (keysF ks).getD h.toNat 0 != 0)
open Go.RowKit
theorem heap5 (w : World) (a b c d e : Obj) :
    (((((w.alloc a).alloc b).alloc c).alloc d).alloc e).heap[w.heap.size]? = some a ∧ (((((w.alloc a).alloc b).alloc c).alloc d).alloc e).heap[w.heap.size + 1]? = some b ∧
    (((((w.alloc a).alloc b).alloc c).alloc d).alloc e).heap[w.heap.size + 1 + 1]? = some c ∧ (((((w.alloc a).alloc b).alloc c).alloc d).alloc e).heap[w.heap.size + 1 + 1 + 1]? = some d ∧
    (((((w.alloc a).alloc b).alloc c).alloc d).alloc e).heap[w.heap.size + 1 + 1 + 1 + 1]? = some e := by
  have h0 := heap_alloc_new w a
  have h1 := heap_alloc_new (w.alloc a) b
  have h2 := heap_alloc_new ((w.alloc a).alloc b) c
  have h3 := heap_alloc_new (((w.alloc a).alloc b).alloc c) d
  have h4 := heap_alloc_new ((((w.alloc a).alloc b).alloc c).alloc d) e
  simp only [World.size_alloc] at h1 h2 h3 h4
  refine ⟨?_, ?_, ?_, ?_, h4⟩
  · rw [heap_alloc_old _ _ (by first | (simp; done) | (simp; omega)), heap_alloc_old _ _ (by first | (simp; done) | (simp; omega)), heap_alloc_old _ _ (by first | (simp; done) | (simp; omega)), heap_alloc_old _ _ (by simp), h0]
  · rw [heap_alloc_old _ _ (by first | (simp; done) | (simp; omega)), heap_alloc_old _ _ (by first | (simp; done) | (simp; omega)), heap_alloc_old _ _ (by simp), h1]
  · rw [heap_alloc_old _ _ (by first | (simp; done) | (simp; omega)), heap_alloc_old _ _ (by simp), h2]
  · rw [heap_alloc_old _ _ (by simp), h3]
theorem heap3 (w : World) (a b c : Obj) :
    (((w.alloc a).alloc b).alloc c).heap[w.heap.size]? = some a ∧ (((w.alloc a).alloc b).alloc c).heap[w.heap.size + 1]? = some b ∧ (((w.alloc a).alloc b).alloc c).heap[w.heap.size + 1 + 1]? = some c := by
  have h0 := heap_alloc_new w a
  have h1 := heap_alloc_new (w.alloc a) b
  have h2 := heap_alloc_new ((w.alloc a).alloc b) c
  simp only [World.size_alloc] at h1 h2
  refine ⟨?_, ?_, h2⟩
  · rw [heap_alloc_old _ _ (by first | (simp; done) | (simp; omega)), heap_alloc_old _ _ (by simp), h0]
  · rw [heap_alloc_old _ _ (by simp), h1]
open Go.RowKit
def arr8 (l : List Int) : Value := .agg (l.map (Value.int .u64)).toArray
theorem arr_cell {w : World} {B T : Nat} {l : List Int} (h : w.heap[B]? = some (.cells (l.map (Value.int .u64)).toArray T)) (i : Nat) (hi : i < l.length) : w.cell? ⟨B, i, none⟩ = some (.int .u64 (l.getD i 0)) ∧ w.frozen? ⟨B, i, none⟩ = false := by
  simp [World.cell?, World.frozen?, h, hi]
theorem arr_set {w : World} {B T : Nat} {l : List Int} (h : w.heap[B]? = some (.cells (l.map (Value.int .u64)).toArray T)) (i : Nat) (x : Int) : (w.setCell ⟨B, i, none⟩ (.int .u64 x)).heap[B]? = some (.cells ((l.set i x).map (Value.int .u64)).toArray T) := by
  rw [Xz3 h]; simp
theorem blk8 {w : World} {B : Nat} {c0 c1 c2 c3 c4 c5 c6 c7 : Value} {T : Nat} (h : w.heap[B]? = some (.cells #[c0, c1, c2, c3, c4, c5, c6, c7] T)) :
    w.cell? ⟨B, 0, none⟩ = some c0 ∧ w.cell? ⟨B, 1, none⟩ = some c1 ∧ w.cell? ⟨B, 2, none⟩ = some c2 ∧ w.cell? ⟨B, 3, none⟩ = some c3 ∧ w.cell? ⟨B, 4, none⟩ = some c4 ∧ w.cell? ⟨B, 5, none⟩ = some c5 ∧ w.cell? ⟨B, 6, none⟩ = some c6 ∧ w.cell? ⟨B, 7, none⟩ = some c7 ∧
    w.frozen? ⟨B, 0, none⟩ = false ∧ w.frozen? ⟨B, 1, none⟩ = false ∧ w.frozen? ⟨B, 2, none⟩ = false ∧ w.frozen? ⟨B, 3, none⟩ = false ∧ w.frozen? ⟨B, 4, none⟩ = false ∧ w.frozen? ⟨B, 5, none⟩ = false ∧ w.frozen? ⟨B, 6, none⟩ = false ∧ w.frozen? ⟨B, 7, none⟩ = false := by
  simp [World.cell?, World.frozen?, h]
set_option maxRecDepth 100000 in
set_option maxHeartbeats 4000000 in
theorem keys_any (g h ty : Int) (ap : Bool) (a : Option Addr) (ks : List (Int × Int)) (cap : Nat) (w : World) (hlen : ks.length ≤ 9223372036854775807)
   (hk : Jz4 w a ks) :
    Calls Tryz.prog 130 #[.agg #[.int .u32 g, .slice a ks.length cap, .int .i64 h, .int .i64 ty, .bool ap]] w fun e w' => e = .returned (arr8 (keysF ks)) ∧ Below w.heap.size w w' := by
  have HK := hZ hk; clear hk
  go_enter Tryz.func130, Tryz.ntmps130
  go_wp2
  obtain ⟨b0, b1, b2⟩ := heap3 w (.cells #[.int .u32 g, .slice a ks.length cap, .int .i64 h, .int .i64 ty, .bool ap] 110) (.cells #[.int .u64 0, .int .u64 0, .int .u64 0, .int .u64 0, .int .u64 0, .int .u64 0, .int .u64 0, .int .u64 0] 240) (.cells #[.int .u64 0, .int .u64 0, .int .u64 0, .int .u64 0, .int .u64 0, .int .u64 0, .int .u64 0, .int .u64 0] 240)
  have HB0 := hZ (And.intro b0 (And.intro b1 b2))
  clear b0 b1 b2
  go_loopw [4] (fun i wr => ∃ k : Nat, k ≤ ks.length ∧ i = .int .i64 k ∧ wr.heap[w.heap.size]? = some (.cells #[.int .u32 g, .slice a ks.length cap, .int .i64 h, .int .i64 ty, .bool ap] 110) ∧
    wr.heap[w.heap.size + 1]? = some (.cells #[.int .u64 0, .int .u64 0, .int .u64 0, .int .u64 0, .int .u64 0, .int .u64 0, .int .u64 0, .int .u64 0] 240) ∧
    wr.heap[w.heap.size + 1 + 1]? = some (.cells ((keysF (ks.take k)).map (Value.int .u64)).toArray 240) ∧ Below w.heap.size w wr) (fun i _ => ks.length - (intOf i).toNat)
  case atStart => exact ⟨0, Nat.zero_le _, rfl, HB0.out.1, HB0.out.2.1, HB0.out.2.2, by repeat (first | with_reducible assumption | (with_reducible refine Below.setCell ?_ (by first | omega | (simp; done) | (simp; omega)) _) | (with_reducible refine Below.alloc ?_ (by first | omega | (simp; done) | (simp; omega)) _) | (with_reducible refine Below.drew ?_) | (with_reducible refine Qz2 ?_ _) | with_reducible exact Below.refl _ _ | (with_reducible refine Below.trans ?_ (Below.mono (by assumption) (by first | omega | (simp; done) | (simp; omega)))))⟩
  case round =>
    obtain ⟨k, hk, rfl, d0, d1, d2, hbel⟩ := hrel
    have hR : w.heap.size + 1 + 1 < wr.heap.size := (Array.getElem?_eq_some_iff.1 d2).1
    have HD := hZ (And.intro d0 (And.intro d1 d2))
    obtain ⟨z0, z1, z2, z3, z4, _⟩ := blk5 d0
    by_cases hlt : k < ks.length
    · obtain ⟨b, off, rfl, hb, e1, e2⟩ := HK.out k hlt
      have x1 := (hbel.cell (p := ⟨b, off + k * 2, none⟩) hb).trans e1
      have x2 := (hbel.cell (p := ⟨b, off + k * 2 + 1, none⟩) hb).trans e2
      have hts : ks.take (k + 1) = ks.take k ++ [ks[k]] := List.take_succ_eq_append_getElem hlt
      have HTS : Hid (keysF (ks.take (k + 1)) = keyPut (keysF (ks.take k)) ks[k]) := hZ (by rw [hts]; exact keysF_snoc _ _)
      have hi0 : (0 : Int) ≤ k := by omega
      have hi1 : (k : Int) < ks.length := by omega
      have HBL := hZ hbel
      clear hts e1 e2 d0 d1 hbel
      cases q : (decide (0 ≤ ks[k].1) && decide (ks[k].1 < 8))
      · have HQ := hZ q
        have hq : ks[k].1 < 0 ∨ (0 ≤ ks[k].1 ∧ 8 ≤ ks[k].1) := by simp at q; omega
        clear q
        rcases hq with q1 | ⟨q1, q2⟩
        all_goals
          go_wp2
          go_roundw
          case rel => exact ⟨k + 1, by omega, by go_num, HD.out.1, HD.out.2.1, by rw [HTS.out, keyPut, HQ.out]; exact HD.out.2.2, HBL.out⟩
          case measure => simp [intOf]; omega
      · have hq : 0 ≤ ks[k].1 ∧ ks[k].1 < 8 := by simpa using q
        obtain ⟨q1, q2⟩ := hq
        have HQ := hZ q
        clear q
        have hci := arr_cell d2 ks[k].1.toNat (by rw [Kzd]; omega)
        obtain ⟨f1, f2⟩ := hci
        have k0 := cellB (R := w.heap.size + 1 + 1) z1 (by first | (simp; done) | (simp; omega))
        have k1 := cellB (R := w.heap.size + 1 + 1) x1 (by first | (simp; done) | (simp; omega))
        have k2 := cellB (R := w.heap.size + 1 + 1) x2 (by first | (simp; done) | (simp; omega))
        clear d2
        go_wp2
        refine Vz0 [(0, true), (1, true), (2, true), (3, true), (4, true), (5, true), (6, true), (7, true), (8, true), (9, true), (10, true), (11, true), (12, true), (13, false)] 13 (fun w' => ∃ p : RegrownB, w' = setO (Go.Sort.grow (redrawn wr p.d) p.os) (w.heap.size + 1 + 1) p.o) (by kernel_rfl) (by kernel_rfl) (fun _ _ d _ _ h => by cases d <;> exact h) (Kz6 hR) ?_
        (repeat (refine mix_q ?_; simp only [qd1, qd0, qt1, qt0]; go_big_quiet_step (fail); refine wpQuiet_nil ?_))
        refine mix_a ?_; simp only [qd1, qd0, qt1, qt0]
        go_wp2_with fail
        refine Qz0 ⟨fun h => absurd h (by simp), Wz1 ?_⟩
        go_wp2
        go_roundw
        case rel =>
          have hgs : wr.grownBy (wr.setCell ⟨w.heap.size + 1 + 1, ks[k].1.toNat, none⟩ (.int .u64 ks[k].2)).drew (some (w.heap.size + 1 + 1)) := Xz2 (Zz4 _ _ _ _) (grown_drew _ _)
          refine ⟨k + 1, by omega, by go_num, (hgs.block _ (by omega) (by first | (simp; done) | (simp; omega))).trans HD.out.1, (hgs.block _ (by omega) (by first | (simp; done) | (simp; omega))).trans HD.out.2.1, ?_, HBL.out.grown hgs (by omega) (fun k' hk' => by cases hk'; omega)⟩
          rw [HTS.out, keyPut, HQ.out]
          exact arr_set HD.out.2.2 _ _
        case measure => simp [intOf]; omega
    · obtain rfl : k = ks.length := by omega
      have htk : ks.take ks.length = ks := List.take_length
      rw [htk] at d2
      obtain ⟨c0, c1, c2, c3, c4, c5, c6, c7, hl8⟩ := list8 (keysF ks) (Kzd ks)
      have HL8 := hZ hl8
      rw [hl8] at d2
      have HBL := hZ hbel
      have hz0 : w.heap.size < wr.heap.size := by omega
      have hz1 : w.heap.size + 1 < wr.heap.size := by omega
      clear hl8 htk hbel
      simp only [List.map_cons, List.map_nil] at d2
      obtain ⟨y0, y1, y2, y3, y4, y5, y6, y7, u0, u1, u2, u3, u4, u5, u6, u7⟩ := blk8 d2
      obtain ⟨r0, r1, r2, r3, r4, r5, r6, r7, s0, s1, s2, s3, s4, s5, s6, s7⟩ := blk8 d1
      clear d0 d1 d2
      go_wp2
      refine bodyPost_ret (v := .agg #[.int .u64 c0, .int .u64 c1, .int .u64 c2, .int .u64 c3, .int .u64 c4, .int .u64 c5, .int .u64 c6, .int .u64 c7]) ?_ rfl ?_
      · simp only [results, Tryz.results130]
        go_simp
      · refine ⟨by rw [arr8, HL8.out]; rfl, ?_⟩
        have hbl := HBL.out
        repeat (first | with_reducible assumption | (with_reducible refine Below.setCell ?_ (by first | omega | (simp; done) | (simp; omega)) _) | (with_reducible refine Below.alloc ?_ (by first | omega | (simp; done) | (simp; omega)) _) | (with_reducible refine Below.drew ?_) | (with_reducible refine Qz2 ?_ _) | with_reducible exact Below.refl _ _ | (with_reducible refine Below.trans ?_ (Below.mono (by assumption) (by first | omega | (simp; done) | (simp; omega)))))
open Go.RowKit
set_option maxRecDepth 100000 in
set_option maxHeartbeats 4000000 in
theorem rSame_any (g h ty : Int) (ap : Bool) (a : Option Addr) (ks : List (Int × Int)) (cap : Nat) (g' h' ty' : Int) (ap' : Bool) (a' : Option Addr) (ks' : List (Int × Int)) (cap' : Nat) (w : World) (hlen : ks.length ≤ 9223372036854775807) (hlen' : ks'.length ≤ 9223372036854775807)
   (hk : Jz4 w a ks) (hk' : Jz4 w a' ks') :
    Calls Tryz.prog 57 #[.agg #[.int .u32 g, .slice a ks.length cap, .int .i64 h, .int .i64 ty, .bool ap], .agg #[.int .u32 g', .slice a' ks'.length cap', .int .i64 h', .int .i64 ty', .bool ap']] w fun e w' =>
      e = .returned (.bool (g == g' && h == h' && ty == ty' && ap == ap' && ks == ks')) ∧ Below w.heap.size w w' := by
  have HK := hZ hk; clear hk
  have HK' := hZ hk'; clear hk'
  go_enter Tryz.func57, Tryz.ntmps57
  cases hl : ((ks.length : Int) != (ks'.length : Int))
  · have hl' : ks.length = ks'.length := by have := hl; simp at this; omega
    cases hg : (g == g' && h == h' && ty == ty' && ap == ap')
    · have HG := hZ hg
      go_wp2
      all_goals first
        | (exfalso; simp_all; done)
        | (go_ret; refine ⟨?_, by repeat (first | with_reducible assumption | (with_reducible refine Below.setCell ?_ (by first | omega | (simp; done) | (simp; omega)) _) | (with_reducible refine Below.alloc ?_ (by first | omega | (simp; done) | (simp; omega)) _) | (with_reducible refine Below.drew ?_) | (with_reducible refine Qz2 ?_ _) | with_reducible exact Below.refl _ _ | (with_reducible refine Below.trans ?_ (Below.mono (by assumption) (by first | omega | (simp; done) | (simp; omega)))))⟩; simp_all; done)
    · simp only [Bool.and_eq_true, beq_iff_eq] at hg
      obtain ⟨⟨⟨rfl, rfl⟩, rfl⟩, rfl⟩ := hg
      have HR : Hid ((g == g && h == h && ty == ty && ap == ap && ks == ks') = (ks == ks')) := hZ (by simp)
      go_wp2
      go_loopw [5] (fun i wr => ∃ k : Nat, k ≤ ks.length ∧ i = .int .i64 k ∧ (∀ j (hj : j < ks.length) (hj' : j < ks'.length), j < k → ks[j] = ks'[j]) ∧ Below (w.heap.size + 2) ((w.alloc (.cells #[.int .u32 g, .slice a ks'.length cap, .int .i64 h, .int .i64 ty, .bool ap] 110)).alloc (.cells #[.int .u32 g, .slice a' ks'.length cap', .int .i64 h, .int .i64 ty, .bool ap] 110)) wr) (fun i _ => ks.length - (intOf i).toNat)
      case atStart => exact ⟨0, Nat.zero_le _, rfl, fun _ _ _ h => absurd h (by omega), Below.refl _ _⟩
      case round =>
        obtain ⟨k, hk, rfl, heq, hbel1⟩ := hrel
        have hsz := hbel1.size
        simp only [World.size_alloc] at hsz
        have hbel : Below w.heap.size w wr := Below.trans (Below.alloc (Below.alloc (Below.refl _ _) (Nat.le_refl _) _) (by simp) _) (hbel1.mono (by omega))
        obtain ⟨z0, z1, z2, z3, z4, _⟩ := blk5 ((hbel1.block w.heap.size (by omega)).trans (heap_at1 _ _ _))
        obtain ⟨r0, r1, r2, r3, r4, _⟩ := blk5 ((hbel1.block (w.heap.size + 1) (by omega)).trans (heap_at2 _ _ _))
        have HEQ := hZ heq
        have HBL := hZ hbel1
        clear heq hbel1
        by_cases hlt : k < ks.length
        · have hlt' : k < ks'.length := by omega
          obtain ⟨b, off, rfl, hb, c1, c2⟩ := HK.out k hlt
          obtain ⟨b', off', rfl, hb', c1', c2'⟩ := HK'.out k hlt'
          have d1 := (hbel.cell (p := ⟨b, off + k * 2, none⟩) hb).trans c1
          have d2 := (hbel.cell (p := ⟨b, off + k * 2 + 1, none⟩) hb).trans c2
          have d1' := (hbel.cell (p := ⟨b', off' + k * 2, none⟩) hb').trans c1'
          have d2' := (hbel.cell (p := ⟨b', off' + k * 2 + 1, none⟩) hb').trans c2'
          have hi0 : (0 : Int) ≤ k := by omega
          have hi1 : (k : Int) < ks.length := by omega
          have hi2 : (k : Int) < ks'.length := by omega
          clear c1 c2 c1' c2'
          by_cases e1 : ks[k].1 = ks'[k].1
          · by_cases e2 : ks[k].2 = ks'[k].2
            · have HE : Hid (ks[k] = ks'[k]) := hZ (Prod.ext e1 e2)
              go_wp2
              go_quiet (fail)
              go_wp2
              go_roundw
              case rel =>
                refine ⟨k + 1, by omega, by go_num, fun j h1 h2 h3 => ?_, Qz2 HBL.out nq⟩
                by_cases e : j = k
                · subst e; exact HE.out
                · exact HEQ.out j h1 h2 (by omega)
              case measure => simp [intOf]; omega
            · have HE : Hid ((ks == ks') = false) := hZ (by simp; rintro rfl; exact e2 rfl)
              go_wp2
              go_quiet (fail)
              go_wp2
              go_ret
              refine ⟨?_, by repeat (first | with_reducible assumption | (with_reducible refine Below.setCell ?_ (by first | omega | (simp; done) | (simp; omega)) _) | (with_reducible refine Below.alloc ?_ (by first | omega | (simp; done) | (simp; omega)) _) | (with_reducible refine Below.drew ?_) | (with_reducible refine Qz2 ?_ _) | with_reducible exact Below.refl _ _ | (with_reducible refine Below.trans ?_ (Below.mono (by assumption) (by first | omega | (simp; done) | (simp; omega)))))⟩
              simp [HE.out]
          · have HE : Hid ((ks == ks') = false) := hZ (by simp; rintro rfl; exact e1 rfl)
            go_wp2
            go_quiet (fail)
            go_wp2
            go_ret
            refine ⟨?_, by repeat (first | with_reducible assumption | (with_reducible refine Below.setCell ?_ (by first | omega | (simp; done) | (simp; omega)) _) | (with_reducible refine Below.alloc ?_ (by first | omega | (simp; done) | (simp; omega)) _) | (with_reducible refine Below.drew ?_) | (with_reducible refine Qz2 ?_ _) | with_reducible exact Below.refl _ _ | (with_reducible refine Below.trans ?_ (Below.mono (by assumption) (by first | omega | (simp; done) | (simp; omega)))))⟩
            simp [HE.out]
        · obtain rfl : k = ks.length := by omega
          go_wp2
          go_ret
          refine ⟨?_, by repeat (first | with_reducible assumption | (with_reducible refine Below.setCell ?_ (by first | omega | (simp; done) | (simp; omega)) _) | (with_reducible refine Below.alloc ?_ (by first | omega | (simp; done) | (simp; omega)) _) | (with_reducible refine Below.drew ?_) | (with_reducible refine Qz2 ?_ _) | with_reducible exact Below.refl _ _ | (with_reducible refine Below.trans ?_ (Below.mono (by assumption) (by first | omega | (simp; done) | (simp; omega)))))⟩
          have : ks = ks' := List.ext_getElem hl' (fun i h1 h2 => HEQ.out i h1 h2 h1)
          subst this
          simp
  · have HL : Hid ((ks == ks') = false) := hZ (by simp; rintro rfl; simp at hl)
    go_wp2
    all_goals go_ret
    all_goals refine ⟨?_, by repeat (first | with_reducible assumption | (with_reducible refine Below.setCell ?_ (by first | omega | (simp; done) | (simp; omega)) _) | (with_reducible refine Below.alloc ?_ (by first | omega | (simp; done) | (simp; omega)) _) | (with_reducible refine Below.drew ?_) | (with_reducible refine Qz2 ?_ _) | with_reducible exact Below.refl _ _ | (with_reducible refine Below.trans ?_ (Below.mono (by assumption) (by first | omega | (simp; done) | (simp; omega)))))⟩
    all_goals rw [HL.out]
    all_goals simp [*]
open Go.RowKit
def TabIn (w : World) (r : Tab) (v : Value) : Prop := ∃ a c, v = .agg #[.int .u32 r.g, .slice a r.ks.length c, .int .i64 r.h, .int .i64 r.ty, .bool r.ap] ∧ Jz4 w a r.ks ∧ (a = none → c = 0)
theorem row_none {w : World} {base e s n cap : Nat} {a : Option Addr} {xs : List Value} (h : w.ownsRow base e s (.slice a n cap) n xs) (ha : a = none) : cap = 0 := by
  rcases h.2 with ⟨hv, _⟩ | ⟨g, c, cur, hv, _⟩
  · simp only [Value.slice.injEq] at hv; exact hv.2.2
  · simp only [Value.slice.injEq] at hv; rw [ha] at hv; cases hv.1
theorem keys_ret {w : World} {B : Nat} {a : Option Addr} {ks : List (Int × Int)} {v0 v1 v2 v3 v4 : Value} (h : Jz4 w a ks) (hB : w.heap[B]? = some (.cells #[.int .u32 0, .slice none 0 0, .int .i64 0, .int .i64 0, .bool false] 110)) :
    Jz4 (((((w.setCell ⟨B, 0, none⟩ v0).setCell ⟨B, 1, none⟩ v1).setCell ⟨B, 2, none⟩ v2).setCell ⟨B, 3, none⟩ v3).setCell ⟨B, 4, none⟩ v4) a ks :=
  h.grown (Xz2 (Xz2 (Xz2 (Xz2 (Zz4 _ _ 0 _) (Zz4 _ _ 1 _)) (Zz4 _ _ 2 _)) (Zz4 _ _ 3 _)) (Zz4 _ _ 4 _)) hB (by simp) (by simp) (by simp)
end Go.Proofs.YtajmcplanlibnaaGreatDoor.J
namespace Go.Proofs.YtajmcplanlibnaaGreatDoor
open Go.ChangeShapes Go.WideShapes Go.ChangeAt Go.RowKit Go.Deep Go.Lib
def tabL (t : J.Tab) (a : Option Addr) (c : Nat) : List Value := [.int .u32 t.g, .slice a t.ks.length c, .int .i64 t.h, .int .i64 t.ty, .bool t.ap]
def TabWf (t : J.Tab) : Prop := (0 ≤ t.g ∧ t.g < 4294967296) ∧ t.ks.length ≤ maxLen ∧ ∀ r ∈ t.ks, 0 ≤ r.2 ∧ r.2 < 18446744073709551616
def TabsAt (W : World) (a : Option Addr) (len : Nat) (T : Nat → J.Tab) (A : Nat → Option Addr) (C : Nat → Nat) : Prop := ∀ i, i < len → ∃ b off, a = some ⟨b, off, none⟩ ∧ b < W.heap.size ∧ W.rangeAt b (off + i * 5) (tabL (T i) (A i) (C i)) ∧ Jz4 W (A i) (T i).ks ∧ TabWf (T i)
section
variable {H : Type} {enc : TypeId × Value → H} {W : World} {base : Nat} {held : Bool}
theorem addr_addT (b o n : Nat) : (⟨b, o, none⟩ : Addr).add n = ⟨b, o + n, none⟩ := by unfold Addr.add; split <;> simp_all
theorem open_regs {fuel : Nat} {v : Value} {x : DataW H × List MemPlace} (h : DataW.trod enc Tryz.prog W base (fun _ => true) held fuel 108 [v] = some x) :
    ∃ a ks cap, v = .slice a ks.length cap ∧ Jz4 W a ks ∧ ks.length ≤ maxLen ∧ (a = none → cap = 0) ∧ (∀ r ∈ ks, (Lit.int .i64 r.1).wf = true ∧ (Lit.int .u64 r.2).wf = true) := by
  rcases open_slice_pairs Tryz.underlying108 Tryz.underlying239 (by kernel_rfl) rfl rfl (by kernel_rfl) (by kernel_rfl) h with ⟨hcs, rfl⟩ | ⟨a, len, cap, m, n, V0, V1, D0, D1, P0, P1, hcs, hb, hl, hm, hmm, rfl, hi⟩
  · simp only [List.cons.injEq, and_true] at hcs
    subst hcs
    exact ⟨none, [], 0, rfl, Jz4.nil _ _, by simp, fun _ => rfl, by simp⟩
  · simp only [List.cons.injEq, and_true] at hcs
    subst hcs
    have hlm : len ≤ m := by rw [hmm]; split <;> omega
    have each : ∀ i, i < len → ∃ q : Int × Int, V0 i = .int .i64 q.1 ∧ V1 i = .int .u64 q.2 ∧ (Lit.int .i64 q.1).wf = true ∧ (Lit.int .u64 q.2).wf = true := by
      intro i hil
      obtain ⟨c0, c1, t0, t1⟩ := hi i (by omega)
      obtain ⟨n0, e0, _, w0⟩ := DataW.trod_int Tryz.underlying3 t0
      obtain ⟨n1, e1, _, w1⟩ := DataW.trod_int Tryz.underlying144 t1
      simp only [List.cons.injEq, and_true] at e0 e1
      exact ⟨(n0, n1), e0, e1, w0, w1⟩
    obtain ⟨q, hq⟩ := choose_lt (α := Int × Int) (p := fun i q => V0 i = .int .i64 q.1 ∧ V1 i = .int .u64 q.2 ∧ (Lit.int .i64 q.1).wf = true ∧ (Lit.int .u64 q.2).wf = true) each
    refine ⟨some a, (List.range len).map q, cap, by simp, ?_, by simp; omega, by simp, ?_⟩
    · intro i hil
      have hil' : i < len := by simpa using hil
      obtain ⟨c0, c1, _, _⟩ := hi i (by omega)
      obtain ⟨e0, e1, _, _⟩ := hq i hil'
      rw [e0] at c0
      rw [e1] at c1
      have hs : a.spot = none := by
        obtain ⟨z0, _⟩ := hi 0 (by omega)
        simpa [Addr.add] using World.cell?_spot z0
      obtain ⟨b, o, sp⟩ := a
      simp only at hs
      subst hs
      rw [addr_addT] at c0 c1
      refine ⟨b, o, rfl, World.block_lt_of_cell? W _ c0, by simpa using c0, by simpa [Nat.add_assoc] using c1⟩
    · intro r hr
      obtain ⟨i, hi', rfl⟩ := List.mem_map.1 hr
      obtain ⟨_, _, w0, w1⟩ := hq i (by simpa using hi')
      exact ⟨w0, w1⟩
set_option maxRecDepth 100000 in
theorem open_tablesIn {fuel : Nat} {v : Value} {x : DataW H × List MemPlace} (h : DataW.trod enc Tryz.prog W base (fun _ => true) held fuel 100 [v] = some x) :
    ∃ a len cap T A C, v = .slice a len cap ∧ TabsAt W a len T A C ∧ len ≤ maxLen := by
  have ec : Tryz.prog.cellsOf 110 = 5 := by kernel_rfl
  have e22 : Tryz.prog.cellsOf 107 = 1 := by kernel_rfl
  have e23 : Tryz.prog.cellsOf 108 = 1 := by kernel_rfl
  have e3 : Tryz.prog.cellsOf 3 = 1 := by kernel_rfl
  have e4 : Tryz.prog.cellsOf 4 = 1 := by kernel_rfl
  rcases Go.Deep.open_slice Tryz.underlying100 h with ⟨hcs, _⟩ | ⟨a, len, cap, m, n, Dd, Pl, hcs, _, hl, hm, hmm, _, hi⟩
  · simp only [List.cons.injEq, and_true] at hcs
    exact ⟨none, 0, 0, fun _ => ⟨0, [], 0, 0, false⟩, fun _ => none, fun _ => 0, hcs, fun i h => by omega, Nat.zero_le _⟩
  · simp only [List.cons.injEq, and_true] at hcs
    simp only [if_true] at hmm
    subst hmm
    rw [ec] at hi
    haveI : Inhabited J.Tab := ⟨⟨0, [], 0, 0, false⟩⟩
    obtain ⟨K, hK⟩ := Go.Deep.choose_lt (α := J.Tab × Option Addr × Nat) (p := fun i k => (∀ j v, (tabL k.1 k.2.1 k.2.2)[j]? = some v → W.cell? ((a.add (i * 5)).add j) = some v) ∧ Jz4 W k.2.1 k.1.ks ∧ TabWf k.1) (fun i hil => by
      obtain ⟨cs', h1, hf⟩ := hi i hil
      obtain ⟨_, hlen, hc⟩ := World.cells?_some h1
      match cs', hlen with
      | [v0, v1, v2, v3, v4], _ =>
        obtain ⟨xs, n, _, hx, _, hxl, hat⟩ := DataW.trod_struct Tryz.underlying110 hf
        have h0 := hat 0 _ rfl
        have h1 := hat 1 _ rfl
        have h2 := hat 2 _ rfl
        have h3 := hat 3 _ rfl
        have h4 := hat 4 _ rfl
        try simp only [List.getElem_toArray, List.getElem_cons_zero, List.getElem_cons_succ] at h0 h1 h2 h3 h4
        simp only [e22, e23, e3, e4, qd1, qd0, qt1, qt0] at h0 h1 h2 h3 h4
        have hl5 : xs.length = 5 := hxl
        match xs, hl5 with
        | [y0, y1, y2, y3, y4], _ =>
          simp only [List.getElem?_cons_zero, List.getElem?_cons_succ] at h0 h1 h2 h3 h4
          obtain ⟨g, eg, _, wg⟩ := DataW.trod_int Tryz.underlying107 h0
          obtain ⟨hh, eh, _, _⟩ := DataW.trod_int Tryz.underlying3 h2
          obtain ⟨ty, et, _, _⟩ := DataW.trod_int Tryz.underlying3 h3
          obtain ⟨ap, ea, _⟩ := DataW.trod_bool Tryz.underlying4 h4
          obtain ⟨a1, ks, c1, ev, hk, hl, hn, hw⟩ := open_regs h1
          simp only [List.cons.injEq, and_true] at eg eh et ea
          subst eg eh et ea ev
          have bmin : IntKind.u32.min = 0 := rfl
          have bmax : IntKind.u32.max = 4294967295 := rfl
          have cmin : IntKind.u64.min = 0 := rfl
          have cmax : IntKind.u64.max = 18446744073709551615 := rfl
          refine ⟨(⟨g, ks, hh, ty, ap⟩, a1, c1), fun j v hv => ?_, hk, ⟨?_, hl, fun r hr => ?_⟩⟩
          · match j, hv with
            | 0, hv => cases hv; exact hc 0 (by omega)
            | 1, hv => cases hv; exact hc 1 (by omega)
            | 2, hv => cases hv; exact hc 2 (by omega)
            | 3, hv => cases hv; exact hc 3 (by omega)
            | 4, hv => cases hv; exact hc 4 (by omega)
          · simp [Lit.wf, bmin, bmax] at wg
            show 0 ≤ g ∧ g < 4294967296
            omega
          · have w2 := (hw r hr).2
            simp [Lit.wf, cmin, cmax] at w2
            omega)
    refine ⟨some a, len, m, fun i => (K i).1, fun i => (K i).2.1, fun i => (K i).2.2, hcs, fun i hil => ?_, Nat.le_trans hl hm⟩
    obtain ⟨q0, q1, q2⟩ := hK i (by omega)
    have hs : a.spot = none := by simpa [Addr.add] using World.cell?_spot ((hK 0 (by omega)).1 0 _ rfl)
    obtain ⟨b, o, sp⟩ := a
    simp only at hs
    subst hs
    have q0' := q0 0 _ rfl
    rw [Addr.add_mid, Addr.add_mid] at q0'
    refine ⟨b, o, rfl, World.block_lt_of_cell? W _ q0', fun j v hv => ?_, q1, q2⟩
    have h := q0 j v hv
    rw [Addr.add_mid, Addr.add_mid] at h
    exact h
end
end Go.Proofs.YtajmcplanlibnaaGreatDoor
namespace Go.Proofs.YtajmcplanlibnaaGreatDoor.J
def regsF : Nat → List Int → List (Int × Int)
  | _, [] => []
  | i, k :: l => if k == 0 then regsF (i + 1) l else (((i : Nat) : Int), k) :: regsF (i + 1) l
theorem okF_no (ks : List (Int × Int)) : ∀ (last n : Int), okF last ks = true → n ≤ last → (keyF ks n) = (0, false) := by
  induction ks with
  | nil => intro last n _ _; rfl
  | cons r l ih =>
    intro last n h hn
    obtain ⟨a, b⟩ := r
    simp only [okF, Bool.and_eq_true, decide_eq_true_eq] at h
    simp only [keyF, show ¬ a = n by omega, if_false]
    exact ih a n h.2 (by omega)
theorem okF_mem (ks : List (Int × Int)) : ∀ (last n : Int), okF last ks = true → (keyF ks n).2 = true → last < n ∧ 0 ≤ n ∧ n < 8 ∧ (keyF ks n).1 ≠ 0 := by
  induction ks with
  | nil => intro last n _ h; cases h
  | cons r l ih =>
    intro last n h hn
    obtain ⟨a, b⟩ := r
    simp only [okF, Bool.and_eq_true, decide_eq_true_eq, bne_iff_ne] at h
    by_cases e : a = n
    · simp only [keyF, e, if_true]; subst e; exact ⟨by omega, by omega, by omega, h.1.1.2⟩
    · simp only [keyF, e, if_false] at hn ⊢
      have := ih a n h.2 hn
      exact ⟨by omega, this.2⟩
theorem keyF_zero (ks : List (Int × Int)) (n : Int) (h : (keyF ks n).2 = false) : (keyF ks n).1 = 0 := by
  induction ks with
  | nil => rfl
  | cons r l ih =>
    obtain ⟨a, b⟩ := r
    by_cases e : a = n
    · simp only [keyF, e, if_true] at h; cases h
    · simp only [keyF, e, if_false] at h ⊢; exact ih h
theorem foldl_get (ks : List (Int × Int)) : ∀ (last : Int) (acc : List Int) (j : Nat), okF last ks = true → acc.length = 8 → j < 8 → (ks.foldl keyPut acc).getD j 0 = if (keyF ks j).2 then (keyF ks j).1 else acc.getD j 0 := by
  induction ks with
  | nil => intro last acc j _ _ _; rfl
  | cons r l ih =>
    intro last acc j h ha hj
    obtain ⟨a, b⟩ := r
    simp only [okF, Bool.and_eq_true, decide_eq_true_eq, bne_iff_ne] at h
    have hp : keyPut acc (a, b) = acc.set a.toNat b := by simp [keyPut, h.1.1.1.1, h.1.1.1.2]
    rw [List.foldl_cons, ih a _ j h.2 (by rw [keyPut_length]; exact ha) hj, hp]
    by_cases e : a = (j : Int)
    · have hno : keyF l j = (0, false) := okF_no l a j h.2 (by omega)
      subst e
      simp [keyF, hno, ha, hj]
    · have ht : a.toNat ≠ j := by omega
      simp only [keyF, e, if_false]
      split
      · rfl
      · simp [ht]
theorem keysF_get (ks : List (Int × Int)) (h : okF (-1) ks = true) (j : Nat) (hj : j < 8) : (keysF ks).getD j 0 = (keyF ks j).1 := by
  unfold keysF
  rw [foldl_get ks (-1) _ j h (by simp) hj]
  split
  · rfl
  · rename_i hn
    rw [keyF_zero ks j (by simpa using hn)]
    have : j = 0 ∨ j = 1 ∨ j = 2 ∨ j = 3 ∨ j = 4 ∨ j = 5 ∨ j = 6 ∨ j = 7 := by omega
    rcases this with rfl | rfl | rfl | rfl | rfl | rfl | rfl | rfl <;> rfl
theorem keysF_eq (ks : List (Int × Int)) (h : okF (-1) ks = true) : keysF ks = (List.range' 0 8).map fun j => (keyF ks (j : Nat)).1 := by
  apply List.ext_getElem
  · simp [Kzd]
  · intro j h1 h2
    have hj : j < 8 := by rw [Kzd] at h1; exact h1
    have := keysF_get ks h j hj
    rw [List.getD_eq_getElem?_getD, List.getElem?_eq_getElem h1] at this
    simpa using this
theorem regs_back (m : Nat) : ∀ (i : Nat) (ks : List (Int × Int)), i + m = 8 → okF ((i : Int) - 1) ks = true → regsF i ((List.range' i m).map fun j => (keyF ks (j : Nat)).1) = ks := by
  induction m with
  | zero =>
    intro i ks hi h
    cases ks with
    | nil => rfl
    | cons r l =>
      obtain ⟨a, b⟩ := r
      simp only [okF, Bool.and_eq_true, decide_eq_true_eq, bne_iff_ne] at h
      omega
  | succ m ih =>
    intro i ks hi h
    rw [List.range'_succ, List.map_cons]
    cases ks with
    | nil => simp only [keyF, regsF]; have := ih (i + 1) [] (by omega) rfl; simpa [keyF] using this
    | cons r l =>
      obtain ⟨a, b⟩ := r
      have h' := h
      simp only [okF, Bool.and_eq_true, decide_eq_true_eq, bne_iff_ne] at h
      by_cases e : a = (i : Int)
      · have hrest : ((List.range' (i + 1) m).map fun j => (keyF ((a, b) :: l) (j : Nat)).1) = (List.range' (i + 1) m).map fun j => (keyF l (j : Nat)).1 := by
          apply List.map_congr_left
          intro j hj
          rw [List.mem_range'_1] at hj
          simp only [keyF, show ¬ a = (j : Int) by omega, if_false]
        rw [hrest]
        have hk : (keyF ((a, b) :: l) (i : Nat)).1 = b := by simp [keyF, e]
        rw [hk]
        simp only [regsF, beq_iff_eq, h.1.1.2, if_false]
        rw [ih (i + 1) l (by omega) (by rw [show ((i + 1 : Nat) : Int) - 1 = a by omega]; exact h.2), e]
      · have hk : (keyF ((a, b) :: l) (i : Nat)).1 = 0 := by
          have : keyF l (i : Nat) = (0, false) := okF_no l a i h.2 (by omega)
          simp [keyF, e, this]
        rw [hk]
        simp only [regsF, beq_self_eq_true, if_true]
        apply ih (i + 1) _ (by omega)
        simp only [okF, Bool.and_eq_true, decide_eq_true_eq, bne_iff_ne]
        exact ⟨⟨h.1.1, by omega⟩, h.2⟩
theorem regs_keys (ks : List (Int × Int)) (h : okF (-1) ks = true) : regsF 0 (keysF ks) = ks := by
  rw [keysF_eq ks h]; exact regs_back 8 0 ks rfl (by simpa using h)
theorem regsF_key (K : List Int) : ∀ (i j : Nat), i ≤ j → keyF (regsF i K) (j : Nat) = (K.getD (j - i) 0, K.getD (j - i) 0 != 0) := by
  induction K with
  | nil => intro i j h; simp [regsF, keyF]
  | cons k l ih =>
    intro i j h
    by_cases e : j = i
    · subst e
      simp only [regsF, Nat.sub_self, List.getD_cons_zero]
      split
      · rename_i hk
        have hk0 : k = 0 := by simpa using hk
        have hno : keyF (regsF (j + 1) l) (j : Nat) = (0, false) := by
          apply keyF_none
          intro r hr
          have := regsF_mem l (j + 1) r hr
          omega
        rw [hno, hk0]; rfl
      · rename_i hk
        simp only [keyF, if_true]
        rw [show (k != 0) = true by simpa using hk]
    · have e1 : j - i = (j - (i + 1)) + 1 := by omega
      rw [e1, List.getD_cons_succ, ← ih (i + 1) j (by omega)]
      simp only [regsF]
      split
      · rfl
      · simp only [keyF, show ¬ ((i : Nat) : Int) = (j : Int) by omega, if_false]
where
  regsF_mem : ∀ (K : List Int) (i : Nat) (r : Int × Int), r ∈ regsF i K → (i : Int) ≤ r.1 := by
    intro K
    induction K with
    | nil => intro i r h; simp [regsF] at h
    | cons k l ih =>
      intro i r h
      simp only [regsF] at h
      split at h
      · have := ih (i + 1) r h; omega
      · rcases List.mem_cons.1 h with rfl | h
        · exact Int.le_refl _
        · have := ih (i + 1) r h; omega
  keyF_none {ks : List (Int × Int)} {n : Int} (h : ∀ r ∈ ks, r.1 ≠ n) : keyF ks n = (0, false) := by
    induction ks with
    | nil => rfl
    | cons r l ih =>
      obtain ⟨a, b⟩ := r
      have h0 := h (a, b) (by simp)
      simp only [ne_eq] at h0
      simp only [keyF, h0, if_false]
      exact ih fun r hr => h r (by simp [hr])
theorem regs_key (K : List Int) (n : Int) (h0 : 0 ≤ n) : keyF (regsF 0 K) n = (K.getD n.toNat 0, K.getD n.toNat 0 != 0) := by
  have := regsF_key K 0 n.toNat (Nat.zero_le _)
  rw [show ((n.toNat : Nat) : Int) = n by omega] at this
  simpa using this
/- The two are one, of a table that can be. -/
theorem keyF_off (ks : List (Int × Int)) (n : Int) (hk : okF (-1) ks = true) (hn : ¬ (0 ≤ n ∧ n < 8)) : (keyF ks n).2 = false := by
  cases h : (keyF ks n).2
  · rfl
  · have := okF_mem ks (-1) n hk h; omega
theorem key_get (ks : List (Int × Int)) (n : Int) (hk : okF (-1) ks = true) (h0 : 0 ≤ n) : (keyF ks n) = ((keysF ks).getD n.toNat 0, (keysF ks).getD n.toNat 0 != 0) := by
  have := regs_key (keysF ks) n h0
  rwa [regs_keys ks hk] at this
theorem sound_same (ks : List (Int × Int)) (h ty : Int) : soundF ks h ty = rsoundF ks h ty := by
  unfold soundF rsoundF headF
  cases hk : okF (-1) ks
  · simp
  · by_cases h0 : 0 ≤ h
    · rw [key_get ks h hk h0]
      have e1 : decide (h < -1) = false := by simp; omega
      have e2 : (h == -1) = false := by simp; omega
      simp only [e1, e2, bne]
      by_cases h8 : h < 8
      · have e3 : decide (8 ≤ h) = false := by simp; omega
        have e4 : decide (6 < ks.length) = !decide (ks.length ≤ 6) := by by_cases a : ks.length ≤ 6 <;> simp [a]; omega
        simp only [e3, e4, h0, h8, decide_true]
        generalize decide (ks.length ≤ 6) = a
        generalize ((keysF ks).getD h.toNat 0 == 0) = b
        cases hc : (ty == 0)
        · generalize Vzg ty = d
          cases a <;> cases b <;> cases d <;> rfl
        · cases a <;> cases b <;> rfl
      · have e3 : decide (8 ≤ h) = true := by simp; omega
        simp only [e3, h8, decide_false]
        split <;> simp
    · have hno : (keyF ks h).2 = false := keyF_off ks h hk (by omega)
      rw [hno]
      by_cases e : h = -1
      · subst e
        have e4 : decide (6 < ks.length) = !decide (ks.length ≤ 6) := by by_cases a : ks.length ≤ 6 <;> simp [a]; omega
        simp only [e4]
        generalize decide (ks.length ≤ 6) = a
        cases hc : (ty == 0)
        · simp [hc]
        · have : ty = 0 := by simpa using hc
          subst this
          cases a <;> simp
      · have : decide (h < -1) = true := by simp; omega
        simp only [this, h0, decide_false, Bool.or_true, Bool.true_or, Bool.not_true, Bool.false_and, Bool.and_false]
        split <;> simp [e]
def soundT (t : Tab) : Bool := rsoundF t.ks t.h t.ty
theorem soundT_ok {t : Tab} (h : soundT t = true) : okF (-1) t.ks = true := by simp only [soundT, rsoundF, Bool.and_eq_true] at h; exact h.1.2
/- What comes of an order can be. -/
theorem sound_inv {t : Tab} (hs : soundT t = true) : t.ks.length ≤ 6 ∧ okF (-1) t.ks = true ∧ ((t.h = -1 ∧ t.ty = 0) ∨ (t.ty ≠ 0 ∧ Vzg t.ty = true ∧ 0 ≤ t.h ∧ (keyF t.ks t.h).2 = true)) := by
  have hk := soundT_ok hs
  simp only [soundT, rsoundF, Bool.and_eq_true, decide_eq_true_eq] at hs
  refine ⟨hs.1.1, hk, ?_⟩
  have := hs.2
  split at this
  · rename_i h; left; simp at h this; exact ⟨this, h⟩
  · rename_i h
    right
    simp only [Bool.and_eq_true, decide_eq_true_eq] at this
    refine ⟨by simpa using h, this.1.1.1, this.1.1.2, ?_⟩
    rw [key_get t.ks t.h hk this.1.1.2]; exact this.2
def b8 (x : Int) (j : Nat) : Int := x / 2 ^ (8 * j) % 256
def setB (l : List Int) (o : Nat) (x : Int) : Nat → List Int
  | 0 => l
  | k + 1 => (setB l o x k).set (o + k) (b8 x k)
def pgK (l : List Int) (ks : List (Int × Int)) : Nat → List Int
  | 0 => l
  | k + 1 => setB ((pgK l ks k).set (8 + 9 * k) (ks.getD k (0, 0)).1) (9 + 9 * k) (ks.getD k (0, 0)).2 8
def pg4 (t : Tab) : List Int := ((((List.replicate 64 0).set 0 82).set 1 (t.h + 1)).set 2 t.ty).set 3 (t.ks.length : Int)
def pageF (t : Tab) : List Int := pgK (setB (pg4 t) 4 t.g 4) t.ks t.ks.length
theorem Wza (l : List Int) (o : Nat) (x : Int) : ∀ k, (setB l o x k).length = l.length
  | 0 => rfl
  | k + 1 => by simp [setB, Wza l o x k]
theorem Jzf (l : List Int) (ks : List (Int × Int)) : ∀ k, (pgK l ks k).length = l.length
  | 0 => rfl
  | k + 1 => by simp [pgK, Wza, Jzf l ks k]
theorem Vzf (t : Tab) : (pg4 t).length = 64 := by simp [pg4]
theorem pageF_length (t : Tab) : (pageF t).length = 64 := by simp [pageF, Jzf, Wza, Vzf]
def orB (p : List Int) (o : Nat) : Nat → Int
  | 0 => 0
  | k + 1 => orB p o k + p.getD (o + k) 0 * 2 ^ (8 * k)
theorem orB_lt (p : List Int) (hb : ∀ i, 0 ≤ p.getD i 0 ∧ p.getD i 0 < 256) (o : Nat) : ∀ k, 0 ≤ orB p o k ∧ orB p o k < 2 ^ (8 * k)
  | 0 => by simp [orB]
  | k + 1 => by
    obtain ⟨h0, h1⟩ := orB_lt p hb o k
    obtain ⟨b0, b1⟩ := hb (o + k)
    have hp : (0 : Int) < 2 ^ (8 * k) := Int.pow_pos (by decide)
    have e : (2 : Int) ^ (8 * (k + 1)) = 256 * 2 ^ (8 * k) := by rw [show 8 * (k + 1) = 8 * k + 8 by omega, Int.pow_add]; rw [Int.mul_comm]; rfl
    unfold orB
    generalize p.getD (o + k) 0 = x at b0 b1
    generalize (2 : Int) ^ (8 * k) = P at h1 hp e
    rw [e]
    have h2 : 0 ≤ x * P := Int.mul_nonneg b0 (by omega)
    have h3 : x * P ≤ 255 * P := Int.mul_le_mul_of_nonneg_right (by omega) (by omega)
    omega
def ksR (p : List Int) (n : Nat) : List (Int × Int) := (List.range n).map fun i => (p.getD (8 + 9 * i) 0, orB p (9 + 9 * i) 8)
theorem ksR_succ (p : List Int) (n : Nat) : ksR p (n + 1) = ksR p n ++ [(p.getD (8 + 9 * n) 0, orB p (9 + 9 * n) 8)] := by simp [ksR, List.range_succ]
theorem ksR_length (p : List Int) (n : Nat) : (ksR p n).length = n := by simp [ksR]
def nR (p : List Int) : Nat := (if 6 < p.getD 3 0 then 6 else p.getD 3 0).toNat
def parseT (p : List Int) : Tab := ⟨orB p 4 4, ksR p (nR p), p.getD 1 0 - 1, p.getD 2 0, true⟩
def readF (p : List Int) : Tab := if (p.getD 0 0 != 82) || !soundT (parseT p) || pageF (parseT p) != p then ⟨0, [], -1, 0, false⟩ else parseT p
theorem th_lt {t : Tab} (hs : soundT t = true) : t.h < 8 := by
  simp only [soundT, rsoundF, Bool.and_eq_true] at hs
  have h2 := hs.2
  split at h2
  · simp at h2; omega
  · simp only [Bool.and_eq_true, decide_eq_true_eq] at h2; exact h2.1.2
theorem th_ty {t : Tab} (hs : soundT t = true) : t.ty ≤ 8 := by
  simp only [soundT, rsoundF, Bool.and_eq_true] at hs
  have h2 := hs.2
  split at h2
  · rename_i h; simp at h; omega
  · simp only [Bool.and_eq_true, decide_eq_true_eq] at h2
    have := h2.1.1.1
    simp [Vzg] at this
    omega
theorem okF_all : ∀ (ks : List (Int × Int)) (last : Int), okF last ks = true → ∀ r ∈ ks, r.1 < 8
  | [], _, _ => by simp
  | r :: l, last, h => by
    simp only [okF, Bool.and_eq_true] at h
    intro x hx
    simp only [List.mem_cons] at hx
    rcases hx with rfl | hx
    · have h' := h
      simp at h'
      omega
    · exact okF_all l r.1 h.2 x hx
theorem ksR_ok (p : List Int) (hb : ∀ i, 0 ≤ p.getD i 0 ∧ p.getD i 0 < 256) (m : Nat) (hok : okF (-1) (ksR p m) = true) : ∀ r ∈ ksR p m, 0 ≤ r.1 ∧ r.1 < 8 ∧ 0 ≤ r.2 ∧ r.2 < 18446744073709551616 := by
  intro r hr
  have h8 := okF_all _ _ hok r hr
  simp only [ksR, List.mem_map] at hr
  obtain ⟨i, _, rfl⟩ := hr
  have h2 := orB_lt p hb (9 + 9 * i) 8
  exact ⟨(hb _).1, h8, h2.1, by have := h2.2; simpa using this⟩
end Go.Proofs.YtajmcplanlibnaaGreatDoor.J
