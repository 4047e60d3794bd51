/- What without and put of layer 10 (pers) make of a table. -/
import Derived.Test.YtopakonpfbbldaaW3
import Derived.BigQuiet
namespace Go.Proofs.Ytopakonpfbbldaa
set_option linter.unusedSimpArgs false
set_option linter.unusedVariables false
open Go.RowKit

/-- A function value that says of a registration what p says, in each world from w on, and leaves all that was there as it was. -/
def Says (w : World) (fid : Nat) (caps : Array Value) (p : Int × Int → Bool) : Prop :=
  (∀ args w, (callFunc fid args).run Try.prog w = .ok (.enter fid args) w) ∧
  ∀ (r : Int × Int) (w1 : World), Below w.heap.size w w1 → Calls Try.prog fid (#[.agg #[.int .i64 r.1, .int .u64 r.2]] ++ caps) w1 fun e w' => e = .returned (.bool (p r)) ∧ Below w1.heap.size w1 w'

set_option maxRecDepth 100000 in
set_option maxHeartbeats 400000 in
theorem drop_any (B : Nat) (c0 c1 c2 c3 c4 : Value) (w : World) (hB : w.heap[B]? = some (.cells #[c0, c1, c2, c3, c4] 25)) :
    Calls Try.prog 32 #[.pointer (some ⟨B, 0, none⟩)] w fun e w' => e = .returned (.tuple #[]) ∧ w'.heap[B]? = some (.cells #[c0, c1, .int .i64 (-1), .int .i64 0, c4] 25) ∧ w.grownBy w' (some B) := by
  obtain ⟨p0, p1, p2, p3, p4, f0, f1, f2, f3, f4⟩ := blk5 hB
  have HB := Lib.hid hB; clear hB
  go_enter Try.func32, Try.ntmps32
  go_wp2
  go_end0
  exact ⟨rfl, set_blk (set_blk HB.out _) _, grown_trans (grown_set _ _ _ _) (grown_set _ _ _ _)⟩

def WithoutPost (B : Nat) (g h ty : Int) (ap : Bool) (ks : List (Int × Int)) (p : Int × Int → Bool) (w : World) (e : Ending) (w' : World) : Prop :=
  ∃ v a' cap', e = .returned v ∧ w'.ownsRow w.heap.size 3 1 v (ks.filter p).length ((ks.filter p).map (fun r => .int .i64 r.1)) ∧
      w'.heap[B]? = some (.cells #[.int .u32 g, .slice a' (ks.filter (fun r => !p r)).length cap', .int .i64 (withF (ks.filter (fun r => !p r)) h ty).1, .int .i64 (withF (ks.filter (fun r => !p r)) h ty).2, .bool ap] 25) ∧
      w'.ownsRow w.heap.size 32 2 (.slice a' (ks.filter (fun r => !p r)).length cap') (ks.filter (fun r => !p r)).length (flat (ks.filter (fun r => !p r))) ∧ w.grownBy w' (some B)

set_option maxRecDepth 100000 in
set_option maxHeartbeats 4000000 in
theorem without_any (B : Nat) (g h ty : Int) (ap : Bool) (a : Option Addr) (ks : List (Int × Int)) (cap : Nat) (fid : Nat) (caps : Array Value) (p : Int × Int → Bool) (w : World) (hlen : ks.length ≤ 1000000)
   (hB : w.heap[B]? = some (.cells #[.int .u32 g, .slice a ks.length cap, .int .i64 h, .int .i64 ty, .bool ap] 25))
   (hk : KeysIn w a ks) (hs : Says w fid caps p) :
    Calls Try.prog 33 #[.pointer (some ⟨B, 0, none⟩), .func (.func fid) #[] caps] w (WithoutPost B g h ty ap ks p w) := by
  have HK := Lib.hid hk; clear hk
  obtain ⟨hcf, hs⟩ := hs
  have HS := Lib.hid hs; clear hs
  obtain ⟨i0, hi, hz0, hz1, hz2⟩ := info_parts info_reg
  obtain ⟨j0, hj, hy0, hy1, hy2⟩ := info_parts info_int
  obtain ⟨p0, p1, p2, p3, p4, f0, f1, f2, f3, f4⟩ := blk5 hB
  have hBs : B < w.heap.size := (Array.getElem?_eq_some_iff.1 hB).1
  have HB := Lib.hid hB; clear hB
  go_enter Try.func33, Try.ntmps33
  go_wp2
  go_loopw [5, 6, 16] (fun v5 v6 i wr => ∃ k : Nat, k ≤ ks.length ∧ i = .int .i64 k ∧ wr.ownsRow w.heap.size 32 2 v5 ((ks.take k).filter (fun r => !p r)).length (flat ((ks.take k).filter (fun r => !p r))) ∧ wr.ownsRow w.heap.size 3 1 v6 ((ks.take k).filter p).length (((ks.take k).filter p).map (fun r => Value.int .i64 r.1)) ∧ Below w.heap.size w wr) (fun _ _ i _ => ks.length - (intOf i).toNat)
  case atStart => exact ⟨0, Nat.zero_le _, rfl, World.ownsRow_nil _ _ _ _, World.ownsRow_nil _ _ _ _, Below.refl _ _⟩
  case round =>
    obtain ⟨k, hk, rfl, hown5, hown6, hbel⟩ := hrel
    by_cases hlt : k < ks.length
    · obtain ⟨b, off, rfl, hb, c1, c2⟩ := HK.out k hlt
      have d1 := (hbel.cell (p := ⟨b, off + k * 2, none⟩) hb).trans c1
      have d2 := (hbel.cell (p := ⟨b, off + k * 2 + 1, none⟩) hb).trans c2
      clear c1 c2
      have hts : ks.take (k + 1) = ks.take k ++ [ks[k]] := List.take_succ_eq_append_getElem hlt
      have hl1 : ((ks.take k).filter (fun r => !p r)).length ≤ k := Nat.le_trans (List.length_filter_le _ _) (List.length_take_le _ _)
      have hl2 : ((ks.take k).filter p).length ≤ k := Nat.le_trans (List.length_filter_le _ _) (List.length_take_le _ _)
      have hsz := hbel.size
      go_wp2_with fail
      refine (HS.out ks[k] _ (by repeat (first | with_reducible assumption | (with_reducible refine Below.setCell ?_ (by first | omega | (simp; done) | (simp; omega)) _) | (with_reducible refine Below.alloc ?_ (by first | omega | (simp; done) | (simp; omega)) _) | (with_reducible refine Below.drew ?_) | (with_reducible refine below_dN ?_ _) | with_reducible exact Below.refl _ _ | (with_reducible refine Below.trans ?_ (Below.mono (by assumption) (by first | omega | (simp; done) | (simp; omega))))))).mono ?_
      rintro e w1 ⟨rfl, hb1⟩
      have hx0 : w1.cell? ⟨wr.heap.size, 0, none⟩ = some (.int .i64 ks[k].1) := by rw [hb1.cell (by simp)]; simp
      have hx1 : w1.cell? ⟨wr.heap.size, 1, none⟩ = some (.int .u64 ks[k].2) := by rw [hb1.cell (by simp)]; simp
      have o5 := own_below (hown5.alloc _) hb1
      have o6 := own_below (hown6.alloc _) hb1
      have hbel1 : Below w.heap.size w w1 := by repeat (first | with_reducible assumption | (with_reducible refine Below.setCell ?_ (by first | omega | (simp; done) | (simp; omega)) _) | (with_reducible refine Below.alloc ?_ (by first | omega | (simp; done) | (simp; omega)) _) | (with_reducible refine Below.drew ?_) | (with_reducible refine below_dN ?_ _) | with_reducible exact Below.refl _ _ | (with_reducible refine Below.trans ?_ (Below.mono (by assumption) (by first | omega | (simp; done) | (simp; omega)))))
      have hsz1 := hbel1.size
      clear hb1 hown5 hown6 hbel d1 d2
      cases q : p ks[k]
      · have R1 : Hid ((ks.take (k + 1)).filter p = (ks.take k).filter p) := Lib.hid (by rw [hts]; exact filter_miss _ _ _ q)
        have R2 : Hid ((ks.take (k + 1)).filter (fun r => !p r) = (ks.take k).filter (fun r => !p r) ++ [ks[k]]) := Lib.hid (by rw [hts]; exact filter_hit _ _ _ (by simp [q]))
        clear hts
        go_wp2_with (at_builtin; refine wpList_append_own _ rfl _ _ 23 rfl (w.heap.size) 32 i0 (.agg #[.int .i64 0, .int .u64 0]) 2 16 Try.underlying23 hi hz0 hz1 hz2 rfl (by decide) _ _ _ rfl (o5.alloc _) ⟨w1.heap.size, 0, none⟩ 1 1 [.int .i64 ks[k].1, .int .u64 ks[k].2] rfl rfl ?c1 ?c2 ?c3 ?c4 ?c5 ?_)
        case c1 => intro j u hu; exact cell_two_new _ _ _ _ j u hu
        case c2 => simp [Value.oneCell']
        case c3 => unfold maxLen; omega
        case c4 => omega
        case c5 => simp; omega
        intro v' w2 hown2 hgrow _
        have o62 := (o6.alloc (.cells #[.int .i64 ks[k].1, .int .u64 ks[k].2] 32)).kept hgrow (own_apart o6 o5 (by decide))
        go_wp2
        go_roundw
        case rel =>
          refine ⟨k + 1, by omega, by go_num, ?_, ?_, ((Below.alloc hbel1 (by have := Below.size hbel1; omega) _).grown hgrow (by simp; have := Below.size hbel1; omega) (fun k hk => (World.ownsRow.lt o5 k hk).1))⟩
          · rw [R2.out, flat_append, List.length_append]; exact hown2
          · rw [R1.out]; exact o62
        case measure => simp [intOf]; omega
      · have R1 : Hid ((ks.take (k + 1)).filter p = (ks.take k).filter p ++ [ks[k]]) := Lib.hid (by rw [hts]; exact filter_hit _ _ _ q)
        have R2 : Hid ((ks.take (k + 1)).filter (fun r => !p r) = (ks.take k).filter (fun r => !p r)) := Lib.hid (by rw [hts]; exact filter_miss _ _ _ (by simp [q]))
        clear hts
        go_wp2_with (at_builtin; refine wpList_append_own _ rfl _ _ 33 rfl (w.heap.size) 3 j0 (.int .i64 0) 1 8 Try.underlying33 hj hy0 hy1 hy2 rfl (by decide) _ _ _ rfl (o6.alloc _) ⟨w1.heap.size, 0, none⟩ 1 1 [.int .i64 ks[k].1] rfl rfl ?c1 ?c2 ?c3 ?c4 ?c5 ?_)
        case c1 => exact cell_one_new _ _ _
        case c2 => simp [Value.oneCell']
        case c3 => unfold maxLen; omega
        case c4 => omega
        case c5 => simp; omega
        intro v' w2 hown2 hgrow _
        have o52 := (o5.alloc (.cells #[.int .i64 ks[k].1] 3)).kept hgrow (own_apart o5 o6 (by decide))
        go_wp2
        go_roundw
        case rel =>
          refine ⟨k + 1, by omega, by go_num, ?_, ?_, ((Below.alloc hbel1 (by have := Below.size hbel1; omega) _).grown hgrow (by simp; have := Below.size hbel1; omega) (fun k hk => (World.ownsRow.lt o6 k hk).1))⟩
          · rw [R2.out]; exact o52
          · rw [R1.out, List.map_append, List.length_append]; exact hown2
        case measure => simp [intOf]; omega
    · obtain rfl : k = ks.length := by omega
      have htk : ks.take ks.length = ks := List.take_length
      rw [htk] at hown5 hown6
      clear htk
      have hsz := hbel.size
      have hBr : wr.heap[B]? = some (.cells #[.int .u32 g, .slice a ks.length cap, .int .i64 h, .int .i64 ty, .bool ap] 25) := (hbel.block B hBs).trans HB.out
      obtain ⟨a5, cap5, e5⟩ := own_slice hown5
      rw [e5] at hown5
      have hne : ∀ k', (Value.slice a5 (ks.filter (fun r => !p r)).length cap5).ownBlock = some k' → k' ≠ B := fun k' hk' e => by have := (hown5.lt k' hk').1; omega
      have hne6 : ∀ k', u6.ownBlock = some k' → k' ≠ B := fun k' hk' e => by have := (hown6.lt k' hk').1; omega
      obtain ⟨q0, q1, q2, q3, q4, m0, m1, m2, m3, m4⟩ := blk5 hBr
      clear p0 p1 p2 p3 p4 f0 f1 f2 f3 f4
      have HE := Lib.hid e5; clear e5
      have hBW := set_blk (i := 1) hBr (.slice a5 (ks.filter (fun r => !p r)).length cap5)
      have g5 := hown5.kept (grown_set wr B 1 (.slice a5 (ks.filter (fun r => !p r)).length cap5)) (by cases hb : (Value.slice a5 (ks.filter (fun r => !p r)).length cap5).ownBlock with | none => simp | some k' => right; simpa using hne k' hb)
      have g6 := hown6.kept (grown_set wr B 1 (.slice a5 (ks.filter (fun r => !p r)).length cap5)) (by cases hb : u6.ownBlock with | none => simp | some k' => right; simpa using hne6 k' hb)
      have hgr := grown_trans (grown_of_below hbel (some B)) (grown_set wr B 1 (.slice a5 (ks.filter (fun r => !p r)).length cap5))
      simp at hBW
      rw [HE.out]
      go_wp2
      generalize wr.setCell ⟨B, 1, none⟩ (.slice a5 (ks.filter (fun r => !p r)).length cap5) = W at hBW g5 g6 hgr ⊢
      obtain ⟨q0, q1, q2, q3, q4, m0, m1, m2, m3, m4⟩ := blk5 hBW
      have hBsW : B < W.heap.size := (Array.getElem?_eq_some_iff.1 hBW).1
      have k0 := cell_regrown q0
      have k1 := cell_regrown q1
      have k2 := cell_regrown q2
      have k3 := cell_regrown q3
      have k4 := cell_regrown q4
      have hl5 : (ks.filter (fun r => !p r)).length ≤ ks.length := List.length_filter_le _ _
      have hkey := fun (d : Nat) (os : Array Obj) => Calls.regrown_of (key_any g h ty h ap a5 (ks.filter (fun r => !p r)) cap5 (Go.Sort.grow (redrawn W d) os) (by omega) ((KeysIn.of_own g5).below (below_regrown W d os)))
      have HKY := Lib.hid hkey
      have HG5 := Lib.hid g5
      have HG6 := Lib.hid g6
      have HBW := Lib.hid hBW
      clear hkey g5 g6 hBW hown5 hown6 hne hne6 hBr
      refine wp_region_quiet_below (by kernel_rfl) (by kernel_rfl) ?_
      (repeat (go_big_quiet_step (exact HKY.out _ _)))
      refine wpQuiet_nil ?_
      intro wq hwq
      have hq := below_of_regrown hwq
      clear hwq
      clear q0 q1 q2 q3 q4 m0 m1 m2 m3 m4 k0 k1 k2 k3 k4
      have hBq := (hq.block B hBsW).trans HBW.out
      obtain ⟨q0, q1, q2, q3, q4, m0, m1, m2, m3, m4⟩ := blk5 hBq
      have HBQ := Lib.hid hBq
      have o5 := own_below HG5.out hq
      have o6 := own_below HG6.out hq
      have hgq := grown_trans hgr (grown_of_below hq (some B))
      clear hBq HBW HG5 HG6 hgr hq HKY HE
      have o5B : ∀ (wz : World), wq.grownBy wz (some B) → wz.ownsRow w.heap.size 32 2 (.slice a5 (ks.filter (fun r => !p r)).length cap5) (ks.filter (fun r => !p r)).length (flat (ks.filter (fun r => !p r))) := fun wz hz =>
        o5.kept hz (by cases hb : (Value.slice a5 (ks.filter (fun r => !p r)).length cap5).ownBlock with | none => simp | some k' => right; have := (o5.lt k' hb).1; simp; omega)
      have o6B : ∀ (wz : World), wq.grownBy wz (some B) → wz.ownsRow w.heap.size 3 1 u6 (ks.filter p).length ((ks.filter p).map (fun r => .int .i64 r.1)) := fun wz hz =>
        o6.kept hz (by cases hb : u6.ownBlock with | none => simp | some k' => right; have := (o6.lt k' hb).1; simp; omega)
      have HO5 := Lib.hid o5B
      have HO6 := Lib.hid o6B
      have HKI := Lib.hid (KeysIn.of_own o5)
      clear o5 o6 o5B o6B
      generalize hL : ks.filter (fun r => !p r) = l at *
      generalize hG : ks.filter p = gone at *
      have HL := Lib.hid hL
      have HG := Lib.hid hG
      clear hL hG
      rcases l with _ | ⟨r, l⟩
      · go_wp2_with (first | (go_at_call 28; refine (forAll_any _ _).mono ?_; rintro e w2 ⟨rfl, rfl⟩) | (go_at_call 32; refine (drop_any B _ _ _ _ _ _ HBQ.out).mono ?_; rintro e w3 ⟨rfl, hB3, hg3⟩))
        · (go_ret; unfold WithoutPost; rw [HL.out, HG.out]; exact ⟨_, _, _, rfl, HO6.out _ hg3, by rw [show withF [] h ty = (-1, 0) by simp_all [withF]]; exact hB3, HO5.out _ hg3, grown_trans hgq hg3⟩)
        · (go_ret; unfold WithoutPost; rw [HL.out, HG.out]; exact ⟨_, _, _, rfl, HO6.out _ hg3, by rw [show withF [] h ty = (-1, 0) by simp_all [withF]]; exact hB3, HO5.out _ hg3, grown_trans hgq hg3⟩)
        · (go_ret; unfold WithoutPost; rw [HL.out, HG.out]; exact ⟨_, _, _, rfl, HO6.out _ (grown_of_below (Below.refl _ _) _), by rw [show withF [] h ty = (h, ty) by simp [withF, show ¬ 0 ≤ h by omega]]; exact HBQ.out, HO5.out _ (grown_of_below (Below.refl _ _) _), hgq⟩)
      · obtain ⟨b, off, rfl, hb, c1, c2⟩ := HKI.out 0 (by simp)
        simp at c1 c2
        go_wp2_with (first | (go_at_call 28; refine (forAll_any _ _).mono ?_; rintro e w2 ⟨rfl, rfl⟩) | (go_at_call 32; refine (drop_any B _ _ _ _ _ _ HBQ.out).mono ?_; rintro e w3 ⟨rfl, hB3, hg3⟩))
        · (go_ret; unfold WithoutPost; rw [HL.out, HG.out]; exact ⟨_, _, _, rfl, HO6.out _ (grown_set _ _ _ _), by rw [show withF (r :: l) h ty = (r.1, ty) by simp_all [withF]]; exact set_blk HBQ.out _, HO5.out _ (grown_set _ _ _ _), grown_trans hgq (grown_set _ _ _ _)⟩)
        · (go_ret; unfold WithoutPost; rw [HL.out, HG.out]; exact ⟨_, _, _, rfl, HO6.out _ hg3, by rw [show withF (r :: l) h ty = (-1, 0) by simp_all [withF]]; exact hB3, HO5.out _ hg3, grown_trans hgq hg3⟩)
        · (go_ret; unfold WithoutPost; rw [HL.out, HG.out]; exact ⟨_, _, _, rfl, HO6.out _ (grown_of_below (Below.refl _ _) _), by rw [show withF (r :: l) h ty = (h, ty) by simp_all [withF]]; exact HBQ.out, HO5.out _ (grown_of_below (Below.refl _ _) _), hgq⟩)
        · (go_ret; unfold WithoutPost; rw [HL.out, HG.out]; exact ⟨_, _, _, rfl, HO6.out _ (grown_of_below (Below.refl _ _) _), by rw [show withF (r :: l) h ty = (h, ty) by simp [withF, show ¬ 0 ≤ h by omega]]; exact HBQ.out, HO5.out _ (grown_of_below (Below.refl _ _) _), hgq⟩)
end Go.Proofs.Ytopakonpfbbldaa
