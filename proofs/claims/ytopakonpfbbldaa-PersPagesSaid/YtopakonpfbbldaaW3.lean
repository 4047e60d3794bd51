/- What the functions of layer 10 (pers) that make tables or lists answer. -/
import Derived.Test.YtopakonpfbbldaaW1
import Derived.Test.YtopakonpfbbldaaLib2
import Derived.BigQuiet
namespace Go.Proofs.Ytopakonpfbbldaa
set_option linter.unusedSimpArgs false
set_option linter.unusedVariables false
open Go.RowKit

set_option maxRecDepth 100000 in
set_option maxHeartbeats 400000 in
theorem None_any (w : World) : Calls Try.prog 18 #[] w fun e w' => e = .returned (.agg #[.int .u32 0, .slice none 0 0, .int .i64 (-1), .int .i64 0, .bool false]) ∧ Below w.heap.size w w' := by
  go_enter Try.func18, Try.ntmps18
  go_wp2
  refine bodyPost_ret (v := .agg #[.int .u32 0, .slice none 0 0, .int .i64 (-1), .int .i64 0, .bool false]) (by simp [results, Try.results18, go_sem]) rfl ⟨rfl, by repeat (first | with_reducible assumption | (with_reducible refine Below.setCell ?_ (by first | omega | (simp; done) | (simp; omega)) _) | (with_reducible refine Below.alloc ?_ (by first | omega | (simp; done) | (simp; omega)) _) | (with_reducible refine Below.drew ?_) | (with_reducible refine below_dN ?_ _) | with_reducible exact Below.refl _ _ | (with_reducible refine Below.trans ?_ (Below.mono (by assumption) (by first | omega | (simp; done) | (simp; omega)))))⟩

/-- A list of whole numbers without one of them. -/
theorem info_int : (Try.prog.info? 3).map (fun i => (i.zero, i.size, i.bytes)) = some (some (.int .i64 0), 1, 8) := by kernel_rfl

set_option maxRecDepth 100000 in
set_option maxHeartbeats 4000000 in
theorem others_any (ns : List Int) (a : Option Addr) (cap : Nat) (n : Int) (w : World) (hlen : ns.length ≤ 1000000) (hk : IntsIn w a ns) :
    Calls Try.prog 35 #[.slice a ns.length cap, .int .i64 n] w fun e w' => (∃ v, e = .returned v ∧ w'.ownsRow w.heap.size 3 1 v (othersF ns n).length ((othersF ns n).map (Value.int .i64))) ∧ Below w.heap.size w w' := by
  have HK := Lib.hid hk; clear hk
  obtain ⟨i0, hi, hz0, hz1, hz2⟩ := info_parts info_int
  go_enter Try.func35, Try.ntmps35
  go_wp2
  go_loopw [5, 10] (fun v i wr => ∃ k : Nat, k ≤ ns.length ∧ i = .int .i64 k ∧ wr.ownsRow w.heap.size 3 1 v (othersF (ns.take k) n).length ((othersF (ns.take k) n).map (Value.int .i64)) ∧ Below w.heap.size w wr) (fun _ i _ => ns.length - (intOf i).toNat)
  case atStart => exact ⟨0, Nat.zero_le _, rfl, World.ownsRow_nil _ _ _ _, Below.refl _ _⟩
  case round =>
    obtain ⟨k, hk, rfl, hown, hbel⟩ := hrel
    by_cases hlt : k < ns.length
    · obtain ⟨b, off, rfl, hb, c1, _⟩ := HK.out k hlt
      have d1 := (hbel.cell (p := ⟨b, off + k, none⟩) hb).trans c1
      clear c1
      have hts : ns.take (k + 1) = ns.take k ++ [ns[k]] := List.take_succ_eq_append_getElem hlt
      have hle : (othersF (ns.take k) n).length ≤ k := Nat.le_trans (List.length_filter_le _ _) (List.length_take_le _ _)
      cases q : (ns[k] != n)
      · have HR : Hid (othersF (ns.take (k + 1)) n = othersF (ns.take k) n) := Lib.hid (by rw [hts]; simp only [othersF, List.filter_append, List.filter_cons, q]; simp)
        clear hts
        go_wp2
        go_roundw
        case rel => exact ⟨k + 1, by omega, by go_num, by rw [HR.out]; exact hown, hbel⟩
        case measure => simp [intOf]; omega
      · have HR : Hid (othersF (ns.take (k + 1)) n = othersF (ns.take k) n ++ [ns[k]]) := Lib.hid (by rw [hts]; simp only [othersF, List.filter_append, List.filter_cons, q]; simp)
        clear hts
        go_wp2_with (at_builtin; refine wpList_append_own _ rfl _ _ 33 rfl (w.heap.size) 3 i0 (.int .i64 0) 1 8 Try.underlying33 hi hz0 hz1 hz2 rfl (by decide) _ _ _ rfl (hown.alloc _) ⟨wr.heap.size, 0, none⟩ 1 1 [.int .i64 ns[k]] rfl rfl ?c1 ?c2 ?c3 ?c4 ?c5 ?_)
        case c1 => exact cell_one_new _ _ _
        case c2 => simp [Value.oneCell']
        case c3 => unfold maxLen; omega
        case c4 => omega
        case c5 => simp; have := hbel.size; omega
        intro v' w1 hown1 hgrow _
        go_wp2
        go_roundw
        case rel => exact ⟨k + 1, by omega, by go_num, by rw [HR.out]; simpa using hown1, ((Below.alloc hbel (by have := Below.size hbel; omega) _).grown hgrow (by simp; have := Below.size hbel; omega) (fun k hk => (World.ownsRow.lt hown k hk).1))⟩
        case measure => simp [intOf]; omega
    · obtain rfl : k = ns.length := by omega
      have HT : Hid (ns.take ns.length = ns) := Lib.hid (List.take_length)
      go_wp2
      go_ret
      exact ⟨⟨_, rfl, by simpa [HT.out] using hown⟩, hbel⟩
theorem info_reg : (Try.prog.info? 32).map (fun i => (i.zero, i.size, i.bytes)) = some (some (.agg #[.int .i64 0, .int .u64 0]), 2, 16) := by kernel_rfl

set_option maxRecDepth 100000 in
set_option maxHeartbeats 4000000 in
theorem copied_any (g h ty : Int) (ap : Bool) (a : Option Addr) (ks : List (Int × Int)) (cap : Nat) (w : World) (hlen : ks.length ≤ 1000000) (hn : a = none → cap = 0)
   (hk : KeysIn w a ks) :
    Calls Try.prog 29 #[.agg #[.int .u32 g, .slice a ks.length cap, .int .i64 h, .int .i64 ty, .bool ap]] w fun e w' => (∃ a' cap', e = .returned (.agg #[.int .u32 g, .slice a' ks.length cap', .int .i64 h, .int .i64 ty, .bool ap]) ∧ w'.ownsRow w.heap.size 32 2 (.slice a' ks.length cap') ks.length (flat ks)) ∧ Below w.heap.size w w' := by
  have HK := Lib.hid hk; clear hk
  obtain ⟨i0, hi, hz0, hz1, hz2⟩ := info_parts info_reg
  cases a with
  | none =>
    obtain rfl := hn rfl
    have e : ks = [] := by
      cases ks with
      | nil => rfl
      | cons r l => obtain ⟨b, off, e, _⟩ := HK.out 0 (by simp); cases e
    subst e
    go_enter Try.func29, Try.ntmps29
    go_wp2_with (at_builtin; refine wpList_append_own_none rfl _ _ 23 rfl w.heap.size 32 i0 2 Try.underlying23 hi _ 0 [] rfl (World.ownsRow_nil _ _ _ _) rfl ?_)
    refine bodyPost_ret (v := .agg #[.int .u32 g, .slice none 0 0, .int .i64 h, .int .i64 ty, .bool ap]) (by simp [results, Try.results29, go_sem]) rfl ⟨⟨none, 0, rfl, World.ownsRow_nil _ _ _ _⟩, by repeat (first | with_reducible assumption | (with_reducible refine Below.setCell ?_ (by first | omega | (simp; done) | (simp; omega)) _) | (with_reducible refine Below.alloc ?_ (by first | omega | (simp; done) | (simp; omega)) _) | (with_reducible refine Below.drew ?_) | (with_reducible refine below_dN ?_ _) | with_reducible exact Below.refl _ _ | (with_reducible refine Below.trans ?_ (Below.mono (by assumption) (by first | omega | (simp; done) | (simp; omega)))))⟩
  | some ad =>
    go_enter Try.func29, Try.ntmps29
    go_wp2_with (at_builtin; refine wpList_append_own _ rfl _ _ 23 rfl (w.heap.size + 2) 32 i0 (.agg #[.int .i64 0, .int .u64 0]) 2 16 Try.underlying23 hi hz0 hz1 hz2 rfl (by decide) _ _ _ rfl (World.ownsRow_nil _ _ _ _) ad ks.length cap (flat ks) rfl (flat_length ks) (HK.out.below (by repeat (first | with_reducible assumption | (with_reducible refine Below.setCell ?_ (by first | omega | (simp; done) | (simp; omega)) _) | (with_reducible refine Below.alloc ?_ (by first | omega | (simp; done) | (simp; omega)) _) | (with_reducible refine Below.drew ?_) | (with_reducible refine below_dN ?_ _) | with_reducible exact Below.refl _ _ | (with_reducible refine Below.trans ?_ (Below.mono (by assumption) (by first | omega | (simp; done) | (simp; omega))))))).flat (flat_one ks) ?c3 ?c4 ?c5 ?_)
    case c3 => unfold maxLen; omega
    case c4 => omega
    case c5 => simp
    intro v' w1 hown hgrow hnil
    have hbw := (Below.refl _ _).grown hgrow (Nat.le_refl _) (by simp [Value.ownBlock])
    obtain ⟨p0, p1, p2, p3, p4, f0, f1, f2, f3, f4⟩ := blk5 ((hbw.block w.heap.size (by simp; omega)).trans (heap_at1 _ _ _))
    obtain ⟨r0, r1, r2, r3, r4, g0, g1, g2, g3, g4⟩ := blk5 ((hbw.block (w.heap.size + 1) (by simp)).trans (heap_at2 _ _ _))
    obtain ⟨a', cap', rfl⟩ := own_slice hown
    clear hnil hn
    go_wp2
    have hown2 := own_mono (ownsRow_setCell_below (ownsRow_setCell_below (ownsRow_setCell_below (ownsRow_setCell_below (ownsRow_setCell_below (ownsRow_setCell_below hown (a := ⟨w.heap.size, 1, none⟩) (by simp) (.slice a' ks.length cap')) (a := ⟨w.heap.size + 1, 0, none⟩) (by simp) (.int .u32 g)) (a := ⟨w.heap.size + 1, 1, none⟩) (by simp) (.slice a' ks.length cap')) (a := ⟨w.heap.size + 1, 2, none⟩) (by simp) (.int .i64 h)) (a := ⟨w.heap.size + 1, 3, none⟩) (by simp) (.int .i64 ty)) (a := ⟨w.heap.size + 1, 4, none⟩) (by simp) (.bool ap)) (b' := w.heap.size) (by omega)
    refine bodyPost_ret (v := .agg #[.int .u32 g, .slice a' ks.length cap', .int .i64 h, .int .i64 ty, .bool ap]) ?_ rfl ⟨⟨a', cap', rfl, hown2⟩, ?_⟩
    · clear hown2 hown hgrow hbw
      simp only [results, Try.results29]
      go_simp
    · repeat (first | with_reducible assumption | (with_reducible refine Below.setCell ?_ (by first | omega | (simp; done) | (simp; omega)) _) | (with_reducible refine Below.alloc ?_ (by first | omega | (simp; done) | (simp; omega)) _) | (with_reducible refine Below.drew ?_) | (with_reducible refine below_dN ?_ _) | with_reducible exact Below.refl _ _ | (with_reducible refine Below.trans ?_ (Below.mono (by assumption) (by first | omega | (simp; done) | (simp; omega)))))

end Go.Proofs.Ytopakonpfbbldaa
