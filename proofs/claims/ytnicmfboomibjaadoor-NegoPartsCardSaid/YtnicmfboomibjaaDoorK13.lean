/- What Same of the reference answers: are two lists of pairs the same. -/
import Derived.Test.YtnicmfboomibjaaDoorPairs
namespace Go.Proofs.YtnicmfboomibjaaDoor
set_option linter.unusedSimpArgs false
set_option linter.unusedVariables false
open Go.RowKit
theorem str_eq {x y : ByteArray} (h : (x.toList == y.toList) = true) : x = y := by
  rw [beq_iff_eq, ByteArray.toList_eq, ByteArray.toList_eq] at h
  exact ByteArray.ext (Array.toList_inj.1 h)
set_option maxRecDepth 100000 in
set_option maxHeartbeats 2000000 in
theorem same_any (a b : Option Addr) (xs ys : List Pr) (c d : Nat) (w : World) (hx : xs.length ≤ 1000000) (hy : ys.length ≤ 1000000) (h1 : PairsIn w a xs) (h2 : PairsIn w b ys) :
    Calls Tryd.prog 15 #[.slice a xs.length c, .slice b ys.length d] w fun e w' => e = .returned (.bool (decide (xs = ys))) ∧ Below w.heap.size w w' := by
  have H1 := Lib.hid h1
  have H2 := Lib.hid h2
  clear h1 h2
  by_cases hl : xs.length = ys.length
  · have hli : ((xs.length : Int) != (ys.length : Int)) = false := by simp [hl]
    go_enter Tryd.func15, Tryd.ntmps15
    go_wp2_with fail
    rw [hl] at hx
    go_loopw [5] (fun iv wr => ∃ i : Nat, iv = .int .i64 i ∧ i ≤ ys.length ∧ Hid (xs.take i = ys.take i) ∧ Below w.heap.size w wr) (fun iv _ => ys.length - (intOf iv).toNat)
    case atStart => exact ⟨0, rfl, by omega, Lib.hid rfl, Below.refl _ _⟩
    case round =>
      obtain ⟨i, rfl, hi, HA, hb⟩ := hrel
      have HB := Lib.hid hb
      clear hb
      by_cases hlt : i < ys.length
      · obtain ⟨b1, o1, rfl, hb1, c1, c2⟩ := (H1.out.below HB.out) i (by omega)
        obtain ⟨b2, o2, rfl, hb2, c3, c4⟩ := (H2.out.below HB.out) i hlt
        have HS : Hid (xs[i] = ys[i] → xs.take (i + 1) = ys.take (i + 1)) := Lib.hid (fun h => by rw [List.take_succ_eq_append_getElem (by omega), List.take_succ_eq_append_getElem hlt, HA.out, h])
        have HD : Hid (xs[i] ≠ ys[i] → decide (xs = ys) = false) := Lib.hid (fun h => by simp; intro e; subst e; exact h rfl)
        have hi0 : (0 : Int) ≤ i := by omega
        have hi1 : (i : Int) < ys.length := by omega
        have hi2 : (i : Int) < xs.length := by omega
        generalize xs[i] = x at c1 c2 HS HD
        generalize ys[i] = y at c3 c4 HS HD
        have k1 := cell_regrown c1
        have k2 := cell_regrown c2
        have k3 := cell_regrown c3
        have k4 := cell_regrown c4
        clear c1 c2 c3 c4
        obtain ⟨x1, x2⟩ := x
        obtain ⟨y1, y2⟩ := y
        dsimp only at k1 k2 k3 k4
        cases q1 : (x1.toList == y1.toList) <;> cases q2 : (x2.toList == y2.toList)
        all_goals
          go_wp2_with fail
          refine wp_region_quiet_below (by kernel_rfl) (by kernel_rfl) ?_
          (repeat (go_big_quiet_step (fail)))
          refine wpQuiet_nil ?_
          intro wq hwq
          have hq := below_of_regrown hwq
          clear hwq
          go_wp2_with fail
        case roundEnd =>
          have e : (x1, x2) = (y1, y2) := by rw [str_eq q1, str_eq q2]
          refine ⟨⟨i + 1, by go_num, by omega, Lib.hid (HS.out e), HB.out.trans (hq.mono HB.out.size)⟩, by simp [intOf]; omega⟩
        all_goals
          go_ret
          refine ⟨?_, HB.out.trans (hq.mono HB.out.size)⟩
          rw [HD.out (fun e => by
            simp only [Prod.mk.injEq] at e
            obtain ⟨rfl, rfl⟩ := e
            first | (simp at q1; done) | (simp at q2; done))]
          rfl
      · obtain rfl : i = ys.length := by omega
        have HT : Hid (decide (xs = ys) = true) := Lib.hid (by
          have := HA.out; rw [List.take_length, List.take_of_length_le (by omega)] at this; simp [this])
        go_wp2_with fail
        go_ret
        exact ⟨by rw [HT.out]; rfl, HB.out⟩
  · have hli : ((xs.length : Int) != (ys.length : Int)) = true := by simp; omega
    have HN : Hid (decide (xs = ys) = false) := Lib.hid (by simp; intro e; exact hl (by rw [e]))
    go_enter Tryd.func15, Tryd.ntmps15
    go_wp2_with fail
    go_ret
    exact ⟨by rw [HN.out]; rfl, Below.refl _ _⟩
end Go.Proofs.YtnicmfboomibjaaDoor
