/- Prints: an entry is set. -/
import Derived.Test.YtjikpodghmfjcaaGreatDoorE4
set_option linter.unusedSimpArgs false
set_option linter.unusedVariables false
set_option linter.unnecessarySimpa false
namespace Go.Proofs.YtjikpodghmfjcaaGreatDoor
set_option linter.unusedSimpArgs false
set_option linter.unusedVariables false
open Go.RowKit Go.Maps
def setQ (sl rf : Int) : List Int := ((((zer 64).set 0 1).set 1 (sl % 256)).set 2 (sl / 256 % 256)).set 3 (rf % 256)
def setP (dg : List Int) (sl rf : Int) : List Int := if 0 < rf then (setQ sl rf).take 8 ++ (dg ++ (setQ sl rf).drop (8 + dg.length)) else zer 64
theorem setQ_eq (sl rf : Int) : setQ sl rf = [1, sl % 256, sl / 256 % 256, rf % 256] ++ zer 60 := rfl
theorem setP_pos (dg : List Int) (sl rf : Int) (hl : dg.length = 32) (hr : 0 < rf) : setP dg sl rf = [1, sl % 256, sl / 256 % 256, rf % 256, 0, 0, 0, 0] ++ (dg ++ zer 24) := by
  unfold setP
  rw [if_pos hr, hl, setQ_eq]
  rfl
theorem setP_ok (dg : List Int) (sl rf : Int) (hd : dg.length = 32 ∧ U8s dg) : PgOk (setP dg sl rf) := by
  by_cases hr : 0 < rf
  · rw [setP_pos dg sl rf hd.1 hr]
    refine ⟨by simp [hd.1, zer], fun x hx => ?_⟩
    rcases List.mem_append.1 hx with hx | hx
    · simp only [List.mem_cons, List.not_mem_nil, or_false] at hx
      rcases hx with rfl | rfl | rfl | rfl | rfl | rfl | rfl | rfl <;> omega
    · rcases List.mem_append.1 hx with hx | hx
      · exact hd.2 x hx
      · exact zer_u8 24 x hx
  · unfold setP; rw [if_neg hr]; exact zer_pg
theorem setP_is (dg : List Int) (sl rf : Int) (hl : dg.length = 32) : isEnt (setP dg sl rf) = decide (0 < rf) := by
  by_cases hr : 0 < rf
  · rw [setP_pos dg sl rf hl hr, decide_eq_true hr]; rfl
  · unfold setP; rw [if_neg hr, decide_eq_false hr]; rfl
theorem setP_dg (dg : List Int) (sl rf : Int) (hl : dg.length = 32) (hr : 0 < rf) : pDg (setP dg sl rf) = dg := by
  rw [setP_pos dg sl rf hl hr]
  unfold pDg
  rw [List.drop_append_of_le_length (by simp)]
  simp [hl]
theorem or_zero (x : Int) (hx : 0 ≤ x ∧ x < 256) : bits BinOp.or IntKind.i64 x (0 * 256) = x := by
  have key : ∀ n : Nat, n < 256 → bits BinOp.or IntKind.i64 (n : Int) (0 * 256) = (n : Int) := by decide +kernel
  have := key x.toNat (by omega)
  rw [Int.toNat_of_nonneg hx.1] at this
  exact this
theorem setP_slot (dg : List Int) (sl rf : Int) (hl : dg.length = 32) (hr : 0 < rf) (hs : 0 ≤ sl ∧ sl < 256) : pSlot (setP dg sl rf) = sl := by
  rw [setP_pos dg sl rf hl hr]
  show bits BinOp.or IntKind.i64 (sl % 256) (sl / 256 % 256 * 256) = sl
  rw [show sl / 256 % 256 = 0 by omega, show sl % 256 = sl by omega]
  exact or_zero sl hs
theorem setP_refs (dg : List Int) (sl rf : Int) (hl : dg.length = 32) (hr : 0 < rf) (hs : rf ≤ 15) : pRefs (setP dg sl rf) = rf := by
  rw [setP_pos dg sl rf hl hr]
  show rf % 256 = rf
  omega
theorem BookS.wrote_n (B : BookS) (i : Nat) (p : List Int) : (B.wrote i p).n = B.n := by
  unfold BookS.wrote; split <;> rfl
end Go.Proofs.YtjikpodghmfjcaaGreatDoor
