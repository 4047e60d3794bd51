/- What Text of the reference makes: the same. -/
import Derived.Test.YtnicmfboomibjaaDoorK15
namespace Go.Proofs.YtnicmfboomibjaaDoor
set_option linter.unusedSimpArgs false
set_option linter.unusedVariables false
open Go.RowKit
set_option maxRecDepth 100000 in
set_option maxHeartbeats 2000000 in
theorem rText_any (a : Option Addr) (ps : List Pr) (c : Nat) (w : World) (hs : sizeF ps ≤ 100000) (ho : PairsIn w a ps) :
    Calls Tryd.prog 21 #[.slice a ps.length c] w fun e w' => e = .returned (.string (bstr (textF ps))) ∧ Below w.heap.size w w' := by
  have HO := Lib.hid ho
  have hpl := sizeF_len ps
  clear ho
  go_enter Tryd.func21, Tryd.ntmps21
  go_wp2_with fail
  go_loopw [3, 4] (fun sv iv wr => ∃ (i : Nat), sv = .string (bstr (textF (ps.take i))) ∧ iv = .int .i64 i ∧ i ≤ ps.length ∧ Below w.heap.size w wr) (fun _ iv _ => ps.length - (intOf iv).toNat)
  case atStart => exact ⟨0, rfl, rfl, by omega, Below.refl _ _⟩
  case round =>
    obtain ⟨i, rfl, rfl, hi, hb⟩ := hrel
    have HB := Lib.hid hb
    clear hb
    by_cases hlt : i < ps.length
    · obtain ⟨b, off, rfl, hbs, c1, c2⟩ := HO.out.below HB.out i hlt
      have hi0' : (0 : Int) ≤ i := by omega
      have hi1 : (i : Int) < ps.length := by omega
      have HT : Hid (ps.take (i + 1) = ps.take i ++ [ps[i]]) := Lib.hid (List.take_succ_eq_append_getElem hlt)
      have hsz : sizeF (ps.take i) + (1 + ps[i].1.size + ps[i].2.size) ≤ 100000 := by
        have := sizeF_take ps (i + 1)
        rw [HT.out, sizeF_snoc] at this
        omega
      have htl := textF_len (ps.take i)
      have htk : (ps.take i).length = i := by simp; omega
      generalize ps[i] = p at c1 c2 HT hsz
      obtain ⟨K, V⟩ := p
      dsimp only at c1 c2 hsz
      have hbz : (bstr (textF (ps.take i))).size = sizeF (ps.take i) + i := by show (textF (ps.take i)).length = _; rw [htl, htk]
      have z1 : ¬ (9223372036854775807 < K.size + 1) := by omega
      have z2 : ¬ (9223372036854775807 < K.size + 1 + V.size) := by omega
      have z3 : ¬ (9223372036854775807 < K.size + 1 + V.size + 1) := by omega
      have z4 : ¬ (9223372036854775807 < sizeF (ps.take i) + i + (K.size + V.size + 2)) := by omega
      have hps := pair_size (K, V)
      have hpt := pair_text (K, V)
      dsimp only at hps hpt
      have HEQ : Hid (bstr (textF (ps.take i)) ++ (K ++ ⟨#[61]⟩ ++ V ++ ⟨#[0]⟩) = bstr (textF (ps.take (i + 1)))) := Lib.hid (by
        apply ByteArray.ext; apply Array.toList_inj.1
        rw [ByteArray.data_append, Array.toList_append, hpt, HT.out, textF_snoc]
        rfl)
      have k1 := cell_regrown c1
      have k2 := cell_regrown c2
      clear hpt HT
      go_wp2_with fail
      refine wp_region_quiet_below (by kernel_rfl) (by kernel_rfl) ?_
      (repeat (go_big_quiet_step (fail)))
      refine wpQuiet_nil ?_
      intro wq hwq
      have hq := below_of_regrown hwq
      clear hwq
      clear k1 k2 c1 c2
      go_wp2_with fail
      rw [HEQ.out]
      refine ⟨⟨i + 1, rfl, by go_num, by omega, HB.out.trans (hq.mono HB.out.size)⟩, by simp [intOf]; omega⟩
    · obtain rfl : i = ps.length := by omega
      rw [List.take_length]
      go_wp2_with fail
      go_ret
      exact ⟨rfl, HB.out⟩
end Go.Proofs.YtnicmfboomibjaaDoor
