/- What Text of the program makes: each pair's key, an equals sign, its value, a zero. -/
import Derived.Test.YtnicmfboomibjaaDoorK15p
import Derived.Test.YtnicmfboomibjaaDoorK11
import Derived.Lib.AppendStr
namespace Go.Proofs.YtnicmfboomibjaaDoor
set_option linter.unusedSimpArgs false
set_option linter.unusedVariables false
open Go.RowKit
theorem info_u8 : (Tryd.prog.info? 5).map (fun i => (i.zero, i.size, i.bytes)) = some (some (.int .u8 0), 1, 1) := by kernel_rfl
def byteCells (l : List UInt8) : List Value := l.map fun b => Value.int .u8 b.toNat
theorem pair_text (p : Pr) : (p.1 ++ ⟨#[61]⟩ ++ p.2 ++ ⟨#[0]⟩).data.toList = textOne p := by simp [textOne, ByteArray.data_append]
theorem pair_size (p : Pr) : (p.1 ++ ⟨#[61]⟩ ++ p.2 ++ ⟨#[0]⟩).size = p.1.size + p.2.size + 2 := by
  rw [ByteArray.size_append, ByteArray.size_append, ByteArray.size_append]
  show p.1.size + 1 + p.2.size + 1 = _
  omega
theorem BytesIn.of_own {w : World} {base e : Nat} {v : Value} {bs : List UInt8} (h : w.ownsRow base e 1 v bs.length (byteCells bs)) : ∃ a c, v = .slice a bs.length c ∧ BytesIn w a bs ∧ bs.length ≤ c := by
  rcases h.2 with ⟨hv, hn⟩ | ⟨g, c, cur, hv, _, hg, hle, _, hs, ht⟩
  · refine ⟨none, 0, by rw [hv, hn], fun i hi => by omega, by omega⟩
  · refine ⟨some ⟨g, 0, none⟩, c, hv, fun i hi => ?_, hle⟩
    refine ⟨g, 0, rfl, (Array.getElem?_eq_some_iff.1 hg).1, ?_⟩
    have c1 : (byteCells bs)[i]? = some (.int .u8 bs[i].toNat) := by simp [byteCells, hi]
    rw [cell_of_row w g _ cur e (0, 0) hg]
    rw [← ht, List.getElem?_take] at c1
    split at c1
    · simpa using c1
    · cases c1
set_option maxRecDepth 100000 in
set_option maxHeartbeats 2000000 in
theorem text_any (a : Option Addr) (ps : List Pr) (c : Nat) (w : World) (hs : sizeF ps ≤ 100000) (ho : PairsIn w a ps) :
    Calls Tryd.prog 20 #[.slice a ps.length c] w fun e w' => (∃ a' c', e = .returned (.slice a' (textF ps).length c') ∧ BytesIn w' a' (textF ps) ∧ (textF ps).length ≤ c') ∧ Below w.heap.size w w' := by
  have HO := Lib.hid ho
  have hpl := sizeF_len ps
  clear ho
  obtain ⟨i0, hi0, hq0, hq1, hq2⟩ := info_parts info_u8
  go_enter Tryd.func20, Tryd.ntmps20
  go_wp2_with fail
  go_loopw [3, 8] (fun v iv wr => ∃ i : Nat, iv = .int .i64 i ∧ i ≤ ps.length ∧ Hid (wr.ownsRow w.heap.size 5 1 v (textF (ps.take i)).length (byteCells (textF (ps.take i)))) ∧ Below w.heap.size w wr) (fun _ iv _ => ps.length - (intOf iv).toNat)
  case atStart => exact ⟨0, rfl, by omega, Lib.hid (World.ownsRow_nil _ _ _ _), Below.refl _ _⟩
  case round =>
    obtain ⟨i, rfl, hi, HL, hb⟩ := hrel
    have HB := Lib.hid hb
    clear hb
    by_cases hlt : i < ps.length
    · obtain ⟨b, off, rfl, hbs, c1, c2⟩ := HO.out.below HB.out i hlt
      have hi0' : (0 : Int) ≤ i := by omega
      have hi1 : (i : Int) < ps.length := by omega
      have HT : Hid (ps.take (i + 1) = ps.take i ++ [ps[i]]) := Lib.hid (List.take_succ_eq_append_getElem hlt)
      have hsz : sizeF (ps.take i) + (1 + ps[i].1.size + ps[i].2.size) ≤ 100000 := by
        have := sizeF_take ps (i + 1)
        rw [HT.out, sizeF_snoc] at this
        omega
      have htl := textF_len (ps.take i)
      have htk : (ps.take i).length = i := by simp; omega
      generalize ps[i] = p at c1 c2 HT hsz
      obtain ⟨K, V⟩ := p
      dsimp only at c1 c2 hsz
      have z1 : ¬ (9223372036854775807 < K.size + 1) := by omega
      have z2 : ¬ (9223372036854775807 < K.size + 1 + V.size) := by omega
      have z3 : ¬ (9223372036854775807 < K.size + 1 + V.size + 1) := by omega
      have hps := pair_size (K, V)
      have hpt := pair_text (K, V)
      dsimp only at hps hpt
      have HPT := Lib.hid hpt
      clear hpt
      go_wp2_with (at_builtin; refine Lib.wpList_append_own_string _ rfl _ _ 22 9 rfl w.heap.size 5 i0 Tryd.underlying22 Tryd.underlying9 hi0 hq0 hq1 hq2 _ _ _ rfl (HL.out.alloc _) _ rfl ?c1 ?c2 ?c3 ?_)
      case c1 => rw [hps]; unfold maxLen; omega
      case c2 => rw [hps]; omega
      case c3 => have := HB.out.size; simp; omega
      intro v4 w4 hown hgrow _
      have HB4 : Hid (Below w.heap.size w w4) := Lib.hid (((Below.alloc HB.out (by have := Below.size HB.out; omega) _).grown hgrow (by simp; have := Below.size HB.out; omega) (fun k hk => (World.ownsRow.lt HL.out k hk).1)))
      have HO4 : Hid (w4.ownsRow w.heap.size 5 1 v4 (textF (ps.take (i + 1))).length (byteCells (textF (ps.take (i + 1))))) := Lib.hid (by
        rw [HT.out, textF_snoc, List.length_append, textOne_len]
        dsimp only
        have e : Lib.strCells (K ++ ⟨#[61]⟩ ++ V ++ ⟨#[0]⟩) = byteCells (textOne (K, V)) := by unfold Lib.strCells byteCells; rw [HPT.out]
        rw [e] at hown
        rw [htl, htk]
        simpa [byteCells, Nat.add_assoc] using hown)
      clear hown hgrow HL
      go_wp2_with fail
      refine ⟨⟨i + 1, by go_num, by omega, HO4, HB4.out⟩, by simp [intOf]; omega⟩
    · obtain rfl : i = ps.length := by omega
      rw [List.take_length] at HL
      obtain ⟨a', c', rfl, h1, h2⟩ := BytesIn.of_own HL.out
      have H1 := Lib.hid h1
      clear h1 HL
      go_wp2_with fail
      go_ret
      exact ⟨⟨a', c', rfl, H1.out, h2⟩, HB.out⟩
end Go.Proofs.YtnicmfboomibjaaDoor
