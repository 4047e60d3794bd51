/- What Parse of the program answers. The bytes lie in memory, a cell each; the world's first cells read as values of their types. -/
import Derived.Test.YtnicmfboomibjaaDoorK11
import Derived.Test.YtnicmfboomibjaaDoorK3
import Derived.Test.YtnicmfboomibjaaDoorMapV
namespace Go.Proofs.YtnicmfboomibjaaDoor
set_option linter.unusedSimpArgs false
set_option linter.unusedVariables false
open Go.RowKit Go.Maps Go.WideShapes Go.MapKept Go.WideMaps
theorem cut_any (c : UInt8) (l : List UInt8) (w : World) (hs : l.length ≤ 100000) (hE : Env w) : Calls Tryd.prog 26 #[.string (bstr l), .string ⟨#[c]⟩] w fun e w' =>
    e = .returned (.tuple #[.string (bstr (Lib.cut l [c]).1), .string (bstr (Lib.cut l [c]).2.1), .bool (Lib.cut l [c]).2.2]) ∧ Below w.heap.size w w' := by
  obtain ⟨⟨m, hm⟩, _⟩ := hE
  refine (Tryd.strings_Cut (bstr l) ⟨#[c]⟩ m w (by show l.length < _; omega) hm).mono ?_
  rintro e w' ⟨rfl, n, rfl⟩
  exact ⟨rfl, below_dN (Below.refl _ _) n⟩
theorem cut_len (c : UInt8) (l : List UInt8) : (Lib.cut l [c]).1.length ≤ l.length ∧ (Lib.cut l [c]).2.1.length ≤ l.length ∧ ((Lib.cut l [c]).2.2 = true → (Lib.cut l [c]).2.1.length + 1 ≤ l.length) := by
  rw [cut_upto]
  have := upto_le c l
  split
  · simp; omega
  · simp
theorem parse_cut (f : Nat) (acc : List Pr) (l : List UInt8) (hne : l ≠ []) : parseGo (f + 1) acc l =
    if (Lib.cut l [0]).2.2 && (Lib.cut (Lib.cut l [0]).1 [61]).2.2 && nameF (Lib.cut (Lib.cut l [0]).1 [61]).1 && !acc.any (fun p => p.1.toList == (bstr (Lib.cut (Lib.cut l [0]).1 [61]).1).toList) && !decide (255 < (Lib.cut (Lib.cut l [0]).1 [61]).2.1.length)
    then parseGo f (acc ++ [(bstr (Lib.cut (Lib.cut l [0]).1 [61]).1, bstr (Lib.cut (Lib.cut l [0]).1 [61]).2.1)]) (Lib.cut l [0]).2.1 else none := by
  rw [parseGo, if_neg hne]
  have h0 := upto_le 0 l
  have h1 := upto_le 61 (upto 0 l)
  rw [cut_upto 0 l]
  by_cases c0 : (upto 0 l).length < l.length
  · rw [if_pos c0]
    simp only
    rw [cut_upto 61 (upto 0 l)]
    have d0 : decide ((upto 0 l).length = l.length) = false := by simp; omega
    rw [d0]
    by_cases c1 : (upto 61 (upto 0 l)).length < (upto 0 l).length
    · rw [if_pos c1]
      have d1 : decide ((upto 61 (upto 0 l)).length = (upto 0 l).length) = false := by simp; omega
      rw [d1]
      simp only [List.length_drop]
      cases nameF (upto 61 (upto 0 l)) <;> cases acc.any (fun p => p.1.toList == (bstr (upto 61 (upto 0 l))).toList) <;> cases decide (255 < (upto 0 l).length - ((upto 61 (upto 0 l)).length + 1)) <;> rfl
    · rw [if_neg c1]
      have d1 : decide ((upto 61 (upto 0 l)).length = (upto 0 l).length) = true := by simp; omega
      rw [d1]
      simp
  · rw [if_neg c0]
    have d0 : decide ((upto 0 l).length = l.length) = true := by simp; omega
    rw [d0]
    simp
/-- The keys that came already. -/
def seenF (acc : List Pr) : Lit → Option Value
  | .string l => if acc.any (fun p => p.1.toList == l) then some (.bool true) else none
  | _ => none
theorem seenF_put (acc : List Pr) (K V : ByteArray) : upd (seenF acc) (.string K.data.toList) (some (.bool true)) = seenF (acc ++ [(K, V)]) := by
  funext x
  by_cases h : x = .string K.data.toList
  · subst h
    rw [upd_same]
    simp [seenF, ByteArray.toList_eq]
  · rw [upd_other _ h]
    cases x with
    | string l =>
      have : (K.toList == l) = false := by
        rw [beq_eq_false_iff_ne]; intro e; apply h; rw [← e, ByteArray.toList_eq]
      simp only [seenF, List.any_append, List.any_cons, List.any_nil, Bool.or_false, this]
    | _ => rfl
theorem zero_bool (w : World) : (zeroValue 4).run Tryd.prog w = .ok (.bool false) w := by kernel_rfl
theorem seenF_nil : seenF [] = fun _ => none := by funext x; cases x <;> rfl
theorem MapKept_made (w : World) : MapIs Tryd.prog 9 (w.alloc (.map #[] 0)) w.heap.size 0 (seenF []) := by rw [seenF_nil]; exact mapIs_made _ _ _
def strLen : Value → Nat
  | .string s => s.size
  | _ => 0
set_option maxRecDepth 100000 in
set_option maxHeartbeats 2000000 in
theorem parse_any (a : Option Addr) (bs : List UInt8) (c : Nat) (w : World) (hs : bs.length ≤ 100000) (ho : BytesIn w a bs) (hE : Env w) (h2w : 2 < w.heap.size) :
    Calls Tryd.prog 13 #[.slice a bs.length c] w fun e w' => ParsePost w w' (parseGo bs.length [] bs) e ∧ Below w.heap.size w w' := by
  have HO := Lib.hid ho
  have HE := Lib.hid hE
  clear hE
  have hcv : (convert 22 9 (.slice a bs.length c)).run Tryd.prog (w.alloc (.map #[] 0)) = .ok (.string (bstr bs)) (w.alloc (.map #[] 0)) := by
    have h1 := ho.below ((Below.refl w.heap.size w).alloc (Nat.le_refl _) (.map #[] 0))
    by_cases h0 : bs = []
    · subst h0
      rw [run_convert_bytes_string _ _ _ _ _ _ _ Tryd.underlying22 Tryd.underlying5 Tryd.underlying9]
      cases a <;> rfl
    · obtain ⟨b, off, rfl, _⟩ := h1 0 (by cases bs with | nil => exact absurd rfl h0 | cons x l => simp)
      have := conv_in h1 0 bs.length c (by omega)
      simpa using this
  have hmm := @run_makeMap Tryd.prog
  go_enter Tryd.func13, Tryd.ntmps13
  clear ho
  go_wp2_with fail
  have hmi := MapKept_made w
  have hb0 : Below w.heap.size w (w.alloc (.map #[] 0)) := Below.alloc (Below.refl _ _) (Nat.le_refl _) _
  have hz0 : w.heap.size < (w.alloc (.map #[] 0)).heap.size := by simp
  clear hcv
  generalize w.alloc (.map #[] 0) = W0 at hmi hb0 hz0 ⊢
  go_loopw [4, 6] (fun lv sv wr => ∃ (acc : List Pr) (a' : Option Addr) (c' cnt fuel : Nat) (l : List UInt8), lv = .slice a' acc.length c' ∧ sv = .string (bstr l) ∧ l.length ≤ fuel ∧ acc.length + l.length ≤ bs.length ∧ cnt ≤ acc.length ∧ Hid (parseGo bs.length [] bs = parseGo fuel acc l) ∧ Hid (wr.ownsRow (w.heap.size + 1) 39 2 (.slice a' acc.length c') acc.length (flatP acc)) ∧ Hid (MapIs Tryd.prog 9 wr w.heap.size cnt (seenF acc)) ∧ Hid (Below w.heap.size w wr) ∧ w.heap.size < wr.heap.size) (fun _ sv _ => (strLen sv))
  case atStart => exact ⟨[], none, 0, 0, bs.length, bs, rfl, rfl, by omega, by simp, by simp, Lib.hid rfl, Lib.hid (World.ownsRow_nil _ _ _ _), Lib.hid hmi, Lib.hid hb0, hz0⟩
  case round =>
    clear hmi hb0 hz0 W0
    obtain ⟨acc, a', c', cnt, fuel, l, rfl, rfl, hf, hal, hcnt, HG, HL, HM, HB, hz⟩ := hrel
    by_cases hl0 : l = []
    · subst hl0
      have hemp : (bstr []).toList.isEmpty = true := by rw [bstr_toList]; rfl
      have HN : Hid (parseGo bs.length [] bs = some acc) := Lib.hid (by rw [HG.out]; cases fuel <;> rfl)
      go_wp2_with fail
      go_ret2
      refine ⟨?_, HB.out⟩
      rw [HN.out]
      exact ⟨a', c', rfl, own_mono HL.out (by omega)⟩
    · have hemp : (bstr l).toList.isEmpty = false := by rw [bstr_toList]; cases l with | nil => exact absurd rfl hl0 | cons x r => rfl
      have hlp : 0 < l.length := by cases l with | nil => exact absurd rfl hl0 | cons x r => simp
      obtain ⟨f, rfl⟩ : ∃ f, fuel = f + 1 := ⟨fuel - 1, by omega⟩
      have HP := Lib.hid (parse_cut f acc l hl0)
      have hA := cut_len 0 l
      have HC1 := Lib.hid (fun w hE => cut_any 0 l w (by omega) hE)
      have HC2 := Lib.hid (fun w hE => cut_any 61 (Lib.cut l [0]).1 w (by omega) hE)
      have hB := cut_len 61 (Lib.cut l [0]).1
      clear hl0
      generalize (Lib.cut (Lib.cut l [0]).1 [61]).2.2 = pair at HP HC2
      generalize hv : (Lib.cut (Lib.cut l [0]).1 [61]).2.1 = v at HP HC2 hB
      clear hv
      generalize hk : (Lib.cut (Lib.cut l [0]).1 [61]).1 = k at HP HC2 hB
      clear hk
      generalize (Lib.cut l [0]).2.2 = ok at HP HC1 hA
      generalize (Lib.cut l [0]).2.1 = rest at HP HC1 hA
      generalize (Lib.cut l [0]).1 = one at HC1 HC2 hA hB
      have HNM := Lib.hid (fun w => name_any (bstr k) w (by show k.length ≤ _; omega))
      have e1 := HE.out.below HB.out h2w
      have HE1 := Lib.hid e1
      go_wp2_with fail
      refine (HC1.out wr HE1.out).mono ?_
      rintro e w1 ⟨rfl, hb1⟩
      dsimp only
      have HB1 := Lib.hid (HB.out.trans (hb1.mono HB.out.size))
      have HL1 := Lib.hid (own_below HL.out hb1)
      have HM1 := Lib.hid (HM.out.below hb1 hz)
      have hz1 : w.heap.size < w1.heap.size := Nat.lt_of_lt_of_le hz hb1.size
      clear hb1 HL HM
      have HE2 := Lib.hid (HE.out.below HB1.out h2w)
      go_wp2_with fail
      refine (HC2.out w1 HE2.out).mono ?_
      rintro e w2 ⟨rfl, hb2⟩
      dsimp only
      have HB2 := Lib.hid (HB1.out.trans (hb2.mono HB1.out.size))
      have HL2 := Lib.hid (own_below HL1.out hb2)
      have HM2 := Lib.hid (HM1.out.below hb2 hz1)
      have hz2 : w.heap.size < w2.heap.size := Nat.lt_of_lt_of_le hz1 hb2.size
      clear hb2 HL1 HM1 HB1 HE1 HE2 HC1 HC2
      cases ok
      case false =>
        have HN : Hid (parseGo bs.length [] bs = none) := Lib.hid (by rw [HG.out, HP.out]; rfl)
        go_wp2_with fail
        go_ret2
        exact ⟨by rw [HN.out]; rfl, HB2.out⟩
      cases pair
      case false =>
        have HN : Hid (parseGo bs.length [] bs = none) := Lib.hid (by rw [HG.out, HP.out]; rfl)
        go_wp2_with fail
        go_ret2
        exact ⟨by rw [HN.out]; rfl, HB2.out⟩
      go_wp2_with fail
      refine (HNM.out w2).mono ?_
      rintro e w3 ⟨rfl, hb3⟩
      dsimp only
      have HB3 := Lib.hid (HB2.out.trans (hb3.mono HB2.out.size))
      have HL3 := Lib.hid (own_below HL2.out hb3)
      have HM3 := Lib.hid (HM2.out.below hb3 hz2)
      have hz3 : w.heap.size < w3.heap.size := Nat.lt_of_lt_of_le hz2 hb3.size
      clear hb3 HL2 HM2 HB2
      cases hnm : nameF (bstr k).data.toList
      case false =>
        have HN : Hid (parseGo bs.length [] bs = none) := Lib.hid (by rw [HG.out, HP.out, show nameF k = false from hnm]; rfl)
        go_wp2_with fail
        go_ret2
        exact ⟨by rw [HN.out]; rfl, HB3.out⟩
      have hkey : keyOf Tryd.prog 9 (.string (bstr k)) = some (.string k) := keyOf_string_mk Tryd.underlying9 (by show k.length ≤ _; unfold maxLen; omega)
      have hlk := HM3.out.look (string_keyed Tryd.underlying9) Tryd.underlying42 (zero_bool w3) hkey
      have hsn : seenF acc (.string k) = if acc.any (fun p => p.1.toList == (bstr k).toList) then some (.bool true) else none := by rw [bstr_toList]; rfl
      rw [hsn] at hlk
      cases hsq : acc.any (fun p => p.1.toList == (bstr k).toList)
      case true =>
        rw [hsq] at hlk
        have HN : Hid (parseGo bs.length [] bs = none) := Lib.hid (by rw [HG.out, HP.out, hsq]; simp)
        simp only [if_true, Option.getD_some] at hlk
        clear hsn hsq
        go_wp2_with fail
        go_ret2
        exact ⟨by rw [HN.out]; rfl, HB3.out⟩
      rw [hsq] at hlk hsn
      simp only [Bool.false_eq_true, if_false, Option.getD_none] at hlk hsn
      cases h5 : decide ((255 : Int) < ((bstr v).size : Int))
      case true =>
        have hv255 : decide (255 < v.length) = true := by
          have : ((255 : Int) < v.length) := by simpa [bstr, ByteArray.size] using h5
          simp; omega
        have HN : Hid (parseGo bs.length [] bs = none) := Lib.hid (by rw [HG.out, HP.out, hv255]; simp)
        clear hsn hsq
        go_wp2_with fail
        go_ret2
        exact ⟨by rw [HN.out]; rfl, HB3.out⟩
      have hv255 : decide (255 < v.length) = false := by
        have : ¬ ((255 : Int) < v.length) := by simpa [bstr, ByteArray.size] using h5
        simp; omega
      have HN : Hid (parseGo bs.length [] bs = parseGo f (acc ++ [(bstr k, bstr v)]) rest) := Lib.hid (by
        rw [HG.out, HP.out, if_pos]
        rw [show nameF k = true from hnm, hsq, hv255]; rfl)
      obtain ⟨w4, hst, hM4, ht4⟩ := HM3.out.store (string_keyed Tryd.underlying9) Tryd.underlying42 (by unfold maxLen; omega) (.bool true) hkey
      rw [hsn] at hM4
      rw [show upd (seenF acc) (.string k) (some (.bool true)) = seenF (acc ++ [(bstr k, bstr v)]) from seenF_put acc (bstr k) (bstr v)] at hM4
      simp only [Option.isSome_none, Bool.false_eq_true, if_false] at hM4
      have hg4 := ht4.grown
      have HM4 := Lib.hid hM4
      have HL4 := Lib.hid (HL3.out.kept hg4 (by cases hob : (Value.slice a' acc.length c').ownBlock with | none => simp | some k' => right; have := (HL3.out.lt k' hob).1; simp; omega))
      have HB4 := Lib.hid (HB3.out.grown hg4 (by omega) (fun k' hk' => by cases hk'; omega))
      have hz4 := hg4.size
      clear hM4 hg4 ht4 hkey hsn hsq hnm HP HG HNM HL3 HM3 HB3
      obtain ⟨i0, hi0, hq0, hq1, hq2⟩ := info_parts info_pair
      go_wp2_with (at_builtin; refine wpList_append_own _ rfl _ _ 24 rfl (w.heap.size + 1) 39 i0 (.agg #[.string ⟨#[]⟩, .string ⟨#[]⟩]) 2 32 Tryd.underlying24 hi0 hq0 hq1 hq2 rfl (by decide) _ _ _ rfl (HL4.out.alloc _) ⟨w4.heap.size, 0, none⟩ 1 1 [.string (bstr k), .string (bstr v)] rfl rfl ?c1 ?c2 ?c3 ?c4 ?c5 ?_)
      case c1 => intro j u hu; exact cell_two_new _ _ _ _ j u hu
      case c2 => simp [Value.oneCell']
      case c3 => unfold maxLen; omega
      case c4 => omega
      case c5 => simp; omega
      intro v5 w5 hown hgrow _
      have HB5 : Hid (Below w.heap.size w w5) := Lib.hid (((HB4.out.alloc HB4.out.size _).grown hgrow (by simp; omega) (fun k hk => by have := (World.ownsRow.lt HL4.out k hk).1; omega)))
      have HM5 := Lib.hid ((HM4.out.alloc (.cells #[.string (bstr k), .string (bstr v)] 39)).kept hgrow (by cases hob : (Value.slice a' acc.length c').ownBlock with | none => simp | some k' => have := (HL4.out.lt k' hob).1; simp; omega))
      have hz5 := hgrow.size
      obtain ⟨a5, c5, hv5⟩ := own_slice hown
      rw [hv5] at hown ⊢
      clear hv5 hgrow
      have HO5 : Hid (w5.ownsRow (w.heap.size + 1) 39 2 (.slice a5 (acc ++ [(bstr k, bstr v)]).length c5) (acc ++ [(bstr k, bstr v)]).length (flatP (acc ++ [(bstr k, bstr v)]))) := Lib.hid (by simpa [flatP_append, flatP] using hown)
      clear hown
      go_wp2_with fail
      go_roundw
      case rel => exact ⟨acc ++ [(bstr k, bstr v)], a5, c5, cnt + 1, f, rest, by simp, rfl, by have := hA.2.2 trivial; omega, by have := hA.2.2 trivial; simp; omega, by simp; omega, HN, HO5, HM5, HB5, by simp at hz5; omega⟩
      case measure => have := hA.2.2 trivial; show rest.length < l.length; omega
end Go.Proofs.YtnicmfboomibjaaDoor
