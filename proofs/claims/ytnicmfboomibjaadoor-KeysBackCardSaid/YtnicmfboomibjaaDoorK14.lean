/- stands: what stands at each statement's head. -/
import Derived.Test.YtnicmfboomibjaaDoorK12
import Derived.Test.YtnicmfboomibjaaDoorK13
import Derived.Test.YtnicmfboomibjaaDoorK9
import Derived.Test.YtnicmfboomibjaaDoorK6
import Derived.Lib.SlBytesConst
import Derived.Lib.SmallJoins
namespace Go.Proofs.YtnicmfboomibjaaDoor
set_option linter.unusedSimpArgs false
set_option linter.unusedVariables false
open Go.RowKit
theorem st_parse : parseGo 7 [] [65, 61, 49, 0, 66, 61, 0] = some [(⟨#[65]⟩, ⟨#[49]⟩), (⟨#[66]⟩, ⟨#[]⟩)] := by decide +kernel
theorem st_number : rnumberF ⟨#[48, 120, 49, 102]⟩ 0 99 = (31, true) := by decide +kernel
theorem st_choose : chGo [⟨#[78, 111, 110, 101]⟩] [] [120, 44, 78, 111, 110, 101] = some [78, 111, 110, 101] := by decide +kernel
set_option maxRecDepth 100000 in
set_option maxHeartbeats 2000000 in
theorem stands_any (w : World) (hE : Env w) (h2w : 2 < w.heap.size) : Calls Tryd.prog 12 #[] w fun e w' => e = .returned (.bool true) ∧ Below w.heap.size w w' := by
  have HE := Lib.hid hE
  clear hE
  have hcb := Lib.run_convert_bytes_const (P := Tryd.prog) w 22 5 #[.int .u8 65, .int .u8 61, .int .u8 49, .int .u8 0, .int .u8 66, .int .u8 61, .int .u8 0] 7 7 Tryd.underlying22 Tryd.underlying5
  have hbw : Below w.heap.size w (w.alloc (.cells #[.int .u8 65, .int .u8 61, .int .u8 49, .int .u8 0, .int .u8 66, .int .u8 61, .int .u8 0] 5 (7, 8))) := (Below.refl _ _).alloc (Nat.le_refl _) _
  have hbi : BytesIn (w.alloc (.cells #[.int .u8 65, .int .u8 61, .int .u8 49, .int .u8 0, .int .u8 66, .int .u8 61, .int .u8 0] 5 (7, 8))) (some ⟨w.heap.size, 0, none⟩) [65, 61, 49, 0, 66, 61, 0] := fun i hi => by
    refine ⟨w.heap.size, 0, rfl, by simp, ?_⟩
    rw [Nat.zero_add, World.cell?_alloc_mark]
    match i, hi with
    | 0, _ => rfl
    | 1, _ => rfl
    | 2, _ => rfl
    | 3, _ => rfl
    | 4, _ => rfl
    | 5, _ => rfl
    | 6, _ => rfl
  simp only [List.size_toArray, List.length_cons, List.length_nil, Nat.reduceAdd] at hcb
  generalize hW : w.alloc (.cells #[.int .u8 65, .int .u8 61, .int .u8 49, .int .u8 0, .int .u8 66, .int .u8 61, .int .u8 0] 5 (7, 8)) = W1 at hcb hbw hbi
  have HPZ := Lib.hid (parse_any (some ⟨w.heap.size, 0, none⟩) [65, 61, 49, 0, 66, 61, 0] 7 W1 (by decide) hbi (HE.out.below hbw h2w) (Nat.lt_of_lt_of_le h2w hbw.size))
  have HBW := Lib.hid hbw
  clear hW hbi hbw
  go_enter Tryd.func12, Tryd.ntmps12
  go_wp2_with fail
  refine HPZ.out.mono ?_
  rintro e w2 ⟨hp, hb2⟩
  dsimp only [List.length_cons, List.length_nil, Nat.reduceAdd] at hp
  rw [st_parse] at hp
  obtain ⟨a1, c1, rfl, hown⟩ := hp
  have HB2 := Lib.hid (HBW.out.trans (hb2.mono HBW.out.size))
  have HP2 := Lib.hid (PairsIn.of_own hown)
  clear hown hb2 HPZ hcb
  have HE2 := Lib.hid (HE.out.below HB2.out h2w)
  have hn := number_any ⟨#[48, 120, 49, 102]⟩ 0 99 w2 (by decide) HE2.out (Nat.lt_of_lt_of_le h2w HB2.out.size) (by decide) (by decide) (by decide) (by decide)
  rw [st_number] at hn
  have HN := Lib.hid hn
  clear hn
  dsimp only [List.length_cons, List.length_nil, Nat.reduceAdd]
  go_wp2_with fail
  refine HN.out.mono ?_
  rintro e w3 ⟨rfl, hb3⟩
  dsimp only
  have HB3 := Lib.hid (HB2.out.trans (hb3.mono HB2.out.size))
  have HP3 := Lib.hid (HP2.out.below hb3)
  clear hb3 HN HP2 HE2
  go_wp2_with fail
  have hbw4 : Below w3.heap.size w3 (w3.alloc (.cells #[.string ⟨#[78, 111, 110, 101]⟩] 9)) := (Below.refl _ _).alloc (Nat.le_refl _) _
  have hst : StrsIn (w3.alloc (.cells #[.string ⟨#[78, 111, 110, 101]⟩] 9)) (some ⟨w3.heap.size, 0, none⟩) [⟨#[78, 111, 110, 101]⟩] := fun i hi => by
    refine ⟨w3.heap.size, 0, rfl, by simp, ?_⟩
    match i, hi with
    | 0, _ => simp only [World.cell?, heap_alloc_new]; rfl
  generalize w3.alloc (.cells #[.string ⟨#[78, 111, 110, 101]⟩] 9) = w4 at hbw4 hst ⊢
  have HB4 := Lib.hid (HB3.out.trans (hbw4.mono HB3.out.size))
  have HP4 := Lib.hid (HP3.out.below hbw4)
  obtain ⟨⟨m4, hm4⟩, _⟩ := HE.out.below HB4.out h2w
  have hc := choose_any ⟨#[120, 44, 78, 111, 110, 101]⟩ (some ⟨w3.heap.size, 0, none⟩) [⟨#[78, 111, 110, 101]⟩] 1 m4 w4 (by decide) (by decide) hst hm4
  rw [show (⟨#[120, 44, 78, 111, 110, 101]⟩ : ByteArray).data.toList = [120, 44, 78, 111, 110, 101] from rfl, st_choose] at hc
  refine hc.mono ?_
  rintro e w5 ⟨rfl, hb5⟩
  have HB5 := Lib.hid (HB4.out.trans (hb5.mono HB4.out.size))
  have HP5 := Lib.hid (HP4.out.below hb5)
  clear hc hb5 hbw4 hst hm4 HP3 HP4 HB3 HB4
  dsimp only [chRes, bstr]
  obtain ⟨g, o, rfl, hg1, d0, d1⟩ := HP5.out 0 (by decide)
  obtain ⟨g', o', hgg, hg2, d2, d3⟩ := HP5.out 1 (by decide)
  cases hgg
  have z0 : w5.cell? ⟨g, o, none⟩ = some (.string ⟨#[65]⟩) := d0
  have z1 : w5.cell? ⟨g, o + 1, none⟩ = some (.string ⟨#[49]⟩) := d1
  have z2 : w5.cell? ⟨g, o + 2, none⟩ = some (.string ⟨#[66]⟩) := d2
  have z3 : w5.cell? ⟨g, o + 2 + 1, none⟩ = some (.string ⟨#[]⟩) := d3
  clear d0 d1 d2 d3
  go_wp2_with fail
  go_ret
  exact ⟨rfl, HB5.out⟩
end Go.Proofs.YtnicmfboomibjaaDoor
