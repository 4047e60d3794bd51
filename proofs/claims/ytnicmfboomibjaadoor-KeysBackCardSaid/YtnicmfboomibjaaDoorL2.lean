/- KeysParse answers true at whatever input. -/
import Derived.Test.YtnicmfboomibjaaDoorK14
namespace Go.Proofs.YtnicmfboomibjaaDoor
set_option linter.unusedSimpArgs false
set_option linter.unusedVariables false
open Go.RowKit
theorem parse_len : ∀ (n : Nat) (acc : List Pr) (l : List UInt8) (ps : List Pr), parseGo n acc l = some ps → ps.length ≤ acc.length + l.length
  | 0, acc, l, ps, h => by
    unfold parseGo at h; split at h
    · cases h; omega
    · cases h
  | n + 1, acc, l, ps, h => by
    unfold parseGo at h; split at h
    · cases h; omega
    · split at h
      · cases h
      · rename_i hne _
        have := parse_len n _ _ ps h
        have hp : 0 < l.length := by cases l with | nil => exact absurd rfl hne | cons x r => simp
        simp only [List.length_append, List.length_cons, List.length_nil, List.length_drop] at this
        omega
set_option maxRecDepth 100000 in
set_option maxHeartbeats 2000000 in
theorem keysParse_any (a : Option Addr) (bs : List UInt8) (c : Nat) (w : World) (hE : Env w) (h2w : 2 < w.heap.size) (hcap : bs.length ≤ c) (ho : BytesIn w a bs) :
    Calls Tryd.prog 3 #[.slice a bs.length c] w fun e w' => e = .returned (.bool true) ∧ Below w.heap.size w w' := by
  have HE := Lib.hid hE
  have HO := Lib.hid ho
  clear hE ho
  go_enter Tryd.func3, Tryd.ntmps3
  go_wp2_with fail
  refine (stands_any w HE.out h2w).mono ?_
  rintro e w1 ⟨rfl, hb1⟩
  dsimp only
  have HB1 := Lib.hid hb1
  clear hb1
  by_cases hs : (20000 : Int) < bs.length
  · go_wp2_with fail
    go_ret
    exact ⟨rfl, HB1.out⟩
  · have HO1 := Lib.hid (HO.out.below HB1.out)
    have HP := Lib.hid (parse_any a bs c w1 (by omega) HO1.out (HE.out.below HB1.out h2w) (Nat.lt_of_lt_of_le h2w HB1.out.size))
    have HR := Lib.hid (fun w' h => rParse_any a bs c w' (by omega) hcap h)
    have HLN := Lib.hid (parse_len bs.length [] bs)
    generalize parseGo bs.length [] bs = o at HP HR HLN
    go_wp2_with fail
    refine HP.out.mono ?_
    rintro e w2 ⟨hp, hb2⟩
    have HB2 := Lib.hid (HB1.out.trans (hb2.mono HB1.out.size))
    have HO2 := Lib.hid (HO1.out.below hb2)
    have hr := HR.out w2 HO2.out
    clear hb2
    cases o with
    | none =>
      obtain rfl := hp
      have HR2 := Lib.hid hr
      clear hr
      dsimp only
      go_wp2_with fail
      refine HR2.out.mono ?_
      rintro e w3 ⟨hp, hb3⟩
      obtain rfl := hp
      have HB3 := Lib.hid (HB2.out.trans (hb3.mono HB2.out.size))
      clear hb3
      dsimp only
      go_wp2_with fail
      refine (same_any none none [] [] 0 0 w3 (by decide) (by decide) (PairsIn.nil _ _) (PairsIn.nil _ _)).mono ?_
      rintro e w4 ⟨rfl, hb4⟩
      have HB4 := Lib.hid (HB3.out.trans (hb4.mono HB3.out.size))
      clear hb4
      dsimp only [decide_true]
      go_wp2_with fail
      go_ret
      exact ⟨rfl, HB4.out⟩
    | some ps =>
      obtain ⟨a2, c2, rfl, hown⟩ := hp
      have HP2 := Lib.hid (PairsIn.of_own hown)
      have HR2 := Lib.hid hr
      have hl : ps.length ≤ bs.length := by have := HLN.out ps rfl; simpa using this
      clear hr hown
      dsimp only
      go_wp2_with fail
      refine HR2.out.mono ?_
      rintro e w3 ⟨hp, hb3⟩
      obtain ⟨a3, c3, rfl, hown⟩ := hp
      have HP3 := Lib.hid (PairsIn.of_own hown)
      have HP2' := Lib.hid (HP2.out.below hb3)
      have HB3 := Lib.hid (HB2.out.trans (hb3.mono HB2.out.size))
      clear hb3 hown HR2 HR
      dsimp only
      go_wp2_with fail
      refine (same_any a2 a3 ps ps c2 c3 w3 (by omega) (by omega) HP2'.out HP3.out).mono ?_
      rintro e w4 ⟨rfl, hb4⟩
      have HB4 := Lib.hid (HB3.out.trans (hb4.mono HB3.out.size))
      clear hb4
      simp only [decide_true]
      go_wp2_with fail
      go_ret
      exact ⟨rfl, HB4.out⟩
end Go.Proofs.YtnicmfboomibjaaDoor
