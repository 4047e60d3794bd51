/- KeysChooses answers true at whatever input. -/
import Derived.Test.YtnicmfboomibjaaDoorK14
namespace Go.Proofs.YtnicmfboomibjaaDoor
set_option linter.unusedSimpArgs false
set_option linter.unusedVariables false
open Go.RowKit
set_option maxRecDepth 100000 in
set_option maxHeartbeats 2000000 in
theorem keysChooses_any (s : ByteArray) (a : Option Addr) (os : List ByteArray) (c : Nat) (w : World) (hE : Env w) (h2w : 2 < w.heap.size) (ho : StrsIn w a os) :
    Calls Tryd.prog 5 #[.string s, .slice a os.length c] w fun e w' => e = .returned (.bool true) ∧ Below w.heap.size w w' := by
  have HE := Lib.hid hE
  have HO := Lib.hid ho
  clear hE ho
  go_enter Tryd.func5, Tryd.ntmps5
  go_wp2_with fail
  refine (stands_any w HE.out h2w).mono ?_
  rintro e w1 ⟨rfl, hb1⟩
  dsimp only
  have HB1 := Lib.hid hb1
  clear hb1
  by_cases hs : (2000 : Int) < s.size
  · go_wp2_with fail
    go_ret
    exact ⟨rfl, HB1.out⟩
  by_cases hl : (50 : Int) < os.length
  · go_wp2_with fail
    go_ret
    exact ⟨rfl, HB1.out⟩
  have HO1 := Lib.hid (HO.out.below HB1.out)
  obtain ⟨⟨m1, hm1⟩, _⟩ := HE.out.below HB1.out h2w
  have HP := Lib.hid (choose_any s a os c m1 w1 (by omega) (by omega) HO1.out hm1)
  have HR := Lib.hid (fun w' h => rChoose_any s a os c w' (by omega) (by omega) h)
  generalize chGo os [] s.data.toList = o at HP HR
  clear hm1
  go_wp2_with fail
  refine HP.out.mono ?_
  rintro e w2 ⟨rfl, hb2⟩
  have HB2 := Lib.hid (HB1.out.trans (hb2.mono HB1.out.size))
  have HO2 := Lib.hid (HO1.out.below hb2)
  clear hb2
  have hr := HR.out w2 HO2.out
  cases o with
  | none =>
    have HR2 := Lib.hid hr
    clear hr HR HP
    dsimp only [chRes] at HR2 ⊢
    go_wp2_with fail
    refine HR2.out.mono ?_
    rintro e w3 ⟨rfl, rfl⟩
    dsimp only
    go_wp2_with fail
    go_ret
    exact ⟨rfl, HB2.out⟩
  | some x =>
    have HR2 := Lib.hid hr
    clear hr HR HP
    dsimp only [chRes] at HR2 ⊢
    go_wp2_with fail
    refine HR2.out.mono ?_
    rintro e w3 ⟨rfl, rfl⟩
    dsimp only
    go_wp2_with fail
    go_ret
    exact ⟨rfl, HB2.out⟩
end Go.Proofs.YtnicmfboomibjaaDoor
