/- KeysNumbers answers true at whatever input. -/
import Derived.Test.YtnicmfboomibjaaDoorK14
namespace Go.Proofs.YtnicmfboomibjaaDoor
set_option linter.unusedSimpArgs false
set_option linter.unusedVariables false
open Go.RowKit
set_option maxRecDepth 100000 in
set_option maxHeartbeats 2000000 in
theorem keysNumbers_any (s : ByteArray) (least most : Int) (w : World) (hE : Env w) (h2w : 2 < w.heap.size) (l0 : -9223372036854775808 ≤ least) (l1 : least ≤ 9223372036854775807) (m0 : -9223372036854775808 ≤ most) (m1 : most ≤ 9223372036854775807) :
    Calls Tryd.prog 4 #[.string s, .int .i64 least, .int .i64 most] w fun e w' => e = .returned (.bool true) ∧ Below w.heap.size w w' := by
  have HE := Lib.hid hE
  clear hE
  go_enter Tryd.func4, Tryd.ntmps4
  go_wp2_with fail
  refine (stands_any w HE.out h2w).mono ?_
  rintro e w1 ⟨rfl, hb1⟩
  dsimp only
  have HB1 := Lib.hid hb1
  clear hb1
  by_cases hs : (1000 : Int) < s.size
  · go_wp2_with fail
    go_ret
    exact ⟨rfl, HB1.out⟩
  · have hn := number_any s least most w1 (by omega) (HE.out.below HB1.out h2w) (Nat.lt_of_lt_of_le h2w HB1.out.size) l0 l1 m0 m1
    have hr := fun w' => rNumber_any s least most w' (by omega)
    generalize rnumberF s least most = r at hn hr
    obtain ⟨x, q⟩ := r
    have HN := Lib.hid hn
    have HR := Lib.hid hr
    clear hn hr
    go_wp2_with fail
    refine HN.out.mono ?_
    rintro e w2 ⟨rfl, hb2⟩
    dsimp only
    have HB2 := Lib.hid (HB1.out.trans (hb2.mono HB1.out.size))
    clear hb2
    go_wp2_with fail
    refine (HR.out w2).mono ?_
    rintro e w3 ⟨rfl, hb3⟩
    dsimp only
    have HB3 := Lib.hid (HB2.out.trans (hb3.mono HB2.out.size))
    clear hb3
    cases q
    all_goals
      go_wp2_with fail
      go_ret
      exact ⟨rfl, HB3.out⟩
end Go.Proofs.YtnicmfboomibjaaDoor
