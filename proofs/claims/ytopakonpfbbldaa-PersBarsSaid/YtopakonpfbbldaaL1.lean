/- A nexus is barred from what a command does just as the reference says. The list of registrations has a length that an int can tell. -/
import Derived.Test.YtopakonpfbbldaaS1
import Derived.Test.YtopakonpfbbldaaR4
import Derived.Test.YtopakonpfbbldaaFnsC
namespace Go.Proofs.Ytopakonpfbbldaa
set_option linter.unusedSimpArgs false
set_option linter.unusedVariables false
open Go.RowKit

set_option maxRecDepth 100000 in
set_option maxHeartbeats 4000000 in
theorem PersBars_any (g h ty n d : Int) (ap : Bool) (a : Option Addr) (ks : List (Int × Int)) (cap : Nat) (w : World) (hlen : ks.length ≤ 9223372036854775807)
   (hk : KeysIn w a ks) :
    Calls Try.prog 3 #[.agg #[.int .u32 g, .slice a ks.length cap, .int .i64 h, .int .i64 ty, .bool ap], .int .i64 n, .int .i64 d] w fun e w' => e = .returned (.bool true) ∧ Below w.heap.size w w' := by
  have HK := Lib.hid hk; clear hk
  cases hs : rsoundF ks h ty
  · go_enter Try.func3, Try.ntmps3
    go_wp2_with fail
    have b0 := heap_alloc_new w (.cells #[.int .u32 g, .slice a ks.length cap, .int .i64 h, .int .i64 ty, .bool ap] 25)
    refine (stands_any _).mono ?_
    rintro e w1 ⟨rfl, hb1⟩
    have c1 := (hb1.block w.heap.size (by simp)).trans b0
    have hbw : Below w.heap.size w w1 := by repeat (first | with_reducible assumption | (with_reducible refine Below.setCell ?_ (by first | omega | (simp; done) | (simp; omega)) _) | (with_reducible refine Below.alloc ?_ (by first | omega | (simp; done) | (simp; omega)) _) | (with_reducible refine Below.drew ?_) | (with_reducible refine below_dN ?_ _) | with_reducible exact Below.refl _ _ | (with_reducible refine Below.trans ?_ (Below.mono (by assumption) (by first | omega | (simp; done) | (simp; omega)))))
    have hsound := rSound_any g h ty ap a ks cap w1 hlen (HK.out.below hbw)
    rw [hs] at hsound
    have HSD := Lib.hid hsound
    obtain ⟨z0, z1, z2, z3, z4, _⟩ := blk5 c1
    have hsz := hb1.size
    simp only [World.size_alloc] at hsz
    clear b0 hsound c1 hb1 hs
    dsimp only
    go_wp2_with (go_at_call 11; refine HSD.out.mono ?_; rintro e w2 ⟨rfl, hb2⟩)
    go_ret
    exact ⟨rfl, by repeat (first | with_reducible assumption | (with_reducible refine Below.setCell ?_ (by first | omega | (simp; done) | (simp; omega)) _) | (with_reducible refine Below.alloc ?_ (by first | omega | (simp; done) | (simp; omega)) _) | (with_reducible refine Below.drew ?_) | (with_reducible refine below_dN ?_ _) | with_reducible exact Below.refl _ _ | (with_reducible refine Below.trans ?_ (Below.mono (by assumption) (by first | omega | (simp; done) | (simp; omega)))))⟩
  · have hb := bars_same ks h ty n d hs
    have hk := soundT_ok (t := ⟨g, ks, h, ty, ap⟩) hs
    have hh := holds_same ks h ty n hk
    have hx : holdsF ks h ty n = true → barsF ks h ty n d = false := fun e => by simp [barsF, e]
    have HX := Lib.hid (And.intro hb (And.intro hh hx))
    clear hb hk hh hx
    have hcase : (holdsF ks h ty n = true ∧ barsF ks h ty n d = false) ∨ (holdsF ks h ty n = false ∧ barsF ks h ty n d = true) ∨ (holdsF ks h ty n = false ∧ barsF ks h ty n d = false) := by
      have := HX.out.2.2
      cases q : holdsF ks h ty n <;> cases q2 : barsF ks h ty n d <;> simp_all
    rcases hcase with ⟨q, q2⟩ | ⟨q, q2⟩ | ⟨q, q2⟩
    all_goals
      have q3 := HX.out.2.1.symm.trans q
      have q4 := HX.out.1.symm.trans q2
      go_enter Try.func3, Try.ntmps3
      go_wp2_with fail
      have b0 := heap_alloc_new w (.cells #[.int .u32 g, .slice a ks.length cap, .int .i64 h, .int .i64 ty, .bool ap] 25)
      refine (stands_any _).mono ?_
      rintro e w1 ⟨rfl, hb1⟩
      have c1 := (hb1.block w.heap.size (by simp)).trans b0
      have hbw : Below w.heap.size w w1 := by repeat (first | with_reducible assumption | (with_reducible refine Below.setCell ?_ (by first | omega | (simp; done) | (simp; omega)) _) | (with_reducible refine Below.alloc ?_ (by first | omega | (simp; done) | (simp; omega)) _) | (with_reducible refine Below.drew ?_) | (with_reducible refine below_dN ?_ _) | with_reducible exact Below.refl _ _ | (with_reducible refine Below.trans ?_ (Below.mono (by assumption) (by first | omega | (simp; done) | (simp; omega)))))
      have hsz := hb1.size
      simp only [World.size_alloc] at hsz
      have HSD := fun wx (hx : Below w1.heap.size w1 wx) => by
        have h0 := rSound_any g h ty ap a ks cap wx hlen (HK.out.below (hbw.trans (hx.mono hbw.size)))
        rw [hs] at h0; exact h0
      have HHO := fun wx (hx : Below w1.heap.size w1 wx) => by
        have h0 := Holds_any g h ty n ap a ks cap wx hlen (HK.out.below (hbw.trans (hx.mono hbw.size)))
        rw [q] at h0; exact h0
      have HRH := fun wx (hx : Below w1.heap.size w1 wx) => by
        have h0 := rHolds_any g h ty n ap a ks cap wx hlen (HK.out.below (hbw.trans (hx.mono hbw.size)))
        rw [q3] at h0; exact h0
      have HBA := fun wx (hx : Below w1.heap.size w1 wx) => by
        have h0 := Bars_any g h ty n d ap a ks cap wx hlen (HK.out.below (hbw.trans (hx.mono hbw.size)))
        rw [q2] at h0; exact h0
      have HRB := fun wx (hx : Below w1.heap.size w1 wx) => by
        have h0 := rBars_any g h ty n d ap a ks cap wx hlen (HK.out.below (hbw.trans (hx.mono hbw.size)))
        rw [q4] at h0; exact h0
      have HALL := Lib.hid (And.intro HSD (And.intro HHO (And.intro HRH (And.intro HBA HRB))))
      have HC := Lib.hid c1
      obtain ⟨z0, z1, z2, z3, z4, _⟩ := blk5 c1
      clear b0 HSD HHO HRH HBA HRB c1 hb1 hs q q2 q3 q4
      dsimp only
      go_wp2_with (first | (go_at_call 11; refine (HALL.out.1 _ (by repeat (first | with_reducible assumption | (with_reducible refine Below.setCell ?_ (by first | omega | (simp; done) | (simp; omega)) _) | (with_reducible refine Below.alloc ?_ (by first | omega | (simp; done) | (simp; omega)) _) | (with_reducible refine Below.drew ?_) | (with_reducible refine below_dN ?_ _) | with_reducible exact Below.refl _ _ | (with_reducible refine Below.trans ?_ (Below.mono (by assumption) (by first | omega | (simp; done) | (simp; omega))))))).mono ?_; rintro e w2 ⟨rfl, hb2⟩; have hs2 := hb2.size; obtain ⟨z0, z1, z2, z3, z4, _⟩ := blk5 ((hb2.block _ (by omega)).trans HC.out)) | (go_at_call 12; refine (HALL.out.2.1 _ (by repeat (first | with_reducible assumption | (with_reducible refine Below.setCell ?_ (by first | omega | (simp; done) | (simp; omega)) _) | (with_reducible refine Below.alloc ?_ (by first | omega | (simp; done) | (simp; omega)) _) | (with_reducible refine Below.drew ?_) | (with_reducible refine below_dN ?_ _) | with_reducible exact Below.refl _ _ | (with_reducible refine Below.trans ?_ (Below.mono (by assumption) (by first | omega | (simp; done) | (simp; omega))))))).mono ?_; rintro e w3 ⟨rfl, hb3⟩; obtain ⟨z0, z1, z2, z3, z4, _⟩ := blk5 ((hb3.block _ (by omega)).trans ((hb2.block _ (by omega)).trans HC.out))))
      have k0 := cell_regrown z0
      have k1 := cell_regrown z1
      have k2 := cell_regrown z2
      have k3 := cell_regrown z3
      have k4 := cell_regrown z4
      have hb13 : Below w1.heap.size w1 w3 := hb2.trans (hb3.mono hb2.size)
      have hrh := fun (d : Nat) (os : Array Obj) => Calls.regrown_of (HALL.out.2.2.1 (Go.Sort.grow (redrawn w3 d) os) (hb13.trans ((below_regrown w3 d os).mono hb13.size)))
      have hba := fun (d : Nat) (os : Array Obj) => Calls.regrown_of (HALL.out.2.2.2.1 (Go.Sort.grow (redrawn w3 d) os) (hb13.trans ((below_regrown w3 d os).mono hb13.size)))
      have hrb := fun (d : Nat) (os : Array Obj) => Calls.regrown_of (HALL.out.2.2.2.2 (Go.Sort.grow (redrawn w3 d) os) (hb13.trans ((below_regrown w3 d os).mono hb13.size)))
      have HRH := Lib.hid hrh
      have HBA := Lib.hid hba
      have HRB := Lib.hid hrb
      clear hrh hba hrb
      refine wp_region_quiet_below (by kernel_rfl) (by kernel_rfl) ?_
      (repeat (go_big_quiet_step ((first | exact HRH.out _ _ | exact HBA.out _ _ | exact HRB.out _ _))))
      refine wpQuiet_nil ?_
      intro wq hwq
      have hq := below_of_regrown hwq
      clear hwq
      go_wp2
      go_ret
      exact ⟨rfl, hbw.trans ((hb13.trans (hq.mono hb13.size)).mono hbw.size)⟩
end Go.Proofs.Ytopakonpfbbldaa
