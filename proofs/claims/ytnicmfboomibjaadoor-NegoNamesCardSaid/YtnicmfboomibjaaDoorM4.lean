/- NegoNames answers true at whatever input. -/
import Derived.Test.YtnicmfboomibjaaDoorN9
import Derived.Test.YtnicmfboomibjaaDoorK13
namespace Go.Proofs.YtnicmfboomibjaaDoor
set_option linter.unusedSimpArgs false
set_option linter.unusedVariables false
open Go.RowKit
theorem names_1 (v : ByteArray) : stepF newS 4 [(⟨#[73, 110, 105, 116, 105, 97, 116, 111, 114, 78, 97, 109, 101]⟩, v)] = if nameB v then (4, [], 0, sA (nameN v)) else (0, [], 515, ⟨1, newS.d, true, true⟩) := by
  have e1 : badF newS 4 = false := by kernel_rfl
  have e2 : atF 4 = 1 := rfl
  have hp : pairF newS.d ⟨#[73, 110, 105, 116, 105, 97, 116, 111, 114, 78, 97, 109, 101]⟩ v 1 = if nameB v then (⟨#[]⟩, 0, { newS.d with nx := nameN v }) else (⟨#[]⟩, 515, newS.d) := by
    unfold pairF
    rw [if_pos (by decide +kernel)]
    rfl
  unfold stepF
  rw [if_neg (by decide), e1, if_neg (by decide), e2, pairsF_single]
  rw [hp]
  cases hn : nameB v
  · rfl
  · have hb := nameB_n v hn
    have h0 : decide (nameN v < 0) = false := by simp; omega
    have he : (⟨#[]⟩ : ByteArray).toList.isEmpty = true := by decide +kernel
    simp only [if_true, he]
    have e5 : (0 : Int) ≠ 0 ↔ False := by simp
    simp [newS, sA, h0, clipF, trF, e2]
theorem names_2 (n : Int) (h0 : 0 ≤ n) (h7 : n ≤ 7) (u : ByteArray) : stepF (sA n) 4 [(⟨#[73, 110, 105, 116, 105, 97, 116, 111, 114, 78, 97, 109, 101]⟩, u)] = if nameB u then (if n != nameN u then (0, [], 512, ⟨1, (sA n).d, true, true⟩) else (4, [], 0, sA (nameN u))) else (0, [], 515, ⟨1, (sA n).d, true, true⟩) := by
  have hs := step_in (sA n).d (⟨#[73, 110, 105, 116, 105, 97, 116, 111, 114, 78, 97, 109, 101]⟩, u) h0 ⟨⟨by show -1 ≤ n; omega, h7⟩, by simp [sA], by simp [sA], by simp [sA]⟩
  have hp : pairF (sA n).d ⟨#[73, 110, 105, 116, 105, 97, 116, 111, 114, 78, 97, 109, 101]⟩ u 1 = if nameB u then (if n != nameN u then (⟨#[]⟩, 512, (sA n).d) else (⟨#[]⟩, 0, { (sA n).d with nx := nameN u })) else (⟨#[]⟩, 515, (sA n).d) := by
    unfold pairF
    rw [if_pos (by decide +kernel)]
    have : decide (0 ≤ (sA n).d.nx) = true := decide_eq_true h0
    rw [this, Bool.true_and]
    rfl
  have he : (⟨#[]⟩ : ByteArray).toList.isEmpty = true := by decide +kernel
  rw [hp] at hs
  refine hs.trans ?_
  cases nameB u
  · rfl
  · simp only [if_true]
    cases (n != nameN u)
    · simp only [Bool.false_eq_true, if_false, he, if_true]; rfl
    · rfl
theorem names_eq (v u : ByteArray) (hv : nameB v = true) (hu : nameB u = true) : (u.toList == v.toList) = !(nameN v != nameN u) := by
  cases h : (nameN v != nameN u)
  · have e : nameN v = nameN u := by simpa using h
    rw [nameB_eq v u hv hu e]; simp
  · have hne : nameN v ≠ nameN u := by simpa using h
    cases h2 : (u.toList == v.toList)
    · rfl
    · exfalso; apply hne; rw [str_eq h2]
set_option maxRecDepth 100000 in
set_option maxHeartbeats 4000000 in
theorem names_big (V U : ByteArray) (w : World) (hE : EnvN w) (hbig : (100 : Int) < V.size ∨ ((V.size : Int) ≤ 100 ∧ (100 : Int) < U.size)) :
    Calls Tryd.prog 11 #[.string V, .string U] w fun e w' => e = .returned (.bool true) ∧ Below w.heap.size w w' := by
  have HE := Lib.hid hE
  have h5 : 5 < w.heap.size := hE.2.2
  clear hE
  go_enter Tryd.func11, Tryd.ntmps11
  go_wp2_with fail
  refine (stands16_any w HE.out).mono ?_
  rintro e w0 ⟨rfl, hb0⟩
  have HB0 := Lib.hid hb0
  clear hb0
  dsimp only
  rcases hbig with hbig | ⟨hb1, hbig⟩
  · go_wp2_with fail
    go_ret
    exact ⟨rfl, HB0.out⟩
  · have hb2 : ¬ ((100 : Int) < V.size) := by omega
    go_wp2_with fail
    go_ret
    exact ⟨rfl, HB0.out⟩
set_option maxRecDepth 100000 in
set_option maxHeartbeats 4000000 in
theorem names_a (V U : ByteArray) (w : World) (hE : EnvN w) (hv : V.size ≤ 100) (hu : U.size ≤ 100) (hn : nameB V = false) (z1 : ((V.size : Int) == 5) = false) :
    Calls Tryd.prog 11 #[.string V, .string U] w fun e w' => e = .returned (.bool true) ∧ Below w.heap.size w w' := by
  have HE := Lib.hid hE
  have h5 : 5 < w.heap.size := hE.2.2
  clear hE
  go_enter Tryd.func11, Tryd.ntmps11
  go_wp2_with fail
  refine (stands16_any w HE.out).mono ?_
  rintro e w0 ⟨rfl, hb0⟩
  have HB0 := Lib.hid hb0
  clear hb0
  dsimp only
  have hbv : ¬ ((100 : Int) < V.size) := by omega
  have hbu : ¬ ((100 : Int) < U.size) := by omega
  go_wp2_with fail
  refine (new_any w0).mono ?_
  rintro e w1 ⟨rfl, hl1, hb1⟩
  have h50 : 5 < w0.heap.size := Nat.lt_of_lt_of_le h5 HB0.out.size
  have HB1 := Lib.hid (HB0.out.trans (hb1.mono HB0.out.size))
  have hs1 := step_one w0.heap.size newS 4 (by decide) ⟨#[73, 110, 105, 116, 105, 97, 116, 111, 114, 78, 97, 109, 101]⟩ V w1 w1.heap.size rfl (HE.out.below HB1.out (Nat.le_refl _)) h50 hl1 (by omega)
  rw [names_1, hn] at hs1
  have HS1 := Lib.hid hs1
  clear hs1 hl1 hb1
  dsimp only
  go_wp2_with fail
  refine HS1.out.mono ?_
  rintro e w2 ⟨a2, c2, rfl, hp2, hx2, hl2⟩
  have HB2 := Lib.hid (Below.beside HB1.out hl2.2 HB1.out.size HB0.out.size)
  have HL2 := Lib.hid hl2.1
  clear hl2 hp2 hx2 HS1
  go_wp2_with fail
  go_ret
  exact ⟨rfl, HB2.out⟩
set_option maxRecDepth 100000 in
set_option maxHeartbeats 4000000 in
theorem names_b (V U : ByteArray) (w : World) (hE : EnvN w) (hv : V.size ≤ 100) (hu : U.size ≤ 100) (hn : nameB V = false) (z1 : ((V.size : Int) == 5) = true) (z2 : ((V.extract 0 4).toList == [105, 113, 110, 46]) = false) :
    Calls Tryd.prog 11 #[.string V, .string U] w fun e w' => e = .returned (.bool true) ∧ Below w.heap.size w w' := by
  have HE := Lib.hid hE
  have h5 : 5 < w.heap.size := hE.2.2
  clear hE
  have h3 : 4 ≤ V.size := by have : (V.size : Int) = 5 := by simpa using z1
                             omega
  go_enter Tryd.func11, Tryd.ntmps11
  go_wp2_with fail
  refine (stands16_any w HE.out).mono ?_
  rintro e w0 ⟨rfl, hb0⟩
  have HB0 := Lib.hid hb0
  clear hb0
  dsimp only
  have hbv : ¬ ((100 : Int) < V.size) := by omega
  have hbu : ¬ ((100 : Int) < U.size) := by omega
  go_wp2_with fail
  refine (new_any w0).mono ?_
  rintro e w1 ⟨rfl, hl1, hb1⟩
  have h50 : 5 < w0.heap.size := Nat.lt_of_lt_of_le h5 HB0.out.size
  have HB1 := Lib.hid (HB0.out.trans (hb1.mono HB0.out.size))
  have hs1 := step_one w0.heap.size newS 4 (by decide) ⟨#[73, 110, 105, 116, 105, 97, 116, 111, 114, 78, 97, 109, 101]⟩ V w1 w1.heap.size rfl (HE.out.below HB1.out (Nat.le_refl _)) h50 hl1 (by omega)
  rw [names_1, hn] at hs1
  have HS1 := Lib.hid hs1
  clear hs1 hl1 hb1
  dsimp only
  go_wp2_with fail
  refine HS1.out.mono ?_
  rintro e w2 ⟨a2, c2, rfl, hp2, hx2, hl2⟩
  have HB2 := Lib.hid (Below.beside HB1.out hl2.2 HB1.out.size HB0.out.size)
  have HL2 := Lib.hid hl2.1
  clear hl2 hp2 hx2 HS1
  go_wp2_with fail
  go_ret
  exact ⟨rfl, HB2.out⟩
set_option maxRecDepth 100000 in
set_option maxHeartbeats 4000000 in
theorem names_c (V U : ByteArray) (w : World) (hE : EnvN w) (hv : V.size ≤ 100) (hu : U.size ≤ 100) (hn : nameB V = false) (y : UInt8) (h4 : 4 < V.size) (hy : V[4] = y) (z1 : ((V.size : Int) == 5) = true) (z2 : ((V.extract 0 4).toList == [105, 113, 110, 46]) = true) (z3 : decide ((48 : Int) ≤ y.toNat) = false) :
    Calls Tryd.prog 11 #[.string V, .string U] w fun e w' => e = .returned (.bool true) ∧ Below w.heap.size w w' := by
  have HE := Lib.hid hE
  have h5 : 5 < w.heap.size := hE.2.2
  clear hE
  go_enter Tryd.func11, Tryd.ntmps11
  go_wp2_with fail
  refine (stands16_any w HE.out).mono ?_
  rintro e w0 ⟨rfl, hb0⟩
  have HB0 := Lib.hid hb0
  clear hb0
  dsimp only
  have hbv : ¬ ((100 : Int) < V.size) := by omega
  have hbu : ¬ ((100 : Int) < U.size) := by omega
  go_wp2_with fail
  refine (new_any w0).mono ?_
  rintro e w1 ⟨rfl, hl1, hb1⟩
  have h50 : 5 < w0.heap.size := Nat.lt_of_lt_of_le h5 HB0.out.size
  have HB1 := Lib.hid (HB0.out.trans (hb1.mono HB0.out.size))
  have hs1 := step_one w0.heap.size newS 4 (by decide) ⟨#[73, 110, 105, 116, 105, 97, 116, 111, 114, 78, 97, 109, 101]⟩ V w1 w1.heap.size rfl (HE.out.below HB1.out (Nat.le_refl _)) h50 hl1 (by omega)
  rw [names_1, hn] at hs1
  have HS1 := Lib.hid hs1
  clear hs1 hl1 hb1
  dsimp only
  go_wp2_with fail
  refine HS1.out.mono ?_
  rintro e w2 ⟨a2, c2, rfl, hp2, hx2, hl2⟩
  have HB2 := Lib.hid (Below.beside HB1.out hl2.2 HB1.out.size HB0.out.size)
  have HL2 := Lib.hid hl2.1
  clear hl2 hp2 hx2 HS1
  go_wp2_with fail
  go_ret
  exact ⟨rfl, HB2.out⟩
set_option maxRecDepth 100000 in
set_option maxHeartbeats 4000000 in
theorem names_d (V U : ByteArray) (w : World) (hE : EnvN w) (hv : V.size ≤ 100) (hu : U.size ≤ 100) (hn : nameB V = false) (y : UInt8) (h4 : 4 < V.size) (hy : V[4] = y) (z1 : ((V.size : Int) == 5) = true) (z2 : ((V.extract 0 4).toList == [105, 113, 110, 46]) = true) (z3 : decide ((48 : Int) ≤ y.toNat) = true) (z4 : decide ((y.toNat : Int) ≤ 55) = false) :
    Calls Tryd.prog 11 #[.string V, .string U] w fun e w' => e = .returned (.bool true) ∧ Below w.heap.size w w' := by
  have HE := Lib.hid hE
  have h5 : 5 < w.heap.size := hE.2.2
  clear hE
  go_enter Tryd.func11, Tryd.ntmps11
  go_wp2_with fail
  refine (stands16_any w HE.out).mono ?_
  rintro e w0 ⟨rfl, hb0⟩
  have HB0 := Lib.hid hb0
  clear hb0
  dsimp only
  have hbv : ¬ ((100 : Int) < V.size) := by omega
  have hbu : ¬ ((100 : Int) < U.size) := by omega
  go_wp2_with fail
  refine (new_any w0).mono ?_
  rintro e w1 ⟨rfl, hl1, hb1⟩
  have h50 : 5 < w0.heap.size := Nat.lt_of_lt_of_le h5 HB0.out.size
  have HB1 := Lib.hid (HB0.out.trans (hb1.mono HB0.out.size))
  have hs1 := step_one w0.heap.size newS 4 (by decide) ⟨#[73, 110, 105, 116, 105, 97, 116, 111, 114, 78, 97, 109, 101]⟩ V w1 w1.heap.size rfl (HE.out.below HB1.out (Nat.le_refl _)) h50 hl1 (by omega)
  rw [names_1, hn] at hs1
  have HS1 := Lib.hid hs1
  clear hs1 hl1 hb1
  dsimp only
  go_wp2_with fail
  refine HS1.out.mono ?_
  rintro e w2 ⟨a2, c2, rfl, hp2, hx2, hl2⟩
  have HB2 := Lib.hid (Below.beside HB1.out hl2.2 HB1.out.size HB0.out.size)
  have HL2 := Lib.hid hl2.1
  clear hl2 hp2 hx2 HS1
  go_wp2_with fail
  go_ret
  exact ⟨rfl, HB2.out⟩
set_option maxRecDepth 100000 in
set_option maxHeartbeats 4000000 in
theorem names_2a (V U : ByteArray) (w : World) (hE : EnvN w) (hv : V.size ≤ 100) (hu : U.size ≤ 100) (hn : nameB V = true) (hnu : nameB U = false) (y : UInt8) (h4 : 4 < V.size) (hy : V[4] = y) (z1 : ((V.size : Int) == 5) = true) (z2 : ((V.extract 0 4).toList == [105, 113, 110, 46]) = true) (z3 : decide ((48 : Int) ≤ y.toNat) = true) (z4 : decide ((y.toNat : Int) ≤ 55) = true) (uz1 : ((U.size : Int) == 5) = false) :
    Calls Tryd.prog 11 #[.string V, .string U] w fun e w' => e = .returned (.bool true) ∧ Below w.heap.size w w' := by
  have HE := Lib.hid hE
  have h5 : 5 < w.heap.size := hE.2.2
  clear hE
  go_enter Tryd.func11, Tryd.ntmps11
  go_wp2_with fail
  refine (stands16_any w HE.out).mono ?_
  rintro e w0 ⟨rfl, hb0⟩
  have HB0 := Lib.hid hb0
  clear hb0
  dsimp only
  have hbv : ¬ ((100 : Int) < V.size) := by omega
  have hbu : ¬ ((100 : Int) < U.size) := by omega
  go_wp2_with fail
  refine (new_any w0).mono ?_
  rintro e w1 ⟨rfl, hl1, hb1⟩
  have h50 : 5 < w0.heap.size := Nat.lt_of_lt_of_le h5 HB0.out.size
  have HB1 := Lib.hid (HB0.out.trans (hb1.mono HB0.out.size))
  have hs1 := step_one w0.heap.size newS 4 (by decide) ⟨#[73, 110, 105, 116, 105, 97, 116, 111, 114, 78, 97, 109, 101]⟩ V w1 w1.heap.size rfl (HE.out.below HB1.out (Nat.le_refl _)) h50 hl1 (by omega)
  rw [names_1, hn] at hs1
  have HS1 := Lib.hid hs1
  clear hs1 hl1 hb1
  dsimp only
  go_wp2_with fail
  refine HS1.out.mono ?_
  rintro e w2 ⟨a2, c2, rfl, hp2, hx2, hl2⟩
  have HB2 := Lib.hid (Below.beside HB1.out hl2.2 HB1.out.size HB0.out.size)
  have HL2 := Lib.hid hl2.1
  clear hl2 hp2 hx2 HS1
  have hb := nameB_n V hn
  have h51 : 5 < w0.heap.size := h50
  have hs2 := step_one w0.heap.size (sA (nameN V)) 4 (by decide) ⟨#[73, 110, 105, 116, 105, 97, 116, 111, 114, 78, 97, 109, 101]⟩ U w2 w2.heap.size rfl (HE.out.below HB2.out (Nat.le_refl _)) h51 HL2.out (by omega)
  rw [names_2 (nameN V) hb.1 hb.2, hnu] at hs2
  simp only [Bool.false_eq_true, if_false] at hs2
  have HS2 := Lib.hid hs2
  have HBN := Lib.hid hb
  clear hs2 hb
  dsimp only
  go_wp2_with fail
  refine HS2.out.mono ?_
  rintro e w3 ⟨a3, c3, rfl, hp3, hx3, hl3⟩
  have HB3 := Lib.hid (Below.beside HB2.out hl3.2 HB2.out.size HB0.out.size)
  clear hl3 hp3 hx3 HS2
  go_wp2_with fail
  go_ret
  exact ⟨rfl, HB3.out⟩
set_option maxRecDepth 100000 in
set_option maxHeartbeats 4000000 in
theorem names_2b (V U : ByteArray) (w : World) (hE : EnvN w) (hv : V.size ≤ 100) (hu : U.size ≤ 100) (hn : nameB V = true) (hnu : nameB U = false) (y : UInt8) (h4 : 4 < V.size) (hy : V[4] = y) (z1 : ((V.size : Int) == 5) = true) (z2 : ((V.extract 0 4).toList == [105, 113, 110, 46]) = true) (z3 : decide ((48 : Int) ≤ y.toNat) = true) (z4 : decide ((y.toNat : Int) ≤ 55) = true) (uz1 : ((U.size : Int) == 5) = true) (uz2 : ((U.extract 0 4).toList == [105, 113, 110, 46]) = false) :
    Calls Tryd.prog 11 #[.string V, .string U] w fun e w' => e = .returned (.bool true) ∧ Below w.heap.size w w' := by
  have HE := Lib.hid hE
  have h5 : 5 < w.heap.size := hE.2.2
  clear hE
  have h3 : 4 ≤ U.size := by have : (U.size : Int) = 5 := by simpa using uz1
                             omega
  go_enter Tryd.func11, Tryd.ntmps11
  go_wp2_with fail
  refine (stands16_any w HE.out).mono ?_
  rintro e w0 ⟨rfl, hb0⟩
  have HB0 := Lib.hid hb0
  clear hb0
  dsimp only
  have hbv : ¬ ((100 : Int) < V.size) := by omega
  have hbu : ¬ ((100 : Int) < U.size) := by omega
  go_wp2_with fail
  refine (new_any w0).mono ?_
  rintro e w1 ⟨rfl, hl1, hb1⟩
  have h50 : 5 < w0.heap.size := Nat.lt_of_lt_of_le h5 HB0.out.size
  have HB1 := Lib.hid (HB0.out.trans (hb1.mono HB0.out.size))
  have hs1 := step_one w0.heap.size newS 4 (by decide) ⟨#[73, 110, 105, 116, 105, 97, 116, 111, 114, 78, 97, 109, 101]⟩ V w1 w1.heap.size rfl (HE.out.below HB1.out (Nat.le_refl _)) h50 hl1 (by omega)
  rw [names_1, hn] at hs1
  have HS1 := Lib.hid hs1
  clear hs1 hl1 hb1
  dsimp only
  go_wp2_with fail
  refine HS1.out.mono ?_
  rintro e w2 ⟨a2, c2, rfl, hp2, hx2, hl2⟩
  have HB2 := Lib.hid (Below.beside HB1.out hl2.2 HB1.out.size HB0.out.size)
  have HL2 := Lib.hid hl2.1
  clear hl2 hp2 hx2 HS1
  have hb := nameB_n V hn
  have h51 : 5 < w0.heap.size := h50
  have hs2 := step_one w0.heap.size (sA (nameN V)) 4 (by decide) ⟨#[73, 110, 105, 116, 105, 97, 116, 111, 114, 78, 97, 109, 101]⟩ U w2 w2.heap.size rfl (HE.out.below HB2.out (Nat.le_refl _)) h51 HL2.out (by omega)
  rw [names_2 (nameN V) hb.1 hb.2, hnu] at hs2
  simp only [Bool.false_eq_true, if_false] at hs2
  have HS2 := Lib.hid hs2
  have HBN := Lib.hid hb
  clear hs2 hb
  dsimp only
  go_wp2_with fail
  refine HS2.out.mono ?_
  rintro e w3 ⟨a3, c3, rfl, hp3, hx3, hl3⟩
  have HB3 := Lib.hid (Below.beside HB2.out hl3.2 HB2.out.size HB0.out.size)
  clear hl3 hp3 hx3 HS2
  go_wp2_with fail
  go_ret
  exact ⟨rfl, HB3.out⟩
set_option maxRecDepth 100000 in
set_option maxHeartbeats 4000000 in
theorem names_2c (V U : ByteArray) (w : World) (hE : EnvN w) (hv : V.size ≤ 100) (hu : U.size ≤ 100) (hn : nameB V = true) (hnu : nameB U = false) (y : UInt8) (h4 : 4 < V.size) (hy : V[4] = y) (z1 : ((V.size : Int) == 5) = true) (z2 : ((V.extract 0 4).toList == [105, 113, 110, 46]) = true) (z3 : decide ((48 : Int) ≤ y.toNat) = true) (z4 : decide ((y.toNat : Int) ≤ 55) = true) (uy : UInt8) (uh4 : 4 < U.size) (uhy : U[4] = uy) (uz1 : ((U.size : Int) == 5) = true) (uz2 : ((U.extract 0 4).toList == [105, 113, 110, 46]) = true) (uz3 : decide ((48 : Int) ≤ uy.toNat) = false) :
    Calls Tryd.prog 11 #[.string V, .string U] w fun e w' => e = .returned (.bool true) ∧ Below w.heap.size w w' := by
  have HE := Lib.hid hE
  have h5 : 5 < w.heap.size := hE.2.2
  clear hE
  go_enter Tryd.func11, Tryd.ntmps11
  go_wp2_with fail
  refine (stands16_any w HE.out).mono ?_
  rintro e w0 ⟨rfl, hb0⟩
  have HB0 := Lib.hid hb0
  clear hb0
  dsimp only
  have hbv : ¬ ((100 : Int) < V.size) := by omega
  have hbu : ¬ ((100 : Int) < U.size) := by omega
  go_wp2_with fail
  refine (new_any w0).mono ?_
  rintro e w1 ⟨rfl, hl1, hb1⟩
  have h50 : 5 < w0.heap.size := Nat.lt_of_lt_of_le h5 HB0.out.size
  have HB1 := Lib.hid (HB0.out.trans (hb1.mono HB0.out.size))
  have hs1 := step_one w0.heap.size newS 4 (by decide) ⟨#[73, 110, 105, 116, 105, 97, 116, 111, 114, 78, 97, 109, 101]⟩ V w1 w1.heap.size rfl (HE.out.below HB1.out (Nat.le_refl _)) h50 hl1 (by omega)
  rw [names_1, hn] at hs1
  have HS1 := Lib.hid hs1
  clear hs1 hl1 hb1
  dsimp only
  go_wp2_with fail
  refine HS1.out.mono ?_
  rintro e w2 ⟨a2, c2, rfl, hp2, hx2, hl2⟩
  have HB2 := Lib.hid (Below.beside HB1.out hl2.2 HB1.out.size HB0.out.size)
  have HL2 := Lib.hid hl2.1
  clear hl2 hp2 hx2 HS1
  have hb := nameB_n V hn
  have h51 : 5 < w0.heap.size := h50
  have hs2 := step_one w0.heap.size (sA (nameN V)) 4 (by decide) ⟨#[73, 110, 105, 116, 105, 97, 116, 111, 114, 78, 97, 109, 101]⟩ U w2 w2.heap.size rfl (HE.out.below HB2.out (Nat.le_refl _)) h51 HL2.out (by omega)
  rw [names_2 (nameN V) hb.1 hb.2, hnu] at hs2
  simp only [Bool.false_eq_true, if_false] at hs2
  have HS2 := Lib.hid hs2
  have HBN := Lib.hid hb
  clear hs2 hb
  dsimp only
  go_wp2_with fail
  refine HS2.out.mono ?_
  rintro e w3 ⟨a3, c3, rfl, hp3, hx3, hl3⟩
  have HB3 := Lib.hid (Below.beside HB2.out hl3.2 HB2.out.size HB0.out.size)
  clear hl3 hp3 hx3 HS2
  go_wp2_with fail
  go_ret
  exact ⟨rfl, HB3.out⟩
set_option maxRecDepth 100000 in
set_option maxHeartbeats 4000000 in
theorem names_2d (V U : ByteArray) (w : World) (hE : EnvN w) (hv : V.size ≤ 100) (hu : U.size ≤ 100) (hn : nameB V = true) (hnu : nameB U = false) (y : UInt8) (h4 : 4 < V.size) (hy : V[4] = y) (z1 : ((V.size : Int) == 5) = true) (z2 : ((V.extract 0 4).toList == [105, 113, 110, 46]) = true) (z3 : decide ((48 : Int) ≤ y.toNat) = true) (z4 : decide ((y.toNat : Int) ≤ 55) = true) (uy : UInt8) (uh4 : 4 < U.size) (uhy : U[4] = uy) (uz1 : ((U.size : Int) == 5) = true) (uz2 : ((U.extract 0 4).toList == [105, 113, 110, 46]) = true) (uz3 : decide ((48 : Int) ≤ uy.toNat) = true) (uz4 : decide ((uy.toNat : Int) ≤ 55) = false) :
    Calls Tryd.prog 11 #[.string V, .string U] w fun e w' => e = .returned (.bool true) ∧ Below w.heap.size w w' := by
  have HE := Lib.hid hE
  have h5 : 5 < w.heap.size := hE.2.2
  clear hE
  go_enter Tryd.func11, Tryd.ntmps11
  go_wp2_with fail
  refine (stands16_any w HE.out).mono ?_
  rintro e w0 ⟨rfl, hb0⟩
  have HB0 := Lib.hid hb0
  clear hb0
  dsimp only
  have hbv : ¬ ((100 : Int) < V.size) := by omega
  have hbu : ¬ ((100 : Int) < U.size) := by omega
  go_wp2_with fail
  refine (new_any w0).mono ?_
  rintro e w1 ⟨rfl, hl1, hb1⟩
  have h50 : 5 < w0.heap.size := Nat.lt_of_lt_of_le h5 HB0.out.size
  have HB1 := Lib.hid (HB0.out.trans (hb1.mono HB0.out.size))
  have hs1 := step_one w0.heap.size newS 4 (by decide) ⟨#[73, 110, 105, 116, 105, 97, 116, 111, 114, 78, 97, 109, 101]⟩ V w1 w1.heap.size rfl (HE.out.below HB1.out (Nat.le_refl _)) h50 hl1 (by omega)
  rw [names_1, hn] at hs1
  have HS1 := Lib.hid hs1
  clear hs1 hl1 hb1
  dsimp only
  go_wp2_with fail
  refine HS1.out.mono ?_
  rintro e w2 ⟨a2, c2, rfl, hp2, hx2, hl2⟩
  have HB2 := Lib.hid (Below.beside HB1.out hl2.2 HB1.out.size HB0.out.size)
  have HL2 := Lib.hid hl2.1
  clear hl2 hp2 hx2 HS1
  have hb := nameB_n V hn
  have h51 : 5 < w0.heap.size := h50
  have hs2 := step_one w0.heap.size (sA (nameN V)) 4 (by decide) ⟨#[73, 110, 105, 116, 105, 97, 116, 111, 114, 78, 97, 109, 101]⟩ U w2 w2.heap.size rfl (HE.out.below HB2.out (Nat.le_refl _)) h51 HL2.out (by omega)
  rw [names_2 (nameN V) hb.1 hb.2, hnu] at hs2
  simp only [Bool.false_eq_true, if_false] at hs2
  have HS2 := Lib.hid hs2
  have HBN := Lib.hid hb
  clear hs2 hb
  dsimp only
  go_wp2_with fail
  refine HS2.out.mono ?_
  rintro e w3 ⟨a3, c3, rfl, hp3, hx3, hl3⟩
  have HB3 := Lib.hid (Below.beside HB2.out hl3.2 HB2.out.size HB0.out.size)
  clear hl3 hp3 hx3 HS2
  go_wp2_with fail
  go_ret
  exact ⟨rfl, HB3.out⟩
set_option maxRecDepth 100000 in
set_option maxHeartbeats 4000000 in
theorem names_2e (V U : ByteArray) (w : World) (hE : EnvN w) (hv : V.size ≤ 100) (hu : U.size ≤ 100) (hn : nameB V = true) (hnu : nameB U = true) (heq : (U.toList == V.toList) = true) (y : UInt8) (h4 : 4 < V.size) (hy : V[4] = y) (z1 : ((V.size : Int) == 5) = true) (z2 : ((V.extract 0 4).toList == [105, 113, 110, 46]) = true) (z3 : decide ((48 : Int) ≤ y.toNat) = true) (z4 : decide ((y.toNat : Int) ≤ 55) = true) (uy : UInt8) (uh4 : 4 < U.size) (uhy : U[4] = uy) (uz1 : ((U.size : Int) == 5) = true) (uz2 : ((U.extract 0 4).toList == [105, 113, 110, 46]) = true) (uz3 : decide ((48 : Int) ≤ uy.toNat) = true) (uz4 : decide ((uy.toNat : Int) ≤ 55) = true) :
    Calls Tryd.prog 11 #[.string V, .string U] w fun e w' => e = .returned (.bool true) ∧ Below w.heap.size w w' := by
  have HE := Lib.hid hE
  have h5 : 5 < w.heap.size := hE.2.2
  clear hE
  have hne : (nameN V != nameN U) = false := by have := names_eq V U hn hnu; rw [heq] at this; simpa using this.symm
  have heq2 : (U.toList != V.toList) = false := by simp [bne, heq]
  go_enter Tryd.func11, Tryd.ntmps11
  go_wp2_with fail
  refine (stands16_any w HE.out).mono ?_
  rintro e w0 ⟨rfl, hb0⟩
  have HB0 := Lib.hid hb0
  clear hb0
  dsimp only
  have hbv : ¬ ((100 : Int) < V.size) := by omega
  have hbu : ¬ ((100 : Int) < U.size) := by omega
  go_wp2_with fail
  refine (new_any w0).mono ?_
  rintro e w1 ⟨rfl, hl1, hb1⟩
  have h50 : 5 < w0.heap.size := Nat.lt_of_lt_of_le h5 HB0.out.size
  have HB1 := Lib.hid (HB0.out.trans (hb1.mono HB0.out.size))
  have hs1 := step_one w0.heap.size newS 4 (by decide) ⟨#[73, 110, 105, 116, 105, 97, 116, 111, 114, 78, 97, 109, 101]⟩ V w1 w1.heap.size rfl (HE.out.below HB1.out (Nat.le_refl _)) h50 hl1 (by omega)
  rw [names_1, hn] at hs1
  have HS1 := Lib.hid hs1
  clear hs1 hl1 hb1
  dsimp only
  go_wp2_with fail
  refine HS1.out.mono ?_
  rintro e w2 ⟨a2, c2, rfl, hp2, hx2, hl2⟩
  have HB2 := Lib.hid (Below.beside HB1.out hl2.2 HB1.out.size HB0.out.size)
  have HL2 := Lib.hid hl2.1
  clear hl2 hp2 hx2 HS1
  have hb := nameB_n V hn
  have h51 : 5 < w0.heap.size := h50
  have hs2 := step_one w0.heap.size (sA (nameN V)) 4 (by decide) ⟨#[73, 110, 105, 116, 105, 97, 116, 111, 114, 78, 97, 109, 101]⟩ U w2 w2.heap.size rfl (HE.out.below HB2.out (Nat.le_refl _)) h51 HL2.out (by omega)
  rw [names_2 (nameN V) hb.1 hb.2, hnu] at hs2
  rw [hne] at hs2
  simp only [Bool.false_eq_true, if_false, if_true] at hs2
  have HS2 := Lib.hid hs2
  have HBN := Lib.hid hb
  clear hs2 hb
  dsimp only
  go_wp2_with fail
  refine HS2.out.mono ?_
  rintro e w3 ⟨a3, c3, rfl, hp3, hx3, hl3⟩
  have HB3 := Lib.hid (Below.beside HB2.out hl3.2 HB2.out.size HB0.out.size)
  clear hl3 hp3 hx3 HS2
  go_wp2_with fail
  go_ret
  exact ⟨rfl, HB3.out⟩
set_option maxRecDepth 100000 in
set_option maxHeartbeats 4000000 in
theorem names_2f (V U : ByteArray) (w : World) (hE : EnvN w) (hv : V.size ≤ 100) (hu : U.size ≤ 100) (hn : nameB V = true) (hnu : nameB U = true) (heq : (U.toList == V.toList) = false) (y : UInt8) (h4 : 4 < V.size) (hy : V[4] = y) (z1 : ((V.size : Int) == 5) = true) (z2 : ((V.extract 0 4).toList == [105, 113, 110, 46]) = true) (z3 : decide ((48 : Int) ≤ y.toNat) = true) (z4 : decide ((y.toNat : Int) ≤ 55) = true) (uy : UInt8) (uh4 : 4 < U.size) (uhy : U[4] = uy) (uz1 : ((U.size : Int) == 5) = true) (uz2 : ((U.extract 0 4).toList == [105, 113, 110, 46]) = true) (uz3 : decide ((48 : Int) ≤ uy.toNat) = true) (uz4 : decide ((uy.toNat : Int) ≤ 55) = true) :
    Calls Tryd.prog 11 #[.string V, .string U] w fun e w' => e = .returned (.bool true) ∧ Below w.heap.size w w' := by
  have HE := Lib.hid hE
  have h5 : 5 < w.heap.size := hE.2.2
  clear hE
  have hne : (nameN V != nameN U) = true := by have := names_eq V U hn hnu; rw [heq] at this; simpa using this.symm
  have heq2 : (U.toList != V.toList) = true := by simp [bne, heq]
  go_enter Tryd.func11, Tryd.ntmps11
  go_wp2_with fail
  refine (stands16_any w HE.out).mono ?_
  rintro e w0 ⟨rfl, hb0⟩
  have HB0 := Lib.hid hb0
  clear hb0
  dsimp only
  have hbv : ¬ ((100 : Int) < V.size) := by omega
  have hbu : ¬ ((100 : Int) < U.size) := by omega
  go_wp2_with fail
  refine (new_any w0).mono ?_
  rintro e w1 ⟨rfl, hl1, hb1⟩
  have h50 : 5 < w0.heap.size := Nat.lt_of_lt_of_le h5 HB0.out.size
  have HB1 := Lib.hid (HB0.out.trans (hb1.mono HB0.out.size))
  have hs1 := step_one w0.heap.size newS 4 (by decide) ⟨#[73, 110, 105, 116, 105, 97, 116, 111, 114, 78, 97, 109, 101]⟩ V w1 w1.heap.size rfl (HE.out.below HB1.out (Nat.le_refl _)) h50 hl1 (by omega)
  rw [names_1, hn] at hs1
  have HS1 := Lib.hid hs1
  clear hs1 hl1 hb1
  dsimp only
  go_wp2_with fail
  refine HS1.out.mono ?_
  rintro e w2 ⟨a2, c2, rfl, hp2, hx2, hl2⟩
  have HB2 := Lib.hid (Below.beside HB1.out hl2.2 HB1.out.size HB0.out.size)
  have HL2 := Lib.hid hl2.1
  clear hl2 hp2 hx2 HS1
  have hb := nameB_n V hn
  have h51 : 5 < w0.heap.size := h50
  have hs2 := step_one w0.heap.size (sA (nameN V)) 4 (by decide) ⟨#[73, 110, 105, 116, 105, 97, 116, 111, 114, 78, 97, 109, 101]⟩ U w2 w2.heap.size rfl (HE.out.below HB2.out (Nat.le_refl _)) h51 HL2.out (by omega)
  rw [names_2 (nameN V) hb.1 hb.2, hnu] at hs2
  rw [hne] at hs2
  simp only [Bool.false_eq_true, if_false, if_true] at hs2
  have HS2 := Lib.hid hs2
  have HBN := Lib.hid hb
  clear hs2 hb
  dsimp only
  go_wp2_with fail
  refine HS2.out.mono ?_
  rintro e w3 ⟨a3, c3, rfl, hp3, hx3, hl3⟩
  have HB3 := Lib.hid (Below.beside HB2.out hl3.2 HB2.out.size HB0.out.size)
  clear hl3 hp3 hx3 HS2
  go_wp2_with fail
  go_ret
  exact ⟨rfl, HB3.out⟩
theorem name_ways (V : ByteArray) : (nameB V = false ∧ (((V.size : Int) == 5) = false ∨ (((V.size : Int) == 5) = true ∧ ((V.extract 0 4).toList == [105, 113, 110, 46]) = false) ∨
      ∃ (y : UInt8) (h4 : 4 < V.size), V[4] = y ∧ ((V.size : Int) == 5) = true ∧ ((V.extract 0 4).toList == [105, 113, 110, 46]) = true ∧ (decide ((48 : Int) ≤ y.toNat) = false ∨ (decide ((48 : Int) ≤ y.toNat) = true ∧ decide ((y.toNat : Int) ≤ 55) = false)))) ∨
    (nameB V = true ∧ ∃ (y : UInt8) (h4 : 4 < V.size), V[4] = y ∧ ((V.size : Int) == 5) = true ∧ ((V.extract 0 4).toList == [105, 113, 110, 46]) = true ∧ decide ((48 : Int) ≤ y.toNat) = true ∧ decide ((y.toNat : Int) ≤ 55) = true) := by
  by_cases hs : V.size = 5
  · obtain ⟨y, h4, hy, e1, _⟩ := nameB_of V hs
    have z1 : ((V.size : Int) == 5) = true := by rw [hs]; rfl
    rw [e1]
    have d1 : decide ((48 : Int) ≤ y.toNat) = decide (48 ≤ y.toNat) := by simp only [decide_eq_decide]; omega
    have d2 : decide ((y.toNat : Int) ≤ 55) = decide (y.toNat ≤ 55) := by simp only [decide_eq_decide]; omega
    cases i1 : ((V.extract 0 4).toList == [105, 113, 110, 46])
    · exact .inl ⟨rfl, .inr (.inl ⟨z1, rfl⟩)⟩
    · cases y1 : decide (48 ≤ y.toNat)
      · exact .inl ⟨rfl, .inr (.inr ⟨y, h4, hy, z1, rfl, .inl (by rw [d1, y1])⟩)⟩
      · cases y2 : decide (y.toNat ≤ 55)
        · exact .inl ⟨rfl, .inr (.inr ⟨y, h4, hy, z1, rfl, .inr ⟨by rw [d1, y1], by rw [d2, y2]⟩⟩)⟩
        · exact .inr ⟨rfl, y, h4, hy, z1, rfl, by rw [d1, y1], by rw [d2, y2]⟩
  · have z1 : ((V.size : Int) == 5) = false := by simp; omega
    refine .inl ⟨?_, .inl z1⟩
    unfold nameB
    rw [decide_eq_false hs]
    rfl
theorem negoNames_any (V U : ByteArray) (w : World) (hE : EnvN w) : Calls Tryd.prog 11 #[.string V, .string U] w fun e w' => e = .returned (.bool true) ∧ Below w.heap.size w w' := by
  by_cases hv : V.size ≤ 100
  case neg => exact names_big V U w hE (.inl (by omega))
  by_cases hu : U.size ≤ 100
  case neg => exact names_big V U w hE (.inr ⟨by omega, by omega⟩)
  rcases name_ways V with ⟨hn, h | ⟨z1, z2⟩ | ⟨y, h4, hy, z1, z2, h | ⟨h, h'⟩⟩⟩ | ⟨hn, y, h4, hy, z1, z2, z3, z4⟩
  · exact names_a V U w hE hv hu hn h
  · exact names_b V U w hE hv hu hn z1 z2
  · exact names_c V U w hE hv hu hn y h4 hy z1 z2 h
  · exact names_d V U w hE hv hu hn y h4 hy z1 z2 h h'
  rcases name_ways U with ⟨hnu, h | ⟨uz1, uz2⟩ | ⟨uy, uh4, uhy, uz1, uz2, h | ⟨h, h'⟩⟩⟩ | ⟨hnu, uy, uh4, uhy, uz1, uz2, uz3, uz4⟩
  · exact names_2a V U w hE hv hu hn hnu y h4 hy z1 z2 z3 z4 h
  · exact names_2b V U w hE hv hu hn hnu y h4 hy z1 z2 z3 z4 uz1 uz2
  · exact names_2c V U w hE hv hu hn hnu y h4 hy z1 z2 z3 z4 uy uh4 uhy uz1 uz2 h
  · exact names_2d V U w hE hv hu hn hnu y h4 hy z1 z2 z3 z4 uy uh4 uhy uz1 uz2 h h'
  cases heq : (U.toList == V.toList)
  · exact names_2f V U w hE hv hu hn hnu heq y h4 hy z1 z2 z3 z4 uy uh4 uhy uz1 uz2 uz3 uz4
  · exact names_2e V U w hE hv hu hn hnu heq y h4 hy z1 z2 z3 z4 uy uh4 uhy uz1 uz2 uz3 uz4
end Go.Proofs.YtnicmfboomibjaaDoor
