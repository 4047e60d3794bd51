/- What a key's name is: name of the program, byte by byte. The world's first cells read as values of their types. -/
import Derived.Test.YtnicmfboomibjaaDoorK3p
import Derived.Test.YtnicmfboomibjaaDoorShelf
import Derived.Lib.ConvBytes
import Derived.Outline
import Derived.Laws.Strings3
namespace Go.Proofs.YtnicmfboomibjaaDoor
set_option linter.unusedSimpArgs false
set_option linter.unusedVariables false
open Go.RowKit
theorem ib_any (c : UInt8) (r : Int) (h : Lib.indexByte [46, 45, 43, 64, 95] c = r) (w : World) : Calls Tryd.prog 38 #[.string ⟨#[46, 45, 43, 64, 95]⟩, .int .u8 c.toNat] w fun e w' => e = .returned (.int .i64 r) ∧ w' = w := by
  refine (Tryd.strings_IndexByte _ _ _).mono ?_
  rintro e w' ⟨rfl, rfl⟩
  refine ⟨?_, rfl⟩
  rw [← h]
  have : (c.toNat : Int).toNat.toUInt8 = c := by simp
  rw [this]
set_option maxRecDepth 100000 in
set_option maxHeartbeats 2000000 in
theorem name_any (s : ByteArray) (w : World) (hs : s.size ≤ 100000) : Calls Tryd.prog 27 #[.string s] w fun e w' => e = .returned (.bool (nameF s.data.toList)) ∧ Below w.heap.size w w' := by
  by_cases h0 : s.size = 0
  · have e0 : s.toList.isEmpty = true := by rw [empty_iff]; simpa using h0
    have HN : Hid (nameF s.data.toList = false) := Lib.hid (by
      have : s.data.toList = [] := List.eq_nil_of_length_eq_zero (by simpa using h0)
      rw [this]; rfl)
    go_enter Tryd.func27, Tryd.ntmps27
    go_wp2_with fail
    go_ret
    exact ⟨by rw [HN.out]; rfl, Below.refl _ _⟩
  · have h1 : 0 < s.size := by omega
    have e0 : s.toList.isEmpty = false := by rw [empty_iff]; simpa using h0
    have HN := Lib.hid (nameF_at s h1)
    clear h0
    cases q1 : decide ((63 : Int) < (s.size : Int)) <;> cases q2 : decide ((s[0].toNat : Int) < 65) <;> cases q3 : decide ((90 : Int) < (s[0].toNat : Int))
    case false.false.false =>
      rw [q1, q2, q3] at HN
      have hcv := Lib.run_convert_string_bytes (P := Tryd.prog) w 9 22 5 s (u := .string) Tryd.underlying9 Tryd.underlying22 Tryd.underlying5
      have hB : ∀ j, j < s.size → (Lib.bytesWorld w 5 s).cell? ⟨w.heap.size, j, none⟩ = some (.int .u8 (s.data.toList.getD j 0).toNat) := fun j hj => Lib.bytesWorld_cell w 5 s j hj
      have hb : Below w.heap.size w (Lib.bytesWorld w 5 s) := Lib.bytesWorld_below _ _ _
      obtain ⟨W1, hW1⟩ : ∃ W1, W1 = Lib.bytesWorld w 5 s := ⟨_, rfl⟩
      rw [← hW1] at hcv hB hb
      clear hW1
      obtain ⟨bs, hL⟩ : ∃ bs, bs = s.data.toList := ⟨_, rfl⟩
      have hLn : bs.length = s.size := by rw [hL, Lib.size_eq]
      rw [← hL] at hB HN ⊢
      clear hL
      go_enter Tryd.func27, Tryd.ntmps27
      go_wp2_with fail
      go_loopw [25] (fun iv wr => ∃ k : Nat, iv = .int .i64 k ∧ k ≤ s.size ∧ Hid ((bs.take k).all (fun c => otherF c.toNat) = true) ∧ wr = W1) (fun iv _ => s.size - (intOf iv).toNat)
      case atStart => exact ⟨0, rfl, by omega, Lib.hid rfl, rfl⟩
      case round =>
        obtain ⟨k, rfl, hk, HA, rfl⟩ := hrel
        by_cases hkn : k < s.size
        · have hc := hB k hkn
          have hget : bs.getD k 0 = bs[k]'(by omega) := by simp [List.getD, List.getElem?_eq_getElem (show k < bs.length by omega)]
          rw [hget] at hc
          have HS := Lib.hid (all_take_succ bs (fun c => otherF c.toNat) k (by omega))
          have hmem : bs[k]'(by omega) ∈ bs := List.getElem_mem _
          generalize bs[k]'(by omega) = c at hc HS hmem
          have HO := Lib.hid (otherF_at c)
          have HM : Hid (otherF c.toNat = false → bs.all (fun c => otherF c.toNat) = false) := Lib.hid (fun h => by rw [List.all_eq_false]; exact ⟨c, hmem, by simp [h]⟩)
          have hc256 : c.toNat < 256 := c.toNat_lt
          clear hB hget hmem
          have HF : Hid (otherF c.toNat = false → nameF bs = false) := Lib.hid (fun h => by rw [HN.out, HM.out h]; rfl)
          have HR : Hid (otherF c.toNat = true → (bs.take (k + 1)).all (fun c => otherF c.toNat) = true) := Lib.hid (fun h => by rw [HS.out, HA.out, h]; rfl)
          clear HS HM
          by_cases a1 : 65 ≤ c.toNat ∧ c.toNat ≤ 90
          · obtain ⟨a2, a3⟩ := a1
            have i2 : (65 : Int) ≤ c.toNat := by omega
            have i3 : (c.toNat : Int) ≤ 90 := by omega
            have HT : Hid (otherF c.toNat = true) := Lib.hid (by rw [HO.out]; simp [i2, i3])
            go_wp2_with fail
            refine ⟨⟨k + 1, by go_num, by omega, Lib.hid (HR.out HT.out), trivial⟩, by simp [intOf]; omega⟩
          by_cases a4 : 97 ≤ c.toNat ∧ c.toNat ≤ 122
          · obtain ⟨a2, a3⟩ := a4
            have i1 : (90 : Int) < c.toNat := by omega
            have i2 : (97 : Int) ≤ c.toNat := by omega
            have i3 : (c.toNat : Int) ≤ 122 := by omega
            have HT : Hid (otherF c.toNat = true) := Lib.hid (by rw [HO.out]; simp [i2, i3])
            clear a1
            go_wp2_with fail
            refine ⟨⟨k + 1, by go_num, by omega, Lib.hid (HR.out HT.out), trivial⟩, by simp [intOf]; omega⟩
          by_cases a5 : 48 ≤ c.toNat ∧ c.toNat ≤ 57
          · obtain ⟨a2, a3⟩ := a5
            have i1 : (c.toNat : Int) < 65 := by omega
            have i2 : (48 : Int) ≤ c.toNat := by omega
            have i3 : (c.toNat : Int) ≤ 57 := by omega
            have HT : Hid (otherF c.toNat = true) := Lib.hid (by rw [HO.out]; simp [i2, i3])
            clear a1 a4
            go_wp2_with fail
            refine ⟨⟨k + 1, by go_num, by omega, Lib.hid (HR.out HT.out), trivial⟩, by simp [intOf]; omega⟩
          have HD : Hid (otherF c.toNat = decide (0 ≤ Lib.indexByte [46, 45, 43, 64, 95] c)) := Lib.hid (by
            rw [HO.out]
            have b1 : (decide (65 ≤ (c.toNat : Int)) && decide ((c.toNat : Int) ≤ 90)) = false := by simp; omega
            have b2 : (decide (97 ≤ (c.toNat : Int)) && decide ((c.toNat : Int) ≤ 122)) = false := by simp; omega
            have b3 : (decide (48 ≤ (c.toNat : Int)) && decide ((c.toNat : Int) ≤ 57)) = false := by simp; omega
            rw [b1, b2, b3]; rfl)
          have hcase : (c.toNat : Int) < 48 ∨ ((57 : Int) < c.toNat ∧ (c.toNat : Int) < 65) ∨ ((90 : Int) < c.toNat ∧ (c.toNat : Int) < 97) ∨ (122 : Int) < c.toNat := by omega
          generalize hr : Lib.indexByte [46, 45, 43, 64, 95] c = r at HD
          have HI := Lib.hid hr
          clear hr
          clear a1 a4 a5 HO
          rcases hcase with j1 | ⟨j1, j2⟩ | ⟨j1, j2⟩ | j1
          all_goals
            try have d1 : decide ((c.toNat : Int) ≤ 57) = false := by simp; omega
            try have d2 : decide ((c.toNat : Int) ≤ 90) = false := by simp; omega
            try have d3 : decide ((c.toNat : Int) ≤ 122) = false := by simp; omega
            go_wp2_with fail
            refine (ib_any c r HI.out _).mono ?_
            rintro e w' ⟨rfl, rfl⟩
            dsimp only
            cases q4 : decide (0 ≤ r)
            · rw [q4] at HD
              go_wp2_with fail
              go_ret
              exact ⟨by rw [HF.out HD.out]; rfl, hb⟩
            · rw [q4] at HD
              go_wp2_with fail
              refine ⟨⟨k + 1, by go_num, by omega, Lib.hid (HR.out HD.out), trivial⟩, by simp [intOf]; omega⟩
        · obtain rfl : k = s.size := by omega
          rw [List.take_of_length_le (by omega)] at HA
          have HE : Hid (nameF bs = true) := Lib.hid (by rw [HN.out, HA.out]; rfl)
          go_wp2_with fail
          go_ret
          exact ⟨by rw [HE.out]; rfl, hb⟩
    all_goals
      rw [q1, q2, q3] at HN
      have HE : Hid (nameF s.data.toList = false) := Lib.hid (by rw [HN.out]; rfl)
      go_enter Tryd.func27, Tryd.ntmps27
      go_wp2_with fail
      go_ret
      exact ⟨by rw [HE.out]; rfl, Below.refl _ _⟩
end Go.Proofs.YtnicmfboomibjaaDoor
