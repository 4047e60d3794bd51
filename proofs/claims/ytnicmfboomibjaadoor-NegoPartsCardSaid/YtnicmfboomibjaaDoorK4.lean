/- What strconv.ParseUint answers at base 10 and base 16, 32 bits, for every short string: the number, or an error that is not nil. The error variables hold errors. -/
import Derived.Test.YtnicmfboomibjaaDoorK2
import Derived.Test.YtnicmfboomibjaaDoorK3
import Derived.Lib.ParseIntBMem
import Derived.Laws.Closers25
import Derived.Laws.Closers25b
import Derived.BigCall
import Derived.BigGuard
namespace Go.Proofs.YtnicmfboomibjaaDoor
set_option linter.unusedSimpArgs false
set_option linter.unusedVariables false
open Go.RowKit
def PuRes (o : Option Int) (e : Ending) : Prop := match o with
  | some x => e = .returned (.tuple #[.int .u64 x, .nilIface])
  | none => ∃ v k : Int, (k = 1 ∨ k = 2) ∧ e = .returned (.tuple #[.int .u64 v, .iface 82 (.int .i64 k)])
def puF (base : Int) (l : List UInt8) : Option Int := if l = [] then none else numGo base l 0
theorem lower_at (c low : Int) (h : bits .or .u8 c 32 = low) (w : World) : Calls Tryd.prog 49 #[.int .u8 c] w fun e w' => e = .returned (.int .u8 low) ∧ w' = w := by
  rw [← h]; exact Tryd.internal_strconv_lower c w
theorem low_small : ∀ n : Fin 256, (97 ≤ n.val ∧ n.val ≤ 122 → bits .or .u8 (n.val : Int) 32 = n.val) ∧ (65 ≤ n.val ∧ n.val ≤ 90 → bits .or .u8 (n.val : Int) 32 = n.val + 32) ∧ (0 ≤ bits .or .u8 (n.val : Int) 32 ∧ bits .or .u8 (n.val : Int) 32 < 256) ∧ (¬ (97 ≤ n.val ∧ n.val ≤ 102) → ¬ (65 ≤ n.val ∧ n.val ≤ 70) → bits .or .u8 (n.val : Int) 32 < 97 ∨ 103 ≤ bits .or .u8 (n.val : Int) 32) := by decide +kernel
set_option maxHeartbeats 4000000 in
set_option maxRecDepth 100000 in
theorem pu10_in (t : ByteArray) (hne : t.size ≠ 0) (hmax : t.size ≤ 100000) (w : World) : Calls Tryd.prog 40 #[.string t, .int .i64 10, .int .i64 32] w fun e w' => PuRes (puF 10 t.data.toList) e ∧ Below w.heap.size w w' := by
  have hemp : t.toList.isEmpty = false := by rw [empty_iff]; simpa using hne
  have HP : Hid (puF 10 t.data.toList = numGo 10 t.data.toList 0) := Lib.hid (by
    unfold puF; rw [if_neg]; intro h; apply hne; have := congrArg List.length h; simpa using this)
  have hcv := Lib.run_convert_string_bytes (P := Tryd.prog) w 9 22 5 t (u := .string) Tryd.underlying9 Tryd.underlying22 Tryd.underlying5
  have hB : ∀ j, j < t.size → (Lib.bytesWorld w 5 t).cell? ⟨w.heap.size, j, none⟩ = some (.int .u8 (t.data.toList.getD j 0).toNat) := fun j hj => Lib.bytesWorld_cell w 5 t j hj
  have hb : Below w.heap.size w (Lib.bytesWorld w 5 t) := Lib.bytesWorld_below _ _ _
  obtain ⟨W1, hW1⟩ : ∃ W1, W1 = Lib.bytesWorld w 5 t := ⟨_, rfl⟩
  rw [← hW1] at hcv hB hb
  clear hW1
  obtain ⟨bs, hL⟩ : ∃ bs, bs = t.data.toList := ⟨_, rfl⟩
  have hLn : bs.length = t.size := by rw [hL, Lib.size_eq]
  rw [← hL] at hB HP ⊢
  clear hL
  have hmv : IntKind.u64.wrap (IntKind.u64.wrap 4294967296 - 1) = 4294967295 := by
    rw [IntKind.wrap_u64, IntKind.wrap_u64]
    decide
  go_enter Tryd.func40, Tryd.ntmps40
  go_wp2_with fail
  go_loopw [12, 13, 101] (fun vu vn vi wr => ∃ (k : Nat) (a : Int), vu = .bool false ∧ vn = .int .u64 a ∧ vi = .int .i64 k ∧ k ≤ t.size ∧ 0 ≤ a ∧ a ≤ 4294967295 ∧ Hid (numGo 10 bs 0 = numGo 10 (bs.drop k) a) ∧ wr = W1) (fun _ _ vi _ => t.size - (intOf vi).toNat)
  case atStart => exact ⟨0, 0, rfl, rfl, rfl, by omega, by omega, by omega, Lib.hid rfl, rfl⟩
  case round =>
    obtain ⟨k, a, rfl, rfl, rfl, hk, a0, a1, HG, rfl⟩ := hrel
    by_cases hkn : k < t.size
    · have hc := hB k hkn
      have hdrop : bs.drop k = bs[k]'(by omega) :: bs.drop (k + 1) := List.drop_eq_getElem_cons (by omega)
      have hget : bs.getD k 0 = bs[k]'(by omega) := by simp [List.getD, List.getElem?_eq_getElem (show k < bs.length by omega)]
      rw [hget] at hc
      have HG1 : Hid (numGo 10 bs 0 = numGo 10 (bs[k]'(by omega) :: bs.drop (k + 1)) a) := Lib.hid (by rw [HG.out, hdrop])
      generalize bs[k]'(by omega) = c at hc HG1
      have hc256 : c.toNat < 256 := c.toNat_lt
      have hlow := low_small ⟨c.toNat, hc256⟩
      clear hB hdrop hget HG
      by_cases hA : 48 ≤ c.toNat ∧ c.toNat ≤ 57
      · obtain ⟨hd0, hd1⟩ := hA
        have hd2 : (48 : Int) ≤ c.toNat := by omega
        have hd3 : (c.toNat : Int) ≤ 57 := by omega
        have HD : Hid (digitF c.toNat 10 = ((c.toNat : Int) - 48)) := Lib.hid (by
          unfold digitF
          simp only [Bool.and_eq_true, decide_eq_true_eq]
          repeat' split
          all_goals omega)
        
        clear hlow 
        by_cases hov : 4294967295 < a * 10 + ((c.toNat : Int) - 48)
        · have HF : Hid (numGo 10 bs 0 = none) := Lib.hid (by rw [HG1.out, numGo, HD.out, if_neg (by omega), if_pos hov])
          go_wp2_with fail

          go_ret2
          exact ⟨by rw [HP.out, HF.out]; exact ⟨_, _, Or.inl rfl, rfl⟩, hb⟩
        · have HF : Hid (numGo 10 bs 0 = numGo 10 (bs.drop (k + 1)) (a * 10 + ((c.toNat : Int) - 48))) := Lib.hid (by rw [HG1.out, numGo, HD.out, if_neg (by omega), if_neg hov])
          have iov : a * 10 + ((c.toNat : Int) - 48) ≤ 4294967295 := by omega
          clear hov
          go_wp2_with fail

          refine ⟨⟨k + 1, a * 10 + ((c.toNat : Int) - 48), rfl, (by first | rfl | (congr 1; omega)), (by first | rfl | (congr 1; omega)), by omega, by omega, iov, HF, trivial⟩, by simp [intOf]; omega⟩
      have HD : Hid (digitF c.toNat 10 = -1) := Lib.hid (by
        unfold digitF
        simp only [Bool.and_eq_true, decide_eq_true_eq]
        repeat' split
        all_goals omega)
      have HF : Hid (numGo 10 bs 0 = none) := Lib.hid (by rw [HG1.out, numGo, HD.out, if_pos (by omega)])
      have hl3 := hlow.2.2.1
      have hl4 : bits .or .u8 (c.toNat : Int) 32 < 97 ∨ (97 ≤ bits .or .u8 (c.toNat : Int) 32 ∧ bits .or .u8 (c.toNat : Int) 32 ≤ 122) ∨ 122 < bits .or .u8 (c.toNat : Int) 32 := by
        omega
      simp only at hl3
      have hdg : (c.toNat : Int) < 48 ∨ (57 : Int) < c.toNat := by omega
      clear hlow HG1 hA 
      generalize hlo : bits .or .u8 (c.toNat : Int) 32 = low at hl3 hl4
      have HL := Lib.hid hlo
      obtain ⟨hl5, hl6⟩ := hl3
      clear hlo
      by_cases e95 : (c.toNat : Int) = 95
      · rw [e95] at hc HL
        have e127 : low = 127 := by rw [← HL.out]; decide +kernel
        subst e127
        clear hl4 hdg e95 HL hl5 hl6
        go_wp2_with fail
        repeat (refine (lower_at 95 127 (by decide +kernel) _).mono ?_; rintro e w2 ⟨rfl, rfl⟩; dsimp only; go_wp2_with fail)
        go_ret2
        exact ⟨by rw [HP.out, HF.out]; exact ⟨_, _, Or.inr rfl, rfl⟩, hb⟩
      have h95 : ((c.toNat : Int) == 95) = false := by simpa using e95
      clear e95
      rcases hdg with hg | hg <;> rcases hl4 with hg2 | ⟨hg2, hg3⟩ | hg2
      all_goals
        go_wp2_with fail
        repeat (refine (lower_at _ _ HL.out _).mono ?_; rintro e w2 ⟨rfl, rfl⟩; dsimp only; go_wp2_with fail)
        go_ret2
        exact ⟨by rw [HP.out, HF.out]; exact ⟨_, _, Or.inr rfl, rfl⟩, hb⟩
    · have hkk : k = t.size := by omega
      subst hkk
      have HF : Hid (numGo 10 bs 0 = some a) := Lib.hid (by rw [HG.out, List.drop_eq_nil_of_le (by omega)]; rfl)
      go_wp2_with fail
      go_ret2
      exact ⟨by rw [HP.out, HF.out]; rfl, hb⟩
set_option maxHeartbeats 4000000 in
set_option maxRecDepth 100000 in
theorem pu16_in (t : ByteArray) (hne : t.size ≠ 0) (hmax : t.size ≤ 100000) (w : World) : Calls Tryd.prog 40 #[.string t, .int .i64 16, .int .i64 32] w fun e w' => PuRes (puF 16 t.data.toList) e ∧ Below w.heap.size w w' := by
  have hemp : t.toList.isEmpty = false := by rw [empty_iff]; simpa using hne
  have HP : Hid (puF 16 t.data.toList = numGo 16 t.data.toList 0) := Lib.hid (by
    unfold puF; rw [if_neg]; intro h; apply hne; have := congrArg List.length h; simpa using this)
  have hcv := Lib.run_convert_string_bytes (P := Tryd.prog) w 9 22 5 t (u := .string) Tryd.underlying9 Tryd.underlying22 Tryd.underlying5
  have hB : ∀ j, j < t.size → (Lib.bytesWorld w 5 t).cell? ⟨w.heap.size, j, none⟩ = some (.int .u8 (t.data.toList.getD j 0).toNat) := fun j hj => Lib.bytesWorld_cell w 5 t j hj
  have hb : Below w.heap.size w (Lib.bytesWorld w 5 t) := Lib.bytesWorld_below _ _ _
  obtain ⟨W1, hW1⟩ : ∃ W1, W1 = Lib.bytesWorld w 5 t := ⟨_, rfl⟩
  rw [← hW1] at hcv hB hb
  clear hW1
  obtain ⟨bs, hL⟩ : ∃ bs, bs = t.data.toList := ⟨_, rfl⟩
  have hLn : bs.length = t.size := by rw [hL, Lib.size_eq]
  rw [← hL] at hB HP ⊢
  clear hL
  have hmv : IntKind.u64.wrap (IntKind.u64.wrap 4294967296 - 1) = 4294967295 := by
    rw [IntKind.wrap_u64, IntKind.wrap_u64]
    decide
  go_enter Tryd.func40, Tryd.ntmps40
  go_wp2_with fail
  go_loopw [12, 13, 101] (fun vu vn vi wr => ∃ (k : Nat) (a : Int), vu = .bool false ∧ vn = .int .u64 a ∧ vi = .int .i64 k ∧ k ≤ t.size ∧ 0 ≤ a ∧ a ≤ 4294967295 ∧ Hid (numGo 16 bs 0 = numGo 16 (bs.drop k) a) ∧ wr = W1) (fun _ _ vi _ => t.size - (intOf vi).toNat)
  case atStart => exact ⟨0, 0, rfl, rfl, rfl, by omega, by omega, by omega, Lib.hid rfl, rfl⟩
  case round =>
    obtain ⟨k, a, rfl, rfl, rfl, hk, a0, a1, HG, rfl⟩ := hrel
    by_cases hkn : k < t.size
    · have hc := hB k hkn
      have hdrop : bs.drop k = bs[k]'(by omega) :: bs.drop (k + 1) := List.drop_eq_getElem_cons (by omega)
      have hget : bs.getD k 0 = bs[k]'(by omega) := by simp [List.getD, List.getElem?_eq_getElem (show k < bs.length by omega)]
      rw [hget] at hc
      have HG1 : Hid (numGo 16 bs 0 = numGo 16 (bs[k]'(by omega) :: bs.drop (k + 1)) a) := Lib.hid (by rw [HG.out, hdrop])
      generalize bs[k]'(by omega) = c at hc HG1
      have hc256 : c.toNat < 256 := c.toNat_lt
      have hlow := low_small ⟨c.toNat, hc256⟩
      clear hB hdrop hget HG
      by_cases hA : 48 ≤ c.toNat ∧ c.toNat ≤ 57
      · obtain ⟨hd0, hd1⟩ := hA
        have hd2 : (48 : Int) ≤ c.toNat := by omega
        have hd3 : (c.toNat : Int) ≤ 57 := by omega
        have HD : Hid (digitF c.toNat 16 = ((c.toNat : Int) - 48)) := Lib.hid (by
          unfold digitF
          simp only [Bool.and_eq_true, decide_eq_true_eq]
          repeat' split
          all_goals omega)
        
        clear hlow 
        by_cases hov : 4294967295 < a * 16 + ((c.toNat : Int) - 48)
        · have HF : Hid (numGo 16 bs 0 = none) := Lib.hid (by rw [HG1.out, numGo, HD.out, if_neg (by omega), if_pos hov])
          go_wp2_with fail

          go_ret2
          exact ⟨by rw [HP.out, HF.out]; exact ⟨_, _, Or.inl rfl, rfl⟩, hb⟩
        · have HF : Hid (numGo 16 bs 0 = numGo 16 (bs.drop (k + 1)) (a * 16 + ((c.toNat : Int) - 48))) := Lib.hid (by rw [HG1.out, numGo, HD.out, if_neg (by omega), if_neg hov])
          have iov : a * 16 + ((c.toNat : Int) - 48) ≤ 4294967295 := by omega
          clear hov
          go_wp2_with fail

          refine ⟨⟨k + 1, a * 16 + ((c.toNat : Int) - 48), rfl, (by first | rfl | (congr 1; omega)), (by first | rfl | (congr 1; omega)), by omega, by omega, iov, HF, trivial⟩, by simp [intOf]; omega⟩
      by_cases hB : 97 ≤ c.toNat ∧ c.toNat ≤ 102
      · obtain ⟨hd0, hd1⟩ := hB
        have hd2 : (97 : Int) ≤ c.toNat := by omega
        have hd3 : (c.toNat : Int) ≤ 102 := by omega
        have hl2 := hlow.1 (by show 97 ≤ c.toNat ∧ c.toNat ≤ 122; omega)
        simp only at hl2
        have HD : Hid (digitF c.toNat 16 = ((c.toNat : Int) - 97 + 10)) := Lib.hid (by
          unfold digitF
          simp only [Bool.and_eq_true, decide_eq_true_eq]
          repeat' split
          all_goals omega)
        have HL := Lib.hid hl2
        clear hlow hl2
        by_cases hov : 4294967295 < a * 16 + ((c.toNat : Int) - 97 + 10)
        · have HF : Hid (numGo 16 bs 0 = none) := Lib.hid (by rw [HG1.out, numGo, HD.out, if_neg (by omega), if_pos hov])
          go_wp2_with fail
          repeat (refine (lower_at _ _ HL.out _).mono ?_; rintro e w2 ⟨rfl, rfl⟩; dsimp only; go_wp2_with fail)
          go_ret2
          exact ⟨by rw [HP.out, HF.out]; exact ⟨_, _, Or.inl rfl, rfl⟩, hb⟩
        · have HF : Hid (numGo 16 bs 0 = numGo 16 (bs.drop (k + 1)) (a * 16 + ((c.toNat : Int) - 97 + 10))) := Lib.hid (by rw [HG1.out, numGo, HD.out, if_neg (by omega), if_neg hov])
          have iov : a * 16 + ((c.toNat : Int) - 97 + 10) ≤ 4294967295 := by omega
          clear hov
          go_wp2_with fail
          repeat (refine (lower_at _ _ HL.out _).mono ?_; rintro e w2 ⟨rfl, rfl⟩; dsimp only; go_wp2_with fail)
          refine ⟨⟨k + 1, a * 16 + ((c.toNat : Int) - 97 + 10), rfl, (by first | rfl | (congr 1; omega)), (by first | rfl | (congr 1; omega)), by omega, by omega, iov, HF, trivial⟩, by simp [intOf]; omega⟩
      by_cases hC : 65 ≤ c.toNat ∧ c.toNat ≤ 70
      · obtain ⟨hd0, hd1⟩ := hC
        have hd2 : (65 : Int) ≤ c.toNat := by omega
        have hd3 : (c.toNat : Int) ≤ 70 := by omega
        have hl2 := hlow.2.1 (by show 65 ≤ c.toNat ∧ c.toNat ≤ 90; omega)
        simp only at hl2
        have HD : Hid (digitF c.toNat 16 = ((c.toNat : Int) + 32 - 97 + 10)) := Lib.hid (by
          unfold digitF
          simp only [Bool.and_eq_true, decide_eq_true_eq]
          repeat' split
          all_goals omega)
        have HL := Lib.hid hl2
        clear hlow hl2
        by_cases hov : 4294967295 < a * 16 + ((c.toNat : Int) + 32 - 97 + 10)
        · have HF : Hid (numGo 16 bs 0 = none) := Lib.hid (by rw [HG1.out, numGo, HD.out, if_neg (by omega), if_pos hov])
          go_wp2_with fail
          repeat (refine (lower_at _ _ HL.out _).mono ?_; rintro e w2 ⟨rfl, rfl⟩; dsimp only; go_wp2_with fail)
          go_ret2
          exact ⟨by rw [HP.out, HF.out]; exact ⟨_, _, Or.inl rfl, rfl⟩, hb⟩
        · have HF : Hid (numGo 16 bs 0 = numGo 16 (bs.drop (k + 1)) (a * 16 + ((c.toNat : Int) + 32 - 97 + 10))) := Lib.hid (by rw [HG1.out, numGo, HD.out, if_neg (by omega), if_neg hov])
          have iov : a * 16 + ((c.toNat : Int) + 32 - 97 + 10) ≤ 4294967295 := by omega
          clear hov
          go_wp2_with fail
          repeat (refine (lower_at _ _ HL.out _).mono ?_; rintro e w2 ⟨rfl, rfl⟩; dsimp only; go_wp2_with fail)
          refine ⟨⟨k + 1, a * 16 + ((c.toNat : Int) + 32 - 97 + 10), rfl, (by first | rfl | (congr 1; omega)), (by first | rfl | (congr 1; omega)), by omega, by omega, iov, HF, trivial⟩, by simp [intOf]; omega⟩
      have HD : Hid (digitF c.toNat 16 = -1) := Lib.hid (by
        unfold digitF
        simp only [Bool.and_eq_true, decide_eq_true_eq]
        repeat' split
        all_goals omega)
      have HF : Hid (numGo 16 bs 0 = none) := Lib.hid (by rw [HG1.out, numGo, HD.out, if_pos (by omega)])
      have hl3 := hlow.2.2.1
      have hl4 : bits .or .u8 (c.toNat : Int) 32 < 97 ∨ (103 ≤ bits .or .u8 (c.toNat : Int) 32 ∧ bits .or .u8 (c.toNat : Int) 32 ≤ 122) ∨ 122 < bits .or .u8 (c.toNat : Int) 32 := by
        have := hlow.2.2.2 hB hC; simp only at this; omega
      simp only at hl3
      have hdg : (c.toNat : Int) < 48 ∨ (57 : Int) < c.toNat := by omega
      clear hlow HG1 hA hB hC
      generalize hlo : bits .or .u8 (c.toNat : Int) 32 = low at hl3 hl4
      have HL := Lib.hid hlo
      obtain ⟨hl5, hl6⟩ := hl3
      clear hlo
      by_cases e95 : (c.toNat : Int) = 95
      · rw [e95] at hc HL
        have e127 : low = 127 := by rw [← HL.out]; decide +kernel
        subst e127
        clear hl4 hdg e95 HL hl5 hl6
        go_wp2_with fail
        repeat (refine (lower_at 95 127 (by decide +kernel) _).mono ?_; rintro e w2 ⟨rfl, rfl⟩; dsimp only; go_wp2_with fail)
        go_ret2
        exact ⟨by rw [HP.out, HF.out]; exact ⟨_, _, Or.inr rfl, rfl⟩, hb⟩
      have h95 : ((c.toNat : Int) == 95) = false := by simpa using e95
      clear e95
      rcases hdg with hg | hg <;> rcases hl4 with hg2 | ⟨hg2, hg3⟩ | hg2
      all_goals
        go_wp2_with fail
        repeat (refine (lower_at _ _ HL.out _).mono ?_; rintro e w2 ⟨rfl, rfl⟩; dsimp only; go_wp2_with fail)
        go_ret2
        exact ⟨by rw [HP.out, HF.out]; exact ⟨_, _, Or.inr rfl, rfl⟩, hb⟩
    · have hkk : k = t.size := by omega
      subst hkk
      have HF : Hid (numGo 16 bs 0 = some a) := Lib.hid (by rw [HG.out, List.drop_eq_nil_of_le (by omega)]; rfl)
      go_wp2_with fail
      go_ret2
      exact ⟨by rw [HP.out, HF.out]; rfl, hb⟩
end Go.Proofs.YtnicmfboomibjaaDoor
