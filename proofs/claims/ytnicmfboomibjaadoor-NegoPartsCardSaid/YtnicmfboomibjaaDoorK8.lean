/- What Choose of the reference answers. The strings are short, and lie in memory, a cell each. -/
import Derived.Test.YtnicmfboomibjaaDoorK7
import Derived.Lib.CutLaws
namespace Go.Proofs.YtnicmfboomibjaaDoor
set_option linter.unusedSimpArgs false
set_option linter.unusedVariables false
open Go.RowKit
def bstr (l : List UInt8) : ByteArray := ⟨l.toArray⟩
theorem bstr_toList (l : List UInt8) : (bstr l).toList = l := by rw [ByteArray.toList_eq]; rfl
theorem bstr_data (v : ByteArray) : bstr v.data.toList = v := rfl
def chGo (os : List ByteArray) : List UInt8 → List UInt8 → Option (List UInt8)
  | cur, [] => if amongF os (bstr cur) then some cur else none
  | cur, b :: r => if b = 44 then (if amongF os (bstr cur) then some cur else chGo os [] r) else chGo os (cur ++ [b]) r
def chRes : Option (List UInt8) → Ending
  | some l => .returned (.tuple #[.string (bstr l), .bool true])
  | none => .returned (.tuple #[.string ⟨#[]⟩, .bool false])
set_option maxRecDepth 100000 in
set_option maxHeartbeats 2000000 in
theorem rChoose_any (s : ByteArray) (a : Option Addr) (os : List ByteArray) (c : Nat) (w : World) (hs : s.size ≤ 100000) (hl : os.length ≤ 1000000) (ho : StrsIn w a os) :
    Calls Tryd.prog 19 #[.string s, .slice a os.length c] w fun e w' => e = chRes (chGo os [] s.data.toList) ∧ w' = w := by
  have HO := Lib.hid ho
  clear ho
  go_enter Tryd.func19, Tryd.ntmps19
  go_wp2_with fail
  go_loopw [6, 7] (fun ov iv wr => ∃ (k : Nat) (cur : List UInt8), ov = .string (bstr cur) ∧ iv = .int .i64 k ∧ k ≤ s.size + 1 ∧ cur.length ≤ k ∧ Hid (chGo os [] s.data.toList = if k ≤ s.size then chGo os cur (s.data.toList.drop k) else none) ∧ wr = w) (fun _ iv _ => s.size + 2 - (intOf iv).toNat)
  case atStart => exact ⟨0, [], rfl, rfl, by omega, by simp, Lib.hid (by simp), rfl⟩
  case round =>
    obtain ⟨k, cur, rfl, rfl, hk, hcl, HG, rfl⟩ := hrel
    by_cases hlt : k < s.size
    · have hi0 : (0 : Int) ≤ k := by omega
      have hi1 : (k : Int) < s.size := by omega
      have hi2 : (k : Int) ≤ s.size := by omega
      have hi3 : (k : Int) + 1 ≤ s.size := by omega
      have hsz : ¬ (9223372036854775807 < (bstr cur).size + (min (k + 1) s.size - k)) := by
        have : (bstr cur).size = cur.length := rfl
        omega
      have hdr : s.data.toList.drop k = s[k] :: s.data.toList.drop (k + 1) := by
        rw [List.drop_eq_getElem_cons (by simpa using hlt)]; rfl
      cases q : ((s[k].toNat : Int) != 44)
      · have h44 : s[k] = 44 := by
          have : s[k].toNat = 44 := by simp at q; omega
          exact UInt8.toNat_inj.1 this
        have HN : Hid (chGo os [] s.data.toList = if amongF os (bstr cur) then some cur else chGo os [] (s.data.toList.drop (k + 1))) := Lib.hid (by rw [HG.out, if_pos (by omega), hdr, chGo, if_pos h44])
        clear hdr HG h44
        go_wp2_with fail
        obtain ⟨wo, rfl⟩ : ∃ wo : World, wo = wr := ⟨_, rfl⟩
        go_loopw [8] (fun jv wr => ∃ j : Nat, jv = .int .i64 j ∧ j ≤ os.length ∧ Hid ((os.take j).any (fun y => y.toList == (bstr cur).toList) = false) ∧ wr = wo) (fun jv _ => os.length - (intOf jv).toNat)
        case atStart => exact ⟨0, rfl, by omega, Lib.hid rfl, rfl⟩
        case round =>
          obtain ⟨j, rfl, hj, HA, rfl⟩ := hrel
          by_cases hlt2 : j < os.length
          · obtain ⟨b, off, rfl, hbs, hc⟩ := HO.out j hlt2
            have HS := Lib.hid (any_take_succ os (fun y => y.toList == (bstr cur).toList) j hlt2)
            have hmem : os[j] ∈ os := List.getElem_mem _
            have hj0 : (0 : Int) ≤ j := by omega
            have hj1 : (j : Int) < os.length := by omega
            generalize os[j] = y at hc HS hmem
            have HF : Hid ((y.toList == (bstr cur).toList) = true → amongF os (bstr cur) = true) := Lib.hid (fun h => List.any_eq_true.2 ⟨y, hmem, by rw [BEq.comm]; exact h⟩)
            clear hmem
            cases q2 : (y.toList == (bstr cur).toList)
            · go_wp2_with fail
              refine ⟨⟨j + 1, by go_num, by omega, Lib.hid (by rw [HS.out, HA.out, q2]; rfl), trivial⟩, by simp [intOf]; omega⟩
            · go_wp2_with fail
              go_ret2
              exact ⟨by rw [HN.out, if_pos (HF.out q2)]; rfl, rfl⟩
          · obtain rfl : j = os.length := by omega
            rw [List.take_length] at HA
            have HM : Hid (amongF os (bstr cur) = false) := Lib.hid (by
              rw [← HA.out]; unfold amongF; congr 1; funext y; exact BEq.comm)
            go_wp2_with fail
            refine ⟨⟨k + 1, [], rfl, by go_num, by omega, by simp, Lib.hid (by rw [HN.out, HM.out, if_neg (by simp)]; rw [if_pos (by omega)]), trivial⟩, by simp [intOf]; omega⟩
      · have h44 : ¬ s[k] = 44 := fun e => by rw [e] at q; exact absurd q (by decide)
        have hex : bstr cur ++ s.extract k (k + 1) = bstr (cur ++ [s[k]]) := by
          apply ByteArray.ext
          apply Array.toList_inj.1
          rw [ByteArray.data_append, Array.toList_append, Lib.extract_data, hdr, show k + 1 - k = 1 by omega]
          rfl
        have HN : Hid (chGo os [] s.data.toList = chGo os (cur ++ [s[k]]) (s.data.toList.drop (k + 1))) := Lib.hid (by rw [HG.out, if_pos (by omega), hdr, chGo, if_neg h44])
        have HX := Lib.hid hex
        clear hdr hex
        go_wp2_with fail
        refine ⟨⟨k + 1, cur ++ [s[k]], by rw [HX.out], by go_num, by omega, by simp; omega, Lib.hid (by rw [HN.out, if_pos (by omega)]), trivial⟩, by simp [intOf]; omega⟩
    · by_cases hk2 : k = s.size
      · subst hk2
        have hi0 : (0 : Int) ≤ s.size := by omega
        have hi1 : decide ((s.size : Int) < s.size) = false := by simp
        have HN : Hid (chGo os [] s.data.toList = if amongF os (bstr cur) then some cur else none) := Lib.hid (by
          rw [HG.out, if_pos (by omega), List.drop_eq_nil_of_le (by show s.data.toList.length ≤ s.data.size; simp), chGo])
        clear HG
        go_wp2_with fail
        obtain ⟨wo, rfl⟩ : ∃ wo : World, wo = wr := ⟨_, rfl⟩
        go_loopw [8] (fun jv wr => ∃ j : Nat, jv = .int .i64 j ∧ j ≤ os.length ∧ Hid ((os.take j).any (fun y => y.toList == (bstr cur).toList) = false) ∧ wr = wo) (fun jv _ => os.length - (intOf jv).toNat)
        case atStart => exact ⟨0, rfl, by omega, Lib.hid rfl, rfl⟩
        case round =>
          obtain ⟨j, rfl, hj, HA, rfl⟩ := hrel
          by_cases hlt2 : j < os.length
          · obtain ⟨b, off, rfl, hbs, hc⟩ := HO.out j hlt2
            have HS := Lib.hid (any_take_succ os (fun y => y.toList == (bstr cur).toList) j hlt2)
            have hmem : os[j] ∈ os := List.getElem_mem _
            have hj0 : (0 : Int) ≤ j := by omega
            have hj1 : (j : Int) < os.length := by omega
            generalize os[j] = y at hc HS hmem
            have HF : Hid ((y.toList == (bstr cur).toList) = true → amongF os (bstr cur) = true) := Lib.hid (fun h => List.any_eq_true.2 ⟨y, hmem, by rw [BEq.comm]; exact h⟩)
            clear hmem
            cases q2 : (y.toList == (bstr cur).toList)
            · go_wp2_with fail
              refine ⟨⟨j + 1, by go_num, by omega, Lib.hid (by rw [HS.out, HA.out, q2]; rfl), trivial⟩, by simp [intOf]; omega⟩
            · go_wp2_with fail
              go_ret2
              exact ⟨by rw [HN.out, if_pos (HF.out q2)]; rfl, rfl⟩
          · obtain rfl : j = os.length := by omega
            rw [List.take_length] at HA
            have HM : Hid (amongF os (bstr cur) = false) := Lib.hid (by
              rw [← HA.out]; unfold amongF; congr 1; funext y; exact BEq.comm)
            go_wp2_with fail
            refine ⟨⟨s.size + 1, [], rfl, by go_num, by omega, by simp, Lib.hid (by rw [HN.out, HM.out, if_neg (by simp), if_neg (by omega)]), trivial⟩, by simp [intOf]⟩
      · have HN : Hid (chGo os [] s.data.toList = none) := Lib.hid (by rw [HG.out, if_neg (by omega)])
        have hk3 : (s.size : Int) < k := by omega
        go_wp2_with fail
        go_ret2
        exact ⟨by rw [HN.out]; rfl, rfl⟩
end Go.Proofs.YtnicmfboomibjaaDoor
