/- What Number of the reference of layer 15 answers. The text is short. -/
import Derived.Test.YtnicmfboomibjaaDoorK1
namespace Go.Proofs.YtnicmfboomibjaaDoor
set_option linter.unusedSimpArgs false
set_option linter.unusedVariables false
open Go.RowKit
def numGo (base : Int) : List UInt8 → Int → Option Int
  | [], x => some x
  | c :: l, x => if digitF c.toNat base < 0 then none else if 4294967295 < x * base + digitF c.toNat base then none else numGo base l (x * base + digitF c.toNat base)
theorem digitF_bd (c base : Int) (hb : 0 < base) : -1 ≤ digitF c base ∧ digitF c base < base := by
  unfold digitF
  simp only [Bool.and_eq_true, decide_eq_true_eq]
  repeat' split
  all_goals omega
theorem drop_byte (u : ByteArray) (k : Nat) (hk : k < u.size) : u.data.toList.drop k = u[k] :: u.data.toList.drop (k + 1) := by
  rw [List.drop_eq_getElem_cons (by simpa using hk)]
  rfl
def tailF (u : ByteArray) (least most : Int) : Option Int → Int × Bool
  | none => (0, false)
  | some x => if u.size == 0 || decide (least < 0) || decide (most < 0) || decide (x < least) || decide (most < x) then (0, false) else (x, true)
def rnumberF (s : ByteArray) (least most : Int) : Int × Bool :=
  if decide (2 ≤ (s.size : Int)) && ((s.extract 0 2).toList == [48, 120]) then tailF (s.extract 2 s.size) least most (numGo 16 (s.extract 2 s.size).data.toList 0) else tailF s least most (numGo 10 s.data.toList 0)
theorem nil_iff (u : ByteArray) : u.toList = [] ↔ u.size = 0 := by
  rw [ByteArray.toList_eq]
  constructor
  · intro h; have := congrArg List.length h; simpa using this
  · intro h; apply List.eq_nil_of_length_eq_zero; simpa using h
set_option maxRecDepth 100000 in
set_option maxHeartbeats 1500000 in
theorem rNumber_a (s : ByteArray) (least most : Int) (w : World) (hs : s.size ≤ 1000) (g1 : decide (2 ≤ (s.size : Int)) = false) : Calls Tryd.prog 17 #[.string s, .int .i64 least, .int .i64 most] w fun e w' => e = .returned (.tuple #[.int .i64 (rnumberF s least most).1, .bool (rnumberF s least most).2]) ∧ Below w.heap.size w w' := by
  have HF : Hid (rnumberF s least most = tailF s least most (numGo 10 s.data.toList 0)) := Lib.hid (by unfold rnumberF; rw [g1]; rfl)
  go_enter Tryd.func17, Tryd.ntmps17
  go_wp2_with fail
  have HE : Hid (s.toList = [] ↔ s.size = 0) := Lib.hid (nil_iff s)
  go_loopw [9, 10] (fun xv iv wr => ∃ (k : Nat) (x : Int), k ≤ s.size ∧ iv = .int .i64 k ∧ xv = .int .i64 x ∧ 0 ≤ x ∧ x ≤ 4294967295 ∧ numGo 10 s.data.toList 0 = numGo 10 (s.data.toList.drop k) x ∧ wr = w) (fun _ iv _ => s.size - (intOf iv).toNat)
  case atStart => exact ⟨0, 0, by omega, rfl, rfl, by omega, by omega, rfl, rfl⟩
  case round =>
    obtain ⟨k, x, hk, rfl, rfl, hx0, hx1, hg, rfl⟩ := hrel
    by_cases hlt : k < s.size
    · have hi0 : (0 : Int) ≤ k := by omega
      have hi1 : (k : Int) < s.size := by omega
      go_wp2_with fail
      have hdb := drop_byte s k hlt
      have hbd := digitF_bd (s[k].toNat : Int) 10 (by decide)
      refine (digit_any _ 10 (by omega) (by have := s[k].toNat_lt; omega) wr).mono ?_
      rintro e w' ⟨rfl, rfl⟩
      dsimp only
      generalize hd : digitF (s[k].toNat : Int) 10 = d at hbd
      have HD := Lib.hid hd
      have HG := Lib.hid hg
      have HDB := Lib.hid hdb
      obtain ⟨hd0, hd1⟩ := hbd
      clear hd hg hdb
      cases q1 : decide (d < 0)
      · cases q2 : decide (4294967295 < x * 10 + d)
        · go_wp2_with fail
          refine ⟨⟨k + 1, x * 10 + d, by omega, by go_num, rfl, by simp at q1; omega, by simp at q2; omega, ?_, trivial⟩, by simp [intOf]; omega⟩
          rw [HG.out, HDB.out, numGo, HD.out, if_neg (by simpa using q1), if_neg (by simpa using q2)]
        · go_wp2_with fail
          refine bodyPost_ret (v := .tuple #[.int .i64 0, .bool false]) ?_ rfl ⟨?_, Below.refl _ _⟩
          · simp only [results, Tryd.results17]
            go_simp
          rw [HF.out, HG.out, HDB.out, numGo, HD.out, if_neg (by simpa using q1), if_pos (by simpa using q2)]
          rfl
      · go_wp2_with fail
        refine bodyPost_ret (v := .tuple #[.int .i64 0, .bool false]) ?_ rfl ⟨?_, Below.refl _ _⟩
        · simp only [results, Tryd.results17]
          go_simp
        rw [HF.out, HG.out, HDB.out, numGo, HD.out, if_pos (by simpa using q1)]
        rfl
    · obtain rfl : k = s.size := by omega
      have hg2 : numGo 10 s.data.toList 0 = some x := by
        rw [hg, List.drop_eq_nil_of_le (by show s.data.toList.length ≤ s.data.size; simp)]; rfl
      have HG2 := Lib.hid hg2
      clear hg hg2
      cases q1 : (s.size == 0)
      · have hE : s.toList.isEmpty = false := Bool.eq_false_iff.2 (fun h => by rw [HE.out.1 (List.isEmpty_iff.1 h)] at q1; exact absurd q1 (by decide))
        cases q2 : decide (least < 0) <;> cases q3 : decide (most < 0) <;> cases q4 : decide (x < least) <;> cases q5 : decide (most < x)
        all_goals
          go_wp2_with fail
          all_goals first
          | (refine bodyPost_ret (v := .tuple #[.int .i64 0, .bool false]) ?_ rfl ⟨?_, Below.refl _ _⟩
             · simp only [results, Tryd.results17]; go_simp
             · rw [HF.out, HG2.out]; simp only [tailF, q1, q2, q3, q4, q5]; rfl)
          | (refine bodyPost_ret (v := .tuple #[.int .i64 x, .bool true]) ?_ rfl ⟨?_, Below.refl _ _⟩
             · simp only [results, Tryd.results17]; go_simp
             · rw [HF.out, HG2.out]; simp only [tailF, q1, q2, q3, q4, q5]; rfl)
      · have hE : s.toList = [] := HE.out.2 (by simpa using q1)
        go_wp2_with fail
        refine bodyPost_ret (v := .tuple #[.int .i64 0, .bool false]) ?_ rfl ⟨?_, Below.refl _ _⟩
        · simp only [results, Tryd.results17]; go_simp
        · rw [HF.out, HG2.out]; simp only [tailF, q1]; rfl
set_option maxRecDepth 100000 in
set_option maxHeartbeats 1500000 in
theorem rNumber_b (s : ByteArray) (least most : Int) (w : World) (hs : s.size ≤ 1000) (g1 : decide (2 ≤ (s.size : Int)) = true) (g2 : ((s.extract 0 2).toList == [48, 120]) = false) : Calls Tryd.prog 17 #[.string s, .int .i64 least, .int .i64 most] w fun e w' => e = .returned (.tuple #[.int .i64 (rnumberF s least most).1, .bool (rnumberF s least most).2]) ∧ Below w.heap.size w w' := by
  have HF : Hid (rnumberF s least most = tailF s least most (numGo 10 s.data.toList 0)) := Lib.hid (by unfold rnumberF; rw [g1, g2]; rfl)
  have g3 : 2 ≤ s.size := by simp at g1; omega
  go_enter Tryd.func17, Tryd.ntmps17
  go_wp2_with fail
  have HE : Hid (s.toList = [] ↔ s.size = 0) := Lib.hid (nil_iff s)
  go_loopw [9, 10] (fun xv iv wr => ∃ (k : Nat) (x : Int), k ≤ s.size ∧ iv = .int .i64 k ∧ xv = .int .i64 x ∧ 0 ≤ x ∧ x ≤ 4294967295 ∧ numGo 10 s.data.toList 0 = numGo 10 (s.data.toList.drop k) x ∧ wr = w) (fun _ iv _ => s.size - (intOf iv).toNat)
  case atStart => exact ⟨0, 0, by omega, rfl, rfl, by omega, by omega, rfl, rfl⟩
  case round =>
    obtain ⟨k, x, hk, rfl, rfl, hx0, hx1, hg, rfl⟩ := hrel
    by_cases hlt : k < s.size
    · have hi0 : (0 : Int) ≤ k := by omega
      have hi1 : (k : Int) < s.size := by omega
      go_wp2_with fail
      have hdb := drop_byte s k hlt
      have hbd := digitF_bd (s[k].toNat : Int) 10 (by decide)
      refine (digit_any _ 10 (by omega) (by have := s[k].toNat_lt; omega) wr).mono ?_
      rintro e w' ⟨rfl, rfl⟩
      dsimp only
      generalize hd : digitF (s[k].toNat : Int) 10 = d at hbd
      have HD := Lib.hid hd
      have HG := Lib.hid hg
      have HDB := Lib.hid hdb
      obtain ⟨hd0, hd1⟩ := hbd
      clear hd hg hdb
      cases q1 : decide (d < 0)
      · cases q2 : decide (4294967295 < x * 10 + d)
        · go_wp2_with fail
          refine ⟨⟨k + 1, x * 10 + d, by omega, by go_num, rfl, by simp at q1; omega, by simp at q2; omega, ?_, trivial⟩, by simp [intOf]; omega⟩
          rw [HG.out, HDB.out, numGo, HD.out, if_neg (by simpa using q1), if_neg (by simpa using q2)]
        · go_wp2_with fail
          refine bodyPost_ret (v := .tuple #[.int .i64 0, .bool false]) ?_ rfl ⟨?_, Below.refl _ _⟩
          · simp only [results, Tryd.results17]
            go_simp
          rw [HF.out, HG.out, HDB.out, numGo, HD.out, if_neg (by simpa using q1), if_pos (by simpa using q2)]
          rfl
      · go_wp2_with fail
        refine bodyPost_ret (v := .tuple #[.int .i64 0, .bool false]) ?_ rfl ⟨?_, Below.refl _ _⟩
        · simp only [results, Tryd.results17]
          go_simp
        rw [HF.out, HG.out, HDB.out, numGo, HD.out, if_pos (by simpa using q1)]
        rfl
    · obtain rfl : k = s.size := by omega
      have hg2 : numGo 10 s.data.toList 0 = some x := by
        rw [hg, List.drop_eq_nil_of_le (by show s.data.toList.length ≤ s.data.size; simp)]; rfl
      have HG2 := Lib.hid hg2
      clear hg hg2
      cases q1 : (s.size == 0)
      · have hE : s.toList.isEmpty = false := Bool.eq_false_iff.2 (fun h => by rw [HE.out.1 (List.isEmpty_iff.1 h)] at q1; exact absurd q1 (by decide))
        cases q2 : decide (least < 0) <;> cases q3 : decide (most < 0) <;> cases q4 : decide (x < least) <;> cases q5 : decide (most < x)
        all_goals
          go_wp2_with fail
          all_goals first
          | (refine bodyPost_ret (v := .tuple #[.int .i64 0, .bool false]) ?_ rfl ⟨?_, Below.refl _ _⟩
             · simp only [results, Tryd.results17]; go_simp
             · rw [HF.out, HG2.out]; simp only [tailF, q1, q2, q3, q4, q5]; rfl)
          | (refine bodyPost_ret (v := .tuple #[.int .i64 x, .bool true]) ?_ rfl ⟨?_, Below.refl _ _⟩
             · simp only [results, Tryd.results17]; go_simp
             · rw [HF.out, HG2.out]; simp only [tailF, q1, q2, q3, q4, q5]; rfl)
      · have hE : s.toList = [] := HE.out.2 (by simpa using q1)
        go_wp2_with fail
        refine bodyPost_ret (v := .tuple #[.int .i64 0, .bool false]) ?_ rfl ⟨?_, Below.refl _ _⟩
        · simp only [results, Tryd.results17]; go_simp
        · rw [HF.out, HG2.out]; simp only [tailF, q1]; rfl
set_option maxRecDepth 100000 in
set_option maxHeartbeats 1500000 in
theorem rNumber_c (s : ByteArray) (least most : Int) (w : World) (hs : s.size ≤ 1000) (g1 : decide (2 ≤ (s.size : Int)) = true) (g2 : ((s.extract 0 2).toList == [48, 120]) = true) : Calls Tryd.prog 17 #[.string s, .int .i64 least, .int .i64 most] w fun e w' => e = .returned (.tuple #[.int .i64 (rnumberF s least most).1, .bool (rnumberF s least most).2]) ∧ Below w.heap.size w w' := by
  have HF : Hid (rnumberF s least most = tailF (s.extract 2 s.size) least most (numGo 16 (s.extract 2 s.size).data.toList 0)) := Lib.hid (by unfold rnumberF; rw [g1, g2]; rfl)
  have g3 : 2 ≤ s.size := by simp at g1; omega
  go_enter Tryd.func17, Tryd.ntmps17
  go_wp2_with fail
  generalize hu : s.extract 2 s.size = u at HF ⊢
  have hus : u.size ≤ 1000 := by rw [← hu]; simp; omega
  clear hu
  have HE : Hid (u.toList = [] ↔ u.size = 0) := Lib.hid (nil_iff u)
  go_loopw [9, 10] (fun xv iv wr => ∃ (k : Nat) (x : Int), k ≤ u.size ∧ iv = .int .i64 k ∧ xv = .int .i64 x ∧ 0 ≤ x ∧ x ≤ 4294967295 ∧ numGo 16 u.data.toList 0 = numGo 16 (u.data.toList.drop k) x ∧ wr = w) (fun _ iv _ => u.size - (intOf iv).toNat)
  case atStart => exact ⟨0, 0, by omega, rfl, rfl, by omega, by omega, rfl, rfl⟩
  case round =>
    obtain ⟨k, x, hk, rfl, rfl, hx0, hx1, hg, rfl⟩ := hrel
    by_cases hlt : k < u.size
    · have hi0 : (0 : Int) ≤ k := by omega
      have hi1 : (k : Int) < u.size := by omega
      go_wp2_with fail
      have hdb := drop_byte u k hlt
      have hbd := digitF_bd (u[k].toNat : Int) 16 (by decide)
      refine (digit_any _ 16 (by omega) (by have := u[k].toNat_lt; omega) wr).mono ?_
      rintro e w' ⟨rfl, rfl⟩
      dsimp only
      generalize hd : digitF (u[k].toNat : Int) 16 = d at hbd
      have HD := Lib.hid hd
      have HG := Lib.hid hg
      have HDB := Lib.hid hdb
      obtain ⟨hd0, hd1⟩ := hbd
      clear hd hg hdb
      cases q1 : decide (d < 0)
      · cases q2 : decide (4294967295 < x * 16 + d)
        · go_wp2_with fail
          refine ⟨⟨k + 1, x * 16 + d, by omega, by go_num, rfl, by simp at q1; omega, by simp at q2; omega, ?_, trivial⟩, by simp [intOf]; omega⟩
          rw [HG.out, HDB.out, numGo, HD.out, if_neg (by simpa using q1), if_neg (by simpa using q2)]
        · go_wp2_with fail
          refine bodyPost_ret (v := .tuple #[.int .i64 0, .bool false]) ?_ rfl ⟨?_, Below.refl _ _⟩
          · simp only [results, Tryd.results17]
            go_simp
          rw [HF.out, HG.out, HDB.out, numGo, HD.out, if_neg (by simpa using q1), if_pos (by simpa using q2)]
          rfl
      · go_wp2_with fail
        refine bodyPost_ret (v := .tuple #[.int .i64 0, .bool false]) ?_ rfl ⟨?_, Below.refl _ _⟩
        · simp only [results, Tryd.results17]
          go_simp
        rw [HF.out, HG.out, HDB.out, numGo, HD.out, if_pos (by simpa using q1)]
        rfl
    · obtain rfl : k = u.size := by omega
      have hg2 : numGo 16 u.data.toList 0 = some x := by
        rw [hg, List.drop_eq_nil_of_le (by show u.data.toList.length ≤ u.data.size; simp)]; rfl
      have HG2 := Lib.hid hg2
      clear hg hg2
      cases q1 : (u.size == 0)
      · have hE : u.toList.isEmpty = false := Bool.eq_false_iff.2 (fun h => by rw [HE.out.1 (List.isEmpty_iff.1 h)] at q1; exact absurd q1 (by decide))
        cases q2 : decide (least < 0) <;> cases q3 : decide (most < 0) <;> cases q4 : decide (x < least) <;> cases q5 : decide (most < x)
        all_goals
          go_wp2_with fail
          all_goals first
          | (refine bodyPost_ret (v := .tuple #[.int .i64 0, .bool false]) ?_ rfl ⟨?_, Below.refl _ _⟩
             · simp only [results, Tryd.results17]; go_simp
             · rw [HF.out, HG2.out]; simp only [tailF, q1, q2, q3, q4, q5]; rfl)
          | (refine bodyPost_ret (v := .tuple #[.int .i64 x, .bool true]) ?_ rfl ⟨?_, Below.refl _ _⟩
             · simp only [results, Tryd.results17]; go_simp
             · rw [HF.out, HG2.out]; simp only [tailF, q1, q2, q3, q4, q5]; rfl)
      · have hE : u.toList = [] := HE.out.2 (by simpa using q1)
        go_wp2_with fail
        refine bodyPost_ret (v := .tuple #[.int .i64 0, .bool false]) ?_ rfl ⟨?_, Below.refl _ _⟩
        · simp only [results, Tryd.results17]; go_simp
        · rw [HF.out, HG2.out]; simp only [tailF, q1]; rfl
theorem rNumber_any (s : ByteArray) (least most : Int) (w : World) (hs : s.size ≤ 1000) : Calls Tryd.prog 17 #[.string s, .int .i64 least, .int .i64 most] w fun e w' => e = .returned (.tuple #[.int .i64 (rnumberF s least most).1, .bool (rnumberF s least most).2]) ∧ Below w.heap.size w w' := by
  cases g1 : decide (2 ≤ (s.size : Int))
  · exact rNumber_a s least most w hs g1
  cases g2 : ((s.extract 0 2).toList == [48, 120])
  · exact rNumber_b s least most w hs g1 g2
  · exact rNumber_c s least most w hs g1 g2
end Go.Proofs.YtnicmfboomibjaaDoor
