/- What keys.Number answers: the reference's number, for every short string and all limits. The error variables hold errors. -/
import Derived.Test.YtnicmfboomibjaaDoorK4
import Derived.Lib.IndexAny
namespace Go.Proofs.YtnicmfboomibjaaDoor
set_option linter.unusedSimpArgs false
set_option linter.unusedVariables false
open Go.RowKit
def PuErr (e : Ending) : Prop := ∃ (v : Int) (N : Nat), e = .returned (.tuple #[.int .u64 v, .iface 84 (.pointer (some ⟨N, 0, none⟩))])
set_option maxHeartbeats 400000 in
set_option maxRecDepth 100000 in
theorem pu10_none (w : World) : Calls Tryd.prog 40 #[.string ⟨#[]⟩, .int .i64 10, .int .i64 32] w fun e w' => PuRes none e ∧ Below w.heap.size w w' := by
  go_enter Tryd.func40, Tryd.ntmps40
  go_wp2_with fail
  go_ret2
  exact ⟨⟨_, _, Or.inr rfl, rfl⟩, Below.refl _ _⟩
theorem pu10_all (t : ByteArray) (hmax : t.size ≤ 100000) (w : World) : Calls Tryd.prog 40 #[.string t, .int .i64 10, .int .i64 32] w fun e w' => PuRes (puF 10 t.data.toList) e ∧ Below w.heap.size w w' := by
  by_cases h : t.size = 0
  · have e1 : t.data.toList = [] := List.eq_nil_of_length_eq_zero (by simpa using h)
    have e2 : t = ⟨#[]⟩ := by apply ByteArray.ext; exact Array.toList_inj.1 e1
    have e3 : puF 10 t.data.toList = none := by rw [e1]; rfl
    rw [e3, e2]; exact pu10_none w
  · exact pu10_in t h hmax w
set_option maxHeartbeats 400000 in
set_option maxRecDepth 100000 in
theorem pu10_ok (t : ByteArray) (x : Int) (h : puF 10 t.data.toList = some x) (hmax : t.size ≤ 100000) (w : World) : Calls Tryd.prog 30 #[.string t, .int .i64 10, .int .i64 32] w fun e w' => e = .returned (.tuple #[.int .u64 x, .nilIface]) ∧ Below w.heap.size w w' := by
  have hI := pu10_all t hmax w
  rw [h] at hI
  have HI := Lib.hid hI
  clear hI h
  go_enter Tryd.func30, Tryd.ntmps30
  go_wp2_with fail
  refine HI.out.mono ?_
  rintro e w1 ⟨hr, hb⟩
  obtain rfl : e = .returned (.tuple #[.int .u64 x, .nilIface]) := hr
  go_wp2_with fail
  go_ret2
  exact ⟨rfl, hb⟩
set_option maxHeartbeats 400000 in
set_option maxRecDepth 100000 in
theorem pu10_err (t : ByteArray) (h : puF 10 t.data.toList = none) (hmax : t.size ≤ 100000) (w : World) (hE : Env w) : Calls Tryd.prog 30 #[.string t, .int .i64 10, .int .i64 32] w fun e w' => PuErr e ∧ Below w.heap.size w w' := by
  have hI := pu10_all t hmax w
  rw [h] at hI
  have HI := Lib.hid hI
  obtain ⟨_, ⟨t1, p1, h1⟩, ⟨t2, p2, h2⟩⟩ := hE
  have hz1 := Lib.lt_of_cell h1
  have hz2 := Lib.lt_of_cell h2
  have H1 := Lib.hid h1
  have H2 := Lib.hid h2
  clear hI h h1 h2
  go_enter Tryd.func30, Tryd.ntmps30
  go_wp2_with fail
  refine HI.out.mono ?_
  rintro e w1 ⟨hr, hb⟩
  obtain ⟨v, k, hk, rfl⟩ := hr
  rcases hk with rfl | rfl
  · go_wp2_with fail
    refine (Tryd.strconv_toError_range _ _ _ _ (.iface t2 p2) _ (by omega) (by exact (hb.cell (p := ⟨2, 0, none⟩) hz2).trans H2.out) (Or.inr ⟨_, _, rfl⟩)).mono ?_
    rintro e w2 ⟨N, rfl, _, _, hb2⟩
    go_wp2_with fail
    go_ret2
    exact ⟨⟨_, _, rfl⟩, hb.trans (hb2.mono hb.size)⟩
  · go_wp2_with fail
    refine (Tryd.strconv_toError_syntax _ _ _ _ (.iface t1 p1) _ (by omega) (by exact (hb.cell (p := ⟨1, 0, none⟩) hz1).trans H1.out) (Or.inr ⟨_, _, rfl⟩)).mono ?_
    rintro e w2 ⟨N, rfl, _, _, hb2⟩
    go_wp2_with fail
    go_ret2
    exact ⟨⟨_, _, rfl⟩, hb.trans (hb2.mono hb.size)⟩
set_option maxHeartbeats 400000 in
set_option maxRecDepth 100000 in
theorem pu16_none (w : World) : Calls Tryd.prog 40 #[.string ⟨#[]⟩, .int .i64 16, .int .i64 32] w fun e w' => PuRes none e ∧ Below w.heap.size w w' := by
  go_enter Tryd.func40, Tryd.ntmps40
  go_wp2_with fail
  go_ret2
  exact ⟨⟨_, _, Or.inr rfl, rfl⟩, Below.refl _ _⟩
theorem pu16_all (t : ByteArray) (hmax : t.size ≤ 100000) (w : World) : Calls Tryd.prog 40 #[.string t, .int .i64 16, .int .i64 32] w fun e w' => PuRes (puF 16 t.data.toList) e ∧ Below w.heap.size w w' := by
  by_cases h : t.size = 0
  · have e1 : t.data.toList = [] := List.eq_nil_of_length_eq_zero (by simpa using h)
    have e2 : t = ⟨#[]⟩ := by apply ByteArray.ext; exact Array.toList_inj.1 e1
    have e3 : puF 16 t.data.toList = none := by rw [e1]; rfl
    rw [e3, e2]; exact pu16_none w
  · exact pu16_in t h hmax w
set_option maxHeartbeats 400000 in
set_option maxRecDepth 100000 in
theorem pu16_ok (t : ByteArray) (x : Int) (h : puF 16 t.data.toList = some x) (hmax : t.size ≤ 100000) (w : World) : Calls Tryd.prog 30 #[.string t, .int .i64 16, .int .i64 32] w fun e w' => e = .returned (.tuple #[.int .u64 x, .nilIface]) ∧ Below w.heap.size w w' := by
  have hI := pu16_all t hmax w
  rw [h] at hI
  have HI := Lib.hid hI
  clear hI h
  go_enter Tryd.func30, Tryd.ntmps30
  go_wp2_with fail
  refine HI.out.mono ?_
  rintro e w1 ⟨hr, hb⟩
  obtain rfl : e = .returned (.tuple #[.int .u64 x, .nilIface]) := hr
  go_wp2_with fail
  go_ret2
  exact ⟨rfl, hb⟩
set_option maxHeartbeats 400000 in
set_option maxRecDepth 100000 in
theorem pu16_err (t : ByteArray) (h : puF 16 t.data.toList = none) (hmax : t.size ≤ 100000) (w : World) (hE : Env w) : Calls Tryd.prog 30 #[.string t, .int .i64 16, .int .i64 32] w fun e w' => PuErr e ∧ Below w.heap.size w w' := by
  have hI := pu16_all t hmax w
  rw [h] at hI
  have HI := Lib.hid hI
  obtain ⟨_, ⟨t1, p1, h1⟩, ⟨t2, p2, h2⟩⟩ := hE
  have hz1 := Lib.lt_of_cell h1
  have hz2 := Lib.lt_of_cell h2
  have H1 := Lib.hid h1
  have H2 := Lib.hid h2
  clear hI h h1 h2
  go_enter Tryd.func30, Tryd.ntmps30
  go_wp2_with fail
  refine HI.out.mono ?_
  rintro e w1 ⟨hr, hb⟩
  obtain ⟨v, k, hk, rfl⟩ := hr
  rcases hk with rfl | rfl
  · go_wp2_with fail
    refine (Tryd.strconv_toError_range _ _ _ _ (.iface t2 p2) _ (by omega) (by exact (hb.cell (p := ⟨2, 0, none⟩) hz2).trans H2.out) (Or.inr ⟨_, _, rfl⟩)).mono ?_
    rintro e w2 ⟨N, rfl, _, _, hb2⟩
    go_wp2_with fail
    go_ret2
    exact ⟨⟨_, _, rfl⟩, hb.trans (hb2.mono hb.size)⟩
  · go_wp2_with fail
    refine (Tryd.strconv_toError_syntax _ _ _ _ (.iface t1 p1) _ (by omega) (by exact (hb.cell (p := ⟨1, 0, none⟩) hz1).trans H1.out) (Or.inr ⟨_, _, rfl⟩)).mono ?_
    rintro e w2 ⟨N, rfl, _, _, hb2⟩
    go_wp2_with fail
    go_ret2
    exact ⟨⟨_, _, rfl⟩, hb.trans (hb2.mono hb.size)⟩
theorem digitF_char (c : UInt8) (b : Int) (hb : b ≤ 16) (h : 0 ≤ digitF c.toNat b) : c.toNat < 128 ∧ c ≠ 43 ∧ c ≠ 95 := by
  have : (48 ≤ c.toNat ∧ c.toNat ≤ 57) ∨ (97 ≤ c.toNat ∧ c.toNat ≤ 102) ∨ (65 ≤ c.toNat ∧ c.toNat ≤ 70) := by
    unfold digitF at h
    simp only [Bool.and_eq_true, decide_eq_true_eq] at h
    revert h
    repeat' split
    all_goals omega
  refine ⟨by omega, ?_, ?_⟩
  · rintro rfl; revert this; decide
  · rintro rfl; revert this; decide
theorem numGo_chars (b : Int) (hb : b ≤ 16) : ∀ (l : List UInt8) (x y : Int), numGo b l x = some y → ∀ c ∈ l, c.toNat < 128 ∧ c ≠ 43 ∧ c ≠ 95
  | [], _, _, _, c, hc => by cases hc
  | d :: l, x, y, h, c, hc => by
    unfold numGo at h
    split at h
    · cases h
    · rename_i h1
      split at h
      · cases h
      · rcases List.mem_cons.1 hc with rfl | hc
        · exact digitF_char c b hb (by omega)
        · exact numGo_chars b hb l _ y h c hc
theorem numGo_bd (b : Int) (hb : 0 < b) : ∀ (l : List UInt8) (x y : Int), 0 ≤ x → x ≤ 4294967295 → numGo b l x = some y → 0 ≤ y ∧ y ≤ 4294967295
  | [], x, y, h0, h1, h => by cases h; exact ⟨h0, h1⟩
  | d :: l, x, y, h0, h1, h => by
    unfold numGo at h
    split at h
    · cases h
    · split at h
      · cases h
      · rename_i h2 h3
        have : 0 ≤ x * b := Int.mul_nonneg h0 (by omega)
        exact numGo_bd b hb l _ y (by omega) (by omega) h
theorem containsAny_no (l : List UInt8) (h : ∀ c ∈ l, c ≠ 43 ∧ c ≠ 95) : Lib.containsAny l [43, 95] = false := by
  unfold Lib.containsAny
  have : Lib.indexAny l [43, 95] = -1 := by
    induction l with
    | nil => rfl
    | cons c l ih =>
      unfold Lib.indexAny
      have h1 := h c (by simp)
      rw [ih (fun d hd => h d (by simp [hd]))]
      simp [h1.1, h1.2]
  rw [this]; rfl
theorem ca_any (s : ByteArray) (hs : s.size ≤ 100000) (h : ∀ c ∈ s.data.toList, c.toNat < 128 ∧ c ≠ 43 ∧ c ≠ 95) (w : World) : Calls Tryd.prog 31 #[.string s, .string ⟨#[43, 95]⟩] w fun e w' => e = .returned (.bool false) ∧ Below w.heap.size w w' := by
  have c := Tryd.strings_ContainsAny_laid s ⟨#[43, 95]⟩ w (by omega) (by decide) (fun j b hj => (h b (List.mem_of_getElem? hj)).1) (fun j b hj => by
    have := List.mem_of_getElem? hj
    have e : b = 43 ∨ b = 95 := by simpa using this
    rcases e with rfl | rfl <;> decide)
  have e : Lib.containsAny s.data.toList [43, 95] = false := containsAny_no _ (fun c hc => (h c hc).2)
  rw [← e]
  exact c
theorem cp_any (s : ByteArray) (w : World) : Calls Tryd.prog 29 #[.string s, .string ⟨#[48, 120]⟩] w fun e w' => e = .returned (.tuple #[.string (if decide (2 ≤ (s.size : Int)) && ((s.extract 0 2).toList == [48, 120]) then s.extract 2 s.size else s), .bool (decide (2 ≤ (s.size : Int)) && ((s.extract 0 2).toList == [48, 120]))]) ∧ w' = w := by
  refine (Tryd.strings_CutPrefix s _ w).mono ?_
  rintro e w' ⟨rfl, rfl⟩
  have hr := Lib.hasPrefix_raw s ⟨#[48, 120]⟩
  have e1 : ((⟨#[48, 120]⟩ : ByteArray).toList) = [48, 120] := by rw [ByteArray.toList_eq]
  have e2 : (⟨#[48, 120]⟩ : ByteArray).size = 2 := rfl
  rw [e1, e2] at hr
  have hd : decide (2 ≤ (s.size : Int)) = decide (2 ≤ s.size) := by rw [Bool.eq_iff_iff]; simp only [decide_eq_true_eq]; omega
  rw [hd, hr]
  refine ⟨?_, rfl⟩
  cases hp : Lib.hasPrefix s.data.toList (⟨#[48, 120]⟩ : ByteArray).data.toList
  · rw [hp] at hr
    rw [Lib.trimPrefix_miss s ⟨#[48, 120]⟩ (by rw [e1, e2]; exact hr)]
    rfl
  · rw [hp] at hr
    rw [Bool.and_eq_true, decide_eq_true_eq] at hr
    rw [Lib.trimPrefix_hit s ⟨#[48, 120]⟩ hr.1 (by rw [e1]; exact hr.2)]
    rfl
end Go.Proofs.YtnicmfboomibjaaDoor
