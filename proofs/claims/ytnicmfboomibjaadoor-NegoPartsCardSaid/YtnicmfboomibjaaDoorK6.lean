/- What keys.Number answers: the reference's number, for every short string and all limits. The error variables hold errors. -/
import Derived.Test.YtnicmfboomibjaaDoorK5
namespace Go.Proofs.YtnicmfboomibjaaDoor
set_option linter.unusedSimpArgs false
set_option linter.unusedVariables false
open Go.RowKit
theorem tail_none (u : ByteArray) (least most b : Int) (h : puF b u.data.toList = none) : tailF u least most (numGo b u.data.toList 0) = (0, false) := by
  unfold puF at h
  split at h
  · rename_i h0
    have e : (u.size == 0) = true := by have := congrArg List.length h0; simpa using this
    cases numGo b u.data.toList 0 with
    | none => rfl
    | some x => simp [tailF, e]
  · rw [h]; rfl
theorem tail_some (u : ByteArray) (least most b x : Int) (h : puF b u.data.toList = some x) : numGo b u.data.toList 0 = some x ∧ tailF u least most (numGo b u.data.toList 0) = if decide (least < 0) || decide (most < 0) || decide (x < least) || decide (most < x) then (0, false) else (x, true) := by
  unfold puF at h
  split at h
  · cases h
  · rename_i h0
    have e : (u.size == 0) = false := by
      rw [beq_eq_false_iff_ne]; intro h1; apply h0; apply List.eq_nil_of_length_eq_zero; simpa using h1
    refine ⟨h, ?_⟩
    rw [h]; simp only [tailF, e, Bool.false_or]
theorem chars_cons (s : ByteArray) (h2 : 2 ≤ s.size) (hp : ((s.extract 0 2).toList == [48, 120]) = true) (h : ∀ c ∈ (s.extract 2 s.size).data.toList, c.toNat < 128 ∧ c ≠ 43 ∧ c ≠ 95) : ∀ c ∈ s.data.toList, c.toNat < 128 ∧ c ≠ 43 ∧ c ≠ 95 := by
  have e1 : (s.extract 0 2).data.toList = [48, 120] := by rw [← ByteArray.toList_eq]; simpa using hp
  have e2 : s.data.toList = (s.extract 0 2).data.toList ++ (s.extract 2 s.size).data.toList := by
    have hs : s.data.toList.length = s.size := by simp
    have a1 : (s.extract 0 2).data.toList = s.data.toList.take 2 := by simp
    have a2 : (s.extract 2 s.size).data.toList = s.data.toList.drop 2 := by rw [Lib.extract_to_end]
    rw [a1, a2, List.take_append_drop]
  intro c hc
  rw [e2, e1] at hc
  simp only [List.cons_append, List.nil_append, List.mem_cons] at hc
  rcases hc with rfl | rfl | hc
  · decide
  · decide
  · exact h c hc
set_option maxHeartbeats 1000000 in
set_option maxRecDepth 100000 in
theorem number_10 (s : ByteArray) (least most : Int) (w : World) (hs : s.size ≤ 100000) (hE : Env w) (h2w : 2 < w.heap.size) (l0 : -9223372036854775808 ≤ least) (l1 : least ≤ 9223372036854775807) (m0 : -9223372036854775808 ≤ most) (m1 : most ≤ 9223372036854775807) (gp : (decide (2 ≤ (s.size : Int)) && ((s.extract 0 2).toList == [48, 120])) = false) :
    Calls Tryd.prog 16 #[.string s, .int .i64 least, .int .i64 most] w fun e w' => e = .returned (.tuple #[.int .i64 (rnumberF s least most).1, .bool (rnumberF s least most).2]) ∧ Below w.heap.size w w' := by
  have HR : Hid (rnumberF s least most = tailF s least most (numGo 10 s.data.toList 0)) := Lib.hid (by unfold rnumberF; rw [gp]; rfl)
  have hcp := cp_any s w
  rw [gp] at hcp
  rw [if_neg (by simp)] at hcp
  have HCP := Lib.hid hcp
  have HE := Lib.hid hE
  clear hcp hE gp
  cases ho : puF 10 s.data.toList with
  | none =>
    have HT := Lib.hid (tail_none s least most 10 ho)
    have HO := Lib.hid ho
    clear ho
    go_enter Tryd.func16, Tryd.ntmps16
    go_wp2_with fail
    refine HCP.out.mono ?_
    rintro e w1 ⟨rfl, rfl⟩
    dsimp only
    go_wp2_with fail
    refine (pu10_err _ HO.out (by omega) _ HE.out).mono ?_
    rintro e w2 ⟨he, hb⟩
    obtain ⟨v, N, rfl⟩ := he
    dsimp only
    go_wp2_with fail
    go_ret2
    exact ⟨by rw [HR.out, HT.out]; rfl, hb⟩
  | some x =>
    obtain ⟨hn, ht⟩ := tail_some s least most 10 x ho
    have hxb := numGo_bd 10 (by omega) _ 0 x (by omega) (by omega) hn
    have HX : Hid (∀ c ∈ s.data.toList, c.toNat < 128 ∧ c ≠ 43 ∧ c ≠ 95) := Lib.hid ( (numGo_chars 10 (by omega) _ 0 x hn))
    obtain ⟨x0, x1⟩ := hxb
    have HT := Lib.hid ht
    have HO := Lib.hid ho
    clear ho hn ht
    have fin : ∀ (q : Bool), (decide (least < 0) || decide (most < 0) || decide (x < least) || decide (most < x)) = q → rnumberF s least most = if q = true then (0, false) else (x, true) := fun q hq => by rw [HR.out, HT.out, hq]
    have FIN := Lib.hid fin
    clear fin
    cases q1 : decide (least < 0)
    all_goals cases q2 : decide (most < 0)
    all_goals cases q3 : decide (x < least)
    all_goals cases q4 : decide (most < x)
    all_goals
      have HQ := Lib.hid (FIN.out _ rfl)
      rw [q1, q2, q3, q4] at HQ
      try have il0 : 0 ≤ least := by simp at q1; omega
      try have im0 : 0 ≤ most := by simp at q2; omega
      go_enter Tryd.func16, Tryd.ntmps16
      go_wp2_with fail
      refine HCP.out.mono ?_
      rintro e w1 ⟨rfl, rfl⟩
      dsimp only
      go_wp2_with fail
      refine (pu10_ok _ x HO.out (by omega) _).mono ?_
      rintro e w2 ⟨rfl, hb⟩
      dsimp only
      go_wp2_with fail
      refine (ca_any s (by omega) HX.out _).mono ?_
      rintro e w3 ⟨rfl, hb3⟩
      dsimp only
      go_wp2_with fail
      go_ret2
      exact ⟨by rw [HQ.out]; rfl, hb.trans (hb3.mono hb.size)⟩
set_option maxHeartbeats 1000000 in
set_option maxRecDepth 100000 in
theorem number_16 (s : ByteArray) (least most : Int) (w : World) (hs : s.size ≤ 100000) (hE : Env w) (h2w : 2 < w.heap.size) (l0 : -9223372036854775808 ≤ least) (l1 : least ≤ 9223372036854775807) (m0 : -9223372036854775808 ≤ most) (m1 : most ≤ 9223372036854775807) (gp : (decide (2 ≤ (s.size : Int)) && ((s.extract 0 2).toList == [48, 120])) = true) :
    Calls Tryd.prog 16 #[.string s, .int .i64 least, .int .i64 most] w fun e w' => e = .returned (.tuple #[.int .i64 (rnumberF s least most).1, .bool (rnumberF s least most).2]) ∧ Below w.heap.size w w' := by
  have HR : Hid (rnumberF s least most = tailF (s.extract 2 s.size) least most (numGo 16 (s.extract 2 s.size).data.toList 0)) := Lib.hid (by unfold rnumberF; rw [gp]; rfl)
  have hcp := cp_any s w
  rw [gp] at hcp
  rw [Bool.and_eq_true] at gp
  have h2 : 2 ≤ s.size := by have := gp.1; simp at this; omega
  have HCH := Lib.hid (chars_cons s h2 gp.2)
  clear gp
  rw [if_pos rfl] at hcp
  have hus : (s.extract 2 s.size).size ≤ 100000 := by simp; omega
  generalize s.extract 2 s.size = u at HR hcp hus HCH
  have HCP := Lib.hid hcp
  have HE := Lib.hid hE
  clear hcp hE 
  cases ho : puF 16 u.data.toList with
  | none =>
    have HT := Lib.hid (tail_none u least most 16 ho)
    have HO := Lib.hid ho
    clear ho
    go_enter Tryd.func16, Tryd.ntmps16
    go_wp2_with fail
    refine HCP.out.mono ?_
    rintro e w1 ⟨rfl, rfl⟩
    dsimp only
    go_wp2_with fail
    refine (pu16_err _ HO.out (by omega) _ HE.out).mono ?_
    rintro e w2 ⟨he, hb⟩
    obtain ⟨v, N, rfl⟩ := he
    dsimp only
    go_wp2_with fail
    go_ret2
    exact ⟨by rw [HR.out, HT.out]; rfl, hb⟩
  | some x =>
    obtain ⟨hn, ht⟩ := tail_some u least most 16 x ho
    have hxb := numGo_bd 16 (by omega) _ 0 x (by omega) (by omega) hn
    have HX : Hid (∀ c ∈ s.data.toList, c.toNat < 128 ∧ c ≠ 43 ∧ c ≠ 95) := Lib.hid (HCH.out (numGo_chars 16 (by omega) _ 0 x hn))
    obtain ⟨x0, x1⟩ := hxb
    have HT := Lib.hid ht
    have HO := Lib.hid ho
    clear ho hn ht
    have fin : ∀ (q : Bool), (decide (least < 0) || decide (most < 0) || decide (x < least) || decide (most < x)) = q → rnumberF s least most = if q = true then (0, false) else (x, true) := fun q hq => by rw [HR.out, HT.out, hq]
    have FIN := Lib.hid fin
    clear fin
    cases q1 : decide (least < 0)
    all_goals cases q2 : decide (most < 0)
    all_goals cases q3 : decide (x < least)
    all_goals cases q4 : decide (most < x)
    all_goals
      have HQ := Lib.hid (FIN.out _ rfl)
      rw [q1, q2, q3, q4] at HQ
      try have il0 : 0 ≤ least := by simp at q1; omega
      try have im0 : 0 ≤ most := by simp at q2; omega
      go_enter Tryd.func16, Tryd.ntmps16
      go_wp2_with fail
      refine HCP.out.mono ?_
      rintro e w1 ⟨rfl, rfl⟩
      dsimp only
      go_wp2_with fail
      refine (pu16_ok _ x HO.out (by omega) _).mono ?_
      rintro e w2 ⟨rfl, hb⟩
      dsimp only
      go_wp2_with fail
      refine (ca_any s (by omega) HX.out _).mono ?_
      rintro e w3 ⟨rfl, hb3⟩
      dsimp only
      go_wp2_with fail
      go_ret2
      exact ⟨by rw [HQ.out]; rfl, hb.trans (hb3.mono hb.size)⟩
theorem number_any (s : ByteArray) (least most : Int) (w : World) (hs : s.size ≤ 100000) (hE : Env w) (h2w : 2 < w.heap.size) (l0 : -9223372036854775808 ≤ least) (l1 : least ≤ 9223372036854775807) (m0 : -9223372036854775808 ≤ most) (m1 : most ≤ 9223372036854775807) :
    Calls Tryd.prog 16 #[.string s, .int .i64 least, .int .i64 most] w fun e w' => e = .returned (.tuple #[.int .i64 (rnumberF s least most).1, .bool (rnumberF s least most).2]) ∧ Below w.heap.size w w' := by
  cases gp : (decide (2 ≤ (s.size : Int)) && ((s.extract 0 2).toList == [48, 120]))
  · exact number_10 s least most w hs hE h2w l0 l1 m0 m1 gp
  · exact number_16 s least most w hs hE h2w l0 l1 m0 m1 gp
end Go.Proofs.YtnicmfboomibjaaDoor
