/- KeysFirst answers true at whatever input. -/
import Derived.Test.YtnicmfboomibjaaDoorK14
namespace Go.Proofs.YtnicmfboomibjaaDoor
set_option linter.unusedSimpArgs false
set_option linter.unusedVariables false
open Go.RowKit
theorem chGo_over (os : List ByteArray) : ∀ (A cur t : List UInt8), (∀ x ∈ A, x ≠ 44) → chGo os cur (A ++ t) = chGo os (cur ++ A) t
  | [], cur, t, _ => by simp
  | x :: A, cur, t, h => by
    have hx : x ≠ 44 := h x (by simp)
    rw [List.cons_append, chGo, if_neg hx, chGo_over os A _ t (fun y hy => h y (by simp [hy]))]
    simp
theorem chGo_none : ∀ (l cur : List UInt8), chGo [] cur l = none
  | [], cur => by simp [chGo, amongF]
  | b :: r, cur => by
    rw [chGo, chGo_none r, chGo_none r]
    simp [amongF]
theorem amongF_one (x v : ByteArray) : amongF [v] x = (x.toList == v.toList) := by simp [amongF]
theorem chGo_step (v A S : ByteArray) (h : ∀ t, chGo [v] [] (S.data.toList ++ t) = chGo [v] [] t) (h44 : ∀ x ∈ A.data.toList, x ≠ 44) (hne : (A.toList == v.toList) = false) (t : List UInt8) :
    chGo [v] [] ((S ++ (A ++ ⟨#[44]⟩)).data.toList ++ t) = chGo [v] [] t := by
  have e : (S ++ (A ++ ⟨#[44]⟩)).data.toList ++ t = S.data.toList ++ (A.data.toList ++ (44 :: t)) := by simp [ByteArray.data_append]
  rw [e, h, chGo_over _ _ _ _ h44, List.nil_append, chGo, if_pos rfl, amongF_one, bstr_data, hne]
  rfl
theorem chGo_hit (v S : ByteArray) (h : ∀ t, chGo [v] [] (S.data.toList ++ t) = chGo [v] [] t) (h44 : ∀ x ∈ v.data.toList, x ≠ 44) :
    chGo [v] [] (S ++ v).data.toList = some v.data.toList ∧ ∀ t, chGo [v] [] (S.data.toList ++ (v.data.toList ++ 44 :: t)) = some v.data.toList := by
  have e : (S ++ v).data.toList = S.data.toList ++ (v.data.toList ++ []) := by simp [ByteArray.data_append]
  constructor
  · rw [e, h, chGo_over _ _ _ _ h44, List.nil_append, chGo, amongF_one, bstr_data]
    simp
  · intro t
    rw [h, chGo_over _ _ _ _ h44, List.nil_append, chGo, if_pos rfl, amongF_one, bstr_data]
    simp
theorem choose_one (s v : ByteArray) (w : World) (hs : s.size ≤ 100000) (hE : Env w) (h2 : 2 < w.heap.size) : Calls Tryd.prog 18 #[.string s, .slice (some ⟨w.heap.size, 0, none⟩) 1 1] (w.alloc (.cells #[.string v] 9)) fun e w' => e = chRes (chGo [v] [] s.data.toList) ∧ Below w.heap.size w w' := by
  have hb : Below w.heap.size w (w.alloc (.cells #[.string v] 9)) := (Below.refl _ _).alloc (Nat.le_refl _) _
  have hst : StrsIn (w.alloc (.cells #[.string v] 9)) (some ⟨w.heap.size, 0, none⟩) [v] := fun i hi => by
    refine ⟨w.heap.size, 0, rfl, by simp, ?_⟩
    match i, hi with
    | 0, _ => simp only [World.cell?, heap_alloc_new]; rfl
  obtain ⟨⟨m4, hm4⟩, _⟩ := hE.below hb h2
  exact (choose_any s (some ⟨w.heap.size, 0, none⟩) [v] 1 m4 _ hs (by simp) hst hm4).mono (fun e w' ⟨h1, h2⟩ => ⟨h1, hb.trans (h2.mono hb.size)⟩)
theorem choose_nil (s : ByteArray) (w : World) (hs : s.size ≤ 100000) (hE : Env w) : Calls Tryd.prog 18 #[.string s, .slice none 0 0] w fun e w' => e = .returned (.tuple #[.string ⟨#[]⟩, .bool false]) ∧ Below w.heap.size w w' := by
  obtain ⟨⟨m4, hm4⟩, _⟩ := hE
  have h := choose_any s none [] 0 m4 w hs (by decide) (StrsIn.nil _ _) hm4
  rw [chGo_none] at h
  exact h
set_option maxRecDepth 100000 in
set_option maxHeartbeats 2000000 in
theorem keysFirst_any (a : Option Addr) (os : List ByteArray) (c : Nat) (v behind : ByteArray) (w : World) (hE : Env w) (h2w : 2 < w.heap.size) (ho : StrsIn w a os) :
    Calls Tryd.prog 6 #[.slice a os.length c, .string v, .string behind] w fun e w' => e = .returned (.bool true) ∧ Below w.heap.size w w' := by
  have HE := Lib.hid hE
  have HO := Lib.hid ho
  clear hE ho
  go_enter Tryd.func6, Tryd.ntmps6
  go_wp2_with fail
  refine (stands_any w HE.out h2w).mono ?_
  rintro e w1 ⟨rfl, hb1⟩
  dsimp only
  have HB1 := Lib.hid hb1
  clear hb1
  go_wp2_with fail
  go_loopw [7, 24] (fun sv iv wr => ∃ (i : Nat) (S : ByteArray), sv = .string S ∧ iv = .int .i64 i ∧ i ≤ os.length ∧ i ≤ 20 ∧ S.size ≤ 51 * i ∧ Hid (∀ t, chGo [v] [] (S.data.toList ++ t) = chGo [v] [] t) ∧ Below w.heap.size w wr) (fun _ iv _ => os.length - (intOf iv).toNat)
  case atStart => exact ⟨0, ⟨#[]⟩, rfl, rfl, by omega, by omega, by simp [ByteArray.size], Lib.hid (fun t => by simp), HB1.out⟩
  case round =>
    clear HB1 w1
    obtain ⟨i, S, rfl, rfl, hi, hi20, hS, HG, hb⟩ := hrel
    have HB := Lib.hid hb
    clear hb
    by_cases hlt : i < os.length
    · obtain ⟨b, off, rfl, hbs, hc⟩ := HO.out.below HB.out i hlt
      generalize os[i] = A at hc
      have hi0 : (0 : Int) ≤ i := by omega
      have hi1 : (i : Int) < os.length := by omega
      by_cases h20 : i = 20
      · subst h20
        go_wp2_with fail
        go_ret
        exact ⟨rfl, HB.out⟩
      by_cases h50 : (50 : Int) < A.size
      · go_wp2_with fail
        go_ret
        exact ⟨rfl, HB.out⟩
      have hcv := Lib.run_convert_string_bytes (P := Tryd.prog) wr 9 22 5 A (u := .string) Tryd.underlying9 Tryd.underlying22 Tryd.underlying5
      have hB : ∀ j, j < A.size → (Lib.bytesWorld wr 5 A).cell? ⟨wr.heap.size, j, none⟩ = some (.int .u8 (A.data.toList.getD j 0).toNat) := fun j hj => Lib.bytesWorld_cell wr 5 A j hj
      have hb : Below wr.heap.size wr (Lib.bytesWorld wr 5 A) := Lib.bytesWorld_below _ _ _
      generalize Lib.bytesWorld wr 5 A = W1 at hcv hB hb
      have HB1 := Lib.hid (HB.out.trans (hb.mono HB.out.size))
      have HCB := Lib.hid hB
      clear hB hb
      go_wp2_with fail
      go_loopw [39] (fun jv wx => ∃ j : Nat, jv = .int .i64 j ∧ j ≤ A.size ∧ Hid (∀ x ∈ A.data.toList.take j, x ≠ 44) ∧ wx = W1) (fun jv _ => A.size - (intOf jv).toNat)
      case atStart => exact ⟨0, rfl, by omega, Lib.hid (fun x hx => by simp at hx), rfl⟩
      case round =>
        obtain ⟨j, rfl, hj, HA, rfl⟩ := hrel
        by_cases hjl : j < A.size
        · have hjl2 : j < A.data.toList.length := by simpa using hjl
          have hc2 := HCB.out j hjl
          have hget : A.data.toList.getD j 0 = A.data.toList[j] := by rw [List.getD, List.getElem?_eq_getElem hjl2]; rfl
          rw [hget] at hc2
          have HN : Hid (A.data.toList[j] ≠ 44 → ∀ x ∈ A.data.toList.take (j + 1), x ≠ 44) := Lib.hid (fun h x hx => by
            rw [List.take_succ_eq_append_getElem hjl2, List.mem_append, List.mem_singleton] at hx
            rcases hx with hx | rfl
            · exact HA.out x hx
            · exact h)
          have hj0 : (0 : Int) ≤ j := by omega
          have hj1 : (j : Int) < A.size := by omega
          generalize A.data.toList[j] = y at hc2 HN
          cases q : ((y.toNat : Int) == 44)
          · have hy : y ≠ 44 := fun e => by rw [e] at q; exact absurd q (by decide)
            go_wp2_with fail
            refine ⟨⟨j + 1, by go_num, by omega, Lib.hid (HN.out hy), trivial⟩, by simp [intOf]; omega⟩
          · go_wp2_with fail
            go_ret
            exact ⟨rfl, HB1.out⟩
        · obtain rfl : j = A.size := by omega
          rw [List.take_of_length_le (by rw [Lib.size_eq]; exact Nat.le_refl _)] at HA
          cases qv : (A.toList == v.toList)
          · have HG2 : Hid (∀ t, chGo [v] [] ((S ++ (A ++ ⟨#[44]⟩)).data.toList ++ t) = chGo [v] [] t) := Lib.hid (chGo_step v A S HG.out HA.out qv)
            have hsz : (S ++ (A ++ ⟨#[44]⟩)).size = S.size + (A.size + 1) := by rw [ByteArray.size_append, ByteArray.size_append]; rfl
            have hA1 : ¬ (9223372036854775807 < A.size + 1) := by omega
            have hS1 : ¬ (9223372036854775807 < S.size + (A.size + 1)) := by omega
            go_wp2_with fail
            refine ⟨⟨i + 1, S ++ (A ++ ⟨#[44]⟩), rfl, by go_num, by omega, by omega, by rw [hsz]; omega, HG2, HB1.out⟩, by simp [intOf]; omega⟩
          · go_wp2_with fail
            go_ret
            exact ⟨rfl, HB1.out⟩
    · by_cases h50 : (50 : Int) < v.size
      · go_wp2_with fail
        go_ret
        exact ⟨rfl, HB.out⟩
      by_cases h200 : (200 : Int) < behind.size
      · go_wp2_with fail
        go_ret
        exact ⟨rfl, HB.out⟩
      have hcv := Lib.run_convert_string_bytes (P := Tryd.prog) wr 9 22 5 v (u := .string) Tryd.underlying9 Tryd.underlying22 Tryd.underlying5
      have hB : ∀ j, j < v.size → (Lib.bytesWorld wr 5 v).cell? ⟨wr.heap.size, j, none⟩ = some (.int .u8 (v.data.toList.getD j 0).toNat) := fun j hj => Lib.bytesWorld_cell wr 5 v j hj
      have hb : Below wr.heap.size wr (Lib.bytesWorld wr 5 v) := Lib.bytesWorld_below _ _ _
      generalize Lib.bytesWorld wr 5 v = W1 at hcv hB hb
      have HB1 := Lib.hid (HB.out.trans (hb.mono HB.out.size))
      have HCB := Lib.hid hB
      clear hB hb
      go_wp2_with fail
      go_loopw [65] (fun jv wx => ∃ j : Nat, jv = .int .i64 j ∧ j ≤ v.size ∧ Hid (∀ x ∈ v.data.toList.take j, x ≠ 44) ∧ wx = W1) (fun jv _ => v.size - (intOf jv).toNat)
      case atStart => exact ⟨0, rfl, by omega, Lib.hid (fun x hx => by simp at hx), rfl⟩
      case round =>
        obtain ⟨j, rfl, hj, HA, rfl⟩ := hrel
        by_cases hjl : j < v.size
        · have hjl2 : j < v.data.toList.length := by simpa using hjl
          have hc2 := HCB.out j hjl
          have hget : v.data.toList.getD j 0 = v.data.toList[j] := by rw [List.getD, List.getElem?_eq_getElem hjl2]; rfl
          rw [hget] at hc2
          have HN : Hid (v.data.toList[j] ≠ 44 → ∀ x ∈ v.data.toList.take (j + 1), x ≠ 44) := Lib.hid (fun h x hx => by
            rw [List.take_succ_eq_append_getElem hjl2, List.mem_append, List.mem_singleton] at hx
            rcases hx with hx | rfl
            · exact HA.out x hx
            · exact h)
          have hj0 : (0 : Int) ≤ j := by omega
          have hj1 : (j : Int) < v.size := by omega
          generalize v.data.toList[j] = y at hc2 HN
          cases q : ((y.toNat : Int) == 44)
          · have hy : y ≠ 44 := fun e => by rw [e] at q; exact absurd q (by decide)
            go_wp2_with fail
            refine ⟨⟨j + 1, by go_num, by omega, Lib.hid (HN.out hy), trivial⟩, by simp [intOf]; omega⟩
          · go_wp2_with fail
            go_ret
            exact ⟨rfl, HB1.out⟩
        · obtain rfl : j = v.size := by omega
          rw [List.take_of_length_le (by rw [Lib.size_eq]; exact Nat.le_refl _)] at HA
          have HIT := Lib.hid (chGo_hit v S HG.out HA.out)
          have z1 : (S ++ v).size = S.size + v.size := ByteArray.size_append
          have hS1 : ¬ (9223372036854775807 < S.size + v.size) := by omega
          have hS2 : ¬ (9223372036854775807 < S.size + v.size + 1) := by omega
          have hS3 : ¬ (9223372036854775807 < S.size + v.size + 1 + behind.size) := by omega
          have hS4 : ¬ (9223372036854775807 < 1 + behind.size) := by omega
          have hS5 : ¬ (9223372036854775807 < v.size + (1 + behind.size)) := by omega
          have hS6 : ¬ (9223372036854775807 < S.size + (v.size + (1 + behind.size))) := by omega
          go_wp2_with fail
          have hE1 := HE.out.below HB1.out h2w
          have hz1 : 2 < wr.heap.size := Nat.lt_of_lt_of_le h2w HB1.out.size
          refine (choose_one (S ++ v) v wr (by omega) hE1 hz1).mono ?_
          rintro e w3 ⟨he, hb3⟩
          rw [HIT.out.1] at he
          obtain rfl := he
          have HB3 := Lib.hid (HB1.out.trans (hb3.mono HB1.out.size))
          clear hb3 hE1 hz1
          dsimp only [chRes]
          rw [bstr_data]
          go_wp2_with fail
          have hE3 := HE.out.below HB3.out h2w
          have hz3 : 2 < w3.heap.size := Nat.lt_of_lt_of_le h2w HB3.out.size
          have hL2 : (S ++ v ++ ⟨#[44]⟩ ++ behind).size = S.size + v.size + 1 + behind.size := by rw [ByteArray.size_append, ByteArray.size_append, ByteArray.size_append]; rfl
          have hd2 : (S ++ v ++ ⟨#[44]⟩ ++ behind).data.toList = S.data.toList ++ (v.data.toList ++ 44 :: behind.data.toList) := by simp [ByteArray.data_append]
          have hT1 : (S ++ v ++ ⟨#[44]⟩ ++ behind).size ≤ 100000 := by rw [hL2]; omega
          generalize hT : S ++ v ++ ⟨#[44]⟩ ++ behind = T at hd2 hT1 ⊢
          have HT := Lib.hid hT
          clear hT
          clear hL2
          refine (choose_one T v w3 hT1 hE3 hz3).mono ?_
          rintro e w4 ⟨he, hb4⟩
          rw [hd2, HIT.out.2] at he
          obtain rfl := he
          have HB4 := Lib.hid (HB3.out.trans (hb4.mono HB3.out.size))
          clear hb4 hE3 hz3
          dsimp only [chRes]
          rw [bstr_data]
          go_wp2_with fail
          rw [HT.out]
          refine (choose_nil T w4 hT1 (HE.out.below HB4.out h2w)).mono ?_
          rintro e w5 ⟨rfl, hb5⟩
          have HB5 := Lib.hid (HB4.out.trans (hb5.mono HB4.out.size))
          clear hb5
          dsimp only
          go_wp2_with fail
          go_ret
          exact ⟨rfl, HB5.out⟩
end Go.Proofs.YtnicmfboomibjaaDoor
