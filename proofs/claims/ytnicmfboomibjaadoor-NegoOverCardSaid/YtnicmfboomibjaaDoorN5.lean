/- What pair makes of a pair: the answer, the status; the deal, in the login's own block. -/
import Derived.Test.YtnicmfboomibjaaDoorN4b
namespace Go.Proofs.YtnicmfboomibjaaDoor
set_option linter.unusedSimpArgs false
set_option linter.unusedVariables false
open Go.RowKit
theorem nameB_of (V : ByteArray) (h : V.size = 5) : ∃ (y : UInt8) (h4 : 4 < V.size), V[4] = y ∧ nameB V = (((V.extract 0 4).toList == [105, 113, 110, 46]) && decide (48 ≤ y.toNat) && decide (y.toNat ≤ 55)) ∧ nameN V = (y.toNat : Int) - 48 := by
  have h4 : 4 < V.size := by omega
  refine ⟨V[4], h4, rfl, ?_⟩
  have e : V.data.toList.getD 4 0 = V[4] := by
    rw [List.getD, List.getElem?_eq_getElem (by rw [Array.length_toList]; exact h4)]; rfl
  unfold nameB nameN
  rw [e, h]
  simp
set_option maxRecDepth 100000 in
set_option maxHeartbeats 2000000 in
theorem pair_1a (lb : Nat) (s : LogS) (K V : ByteArray) (at_ : Int) (w : World) (hE : EnvN w) (h5 : 5 < lb) (hV : V.size ≤ 100000) (hl : w.heap[lb]? = some (.cells (logCells s) 55)) (q1 : (K.toList == [73, 110, 105, 116, 105, 97, 116, 111, 114, 78, 97, 109, 101]) = true) (hn : nameB V = false) :
    Calls Tryd.prog 36 #[.pointer (some ⟨lb, 0, none⟩), .agg #[.string K, .string V], .int .i64 at_] w fun e w' => e = .returned (.tuple #[.string (⟨#[]⟩), .int .i64 (515)]) ∧ LogPost lb (s) w w' := by
  have HL := Lib.hid hl
  have HE := Lib.hid hE
  obtain ⟨hb0, hp0, hs0⟩ := pairBlock w K V
  have hlb := lt_of_blk hl
  have HB1 := Lib.hid hb0
  clear hE hl hb0 hp0 hs0
  go_enter Tryd.func36, Tryd.ntmps36
  by_cases hsz : V.size = 5
  · obtain ⟨y, h4, hy, e1, _⟩ := nameB_of V hsz
    rw [e1] at hn
    have z1 : ((V.size : Int) != 5) = false := by simp [hsz]
    have HSZ := Lib.hid hsz
    clear hsz e1
    cases i1 : ((V.extract 0 4).toList == [105, 113, 110, 46])
    · have i2 : ((V.extract 0 4).toList != [105, 113, 110, 46]) = true := by simp [bne, i1]
      clear hn
      go_wp2_with fail
      go_ret2
      exact ⟨rfl, LogPost.keep HL.out HB1.out⟩
    · have i2 : ((V.extract 0 4).toList != [105, 113, 110, 46]) = false := by simp [bne, i1]
      rw [i1] at hn
      by_cases y1 : (y.toNat : Int) < 48
      · clear hn
        go_wp2_with fail
        go_ret2
        exact ⟨rfl, LogPost.keep HL.out HB1.out⟩
      · have y2 : (56 : Int) ≤ y.toNat := by simp at hn; omega
        clear hn
        go_wp2_with fail
        go_ret2
        exact ⟨rfl, LogPost.keep HL.out HB1.out⟩
  · have z1 : ((V.size : Int) != 5) = true := by simp; omega
    clear hn hsz
    go_wp2_with fail
    go_ret2
    exact ⟨rfl, LogPost.keep HL.out HB1.out⟩
set_option maxRecDepth 100000 in
set_option maxHeartbeats 2000000 in
theorem pair_1b (lb : Nat) (s : LogS) (K V : ByteArray) (at_ : Int) (w : World) (hE : EnvN w) (h5 : 5 < lb) (hV : V.size ≤ 100000) (hl : w.heap[lb]? = some (.cells (logCells s) 55)) (q1 : (K.toList == [73, 110, 105, 116, 105, 97, 116, 111, 114, 78, 97, 109, 101]) = true) (hn : nameB V = true) (hx : (decide (0 ≤ s.d.nx) && (s.d.nx != nameN V)) = true) :
    Calls Tryd.prog 36 #[.pointer (some ⟨lb, 0, none⟩), .agg #[.string K, .string V], .int .i64 at_] w fun e w' => e = .returned (.tuple #[.string (⟨#[]⟩), .int .i64 (512)]) ∧ LogPost lb (s) w w' := by
  have HL := Lib.hid hl
  have HE := Lib.hid hE
  obtain ⟨hb0, hp0, hs0⟩ := pairBlock w K V
  have hlb := lt_of_blk hl
  have hl1 : (w.alloc (.cells #[.string K, .string V] 39)).heap[lb]? = some (.cells (logCells s) 55) := (hb0.block lb hlb).trans hl
  have HB1 := Lib.hid hb0
  obtain ⟨_, cc, _⟩ := (blk11 hl1).1
  obtain ⟨_, ff, _⟩ := (blk11 hl1).2
  clear hE hl hb0 hp0 hs0 hl1
  go_enter Tryd.func36, Tryd.ntmps36
  have hsz : V.size = 5 := by unfold nameB at hn; simp only [Bool.and_eq_true, decide_eq_true_eq] at hn; exact hn.1.1.1
  obtain ⟨y, h4, hy, e1, e2⟩ := nameB_of V hsz
  rw [e1] at hn
  rw [e2] at hx
  have z1 : ((V.size : Int) != 5) = false := by simp [hsz]
  have HSZ := Lib.hid hsz
  clear hsz e1 e2
  simp only [Bool.and_eq_true, decide_eq_true_eq] at hn
  obtain ⟨⟨i1, y1⟩, y2⟩ := hn
  have i2 : ((V.extract 0 4).toList != [105, 113, 110, 46]) = false := by simp [bne, i1]
  have y3 : ¬ ((y.toNat : Int) < 48) := by omega
  have y4 : ¬ ((56 : Int) ≤ y.toNat) := by omega
  simp only [Bool.and_eq_true] at hx
  obtain ⟨x1, x2⟩ := hx
  go_wp2_with fail
  go_ret2
  exact ⟨rfl, LogPost.keep HL.out HB1.out⟩
set_option maxRecDepth 100000 in
set_option maxHeartbeats 2000000 in
theorem pair_1c (lb : Nat) (s : LogS) (K V : ByteArray) (at_ : Int) (w : World) (hE : EnvN w) (h5 : 5 < lb) (hV : V.size ≤ 100000) (hl : w.heap[lb]? = some (.cells (logCells s) 55)) (q1 : (K.toList == [73, 110, 105, 116, 105, 97, 116, 111, 114, 78, 97, 109, 101]) = true) (hn : nameB V = true) (hx : (decide (0 ≤ s.d.nx) && (s.d.nx != nameN V)) = false) :
    Calls Tryd.prog 36 #[.pointer (some ⟨lb, 0, none⟩), .agg #[.string K, .string V], .int .i64 at_] w fun e w' => e = .returned (.tuple #[.string (⟨#[]⟩), .int .i64 (0)]) ∧ LogPost lb ({ s with d := { s.d with nx := nameN V } }) w w' := by
  have HL := Lib.hid hl
  have HE := Lib.hid hE
  obtain ⟨hb0, hp0, hs0⟩ := pairBlock w K V
  have hlb := lt_of_blk hl
  have hl1 : (w.alloc (.cells #[.string K, .string V] 39)).heap[lb]? = some (.cells (logCells s) 55) := (hb0.block lb hlb).trans hl
  have HB1 := Lib.hid hb0
  obtain ⟨_, cc, _⟩ := (blk11 hl1).1
  obtain ⟨_, ff, _⟩ := (blk11 hl1).2
  clear hE hl hb0 hp0 hs0 hl1
  go_enter Tryd.func36, Tryd.ntmps36
  have hsz : V.size = 5 := by unfold nameB at hn; simp only [Bool.and_eq_true, decide_eq_true_eq] at hn; exact hn.1.1.1
  obtain ⟨y, h4, hy, e1, e2⟩ := nameB_of V hsz
  rw [e1] at hn
  rw [e2] at hx ⊢
  have z1 : ((V.size : Int) != 5) = false := by simp [hsz]
  have HSZ := Lib.hid hsz
  clear hsz e1 e2
  simp only [Bool.and_eq_true, decide_eq_true_eq] at hn
  obtain ⟨⟨i1, y1⟩, y2⟩ := hn
  have i2 : ((V.extract 0 4).toList != [105, 113, 110, 46]) = false := by simp [bne, i1]
  have y3 : ¬ ((y.toNat : Int) < 48) := by omega
  have y4 : ¬ ((56 : Int) ≤ y.toNat) := by omega
  cases x1 : decide (0 ≤ s.d.nx)
  · clear hx
    go_wp2_with fail
    go_ret2
    exact ⟨rfl, (LogPost.set HL.out (Below.refl _ _) 1 _ (s' := { s with d := { s.d with nx := (y.toNat : Int) - 48 } }) rfl).more ((Below.refl _ _).alloc (Nat.le_refl _) _)⟩
  · rw [x1, Bool.true_and] at hx
    go_wp2_with fail
    go_ret2
    exact ⟨rfl, (LogPost.set HL.out (Below.refl _ _) 1 _ (s' := { s with d := { s.d with nx := (y.toNat : Int) - 48 } }) rfl).more ((Below.refl _ _).alloc (Nat.le_refl _) _)⟩
set_option maxRecDepth 100000 in
set_option maxHeartbeats 2000000 in
theorem pair_2a (lb : Nat) (s : LogS) (K V : ByteArray) (at_ : Int) (w : World) (hE : EnvN w) (h5 : 5 < lb) (hV : V.size ≤ 100000) (hl : w.heap[lb]? = some (.cells (logCells s) 55)) (q1 : (K.toList == [73, 110, 105, 116, 105, 97, 116, 111, 114, 78, 97, 109, 101]) = false) (q2 : (K.toList == [83, 101, 115, 115, 105, 111, 110, 84, 121, 112, 101]) = true) (hv : (V.toList == [78, 111, 114, 109, 97, 108]) = true) :
    Calls Tryd.prog 36 #[.pointer (some ⟨lb, 0, none⟩), .agg #[.string K, .string V], .int .i64 at_] w fun e w' => e = .returned (.tuple #[.string (⟨#[]⟩), .int .i64 (0)]) ∧ LogPost lb (s) w w' := by
  have HL := Lib.hid hl
  have HE := Lib.hid hE
  obtain ⟨hb0, hp0, hs0⟩ := pairBlock w K V
  have hlb := lt_of_blk hl
  have HB1 := Lib.hid hb0
  have hv2 : (V.toList != [78, 111, 114, 109, 97, 108]) = false := by simp [bne, hv]
  clear hE hl hb0 hp0 hs0
  go_enter Tryd.func36, Tryd.ntmps36
  go_wp2_with fail
  go_ret2
  exact ⟨rfl, LogPost.keep HL.out HB1.out⟩
set_option maxRecDepth 100000 in
set_option maxHeartbeats 2000000 in
theorem pair_2b (lb : Nat) (s : LogS) (K V : ByteArray) (at_ : Int) (w : World) (hE : EnvN w) (h5 : 5 < lb) (hV : V.size ≤ 100000) (hl : w.heap[lb]? = some (.cells (logCells s) 55)) (q1 : (K.toList == [73, 110, 105, 116, 105, 97, 116, 111, 114, 78, 97, 109, 101]) = false) (q2 : (K.toList == [83, 101, 115, 115, 105, 111, 110, 84, 121, 112, 101]) = true) (hv : (V.toList == [78, 111, 114, 109, 97, 108]) = false) :
    Calls Tryd.prog 36 #[.pointer (some ⟨lb, 0, none⟩), .agg #[.string K, .string V], .int .i64 at_] w fun e w' => e = .returned (.tuple #[.string (⟨#[]⟩), .int .i64 (521)]) ∧ LogPost lb (s) w w' := by
  have HL := Lib.hid hl
  have HE := Lib.hid hE
  obtain ⟨hb0, hp0, hs0⟩ := pairBlock w K V
  have hlb := lt_of_blk hl
  have HB1 := Lib.hid hb0
  have hv2 : (V.toList != [78, 111, 114, 109, 97, 108]) = true := by simp [bne, hv]
  clear hE hl hb0 hp0 hs0
  go_enter Tryd.func36, Tryd.ntmps36
  go_wp2_with fail
  go_ret2
  exact ⟨rfl, LogPost.keep HL.out HB1.out⟩
set_option maxRecDepth 100000 in
set_option maxHeartbeats 2000000 in
theorem pair_3 (lb : Nat) (s : LogS) (K V : ByteArray) (at_ : Int) (w : World) (hE : EnvN w) (h5 : 5 < lb) (hV : V.size ≤ 100000) (hl : w.heap[lb]? = some (.cells (logCells s) 55)) (q1 : (K.toList == [73, 110, 105, 116, 105, 97, 116, 111, 114, 78, 97, 109, 101]) = false) (q2 : (K.toList == [83, 101, 115, 115, 105, 111, 110, 84, 121, 112, 101]) = false) (q3 : (K.toList == [84, 97, 114, 103, 101, 116, 78, 97, 109, 101]) = true) :
    Calls Tryd.prog 36 #[.pointer (some ⟨lb, 0, none⟩), .agg #[.string K, .string V], .int .i64 at_] w fun e w' => e = .returned (.tuple #[.string (⟨#[]⟩), .int .i64 (0)]) ∧ LogPost lb (s) w w' := by
  have HL := Lib.hid hl
  have HE := Lib.hid hE
  obtain ⟨hb0, hp0, hs0⟩ := pairBlock w K V
  have hlb := lt_of_blk hl
  have HB1 := Lib.hid hb0
  clear hE hl hb0 hp0 hs0
  go_enter Tryd.func36, Tryd.ntmps36
  go_wp2_with fail
  go_ret2
  exact ⟨rfl, LogPost.keep HL.out HB1.out⟩
set_option maxRecDepth 100000 in
set_option maxHeartbeats 2000000 in
theorem pair_4 (lb : Nat) (s : LogS) (K V : ByteArray) (at_ : Int) (w : World) (hE : EnvN w) (h5 : 5 < lb) (hV : V.size ≤ 100000) (hl : w.heap[lb]? = some (.cells (logCells s) 55)) (q1 : (K.toList == [73, 110, 105, 116, 105, 97, 116, 111, 114, 78, 97, 109, 101]) = false) (q2 : (K.toList == [83, 101, 115, 115, 105, 111, 110, 84, 121, 112, 101]) = false) (q3 : (K.toList == [84, 97, 114, 103, 101, 116, 78, 97, 109, 101]) = false) (q4 : (K.toList == [73, 110, 105, 116, 105, 97, 116, 111, 114, 65, 108, 105, 97, 115]) = true) :
    Calls Tryd.prog 36 #[.pointer (some ⟨lb, 0, none⟩), .agg #[.string K, .string V], .int .i64 at_] w fun e w' => e = .returned (.tuple #[.string (⟨#[]⟩), .int .i64 (0)]) ∧ LogPost lb (s) w w' := by
  have HL := Lib.hid hl
  have HE := Lib.hid hE
  obtain ⟨hb0, hp0, hs0⟩ := pairBlock w K V
  have hlb := lt_of_blk hl
  have HB1 := Lib.hid hb0
  clear hE hl hb0 hp0 hs0
  go_enter Tryd.func36, Tryd.ntmps36
  go_wp2_with fail
  go_ret2
  exact ⟨rfl, LogPost.keep HL.out HB1.out⟩
set_option maxRecDepth 100000 in
set_option maxHeartbeats 2000000 in
theorem pair_5a (lb : Nat) (s : LogS) (K V : ByteArray) (at_ : Int) (w : World) (hE : EnvN w) (h5 : 5 < lb) (hV : V.size ≤ 100000) (hl : w.heap[lb]? = some (.cells (logCells s) 55)) (q1 : (K.toList == [73, 110, 105, 116, 105, 97, 116, 111, 114, 78, 97, 109, 101]) = false) (q2 : (K.toList == [83, 101, 115, 115, 105, 111, 110, 84, 121, 112, 101]) = false) (q3 : (K.toList == [84, 97, 114, 103, 101, 116, 78, 97, 109, 101]) = false) (q4 : (K.toList == [73, 110, 105, 116, 105, 97, 116, 111, 114, 65, 108, 105, 97, 115]) = false) (q5 : (K.toList == [65, 117, 116, 104, 77, 101, 116, 104, 111, 100]) = true) (ha : (at_ != 0) = true) :
    Calls Tryd.prog 36 #[.pointer (some ⟨lb, 0, none⟩), .agg #[.string K, .string V], .int .i64 at_] w fun e w' => e = .returned (.tuple #[.string (⟨#[]⟩), .int .i64 (512)]) ∧ LogPost lb (s) w w' := by
  have HL := Lib.hid hl
  have HE := Lib.hid hE
  obtain ⟨hb0, hp0, hs0⟩ := pairBlock w K V
  have hlb := lt_of_blk hl
  have HB1 := Lib.hid hb0
  clear hE hl hb0 hp0 hs0
  go_enter Tryd.func36, Tryd.ntmps36
  go_wp2_with fail
  go_ret2
  exact ⟨rfl, LogPost.keep HL.out HB1.out⟩
set_option maxRecDepth 100000 in
set_option maxHeartbeats 2000000 in
theorem pair_5b (lb : Nat) (s : LogS) (K V : ByteArray) (at_ : Int) (w : World) (hE : EnvN w) (h5 : 5 < lb) (hV : V.size ≤ 100000) (hl : w.heap[lb]? = some (.cells (logCells s) 55)) (q1 : (K.toList == [73, 110, 105, 116, 105, 97, 116, 111, 114, 78, 97, 109, 101]) = false) (q2 : (K.toList == [83, 101, 115, 115, 105, 111, 110, 84, 121, 112, 101]) = false) (q3 : (K.toList == [84, 97, 114, 103, 101, 116, 78, 97, 109, 101]) = false) (q4 : (K.toList == [73, 110, 105, 116, 105, 97, 116, 111, 114, 65, 108, 105, 97, 115]) = false) (q5 : (K.toList == [65, 117, 116, 104, 77, 101, 116, 104, 111, 100]) = true) (ha : (at_ != 0) = false) :
    Calls Tryd.prog 36 #[.pointer (some ⟨lb, 0, none⟩), .agg #[.string K, .string V], .int .i64 at_] w fun e w' => e = .returned (.tuple #[.string (chosenF V [⟨#[78, 111, 110, 101]⟩]), .int .i64 (0)]) ∧ LogPost lb (s) w w' := by
  have HL := Lib.hid hl
  have HE := Lib.hid hE
  obtain ⟨hb0, hp0, hs0⟩ := pairBlock w K V
  have hlb := lt_of_blk hl
  have HC := Lib.hid (chosen_one V ⟨#[78, 111, 110, 101]⟩ (w.alloc (.cells #[.string K, .string V] 39)) (w.heap.size + 1) hs0.symm hV (hE.below hb0 (Nat.le_refl _)))
  rw [hs0] at HC
  have HP0 := Lib.hid (And.intro hb0 hp0)
  clear hE hl hb0 hp0 hs0
  generalize chosenF V [⟨#[78, 111, 110, 101]⟩] = R at HC ⊢
  go_enter Tryd.func36, Tryd.ntmps36
  go_wp2_with fail
  refine HC.out.mono ?_
  rintro e w1 ⟨rfl, hb1⟩
  have HB1 := Lib.hid (HP0.out.1.trans (hb1.mono (Nat.le_succ _)))
  clear hb1 HC HP0
  dsimp only
  go_wp2_with fail
  go_ret2
  exact ⟨rfl, LogPost.keep HL.out HB1.out⟩
set_option maxRecDepth 100000 in
set_option maxHeartbeats 2000000 in
theorem pair_6a (lb : Nat) (s : LogS) (K V : ByteArray) (at_ : Int) (w : World) (hE : EnvN w) (h5 : 5 < lb) (hV : V.size ≤ 100000) (hl : w.heap[lb]? = some (.cells (logCells s) 55)) (q1 : (K.toList == [73, 110, 105, 116, 105, 97, 116, 111, 114, 78, 97, 109, 101]) = false) (q2 : (K.toList == [83, 101, 115, 115, 105, 111, 110, 84, 121, 112, 101]) = false) (q3 : (K.toList == [84, 97, 114, 103, 101, 116, 78, 97, 109, 101]) = false) (q4 : (K.toList == [73, 110, 105, 116, 105, 97, 116, 111, 114, 65, 108, 105, 97, 115]) = false) (q5 : (K.toList == [65, 117, 116, 104, 77, 101, 116, 104, 111, 100]) = false) (ha : (at_ != 1) = true) :
    Calls Tryd.prog 36 #[.pointer (some ⟨lb, 0, none⟩), .agg #[.string K, .string V], .int .i64 at_] w fun e w' => e = .returned (.tuple #[.string (⟨#[78, 111, 116, 85, 110, 100, 101, 114, 115, 116, 111, 111, 100]⟩), .int .i64 (0)]) ∧ LogPost lb (s) w w' := by
  have HL := Lib.hid hl
  have HE := Lib.hid hE
  obtain ⟨hb0, hp0, hs0⟩ := pairBlock w K V
  have hlb := lt_of_blk hl
  have HB1 := Lib.hid hb0
  clear hE hl hb0 hp0 hs0
  go_enter Tryd.func36, Tryd.ntmps36
  go_wp2_with fail
  go_ret2
  exact ⟨rfl, LogPost.keep HL.out HB1.out⟩
set_option maxRecDepth 100000 in
set_option maxHeartbeats 2000000 in
theorem pair_6b (lb : Nat) (s : LogS) (K V : ByteArray) (at_ : Int) (w : World) (hE : EnvN w) (h5 : 5 < lb) (hV : V.size ≤ 100000) (hl : w.heap[lb]? = some (.cells (logCells s) 55)) (q1 : (K.toList == [73, 110, 105, 116, 105, 97, 116, 111, 114, 78, 97, 109, 101]) = false) (q2 : (K.toList == [83, 101, 115, 115, 105, 111, 110, 84, 121, 112, 101]) = false) (q3 : (K.toList == [84, 97, 114, 103, 101, 116, 78, 97, 109, 101]) = false) (q4 : (K.toList == [73, 110, 105, 116, 105, 97, 116, 111, 114, 65, 108, 105, 97, 115]) = false) (q5 : (K.toList == [65, 117, 116, 104, 77, 101, 116, 104, 111, 100]) = false) (ha : (at_ != 1) = false) :
    Calls Tryd.prog 36 #[.pointer (some ⟨lb, 0, none⟩), .agg #[.string K, .string V], .int .i64 at_] w fun e w' => e = .returned (.tuple #[.string ((operF s.d K V).1), .int .i64 (0)]) ∧ LogPost lb ({ s with d := (operF s.d K V).2 }) w w' := by
  have HL := Lib.hid hl
  have HE := Lib.hid hE
  obtain ⟨hb0, hp0, hs0⟩ := pairBlock w K V
  have hlb := lt_of_blk hl
  have hl1 : (w.alloc (.cells #[.string K, .string V] 39)).heap[lb]? = some (.cells (logCells s) 55) := (hb0.block lb hlb).trans hl
  have HO := Lib.hid (oper_any lb s K V (w.alloc (.cells #[.string K, .string V] 39)) (hE.below hb0 (Nat.le_refl _)) h5 hV hl1)
  have HB0 := Lib.hid hb0
  clear hE hl hb0 hp0 hs0 hl1
  generalize operF s.d K V = r at HO ⊢
  go_enter Tryd.func36, Tryd.ntmps36
  go_wp2_with fail
  refine HO.out.mono ?_
  rintro e w1 ⟨rfl, hp1⟩
  have HP1 : Hid (LogPost lb { s with d := r.2 } w w1) := Lib.hid ⟨hp1.1, grown_tr (grown_be HB0.out _) hp1.2⟩
  clear hp1 HO HB0
  dsimp only
  go_wp2_with fail
  go_ret2
  exact ⟨rfl, HP1.out⟩
theorem pair_any (lb : Nat) (s : LogS) (K V : ByteArray) (at_ : Int) (w : World) (hE : EnvN w) (h5 : 5 < lb) (hV : V.size ≤ 100000) (hl : w.heap[lb]? = some (.cells (logCells s) 55)) :
    Calls Tryd.prog 36 #[.pointer (some ⟨lb, 0, none⟩), .agg #[.string K, .string V], .int .i64 at_] w fun e w' => e = .returned (.tuple #[.string (pairF s.d K V at_).1, .int .i64 (pairF s.d K V at_).2.1]) ∧ LogPost lb { s with d := (pairF s.d K V at_).2.2 } w w' := by
  unfold pairF
  cases q1 : (K.toList == [73, 110, 105, 116, 105, 97, 116, 111, 114, 78, 97, 109, 101])
  case true =>
    simp only [if_true]
    cases hn : nameB V
    · simpa using pair_1a lb s K V at_ w hE h5 hV hl q1 hn
    · simp only [if_true]
      cases hx : (decide (0 ≤ s.d.nx) && (s.d.nx != nameN V))
      · simpa using pair_1c lb s K V at_ w hE h5 hV hl q1 hn hx
      · simpa using pair_1b lb s K V at_ w hE h5 hV hl q1 hn hx
  cases q2 : (K.toList == [83, 101, 115, 115, 105, 111, 110, 84, 121, 112, 101])
  case true =>
    simp only [if_true, Bool.false_eq_true, if_false]
    cases hv : (V.toList == [78, 111, 114, 109, 97, 108])
    · simpa using pair_2b lb s K V at_ w hE h5 hV hl q1 q2 hv
    · simpa using pair_2a lb s K V at_ w hE h5 hV hl q1 q2 hv
  cases q3 : (K.toList == [84, 97, 114, 103, 101, 116, 78, 97, 109, 101])
  case true => simpa using pair_3 lb s K V at_ w hE h5 hV hl q1 q2 q3
  cases q4 : (K.toList == [73, 110, 105, 116, 105, 97, 116, 111, 114, 65, 108, 105, 97, 115])
  case true => simpa using pair_4 lb s K V at_ w hE h5 hV hl q1 q2 q3 q4
  cases q5 : (K.toList == [65, 117, 116, 104, 77, 101, 116, 104, 111, 100])
  case true =>
    simp only [if_true, Bool.false_eq_true, if_false]
    cases ha : (at_ != 0)
    · simpa using pair_5b lb s K V at_ w hE h5 hV hl q1 q2 q3 q4 q5 ha
    · simpa using pair_5a lb s K V at_ w hE h5 hV hl q1 q2 q3 q4 q5 ha
  simp only [Bool.false_eq_true, if_false]
  cases ha : (at_ != 1)
  · simpa using pair_6b lb s K V at_ w hE h5 hV hl q1 q2 q3 q4 q5 ha
  · simpa using pair_6a lb s K V at_ w hE h5 hV hl q1 q2 q3 q4 q5 ha
end Go.Proofs.YtnicmfboomibjaaDoor
