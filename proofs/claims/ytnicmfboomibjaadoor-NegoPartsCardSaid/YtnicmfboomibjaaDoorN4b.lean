/- What operational makes of a pair: the answer; the deal, in the login's own block. -/
import Derived.Test.YtnicmfboomibjaaDoorN4
import Derived.Test.YtnicmfboomibjaaDoorN2p
namespace Go.Proofs.YtnicmfboomibjaaDoor
set_option linter.unusedSimpArgs false
set_option linter.unusedVariables false
open Go.RowKit
set_option maxRecDepth 100000 in
set_option maxHeartbeats 2000000 in
theorem oper_1 (lb : Nat) (s : LogS) (K V : ByteArray) (w : World) (hE : EnvN w) (h5 : 5 < lb) (hV : V.size ≤ 100000) (hl : w.heap[lb]? = some (.cells (logCells s) 55)) (q1 : (K.toList == [72, 101, 97, 100, 101, 114, 68, 105, 103, 101, 115, 116]) = true) :
    Calls Tryd.prog 45 #[.pointer (some ⟨lb, 0, none⟩), .agg #[.string K, .string V]] w fun e w' => e = .returned (.tuple #[.string (chosenF V [⟨#[67, 82, 67, 51, 50, 67]⟩, ⟨#[78, 111, 110, 101]⟩]), .int .i64 0]) ∧ LogPost lb { s with d := { s.d with hd := (chosenF V [⟨#[67, 82, 67, 51, 50, 67]⟩, ⟨#[78, 111, 110, 101]⟩]).toList == [67, 82, 67, 51, 50, 67] } } w w' := by
  have HL := Lib.hid hl
  have HE := Lib.hid hE
  obtain ⟨hb0, hp0, hs0⟩ := pairBlock w K V
  have hlb := lt_of_blk hl
  have HC := Lib.hid (chosen_two V ⟨#[67, 82, 67, 51, 50, 67]⟩ ⟨#[78, 111, 110, 101]⟩ (w.alloc (.cells #[.string K, .string V] 39)) (w.heap.size + 1) hs0.symm hV (hE.below hb0 (Nat.le_refl _)))
  rw [hs0] at HC
  have HP0 := Lib.hid (And.intro hb0 hp0)
  clear hE hl hb0 hp0 hs0
  generalize chosenF V [⟨#[67, 82, 67, 51, 50, 67]⟩, ⟨#[78, 111, 110, 101]⟩] = R at HC ⊢
  go_enter Tryd.func45, Tryd.ntmps45
  go_wp2_with fail
  refine HC.out.mono ?_
  rintro e w1 ⟨rfl, hb1⟩
  have hbw := HP0.out.1.trans (hb1.mono (Nat.le_succ _))
  have hp1 := (hb1.block w.heap.size (Nat.lt_succ_self _)).trans HP0.out.2
  have hl1 : w1.heap[lb]? = some (.cells (logCells s) 55) := (hbw.block lb hlb).trans HL.out
  have HB1 := Lib.hid hbw
  obtain ⟨p0, p1, _⟩ := blk2 hp1
  obtain ⟨_, _, cc, _⟩ := (blk11 hl1).1
  obtain ⟨_, _, ff, _⟩ := (blk11 hl1).2
  clear hb1 hl1 hp1 hbw HC HP0
  dsimp only
  cases q : (R.toList == [67, 82, 67, 51, 50, 67])
  all_goals
    go_wp2_with fail
    go_ret2
    exact ⟨rfl, LogPost.set HL.out HB1.out 2 _ (by rw [q]; rfl)⟩
set_option maxRecDepth 100000 in
set_option maxHeartbeats 2000000 in
theorem oper_2 (lb : Nat) (s : LogS) (K V : ByteArray) (w : World) (hE : EnvN w) (h5 : 5 < lb) (hV : V.size ≤ 100000) (hl : w.heap[lb]? = some (.cells (logCells s) 55)) (q1 : (K.toList == [72, 101, 97, 100, 101, 114, 68, 105, 103, 101, 115, 116]) = false) (q2 : (K.toList == [68, 97, 116, 97, 68, 105, 103, 101, 115, 116]) = true) :
    Calls Tryd.prog 45 #[.pointer (some ⟨lb, 0, none⟩), .agg #[.string K, .string V]] w fun e w' => e = .returned (.tuple #[.string (chosenF V [⟨#[67, 82, 67, 51, 50, 67]⟩, ⟨#[78, 111, 110, 101]⟩]), .int .i64 0]) ∧ LogPost lb { s with d := { s.d with dt := (chosenF V [⟨#[67, 82, 67, 51, 50, 67]⟩, ⟨#[78, 111, 110, 101]⟩]).toList == [67, 82, 67, 51, 50, 67] } } w w' := by
  have HL := Lib.hid hl
  have HE := Lib.hid hE
  obtain ⟨hb0, hp0, hs0⟩ := pairBlock w K V
  have hlb := lt_of_blk hl
  have HC := Lib.hid (chosen_two V ⟨#[67, 82, 67, 51, 50, 67]⟩ ⟨#[78, 111, 110, 101]⟩ (w.alloc (.cells #[.string K, .string V] 39)) (w.heap.size + 1) hs0.symm hV (hE.below hb0 (Nat.le_refl _)))
  rw [hs0] at HC
  have HP0 := Lib.hid (And.intro hb0 hp0)
  clear hE hl hb0 hp0 hs0
  generalize chosenF V [⟨#[67, 82, 67, 51, 50, 67]⟩, ⟨#[78, 111, 110, 101]⟩] = R at HC ⊢
  go_enter Tryd.func45, Tryd.ntmps45
  go_wp2_with fail
  refine HC.out.mono ?_
  rintro e w1 ⟨rfl, hb1⟩
  have hbw := HP0.out.1.trans (hb1.mono (Nat.le_succ _))
  have hp1 := (hb1.block w.heap.size (Nat.lt_succ_self _)).trans HP0.out.2
  have hl1 : w1.heap[lb]? = some (.cells (logCells s) 55) := (hbw.block lb hlb).trans HL.out
  have HB1 := Lib.hid hbw
  obtain ⟨p0, p1, _⟩ := blk2 hp1
  obtain ⟨_, _, _, cc, _⟩ := (blk11 hl1).1
  obtain ⟨_, _, _, ff, _⟩ := (blk11 hl1).2
  clear hb1 hl1 hp1 hbw HC HP0
  dsimp only
  cases q : (R.toList == [67, 82, 67, 51, 50, 67])
  all_goals
    go_wp2_with fail
    go_ret2
    exact ⟨rfl, LogPost.set HL.out HB1.out 3 _ (by rw [q]; rfl)⟩
set_option maxRecDepth 100000 in
set_option maxHeartbeats 2000000 in
theorem oper_3 (lb : Nat) (s : LogS) (K V : ByteArray) (w : World) (hE : EnvN w) (h5 : 5 < lb) (hV : V.size ≤ 100000) (hl : w.heap[lb]? = some (.cells (logCells s) 55)) (q1 : (K.toList == [72, 101, 97, 100, 101, 114, 68, 105, 103, 101, 115, 116]) = false) (q2 : (K.toList == [68, 97, 116, 97, 68, 105, 103, 101, 115, 116]) = false) (q3 : (K.toList == [73, 110, 105, 116, 105, 97, 108, 82, 50, 84]) = true) :
    Calls Tryd.prog 45 #[.pointer (some ⟨lb, 0, none⟩), .agg #[.string K, .string V]] w fun e w' => e = .returned (.tuple #[.string (if !(V.toList == [89, 101, 115]) && !(V.toList == [78, 111]) then ⟨#[82, 101, 106, 101, 99, 116]⟩ else V), .int .i64 0]) ∧ LogPost lb { s with d := if !(V.toList == [89, 101, 115]) && !(V.toList == [78, 111]) then s.d else { s.d with rd := V.toList == [89, 101, 115] } } w w' := by
  have HL := Lib.hid hl
  have HE := Lib.hid hE
  obtain ⟨hb0, hp0, hs0⟩ := pairBlock w K V
  have hlb := lt_of_blk hl
  have hl1 : (w.alloc (.cells #[.string K, .string V] 39)).heap[lb]? = some (.cells (logCells s) 55) := (hb0.block lb hlb).trans hl
  have HB1 := Lib.hid hb0
  obtain ⟨_, _, _, _, _, _, _, cc, _⟩ := (blk11 hl1).1
  obtain ⟨_, _, _, _, _, _, _, ff, _⟩ := (blk11 hl1).2
  clear hE hl hb0 hp0 hs0 hl1
  go_enter Tryd.func45, Tryd.ntmps45
  cases y1 : (V.toList == [89, 101, 115])
  · have y1' : (V.toList != [89, 101, 115]) = true := by simp [bne, y1]
    cases y2 : (V.toList == [78, 111])
    · have y2' : (V.toList != [78, 111]) = true := by simp [bne, y2]
      go_wp2_with fail
      go_ret2
      exact ⟨rfl, LogPost.keep HL.out HB1.out⟩
    · have y2' : (V.toList != [78, 111]) = false := by simp [bne, y2]
      go_wp2_with fail
      go_ret2
      exact ⟨rfl, (LogPost.set HL.out (Below.refl _ _) 7 _ (s' := { s with d := { s.d with rd := false } }) rfl).more ((Below.refl _ _).alloc (Nat.le_refl _) _)⟩
  · have y1' : (V.toList != [89, 101, 115]) = false := by simp [bne, y1]
    go_wp2_with fail
    go_ret2
    exact ⟨rfl, (LogPost.set HL.out (Below.refl _ _) 7 _ (s' := { s with d := { s.d with rd := true } }) rfl).more ((Below.refl _ _).alloc (Nat.le_refl _) _)⟩
set_option maxRecDepth 100000 in
set_option maxHeartbeats 2000000 in
theorem oper_4 (lb : Nat) (s : LogS) (K V : ByteArray) (w : World) (hE : EnvN w) (h5 : 5 < lb) (hV : V.size ≤ 100000) (hl : w.heap[lb]? = some (.cells (logCells s) 55)) (q1 : (K.toList == [72, 101, 97, 100, 101, 114, 68, 105, 103, 101, 115, 116]) = false) (q2 : (K.toList == [68, 97, 116, 97, 68, 105, 103, 101, 115, 116]) = false) (q3 : (K.toList == [73, 110, 105, 116, 105, 97, 108, 82, 50, 84]) = false) (q4 : (K.toList == [73, 109, 109, 101, 100, 105, 97, 116, 101, 68, 97, 116, 97]) = true) :
    Calls Tryd.prog 45 #[.pointer (some ⟨lb, 0, none⟩), .agg #[.string K, .string V]] w fun e w' => e = .returned (.tuple #[.string (if !(V.toList == [89, 101, 115]) && !(V.toList == [78, 111]) then ⟨#[82, 101, 106, 101, 99, 116]⟩ else V), .int .i64 0]) ∧ LogPost lb { s with d := if !(V.toList == [89, 101, 115]) && !(V.toList == [78, 111]) then s.d else { s.d with tg := V.toList == [89, 101, 115] } } w w' := by
  have HL := Lib.hid hl
  have HE := Lib.hid hE
  obtain ⟨hb0, hp0, hs0⟩ := pairBlock w K V
  have hlb := lt_of_blk hl
  have hl1 : (w.alloc (.cells #[.string K, .string V] 39)).heap[lb]? = some (.cells (logCells s) 55) := (hb0.block lb hlb).trans hl
  have HB1 := Lib.hid hb0
  obtain ⟨_, _, _, _, _, _, _, _, cc, _⟩ := (blk11 hl1).1
  obtain ⟨_, _, _, _, _, _, _, _, ff, _⟩ := (blk11 hl1).2
  clear hE hl hb0 hp0 hs0 hl1
  go_enter Tryd.func45, Tryd.ntmps45
  cases y1 : (V.toList == [89, 101, 115])
  · have y1' : (V.toList != [89, 101, 115]) = true := by simp [bne, y1]
    cases y2 : (V.toList == [78, 111])
    · have y2' : (V.toList != [78, 111]) = true := by simp [bne, y2]
      go_wp2_with fail
      go_ret2
      exact ⟨rfl, LogPost.keep HL.out HB1.out⟩
    · have y2' : (V.toList != [78, 111]) = false := by simp [bne, y2]
      go_wp2_with fail
      go_ret2
      exact ⟨rfl, (LogPost.set HL.out (Below.refl _ _) 8 _ (s' := { s with d := { s.d with tg := false } }) rfl).more ((Below.refl _ _).alloc (Nat.le_refl _) _)⟩
  · have y1' : (V.toList != [89, 101, 115]) = false := by simp [bne, y1]
    go_wp2_with fail
    go_ret2
    exact ⟨rfl, (LogPost.set HL.out (Below.refl _ _) 8 _ (s' := { s with d := { s.d with tg := true } }) rfl).more ((Below.refl _ _).alloc (Nat.le_refl _) _)⟩
set_option maxRecDepth 100000 in
set_option maxHeartbeats 2000000 in
theorem oper_5 (lb : Nat) (s : LogS) (K V : ByteArray) (w : World) (hE : EnvN w) (h5 : 5 < lb) (hV : V.size ≤ 100000) (hl : w.heap[lb]? = some (.cells (logCells s) 55)) (q1 : (K.toList == [72, 101, 97, 100, 101, 114, 68, 105, 103, 101, 115, 116]) = false) (q2 : (K.toList == [68, 97, 116, 97, 68, 105, 103, 101, 115, 116]) = false) (q3 : (K.toList == [73, 110, 105, 116, 105, 97, 108, 82, 50, 84]) = false) (q4 : (K.toList == [73, 109, 109, 101, 100, 105, 97, 116, 101, 68, 97, 116, 97]) = false) (q5 : (K.toList == [77, 97, 120, 82, 101, 99, 118, 68, 97, 116, 97, 83, 101, 103, 109, 101, 110, 116, 76, 101, 110, 103, 116, 104]) = true) :
    Calls Tryd.prog 45 #[.pointer (some ⟨lb, 0, none⟩), .agg #[.string K, .string V]] w fun e w' => e = .returned (.tuple #[.string (if (rnumberF V 64 16777215).2 then itoaB (256) else ⟨#[82, 101, 106, 101, 99, 116]⟩), .int .i64 0]) ∧ LogPost lb { s with d := if (rnumberF V 64 16777215).2 then { s.d with sg := min (rnumberF V 64 16777215).1 256 } else s.d } w w' := by
  have HL := Lib.hid hl
  have HE := Lib.hid hE
  obtain ⟨hb0, hp0, hs0⟩ := pairBlock w K V
  have hlb := lt_of_blk hl
  have HN := Lib.hid (number_any V 64 16777215 (w.alloc (.cells #[.string K, .string V] 39)) hV (hE.below hb0 (Nat.le_refl _)).1 (by rw [hs0]; have := hE.2.2; omega) (by decide) (by decide) (by decide) (by decide))
  rw [hs0] at HN
  have HX := Lib.hid (numb_least V 64 16777215)
  have HP0 := Lib.hid (And.intro hb0 hp0)
  clear hE hl hb0 hp0 hs0
  generalize rnumberF V 64 16777215 = r at HN HX ⊢
  obtain ⟨x, ok⟩ := r
  go_enter Tryd.func45, Tryd.ntmps45
  go_wp2_with fail
  refine HN.out.mono ?_
  rintro e w1 ⟨rfl, hb1⟩
  have hbw := HP0.out.1.trans (hb1.mono (Nat.le_succ _))
  have hp1 := (hb1.block w.heap.size (Nat.lt_succ_self _)).trans HP0.out.2
  have hl1 : w1.heap[lb]? = some (.cells (logCells s) 55) := (hbw.block lb hlb).trans HL.out
  have HB1 := Lib.hid hbw
  obtain ⟨p0, p1, _⟩ := blk2 hp1
  obtain ⟨_, _, _, _, cc, _⟩ := (blk11 hl1).1
  obtain ⟨_, _, _, _, ff, _⟩ := (blk11 hl1).2
  clear hb1 hl1 hp1 hbw HN HP0
  dsimp only
  cases ok
  · go_wp2_with fail
    go_ret2
    exact ⟨rfl, LogPost.keep HL.out HB1.out⟩
  · have HX2 := Lib.hid (HX.out rfl)
    go_wp2_with fail
    have HS := Lib.hid (LogPost.set HL.out HB1.out 4 (.int .i64 (min x 256)) (s' := { s with d := { s.d with sg := min x 256 } }) rfl)
    refine (itoa_any (256) (by have := HX2.out; omega) (by omega) (w1.setCell ⟨lb, 4, none⟩ (.int .i64 (min x 256))) (HE.out.kept HS.out.2 (fun k hk => by cases hk; exact h5))).mono ?_
    rintro e w2 ⟨rfl, hb2⟩
    have HB2 := Lib.hid hb2
    clear hb2
    dsimp only
    go_wp2_with fail
    go_ret2
    exact ⟨rfl, HS.out.more HB2.out⟩
set_option maxRecDepth 100000 in
set_option maxHeartbeats 2000000 in
theorem oper_6 (lb : Nat) (s : LogS) (K V : ByteArray) (w : World) (hE : EnvN w) (h5 : 5 < lb) (hV : V.size ≤ 100000) (hl : w.heap[lb]? = some (.cells (logCells s) 55)) (q1 : (K.toList == [72, 101, 97, 100, 101, 114, 68, 105, 103, 101, 115, 116]) = false) (q2 : (K.toList == [68, 97, 116, 97, 68, 105, 103, 101, 115, 116]) = false) (q3 : (K.toList == [73, 110, 105, 116, 105, 97, 108, 82, 50, 84]) = false) (q4 : (K.toList == [73, 109, 109, 101, 100, 105, 97, 116, 101, 68, 97, 116, 97]) = false) (q5 : (K.toList == [77, 97, 120, 82, 101, 99, 118, 68, 97, 116, 97, 83, 101, 103, 109, 101, 110, 116, 76, 101, 110, 103, 116, 104]) = false) (q6 : (K.toList == [77, 97, 120, 66, 117, 114, 115, 116, 76, 101, 110, 103, 116, 104]) = true) :
    Calls Tryd.prog 45 #[.pointer (some ⟨lb, 0, none⟩), .agg #[.string K, .string V]] w fun e w' => e = .returned (.tuple #[.string (if (rnumberF V 64 16777215).2 then itoaB (min (rnumberF V 64 16777215).1 512) else ⟨#[82, 101, 106, 101, 99, 116]⟩), .int .i64 0]) ∧ LogPost lb { s with d := if (rnumberF V 64 16777215).2 then { s.d with bu := min (rnumberF V 64 16777215).1 512 } else s.d } w w' := by
  have HL := Lib.hid hl
  have HE := Lib.hid hE
  obtain ⟨hb0, hp0, hs0⟩ := pairBlock w K V
  have hlb := lt_of_blk hl
  have HN := Lib.hid (number_any V 64 16777215 (w.alloc (.cells #[.string K, .string V] 39)) hV (hE.below hb0 (Nat.le_refl _)).1 (by rw [hs0]; have := hE.2.2; omega) (by decide) (by decide) (by decide) (by decide))
  rw [hs0] at HN
  have HX := Lib.hid (numb_least V 64 16777215)
  have HP0 := Lib.hid (And.intro hb0 hp0)
  clear hE hl hb0 hp0 hs0
  generalize rnumberF V 64 16777215 = r at HN HX ⊢
  obtain ⟨x, ok⟩ := r
  go_enter Tryd.func45, Tryd.ntmps45
  go_wp2_with fail
  refine HN.out.mono ?_
  rintro e w1 ⟨rfl, hb1⟩
  have hbw := HP0.out.1.trans (hb1.mono (Nat.le_succ _))
  have hp1 := (hb1.block w.heap.size (Nat.lt_succ_self _)).trans HP0.out.2
  have hl1 : w1.heap[lb]? = some (.cells (logCells s) 55) := (hbw.block lb hlb).trans HL.out
  have HB1 := Lib.hid hbw
  obtain ⟨p0, p1, _⟩ := blk2 hp1
  obtain ⟨_, _, _, _, _, cc, _⟩ := (blk11 hl1).1
  obtain ⟨_, _, _, _, _, ff, _⟩ := (blk11 hl1).2
  clear hb1 hl1 hp1 hbw HN HP0
  dsimp only
  cases ok
  · go_wp2_with fail
    go_ret2
    exact ⟨rfl, LogPost.keep HL.out HB1.out⟩
  · have HX2 := Lib.hid (HX.out rfl)
    go_wp2_with fail
    have HS := Lib.hid (LogPost.set HL.out HB1.out 5 (.int .i64 (min x 512)) (s' := { s with d := { s.d with bu := min x 512 } }) rfl)
    refine (itoa_any (min x 512) (by have := HX2.out; omega) (by omega) (w1.setCell ⟨lb, 5, none⟩ (.int .i64 (min x 512))) (HE.out.kept HS.out.2 (fun k hk => by cases hk; exact h5))).mono ?_
    rintro e w2 ⟨rfl, hb2⟩
    have HB2 := Lib.hid hb2
    clear hb2
    dsimp only
    go_wp2_with fail
    go_ret2
    exact ⟨rfl, HS.out.more HB2.out⟩
set_option maxRecDepth 100000 in
set_option maxHeartbeats 2000000 in
theorem oper_7 (lb : Nat) (s : LogS) (K V : ByteArray) (w : World) (hE : EnvN w) (h5 : 5 < lb) (hV : V.size ≤ 100000) (hl : w.heap[lb]? = some (.cells (logCells s) 55)) (q1 : (K.toList == [72, 101, 97, 100, 101, 114, 68, 105, 103, 101, 115, 116]) = false) (q2 : (K.toList == [68, 97, 116, 97, 68, 105, 103, 101, 115, 116]) = false) (q3 : (K.toList == [73, 110, 105, 116, 105, 97, 108, 82, 50, 84]) = false) (q4 : (K.toList == [73, 109, 109, 101, 100, 105, 97, 116, 101, 68, 97, 116, 97]) = false) (q5 : (K.toList == [77, 97, 120, 82, 101, 99, 118, 68, 97, 116, 97, 83, 101, 103, 109, 101, 110, 116, 76, 101, 110, 103, 116, 104]) = false) (q6 : (K.toList == [77, 97, 120, 66, 117, 114, 115, 116, 76, 101, 110, 103, 116, 104]) = false) (q7 : (K.toList == [70, 105, 114, 115, 116, 66, 117, 114, 115, 116, 76, 101, 110, 103, 116, 104]) = true) :
    Calls Tryd.prog 45 #[.pointer (some ⟨lb, 0, none⟩), .agg #[.string K, .string V]] w fun e w' => e = .returned (.tuple #[.string (if (rnumberF V 64 16777215).2 then itoaB (min (rnumberF V 64 16777215).1 512) else ⟨#[82, 101, 106, 101, 99, 116]⟩), .int .i64 0]) ∧ LogPost lb { s with d := if (rnumberF V 64 16777215).2 then { s.d with fi := min (rnumberF V 64 16777215).1 512 } else s.d } w w' := by
  have HL := Lib.hid hl
  have HE := Lib.hid hE
  obtain ⟨hb0, hp0, hs0⟩ := pairBlock w K V
  have hlb := lt_of_blk hl
  have HN := Lib.hid (number_any V 64 16777215 (w.alloc (.cells #[.string K, .string V] 39)) hV (hE.below hb0 (Nat.le_refl _)).1 (by rw [hs0]; have := hE.2.2; omega) (by decide) (by decide) (by decide) (by decide))
  rw [hs0] at HN
  have HX := Lib.hid (numb_least V 64 16777215)
  have HP0 := Lib.hid (And.intro hb0 hp0)
  clear hE hl hb0 hp0 hs0
  generalize rnumberF V 64 16777215 = r at HN HX ⊢
  obtain ⟨x, ok⟩ := r
  go_enter Tryd.func45, Tryd.ntmps45
  go_wp2_with fail
  refine HN.out.mono ?_
  rintro e w1 ⟨rfl, hb1⟩
  have hbw := HP0.out.1.trans (hb1.mono (Nat.le_succ _))
  have hp1 := (hb1.block w.heap.size (Nat.lt_succ_self _)).trans HP0.out.2
  have hl1 : w1.heap[lb]? = some (.cells (logCells s) 55) := (hbw.block lb hlb).trans HL.out
  have HB1 := Lib.hid hbw
  obtain ⟨p0, p1, _⟩ := blk2 hp1
  obtain ⟨_, _, _, _, _, _, cc, _⟩ := (blk11 hl1).1
  obtain ⟨_, _, _, _, _, _, ff, _⟩ := (blk11 hl1).2
  clear hb1 hl1 hp1 hbw HN HP0
  dsimp only
  cases ok
  · go_wp2_with fail
    go_ret2
    exact ⟨rfl, LogPost.keep HL.out HB1.out⟩
  · have HX2 := Lib.hid (HX.out rfl)
    go_wp2_with fail
    have HS := Lib.hid (LogPost.set HL.out HB1.out 6 (.int .i64 (min x 512)) (s' := { s with d := { s.d with fi := min x 512 } }) rfl)
    refine (itoa_any (min x 512) (by have := HX2.out; omega) (by omega) (w1.setCell ⟨lb, 6, none⟩ (.int .i64 (min x 512))) (HE.out.kept HS.out.2 (fun k hk => by cases hk; exact h5))).mono ?_
    rintro e w2 ⟨rfl, hb2⟩
    have HB2 := Lib.hid hb2
    clear hb2
    dsimp only
    go_wp2_with fail
    go_ret2
    exact ⟨rfl, HS.out.more HB2.out⟩
set_option maxRecDepth 100000 in
set_option maxHeartbeats 2000000 in
theorem oper_8 (lb : Nat) (s : LogS) (K V : ByteArray) (w : World) (hl : w.heap[lb]? = some (.cells (logCells s) 55)) (q1 : (K.toList == [72, 101, 97, 100, 101, 114, 68, 105, 103, 101, 115, 116]) = false) (q2 : (K.toList == [68, 97, 116, 97, 68, 105, 103, 101, 115, 116]) = false) (q3 : (K.toList == [73, 110, 105, 116, 105, 97, 108, 82, 50, 84]) = false) (q4 : (K.toList == [73, 109, 109, 101, 100, 105, 97, 116, 101, 68, 97, 116, 97]) = false) (q5 : (K.toList == [77, 97, 120, 82, 101, 99, 118, 68, 97, 116, 97, 83, 101, 103, 109, 101, 110, 116, 76, 101, 110, 103, 116, 104]) = false) (q6 : (K.toList == [77, 97, 120, 66, 117, 114, 115, 116, 76, 101, 110, 103, 116, 104]) = false) (q7 : (K.toList == [70, 105, 114, 115, 116, 66, 117, 114, 115, 116, 76, 101, 110, 103, 116, 104]) = false) :
    Calls Tryd.prog 45 #[.pointer (some ⟨lb, 0, none⟩), .agg #[.string K, .string V]] w fun e w' => e = .returned (.tuple #[.string ⟨#[78, 111, 116, 85, 110, 100, 101, 114, 115, 116, 111, 111, 100]⟩, .int .i64 0]) ∧ LogPost lb s w w' := by
  have HL := Lib.hid hl
  have HB := Lib.hid (pairBlock w K V).1
  clear hl
  go_enter Tryd.func45, Tryd.ntmps45
  go_wp2_with fail
  go_ret2
  exact ⟨rfl, LogPost.keep HL.out HB.out⟩
theorem oper_any (lb : Nat) (s : LogS) (K V : ByteArray) (w : World) (hE : EnvN w) (h5 : 5 < lb) (hV : V.size ≤ 100000) (hl : w.heap[lb]? = some (.cells (logCells s) 55)) :
    Calls Tryd.prog 45 #[.pointer (some ⟨lb, 0, none⟩), .agg #[.string K, .string V]] w fun e w' => e = .returned (.tuple #[.string (operF s.d K V).1, .int .i64 0]) ∧ LogPost lb { s with d := (operF s.d K V).2 } w w' := by
  unfold operF
  cases q1 : (K.toList == [72, 101, 97, 100, 101, 114, 68, 105, 103, 101, 115, 116])
  case true =>
    simp only [if_true]
    have h := oper_1 lb s K V w hE h5 hV hl q1
    exact h
  cases q2 : (K.toList == [68, 97, 116, 97, 68, 105, 103, 101, 115, 116])
  case true =>
    simp only [if_true, Bool.false_eq_true, if_false]
    have h := oper_2 lb s K V w hE h5 hV hl q1 q2
    exact h
  cases q3 : (K.toList == [73, 110, 105, 116, 105, 97, 108, 82, 50, 84])
  case true =>
    simp only [if_true, Bool.false_eq_true, if_false]
    have h := oper_3 lb s K V w hE h5 hV hl q1 q2 q3
    cases h1 : (!(V.toList == [89, 101, 115]) && !(V.toList == [78, 111])) <;> (rw [h1] at h; exact h)
  cases q4 : (K.toList == [73, 109, 109, 101, 100, 105, 97, 116, 101, 68, 97, 116, 97])
  case true =>
    simp only [if_true, Bool.false_eq_true, if_false]
    have h := oper_4 lb s K V w hE h5 hV hl q1 q2 q3 q4
    cases h1 : (!(V.toList == [89, 101, 115]) && !(V.toList == [78, 111])) <;> (rw [h1] at h; exact h)
  cases q5 : (K.toList == [77, 97, 120, 82, 101, 99, 118, 68, 97, 116, 97, 83, 101, 103, 109, 101, 110, 116, 76, 101, 110, 103, 116, 104])
  case true =>
    simp only [if_true, Bool.false_eq_true, if_false]
    have h := oper_5 lb s K V w hE h5 hV hl q1 q2 q3 q4 q5
    cases h1 : (rnumberF V 64 16777215).2 <;> (rw [h1] at h; exact h)
  cases q6 : (K.toList == [77, 97, 120, 66, 117, 114, 115, 116, 76, 101, 110, 103, 116, 104])
  case true =>
    simp only [if_true, Bool.false_eq_true, if_false]
    have h := oper_6 lb s K V w hE h5 hV hl q1 q2 q3 q4 q5 q6
    cases h1 : (rnumberF V 64 16777215).2 <;> (rw [h1] at h; exact h)
  cases q7 : (K.toList == [70, 105, 114, 115, 116, 66, 117, 114, 115, 116, 76, 101, 110, 103, 116, 104])
  case true =>
    simp only [if_true, Bool.false_eq_true, if_false]
    have h := oper_7 lb s K V w hE h5 hV hl q1 q2 q3 q4 q5 q6 q7
    cases h1 : (rnumberF V 64 16777215).2 <;> (rw [h1] at h; exact h)
  simp only [Bool.false_eq_true, if_false]
  exact oper_8 lb s K V w hl q1 q2 q3 q4 q5 q6 q7
end Go.Proofs.YtnicmfboomibjaaDoor
