/- What Step answers where it ends at once. -/
import Derived.Test.YtnicmfboomibjaaDoorN5
namespace Go.Proofs.YtnicmfboomibjaaDoor
set_option linter.unusedSimpArgs false
set_option linter.unusedVariables false
open Go.RowKit
theorem own_none {w : World} {base e s n c : Nat} {a : Option Addr} {xs : List Value} (h : w.ownsRow base e s (.slice a n c) n xs) : a = none → c = 0 := by
  rintro rfl
  rcases h.2 with ⟨hv, _⟩ | ⟨g, c', cur, hv, _⟩
  · simp only [Value.slice.injEq] at hv; exact hv.2.2
  · simp at hv
def StepPost (lb : Nat) (r : Nat × List Pr × Int × LogS) (w : World) (e : Ending) (w' : World) : Prop :=
  ∃ a c, e = .returned (.tuple #[.int .u8 r.1, .slice a r.2.1.length c, .int .i64 r.2.2.1]) ∧ PairsIn w' a r.2.1 ∧ ((∀ x, a = some x → w.heap.size ≤ x.block) ∧ (a = none → c = 0)) ∧ LogPost lb r.2.2.2 w w'
set_option maxRecDepth 100000 in
set_option maxHeartbeats 2000000 in
theorem end_any (lb : Nat) (s : LogS) (st : Int) (w : World) (hl : w.heap[lb]? = some (.cells (logCells s) 55)) :
    Calls Tryd.prog 35 #[.pointer (some ⟨lb, 0, none⟩), .int .i64 st] w fun e w' => e = .returned (.tuple #[.int .u8 0, .slice none 0 0, .int .i64 st]) ∧ LogPost lb { s with over := true } w w' := by
  have HL := Lib.hid hl
  obtain ⟨_, _, _, _, _, _, _, _, _, _, cc⟩ := (blk11 hl).1
  obtain ⟨_, _, _, _, _, _, _, _, _, _, ff⟩ := (blk11 hl).2
  clear hl
  go_enter Tryd.func35, Tryd.ntmps35
  go_wp2_with fail
  go_ret3
  exact ⟨rfl, LogPost.set HL.out (Below.refl _ _) 10 _ (s' := { s with over := true }) rfl⟩
set_option maxRecDepth 100000 in
set_option maxHeartbeats 2000000 in
theorem step_a (lb : Nat) (s : LogS) (f : Nat) (a : Option Addr) (ps : List Pr) (c : Nat) (w : World) (hl : w.heap[lb]? = some (.cells (logCells s) 55)) (h : (s.over || s.st == 3) = true) :
    Calls Tryd.prog 25 #[.pointer (some ⟨lb, 0, none⟩), .int .u8 f, .slice a ps.length c] w (StepPost lb (stepF s f ps) w) := by
  rw [stepF_end s f ps h]
  have HL := Lib.hid hl
  obtain ⟨c0, _, _, _, _, _, _, _, _, _, c10⟩ := (blk11 hl).1
  clear hl
  cases h1 : s.over
  · rw [h1, Bool.false_or] at h
    rw [h1] at c10
    go_enter Tryd.func25, Tryd.ntmps25
    go_wp2_with fail
    go_ret3
    exact ⟨none, 0, rfl, PairsIn.nil _ _, ⟨fun x hx => (by cases hx), fun _ => rfl⟩, LogPost.keep HL.out (Below.refl _ _)⟩
  · rw [h1] at c10
    clear h
    go_enter Tryd.func25, Tryd.ntmps25
    go_wp2_with fail
    go_ret3
    exact ⟨none, 0, rfl, PairsIn.nil _ _, ⟨fun x hx => (by cases hx), fun _ => rfl⟩, LogPost.keep HL.out (Below.refl _ _)⟩
theorem flags_1 : ∀ f : Fin 256, wrap64 (bits .and .u8 ((f.val : Int) / 4) 3) = atF f.val ∧ wrap64 (bits .and .u8 (f.val : Int) 3) = nxF f.val ∧ (bits .and .u8 (f.val : Int) 128 != 0) = trF f.val ∧ (bits .and .u8 (f.val : Int) 112 != 0) = (f.val / 16 % 8 != 0) := by decide +kernel
theorem flags_2 (f : Nat) (hf : f < 256) : wrap64 (bits .and .u8 ((f : Int) / 4) 3) = atF f ∧ wrap64 (bits .and .u8 (f : Int) 3) = nxF f ∧ (bits .and .u8 (f : Int) 128 != 0) = trF f ∧ (bits .and .u8 (f : Int) 112 != 0) = (f / 16 % 8 != 0) := flags_1 ⟨f, hf⟩
set_option maxRecDepth 100000 in
set_option maxHeartbeats 2000000 in
theorem step_b1 (lb : Nat) (s : LogS) (f : Nat) (A X : Int) (T G : Bool) (a : Option Addr) (ps : List Pr) (c : Nat) (w : World) (hl : w.heap[lb]? = some (.cells (logCells s) 55)) (h1 : s.over = false) (h2 : (s.st == 3) = false)
    (e1 : wrap64 (bits .and .u8 ((f : Int) / 4) 3) = A) (e2 : wrap64 (bits .and .u8 (f : Int) 3) = X) (e3 : (bits .and .u8 (f : Int) 128 != 0) = T) (e4 : (bits .and .u8 (f : Int) 112 != 0) = G) (g1 : G = true) :
    Calls Tryd.prog 25 #[.pointer (some ⟨lb, 0, none⟩), .int .u8 f, .slice a ps.length c] w (StepPost lb (0, [], 512, { s with over := true }) w) := by
  have HE := Lib.hid (end_any lb s 512 w hl)
  obtain ⟨c0, _, _, _, _, _, _, _, _, c9, c10⟩ := (blk11 hl).1
  rw [h1] at c10
  clear hl
  go_enter Tryd.func25, Tryd.ntmps25
  go_wp2_with fail
  refine HE.out.mono ?_
  rintro e w1 ⟨rfl, hp⟩
  have HP := Lib.hid hp
  clear hp
  dsimp only
  go_wp2_with fail
  go_ret3
  exact ⟨none, 0, rfl, PairsIn.nil _ _, ⟨fun x hx => (by cases hx), fun _ => rfl⟩, HP.out⟩
set_option maxRecDepth 100000 in
set_option maxHeartbeats 2000000 in
theorem step_b2 (lb : Nat) (s : LogS) (f : Nat) (A X : Int) (T G : Bool) (a : Option Addr) (ps : List Pr) (c : Nat) (w : World) (hl : w.heap[lb]? = some (.cells (logCells s) 55)) (h1 : s.over = false) (h2 : (s.st == 3) = false)
    (e1 : wrap64 (bits .and .u8 ((f : Int) / 4) 3) = A) (e2 : wrap64 (bits .and .u8 (f : Int) 3) = X) (e3 : (bits .and .u8 (f : Int) 128 != 0) = T) (e4 : (bits .and .u8 (f : Int) 112 != 0) = G) (g1 : G = false) (g2 : (A == 2) = true) :
    Calls Tryd.prog 25 #[.pointer (some ⟨lb, 0, none⟩), .int .u8 f, .slice a ps.length c] w (StepPost lb (0, [], 512, { s with over := true }) w) := by
  have HE := Lib.hid (end_any lb s 512 w hl)
  obtain ⟨c0, _, _, _, _, _, _, _, _, c9, c10⟩ := (blk11 hl).1
  rw [h1] at c10
  clear hl
  go_enter Tryd.func25, Tryd.ntmps25
  go_wp2_with fail
  refine HE.out.mono ?_
  rintro e w1 ⟨rfl, hp⟩
  have HP := Lib.hid hp
  clear hp
  dsimp only
  go_wp2_with fail
  go_ret3
  exact ⟨none, 0, rfl, PairsIn.nil _ _, ⟨fun x hx => (by cases hx), fun _ => rfl⟩, HP.out⟩
set_option maxRecDepth 100000 in
set_option maxHeartbeats 2000000 in
theorem step_b3 (lb : Nat) (s : LogS) (f : Nat) (A X : Int) (T G : Bool) (a : Option Addr) (ps : List Pr) (c : Nat) (w : World) (hl : w.heap[lb]? = some (.cells (logCells s) 55)) (h1 : s.over = false) (h2 : (s.st == 3) = false)
    (e1 : wrap64 (bits .and .u8 ((f : Int) / 4) 3) = A) (e2 : wrap64 (bits .and .u8 (f : Int) 3) = X) (e3 : (bits .and .u8 (f : Int) 128 != 0) = T) (e4 : (bits .and .u8 (f : Int) 112 != 0) = G) (g1 : G = false) (g2 : (A == 2) = false) (g3 : (A == 3) = true) :
    Calls Tryd.prog 25 #[.pointer (some ⟨lb, 0, none⟩), .int .u8 f, .slice a ps.length c] w (StepPost lb (0, [], 512, { s with over := true }) w) := by
  have HE := Lib.hid (end_any lb s 512 w hl)
  obtain ⟨c0, _, _, _, _, _, _, _, _, c9, c10⟩ := (blk11 hl).1
  rw [h1] at c10
  clear hl
  go_enter Tryd.func25, Tryd.ntmps25
  go_wp2_with fail
  refine HE.out.mono ?_
  rintro e w1 ⟨rfl, hp⟩
  have HP := Lib.hid hp
  clear hp
  dsimp only
  go_wp2_with fail
  go_ret3
  exact ⟨none, 0, rfl, PairsIn.nil _ _, ⟨fun x hx => (by cases hx), fun _ => rfl⟩, HP.out⟩
set_option maxRecDepth 100000 in
set_option maxHeartbeats 2000000 in
theorem step_b4 (lb : Nat) (s : LogS) (f : Nat) (A X : Int) (T G : Bool) (a : Option Addr) (ps : List Pr) (c : Nat) (w : World) (hl : w.heap[lb]? = some (.cells (logCells s) 55)) (h1 : s.over = false) (h2 : (s.st == 3) = false)
    (e1 : wrap64 (bits .and .u8 ((f : Int) / 4) 3) = A) (e2 : wrap64 (bits .and .u8 (f : Int) 3) = X) (e3 : (bits .and .u8 (f : Int) 128 != 0) = T) (e4 : (bits .and .u8 (f : Int) 112 != 0) = G) (g1 : G = false) (g2 : (A == 2) = false) (g3 : (A == 3) = false) (g4 : decide (A < s.st) = true) :
    Calls Tryd.prog 25 #[.pointer (some ⟨lb, 0, none⟩), .int .u8 f, .slice a ps.length c] w (StepPost lb (0, [], 512, { s with over := true }) w) := by
  have HE := Lib.hid (end_any lb s 512 w hl)
  obtain ⟨c0, _, _, _, _, _, _, _, _, c9, c10⟩ := (blk11 hl).1
  rw [h1] at c10
  clear hl
  go_enter Tryd.func25, Tryd.ntmps25
  go_wp2_with fail
  refine HE.out.mono ?_
  rintro e w1 ⟨rfl, hp⟩
  have HP := Lib.hid hp
  clear hp
  dsimp only
  go_wp2_with fail
  go_ret3
  exact ⟨none, 0, rfl, PairsIn.nil _ _, ⟨fun x hx => (by cases hx), fun _ => rfl⟩, HP.out⟩
set_option maxRecDepth 100000 in
set_option maxHeartbeats 2000000 in
theorem step_b5 (lb : Nat) (s : LogS) (f : Nat) (A X : Int) (T G : Bool) (a : Option Addr) (ps : List Pr) (c : Nat) (w : World) (hl : w.heap[lb]? = some (.cells (logCells s) 55)) (h1 : s.over = false) (h2 : (s.st == 3) = false)
    (e1 : wrap64 (bits .and .u8 ((f : Int) / 4) 3) = A) (e2 : wrap64 (bits .and .u8 (f : Int) 3) = X) (e3 : (bits .and .u8 (f : Int) 128 != 0) = T) (e4 : (bits .and .u8 (f : Int) 112 != 0) = G) (g1 : G = false) (g2 : (A == 2) = false) (g3 : (A == 3) = false) (g4 : decide (A < s.st) = false) (g5 : s.first = true) (g6 : (A != s.st) = true) :
    Calls Tryd.prog 25 #[.pointer (some ⟨lb, 0, none⟩), .int .u8 f, .slice a ps.length c] w (StepPost lb (0, [], 512, { s with over := true }) w) := by
  have HE := Lib.hid (end_any lb s 512 w hl)
  obtain ⟨c0, _, _, _, _, _, _, _, _, c9, c10⟩ := (blk11 hl).1
  rw [h1] at c10
  clear hl
  rw [g5] at c9
  go_enter Tryd.func25, Tryd.ntmps25
  go_wp2_with fail
  refine HE.out.mono ?_
  rintro e w1 ⟨rfl, hp⟩
  have HP := Lib.hid hp
  clear hp
  dsimp only
  go_wp2_with fail
  go_ret3
  exact ⟨none, 0, rfl, PairsIn.nil _ _, ⟨fun x hx => (by cases hx), fun _ => rfl⟩, HP.out⟩
set_option maxRecDepth 100000 in
set_option maxHeartbeats 2000000 in
theorem step_b6 (lb : Nat) (s : LogS) (f : Nat) (A X : Int) (T G : Bool) (a : Option Addr) (ps : List Pr) (c : Nat) (w : World) (hl : w.heap[lb]? = some (.cells (logCells s) 55)) (h1 : s.over = false) (h2 : (s.st == 3) = false)
    (e1 : wrap64 (bits .and .u8 ((f : Int) / 4) 3) = A) (e2 : wrap64 (bits .and .u8 (f : Int) 3) = X) (e3 : (bits .and .u8 (f : Int) 128 != 0) = T) (e4 : (bits .and .u8 (f : Int) 112 != 0) = G) (g1 : G = false) (g2 : (A == 2) = false) (g3 : (A == 3) = false) (g4 : decide (A < s.st) = false) (g5 : s.first = true) (g6 : (A != s.st) = false) (g7 : T = true) (g8 : decide (X ≤ A) = true) :
    Calls Tryd.prog 25 #[.pointer (some ⟨lb, 0, none⟩), .int .u8 f, .slice a ps.length c] w (StepPost lb (0, [], 512, { s with over := true }) w) := by
  have HE := Lib.hid (end_any lb s 512 w hl)
  obtain ⟨c0, _, _, _, _, _, _, _, _, c9, c10⟩ := (blk11 hl).1
  rw [h1] at c10
  clear hl
  rw [g5] at c9
  go_enter Tryd.func25, Tryd.ntmps25
  go_wp2_with fail
  refine HE.out.mono ?_
  rintro e w1 ⟨rfl, hp⟩
  have HP := Lib.hid hp
  clear hp
  dsimp only
  go_wp2_with fail
  go_ret3
  exact ⟨none, 0, rfl, PairsIn.nil _ _, ⟨fun x hx => (by cases hx), fun _ => rfl⟩, HP.out⟩
set_option maxRecDepth 100000 in
set_option maxHeartbeats 2000000 in
theorem step_b7 (lb : Nat) (s : LogS) (f : Nat) (A X : Int) (T G : Bool) (a : Option Addr) (ps : List Pr) (c : Nat) (w : World) (hl : w.heap[lb]? = some (.cells (logCells s) 55)) (h1 : s.over = false) (h2 : (s.st == 3) = false)
    (e1 : wrap64 (bits .and .u8 ((f : Int) / 4) 3) = A) (e2 : wrap64 (bits .and .u8 (f : Int) 3) = X) (e3 : (bits .and .u8 (f : Int) 128 != 0) = T) (e4 : (bits .and .u8 (f : Int) 112 != 0) = G) (g1 : G = false) (g2 : (A == 2) = false) (g3 : (A == 3) = false) (g4 : decide (A < s.st) = false) (g5 : s.first = true) (g6 : (A != s.st) = false) (g7 : T = true) (g8 : decide (X ≤ A) = false) (g9 : (X == 2) = true) :
    Calls Tryd.prog 25 #[.pointer (some ⟨lb, 0, none⟩), .int .u8 f, .slice a ps.length c] w (StepPost lb (0, [], 512, { s with over := true }) w) := by
  have HE := Lib.hid (end_any lb s 512 w hl)
  obtain ⟨c0, _, _, _, _, _, _, _, _, c9, c10⟩ := (blk11 hl).1
  rw [h1] at c10
  clear hl
  rw [g5] at c9
  go_enter Tryd.func25, Tryd.ntmps25
  go_wp2_with fail
  refine HE.out.mono ?_
  rintro e w1 ⟨rfl, hp⟩
  have HP := Lib.hid hp
  clear hp
  dsimp only
  go_wp2_with fail
  go_ret3
  exact ⟨none, 0, rfl, PairsIn.nil _ _, ⟨fun x hx => (by cases hx), fun _ => rfl⟩, HP.out⟩
set_option maxRecDepth 100000 in
set_option maxHeartbeats 2000000 in
theorem step_b8 (lb : Nat) (s : LogS) (f : Nat) (A X : Int) (T G : Bool) (a : Option Addr) (ps : List Pr) (c : Nat) (w : World) (hl : w.heap[lb]? = some (.cells (logCells s) 55)) (h1 : s.over = false) (h2 : (s.st == 3) = false)
    (e1 : wrap64 (bits .and .u8 ((f : Int) / 4) 3) = A) (e2 : wrap64 (bits .and .u8 (f : Int) 3) = X) (e3 : (bits .and .u8 (f : Int) 128 != 0) = T) (e4 : (bits .and .u8 (f : Int) 112 != 0) = G) (g1 : G = false) (g2 : (A == 2) = false) (g3 : (A == 3) = false) (g4 : decide (A < s.st) = false) (g5 : s.first = true) (g6 : (A != s.st) = false) (g7 : T = false) (g8 : (X != 0) = true) :
    Calls Tryd.prog 25 #[.pointer (some ⟨lb, 0, none⟩), .int .u8 f, .slice a ps.length c] w (StepPost lb (0, [], 512, { s with over := true }) w) := by
  have HE := Lib.hid (end_any lb s 512 w hl)
  obtain ⟨c0, _, _, _, _, _, _, _, _, c9, c10⟩ := (blk11 hl).1
  rw [h1] at c10
  clear hl
  rw [g5] at c9
  go_enter Tryd.func25, Tryd.ntmps25
  go_wp2_with fail
  refine HE.out.mono ?_
  rintro e w1 ⟨rfl, hp⟩
  have HP := Lib.hid hp
  clear hp
  dsimp only
  go_wp2_with fail
  go_ret3
  exact ⟨none, 0, rfl, PairsIn.nil _ _, ⟨fun x hx => (by cases hx), fun _ => rfl⟩, HP.out⟩
set_option maxRecDepth 100000 in
set_option maxHeartbeats 2000000 in
theorem step_b9 (lb : Nat) (s : LogS) (f : Nat) (A X : Int) (T G : Bool) (a : Option Addr) (ps : List Pr) (c : Nat) (w : World) (hl : w.heap[lb]? = some (.cells (logCells s) 55)) (h1 : s.over = false) (h2 : (s.st == 3) = false)
    (e1 : wrap64 (bits .and .u8 ((f : Int) / 4) 3) = A) (e2 : wrap64 (bits .and .u8 (f : Int) 3) = X) (e3 : (bits .and .u8 (f : Int) 128 != 0) = T) (e4 : (bits .and .u8 (f : Int) 112 != 0) = G) (g1 : G = false) (g2 : (A == 2) = false) (g3 : (A == 3) = false) (g4 : decide (A < s.st) = false) (g5 : s.first = false) (g7 : T = true) (g8 : decide (X ≤ A) = true) :
    Calls Tryd.prog 25 #[.pointer (some ⟨lb, 0, none⟩), .int .u8 f, .slice a ps.length c] w (StepPost lb (0, [], 512, { s with over := true }) w) := by
  have HE := Lib.hid (end_any lb s 512 w hl)
  obtain ⟨c0, _, _, _, _, _, _, _, _, c9, c10⟩ := (blk11 hl).1
  rw [h1] at c10
  clear hl
  rw [g5] at c9
  go_enter Tryd.func25, Tryd.ntmps25
  go_wp2_with fail
  refine HE.out.mono ?_
  rintro e w1 ⟨rfl, hp⟩
  have HP := Lib.hid hp
  clear hp
  dsimp only
  go_wp2_with fail
  go_ret3
  exact ⟨none, 0, rfl, PairsIn.nil _ _, ⟨fun x hx => (by cases hx), fun _ => rfl⟩, HP.out⟩
set_option maxRecDepth 100000 in
set_option maxHeartbeats 2000000 in
theorem step_b10 (lb : Nat) (s : LogS) (f : Nat) (A X : Int) (T G : Bool) (a : Option Addr) (ps : List Pr) (c : Nat) (w : World) (hl : w.heap[lb]? = some (.cells (logCells s) 55)) (h1 : s.over = false) (h2 : (s.st == 3) = false)
    (e1 : wrap64 (bits .and .u8 ((f : Int) / 4) 3) = A) (e2 : wrap64 (bits .and .u8 (f : Int) 3) = X) (e3 : (bits .and .u8 (f : Int) 128 != 0) = T) (e4 : (bits .and .u8 (f : Int) 112 != 0) = G) (g1 : G = false) (g2 : (A == 2) = false) (g3 : (A == 3) = false) (g4 : decide (A < s.st) = false) (g5 : s.first = false) (g7 : T = true) (g8 : decide (X ≤ A) = false) (g9 : (X == 2) = true) :
    Calls Tryd.prog 25 #[.pointer (some ⟨lb, 0, none⟩), .int .u8 f, .slice a ps.length c] w (StepPost lb (0, [], 512, { s with over := true }) w) := by
  have HE := Lib.hid (end_any lb s 512 w hl)
  obtain ⟨c0, _, _, _, _, _, _, _, _, c9, c10⟩ := (blk11 hl).1
  rw [h1] at c10
  clear hl
  rw [g5] at c9
  go_enter Tryd.func25, Tryd.ntmps25
  go_wp2_with fail
  refine HE.out.mono ?_
  rintro e w1 ⟨rfl, hp⟩
  have HP := Lib.hid hp
  clear hp
  dsimp only
  go_wp2_with fail
  go_ret3
  exact ⟨none, 0, rfl, PairsIn.nil _ _, ⟨fun x hx => (by cases hx), fun _ => rfl⟩, HP.out⟩
set_option maxRecDepth 100000 in
set_option maxHeartbeats 2000000 in
theorem step_b11 (lb : Nat) (s : LogS) (f : Nat) (A X : Int) (T G : Bool) (a : Option Addr) (ps : List Pr) (c : Nat) (w : World) (hl : w.heap[lb]? = some (.cells (logCells s) 55)) (h1 : s.over = false) (h2 : (s.st == 3) = false)
    (e1 : wrap64 (bits .and .u8 ((f : Int) / 4) 3) = A) (e2 : wrap64 (bits .and .u8 (f : Int) 3) = X) (e3 : (bits .and .u8 (f : Int) 128 != 0) = T) (e4 : (bits .and .u8 (f : Int) 112 != 0) = G) (g1 : G = false) (g2 : (A == 2) = false) (g3 : (A == 3) = false) (g4 : decide (A < s.st) = false) (g5 : s.first = false) (g7 : T = false) (g8 : (X != 0) = true) :
    Calls Tryd.prog 25 #[.pointer (some ⟨lb, 0, none⟩), .int .u8 f, .slice a ps.length c] w (StepPost lb (0, [], 512, { s with over := true }) w) := by
  have HE := Lib.hid (end_any lb s 512 w hl)
  obtain ⟨c0, _, _, _, _, _, _, _, _, c9, c10⟩ := (blk11 hl).1
  rw [h1] at c10
  clear hl
  rw [g5] at c9
  go_enter Tryd.func25, Tryd.ntmps25
  go_wp2_with fail
  refine HE.out.mono ?_
  rintro e w1 ⟨rfl, hp⟩
  have HP := Lib.hid hp
  clear hp
  dsimp only
  go_wp2_with fail
  go_ret3
  exact ⟨none, 0, rfl, PairsIn.nil _ _, ⟨fun x hx => (by cases hx), fun _ => rfl⟩, HP.out⟩
theorem step_b (lb : Nat) (s : LogS) (f : Nat) (hf : f < 256) (a : Option Addr) (ps : List Pr) (c : Nat) (w : World) (hl : w.heap[lb]? = some (.cells (logCells s) 55)) (h1 : s.over = false) (h2 : (s.st == 3) = false) (h3 : badF s f = true) :
    Calls Tryd.prog 25 #[.pointer (some ⟨lb, 0, none⟩), .int .u8 f, .slice a ps.length c] w (StepPost lb (stepF s f ps) w) := by
  have HS : stepF s f ps = (0, [], 512, { s with over := true }) := by unfold stepF; rw [h1, h2, h3]; rfl
  rw [HS]
  obtain ⟨e1, e2, e3, e4⟩ := flags_2 f hf
  unfold badF at h3
  cases g1 : (f / 16 % 8 != 0)
  case true => exact step_b1 lb s f _ _ _ _ a ps c w hl h1 h2 e1 e2 e3 e4 g1
  cases g2 : (atF f == 2)
  case true => exact step_b2 lb s f _ _ _ _ a ps c w hl h1 h2 e1 e2 e3 e4 g1 g2
  cases g3 : (atF f == 3)
  case true => exact step_b3 lb s f _ _ _ _ a ps c w hl h1 h2 e1 e2 e3 e4 g1 g2 g3
  cases g4 : decide (atF f < s.st)
  case true => exact step_b4 lb s f _ _ _ _ a ps c w hl h1 h2 e1 e2 e3 e4 g1 g2 g3 g4
  rw [g1, g2, g3, g4] at h3
  rcases Bool.eq_false_or_eq_true s.first with g5 | g5
  · cases g6 : (atF f != s.st)
    case true => exact step_b5 lb s f _ _ _ _ a ps c w hl h1 h2 e1 e2 e3 e4 g1 g2 g3 g4 g5 g6
    rw [g5, g6] at h3
    cases g7 : trF f
    case true =>
      cases g8 : decide (nxF f ≤ atF f)
      case true => exact step_b6 lb s f _ _ _ _ a ps c w hl h1 h2 e1 e2 e3 e4 g1 g2 g3 g4 g5 g6 g7 g8
      rw [g7, g8] at h3
      exact step_b7 lb s f _ _ _ _ a ps c w hl h1 h2 e1 e2 e3 e4 g1 g2 g3 g4 g5 g6 g7 g8 (by simpa using h3)
    rw [g7] at h3
    exact step_b8 lb s f _ _ _ _ a ps c w hl h1 h2 e1 e2 e3 e4 g1 g2 g3 g4 g5 g6 g7 (by simpa using h3)
  · rw [g5] at h3
    cases g7 : trF f
    case true =>
      cases g8 : decide (nxF f ≤ atF f)
      case true => exact step_b9 lb s f _ _ _ _ a ps c w hl h1 h2 e1 e2 e3 e4 g1 g2 g3 g4 g5 g7 g8
      rw [g7, g8] at h3
      exact step_b10 lb s f _ _ _ _ a ps c w hl h1 h2 e1 e2 e3 e4 g1 g2 g3 g4 g5 g7 g8 (by simpa using h3)
    rw [g7] at h3
    exact step_b11 lb s f _ _ _ _ a ps c w hl h1 h2 e1 e2 e3 e4 g1 g2 g3 g4 g5 g7 (by simpa using h3)
end Go.Proofs.YtnicmfboomibjaaDoor
