/- The law's lists compared; a book's commit and undo; a new depot and the document's, alike. -/
import Derived.Test.YtajmcplanlibnaaGreatDoorKU6
set_option linter.unusedSimpArgs false
set_option linter.unusedVariables false
set_option linter.unnecessarySimpa false
namespace Go.Proofs.YtajmcplanlibnaaGreatDoor
open Go.RowKit Go.Maps
/-- A list of numbers that came out of a call. -/
def NatsIn (w : World) (a : Option Addr) (l : List Nat) : Prop := IntsIn w a (l.map fun i : Nat => (i : Int))
theorem NatsIn.of_own {w : World} {base : Nat} {a : Option Addr} {cap : Nat} {l : List Nat} (h : w.ownsRow base 3 1 (.slice a l.length cap) l.length (intsN l)) : NatsIn w a l := by
  unfold NatsIn
  have e : intsN l = (l.map fun i : Nat => (i : Int)).map (Value.int .i64) := by unfold intsN; rw [List.map_map]; rfl
  rw [e] at h
  exact IntsIn.of_own (cap := cap) (by rw [List.length_map]; exact h)
set_option maxRecDepth 100000 in
set_option maxHeartbeats 4000000 in
theorem ints_same (a b : Option Addr) (l : List Nat) (c d : Nat) (w : World) (hl : l.length ≤ 4) (ha : NatsIn w a l) (hb : NatsIn w b l) :
    Calls Tryz.prog 119 #[.slice a l.length c, .slice b l.length d] w fun e w' => e = .returned (.bool true) ∧ Below w.heap.size w w' := by
  have HA := Lib.hid ha; clear ha
  have HB := Lib.hid hb; clear hb
  have hll : (l.length : Int) ≤ 4 := by omega
  go_enter Tryz.func119, Tryz.ntmps119
  go_wp2_with fail
  go_loopw [5] (fun i wr => ∃ k : Nat, k ≤ l.length ∧ i = .int .i64 (k : Int) ∧ Hid (Below w.heap.size w wr)) (fun i _ => l.length + 1 - (intOf i).toNat)
  case atStart => exact ⟨0, Nat.zero_le _, rfl, Lib.hid (Below.refl _ _)⟩
  case round =>
    obtain ⟨k, hk, rfl, hbel⟩ := hrel
    have hi0 : (0 : Int) ≤ k := by omega
    by_cases hlt : k < l.length
    · have hlm : k < (l.map fun i : Nat => (i : Int)).length := by rw [List.length_map]; exact hlt
      obtain ⟨b1, off, rfl, hb1, c1, cur1, _⟩ := HA.out k hlm
      obtain ⟨b2, off2, rfl, hb2, c2, cur2, _⟩ := HB.out k hlm
      have d1 := (hbel.out.cell (p := ⟨b1, off + k, none⟩) hb1).trans c1
      have d2 := (hbel.out.cell (p := ⟨b2, off2 + k, none⟩) hb2).trans c2
      generalize (l.map fun i : Nat => (i : Int))[k] = x at d1 d2
      have hi1 : (k : Int) < l.length := by omega
      have hxx : (x != x) = false := by simp
      clear c1 c2 hlm
      have HB1 := hbel.out
      go_wp2_with fail
      go_quiet (fail)
      go_wp2_with fail
      exact ⟨⟨k + 1, by omega, by push_cast; rfl, Lib.hid (below_dN HB1 nq)⟩, by simp [intOf]; omega⟩
    · have hi1 : ¬ ((k : Int) < l.length) := by omega
      go_wp2_with fail
      go_ret
      exact ⟨rfl, hbel.out⟩
/-- The law's state of both: the program's depot and the document's. -/
def BoI (g : Geo) (N : Nat → Prop) (tb bb mb sb qb n k c : Nat) (st : Nat → Int) (blk : Nat → List Int) (w : World) : Prop :=
  DepS g N tb bb n k c st blk w ∧ RefI mb sb qb n st blk w ∧ N mb ∧ N sb ∧ N qb
section
variable {g : Geo} {N : Nat → Prop} {tb bb mb sb qb n k c : Nat} {st : Nat → Int} {blk : Nat → List Int} {w : World}
theorem BoI.below {w' : World} (h : BoI g N tb bb mb sb qb n k c st blk w) (hb : Below w.heap.size w w') : BoI g N tb bb mb sb qb n k c st blk w' :=
  ⟨h.1.below hb, h.2.1.below hb, h.2.2⟩
theorem BoI.turn {w' : World} {k' c' : Nat} (h : BoI g N tb bb mb sb qb n k c st blk w) (hd : DepS g N tb bb n k' c' st blk w') (hk : Keeps N w w') : BoI g N tb bb mb sb qb n k' c' st blk w' :=
  ⟨hd, h.2.1.keeps hk h.2.2.1 h.2.2.2.1 h.2.2.2.2, h.2.2⟩
/-- The depot's turn is done; the document's is next. -/
theorem RefI.next {w' : World} (h : RefI mb sb qb n st blk w) (hk : Keeps N w w') (hm : N mb) (hs : N sb) (hq : N qb) : RefI mb sb qb n st blk w' := h.keeps hk hm hs hq
/-- What the document's depot changes is none of the depot's. -/
theorem DepS.ref {w' : World} (h : DepS g N tb bb n k c st blk w) (hk : Keeps (NRf sb qb) w w') (hs : N sb) (hq : N qb) : DepS g N tb bb n k c st blk w' :=
  h.grow (hk.mono (fun i _ hi => ⟨fun e => hi (e ▸ hs), fun e => hi (e ▸ hq)⟩)) (fun i hi => ⟨Nat.lt_of_lt_of_le (h.N_lt i hi) hk.size, .inl hi⟩)
end
set_option maxRecDepth 100000 in
set_option maxHeartbeats 4000000 in
theorem alike_any (g : Geo) (N : Nat → Prop) (tb bb mb sb qb n k c : Nat) (st : Nat → Int) (blk : Nat → List Int) (w : World) (h : BoI g N tb bb mb sb qb n k c st blk w) :
    Calls Tryz.prog 48 #[.pointer (some ⟨tb, 0, none⟩), .pointer (some ⟨mb, 0, none⟩)] w fun e w' => e = .returned (.bool true) ∧ Below w.heap.size w w' := by
  have HB := Lib.hid (fun wx (hb : Below w.heap.size w wx) => h.below hb)
  have hn := h.2.1.lt
  have hCn := dep_count h.1
  have HW := Lib.hid (fun wx (hb : Below w.heap.size w wx) => dep_worst (h.below hb).1)
  have HRW := Lib.hid (fun wx (hb : Below w.heap.size w wx) => refWorst_any wx (h.below hb).2.1)
  have HC1 := Lib.hid (fun wx (hb : Below w.heap.size w wx) => refCount_any (-1) 1 wx (h.below hb).2.1)
  have HC2 := Lib.hid (fun wx (hb : Below w.heap.size w wx) => refCount_any (-1) 2 wx (h.below hb).2.1)
  have HC0 := Lib.hid (fun wx (hb : Below w.heap.size w wx) => refCount_any (-1) 0 wx (h.below hb).2.1)
  rw [cntR_all st (-1) 1 (by decide)] at HC1
  rw [cntR_all st (-1) 2 (by decide)] at HC2
  rw [cntR_all st (-1) 0 (by decide)] at HC0
  have HSL := Lib.hid (fun wx (hb : Below w.heap.size w wx) (b : Nat) (hb' : b < n) => dep_slots hb' (h.below hb).1)
  have HRS := Lib.hid (fun wx (hb : Below w.heap.size w wx) (b : Nat) (hb' : b < n) => refSlots_any b hb' wx (h.below hb).2.1)
  generalize cntS st 1 (n * 4) = x1 at hCn HC1
  generalize cntS st 2 (n * 4) = x2 at hCn HC2
  generalize cntS st 0 (n * 4) = x0 at hCn HC0
  generalize (worstR (boxS st) n).1 = y1 at HW HRW
  generalize (worstR (boxS st) n).2 = y2 at HW HRW
  clear h
  go_enter Tryz.func48, Tryz.ntmps48
  go_wp2_with fail
  refine hCn.mono ?_
  clear hCn
  rintro e w1 ⟨rfl, hb1⟩
  have H1 := Lib.hid hb1
  clear hb1
  try dsimp only
  go_wp2_with fail
  refine (HW.out w1 H1.out).mono ?_
  rintro e w2 ⟨rfl, hb2⟩
  have H2 := Lib.hid (H1.out.trans (hb2.mono H1.out.size))
  clear hb2 HW H1
  try dsimp only
  go_wp2_with fail
  refine (HRW.out w2 H2.out).mono ?_
  rintro e w3 ⟨rfl, rfl⟩
  clear HRW
  try dsimp only
  go_wp2_with fail
  refine (HC1.out w2 H2.out).mono ?_
  rintro e w3 ⟨rfl, rfl⟩
  try dsimp only
  have e1 : ((x1 : Int) != (x1 : Int)) = false := by simp
  have e2 : ((x2 : Int) != (x2 : Int)) = false := by simp
  have e0 : ((x0 : Int) != (x0 : Int)) = false := by simp
  have e3 : ((y1 : Int) != (y1 : Int)) = false := by simp
  have e4 : ((y2 : Int) != (y2 : Int)) = false := by simp
  go_wp2_with fail
  refine (HC2.out w2 H2.out).mono ?_
  rintro e w3 ⟨rfl, rfl⟩
  try dsimp only
  go_wp2_with fail
  refine (HC0.out w2 H2.out).mono ?_
  rintro e w3 ⟨rfl, rfl⟩
  clear HC0 HC1 HC2
  obtain ⟨z0, z1⟩ := ref_cells (HB.out w2 H2.out).2.1.cells
  try dsimp only
  go_wp2_with fail
  clear z0 z1 e1 e2 e0 e3 e4
  go_loopw [75] (fun iv wr => ∃ i : Nat, iv = .int .i64 (i : Int) ∧ i ≤ n ∧ Hid (Below w.heap.size w wr)) (fun iv _ => n + 1 - (intOf iv).toNat)
  case atStart => exact ⟨0, rfl, by omega, H2⟩
  case round =>
    clear H2
    obtain ⟨i, rfl, hi, HX⟩ := hrel
    have hi0 : (0 : Int) ≤ i := by omega
    by_cases hlt : i < n
    · have hi1 : (i : Int) < n := by omega
      have hSi := HSL.out wr HX.out i hlt
      have HRi := Lib.hid (fun wx (hb : Below w.heap.size w wx) => HRS.out wx hb i hlt)
      have HL4 := Lib.hid (slots4_le (boxS st i) i 4)
      generalize slots4 (boxS st i) i 4 = l at hSi HRi HL4
      go_wp2_with fail
      refine hSi.mono ?_
      clear hSi
      rintro e w3 ⟨⟨a, c, rfl, ho⟩, hb3⟩
      have H3 : Hid (NatsIn w3 a l ∧ Below w.heap.size w w3) := Lib.hid ⟨NatsIn.of_own ho, HX.out.trans (hb3.mono HX.out.size)⟩
      clear ho hb3 HX
      try dsimp only
      go_wp2_with fail
      refine (HRi.out w3 H3.out.2).mono ?_
      rintro e w4 ⟨⟨a', c', rfl, ho⟩, hb4⟩
      have H4 : Hid (NatsIn w4 a l ∧ NatsIn w4 a' l ∧ Below w.heap.size w w4) := Lib.hid ⟨IntsIn.below H3.out.1 hb4, NatsIn.of_own ho, H3.out.2.trans (hb4.mono H3.out.2.size)⟩
      clear ho hb4 H3 HRi
      try dsimp only
      go_wp2_with fail
      refine (ints_same a a' l c c' w4 HL4.out H4.out.1 H4.out.2.1).mono ?_
      rintro e w5 ⟨rfl, hb5⟩
      have H5 := Lib.hid (H4.out.2.2.trans (hb5.mono H4.out.2.2.size))
      clear hb5 H4 HL4
      try dsimp only
      go_wp2_with fail
      exact ⟨⟨i + 1, by push_cast; rfl, by omega, H5⟩, by simp [intOf]; omega⟩
    · have hi1 : ¬ ((i : Int) < n) := by omega
      clear hlt hi
      go_wp2_with fail
      go_ret
      exact ⟨rfl, HX.out⟩
end Go.Proofs.YtajmcplanlibnaaGreatDoor
