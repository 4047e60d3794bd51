/- The document's depot in memory; what it answers. -/
import Derived.Test.YtajmcplanlibnaaGreatDoorKU1
set_option linter.unusedSimpArgs false
set_option linter.unusedVariables false
set_option linter.unnecessarySimpa false
namespace Go.Proofs.YtajmcplanlibnaaGreatDoor
open Go.RowKit Go.Maps
def refC (sb qb n : Nat) : Array Value := #[.slice (some ⟨sb, 0, none⟩) (n * 4) (n * 4), .slice (some ⟨qb, 0, none⟩) (n * 4) (n * 4)]
def stRow (st : Nat → Int) (n : Nat) : Array Value := .mk ((List.range (n * 4)).map fun s => .int .i64 (st s))
def pgRows (blk : Nat → List Int) (n : Nat) : List (List Int) := (List.range (n * 4)).map blk
/-- The document's depot: block mb; the states, the pages. -/
structure RefI (mb sb qb n : Nat) (st : Nat → Int) (blk : Nat → List Int) (w : World) : Prop where
  cells : w.heap[mb]? = some (.cells (refC sb qb n) 98)
  st : w.heap[sb]? = some (.cells (stRow st n) 3)
  pg : w.heap[qb]? = some (.cells (v8a (pgRows blk n).flatten) 37)
  ok : ∀ s, s < n * 4 → PgOk (blk s)
  lt : n ≤ 64
theorem RefI.below {mb sb qb n : Nat} {st : Nat → Int} {blk : Nat → List Int} {w w' : World} (h : RefI mb sb qb n st blk w) (hb : Below w.heap.size w w') : RefI mb sb qb n st blk w' :=
  ⟨(hb.block _ (lt_of_blk h.cells)).trans h.cells, (hb.block _ (lt_of_blk h.st)).trans h.st, (hb.block _ (lt_of_blk h.pg)).trans h.pg, h.ok, h.lt⟩
theorem RefI.keeps {N : Nat → Prop} {mb sb qb n : Nat} {st : Nat → Int} {blk : Nat → List Int} {w w' : World} (h : RefI mb sb qb n st blk w) (hk : Keeps N w w') (h1 : N mb) (h2 : N sb) (h3 : N qb) : RefI mb sb qb n st blk w' :=
  ⟨(hk.block _ (lt_of_blk h.cells) h1).trans h.cells, (hk.block _ (lt_of_blk h.st) h2).trans h.st, (hk.block _ (lt_of_blk h.pg) h3).trans h.pg, h.ok, h.lt⟩
theorem stRow_get (st : Nat → Int) (n s : Nat) (hs : s < n * 4) : (stRow st n)[s]? = some (.int .i64 (st s)) := by
  unfold stRow
  simp [hs]
theorem st_cell {w : World} {sb n T : Nat} {st : Nat → Int} (h : w.heap[sb]? = some (.cells (stRow st n) T)) (s : Nat) (hs : s < n * 4) : w.cell? ⟨sb, s, none⟩ = some (.int .i64 (st s)) ∧ w.frozen? ⟨sb, s, none⟩ = false := by
  refine ⟨by rw [cell_of_row w sb s _ T (0, 0) h]; exact stRow_get st n s hs, ?_⟩
  simp [World.frozen?, h]
theorem st_set {w : World} {sb n T : Nat} {st : Nat → Int} (h : w.heap[sb]? = some (.cells (stRow st n) T)) (s : Nat) (v : Int) : (w.setCell ⟨sb, s, none⟩ (.int .i64 v)).heap[sb]? = some (.cells (stRow (stSet st s v) n) T) := by
  rw [set_blk h]
  congr 2
  unfold stRow stSet
  simp only [List.setIfInBounds_toArray]
  congr 1
  refine List.ext_getElem? (fun i => ?_)
  rw [List.getElem?_set]
  simp only [List.getElem?_map, List.length_map, List.length_range]
  by_cases e : s = i
  · subst e
    rw [if_pos rfl]
    split
    · rename_i hl
      simp [hl]
    · rename_i hl
      rw [List.getElem?_eq_none (by simpa using hl)]; rfl
  · rw [if_neg e]
    cases hg : (List.range (n * 4))[i]? with
    | none => rfl
    | some j =>
      have : j = i := by
        have h2 := List.getElem?_eq_some_iff.1 hg
        obtain ⟨h3, h4⟩ := h2
        rw [List.getElem_range] at h4; exact h4.symm
      subst this
      simp only [Option.map_some]
      rw [if_neg (fun h => e h.symm)]
theorem ref_cells {w : World} {mb sb qb n T : Nat} (h : w.heap[mb]? = some (.cells (refC sb qb n) T)) : w.cell? ⟨mb, 0, none⟩ = some (.slice (some ⟨sb, 0, none⟩) (n * 4) (n * 4)) ∧ w.cell? ⟨mb, 1, none⟩ = some (.slice (some ⟨qb, 0, none⟩) (n * 4) (n * 4)) := by
  simp [World.cell?, h, refC]
section
variable {mb sb qb n : Nat} {st : Nat → Int} {blk : Nat → List Int}
set_option maxRecDepth 100000 in
set_option maxHeartbeats 2000000 in
theorem refCount_any (box v : Int) (w : World) (h : RefI mb sb qb n st blk w) :
    Calls Tryz.prog 117 #[.pointer (some ⟨mb, 0, none⟩), .int .i64 box, .int .i64 v] w fun e w' => e = .returned (.int .i64 (cntR st box v (n * 4) : Nat)) ∧ w = w' := by
  obtain ⟨z0, z1⟩ := ref_cells h.cells
  have hST := Lib.hid (fun s hs => st_cell h.st s hs)
  have hn := h.lt
  clear h
  go_enter Tryz.func117, Tryz.ntmps117
  go_wp2_with fail
  go_loopw [7, 8] (fun cv iv wr => ∃ i c : Nat, iv = .int .i64 (i : Int) ∧ i ≤ n * 4 ∧ cv = .int .i64 (c : Int) ∧ Hid (cntR st box v i = c) ∧ wr = w) (fun _ iv _ => n * 4 + 1 - (intOf iv).toNat)
  case atStart => exact ⟨0, 0, rfl, by omega, rfl, Lib.hid rfl, rfl⟩
  case round =>
    obtain ⟨i, c, rfl, hi, rfl, HC, rfl⟩ := hrel
    have hcl : c ≤ 256 := by have h := cntR_le st box v i; rw [HC.out] at h; omega
    by_cases hlt : i < n * 4
    · have hi1 : (i : Int) < n * 4 := by omega
      have hi0 : (0 : Int) ≤ i := by omega
      obtain ⟨c0, f0⟩ := hST.out i hlt
      have HS : Hid (cntR st box v (i + 1) = c + if (box < 0 ∨ (i : Int) / 4 = box) ∧ st i = v then 1 else 0) := Lib.hid (by rw [cntR, HC.out]; rfl)
      generalize st i = s at c0 HS
      by_cases q1 : box < 0
      · by_cases q2 : s = v
        · rw [if_pos ⟨.inl q1, q2⟩] at HS
          have q2' : (s == v) = true := by simp [q2]
          clear q2
          go_wp2_with fail
          exact ⟨⟨i + 1, c + 1, by push_cast; rfl, by omega, by push_cast; rfl, HS, (by first | trivial | rfl)⟩, by simp [intOf]; omega⟩
        · rw [if_neg (fun h => q2 h.2)] at HS
          go_wp2_with fail
          exact ⟨⟨i + 1, c, by push_cast; rfl, by omega, rfl, HS, (by first | trivial | rfl)⟩, by simp [intOf]; omega⟩
      · by_cases q3 : (i : Int) / 4 = box
        · have q3' : ((i : Int) / 4 == box) = true := by simp [q3]
          by_cases q2 : s = v
          · rw [if_pos ⟨.inr q3, q2⟩] at HS
            have q2' : (s == v) = true := by simp [q2]
            clear q2 q3
            go_wp2_with fail
            exact ⟨⟨i + 1, c + 1, by push_cast; rfl, by omega, by push_cast; rfl, HS, (by first | trivial | rfl)⟩, by simp [intOf]; omega⟩
          · rw [if_neg (fun h => q2 h.2)] at HS
            clear q3
            go_wp2_with fail
            exact ⟨⟨i + 1, c, by push_cast; rfl, by omega, rfl, HS, (by first | trivial | rfl)⟩, by simp [intOf]; omega⟩
        · rw [if_neg (fun h => h.1.elim q1 q3)] at HS
          go_wp2_with fail
          exact ⟨⟨i + 1, c, by push_cast; rfl, by omega, rfl, HS, (by first | trivial | rfl)⟩, by simp [intOf]; omega⟩
    · have hi1 : ¬ ((i : Int) < n * 4) := by omega
      have HIN : Hid (i = n * 4) := Lib.hid (by omega)
      clear hlt hi
      go_wp2_with fail
      go_ret
      have h := HC.out
      rw [HIN.out] at h
      rw [h]
      exact ⟨rfl, by first | trivial | rfl⟩
set_option maxRecDepth 100000 in
set_option maxHeartbeats 2000000 in
theorem refRoom_any (but : Int) (w : World) (h : RefI mb sb qb n st blk w) :
    Calls Tryz.prog 106 #[.pointer (some ⟨mb, 0, none⟩), .int .i64 but] w fun e w' => e = .returned (.bool (roomR st but (n * 4))) ∧ w = w' := by
  obtain ⟨z0, z1⟩ := ref_cells h.cells
  have hST := Lib.hid (fun s hs => st_cell h.st s hs)
  have hn := h.lt
  clear h
  go_enter Tryz.func106, Tryz.ntmps106
  go_wp2_with fail
  go_loopw [5] (fun iv wr => ∃ i : Nat, iv = .int .i64 (i : Int) ∧ i ≤ n * 4 ∧ Hid (roomR st but i = false) ∧ wr = w) (fun iv _ => n * 4 + 1 - (intOf iv).toNat)
  case atStart => exact ⟨0, rfl, by omega, Lib.hid rfl, rfl⟩
  case round =>
    obtain ⟨i, rfl, hi, HC, rfl⟩ := hrel
    by_cases hlt : i < n * 4
    · have hi1 : (i : Int) < n * 4 := by omega
      have hi0 : (0 : Int) ≤ i := by omega
      obtain ⟨c0, f0⟩ := hST.out i hlt
      have HS : Hid (roomR st but (i + 1) = (decide (st i = 0) && decide ((i : Int) / 4 ≠ but))) := Lib.hid (by rw [roomR_succ, HC.out]; rfl)
      have HR : Hid (st i = 0 → (i : Int) / 4 ≠ but → roomR st but (n * 4) = true) := Lib.hid (fun h1 h2 => (roomR_iff _ _ _).2 ⟨i, hlt, h1, h2⟩)
      generalize st i = s at c0 HS HR
      by_cases q1 : s = 0
      · subst q1
        by_cases q3 : (i : Int) / 4 = but
        · have hs := HS.out
          have q3' : ((i : Int) / 4 != but) = false := by simp [q3]
          have hs2 : Hid (roomR st but (i + 1) = false) := Lib.hid (by rw [hs]; simp [q3])
          clear q3 hs
          go_wp2_with fail
          exact ⟨⟨i + 1, by push_cast; rfl, by omega, hs2, (by first | trivial | rfl)⟩, by simp [intOf]; omega⟩
        · have hr := HR.out rfl q3
          have HRR := Lib.hid hr
          clear hr
          go_wp2_with fail
          go_ret
          rw [HRR.out]
          exact ⟨rfl, by first | trivial | rfl⟩
      · have hs2 : Hid (roomR st but (i + 1) = false) := Lib.hid (by rw [HS.out]; simp [q1])
        go_wp2_with fail
        exact ⟨⟨i + 1, by push_cast; rfl, by omega, hs2, (by first | trivial | rfl)⟩, by simp [intOf]; omega⟩
    · have hi1 : ¬ ((i : Int) < n * 4) := by omega
      have HIN : Hid (i = n * 4) := Lib.hid (by omega)
      clear hlt hi
      go_wp2_with fail
      go_ret
      have h := HC.out
      rw [HIN.out] at h
      rw [h]
      exact ⟨rfl, by first | trivial | rfl⟩
set_option maxRecDepth 100000 in
set_option maxHeartbeats 2000000 in
theorem refWorst_any (w : World) (h : RefI mb sb qb n st blk w) :
    Calls Tryz.prog 116 #[.pointer (some ⟨mb, 0, none⟩)] w fun e w' => e = .returned (.tuple #[.int .i64 ((worstR (boxS st) n).1 : Nat), .int .i64 ((worstR (boxS st) n).2 : Nat)]) ∧ w = w' := by
  obtain ⟨z0, z1⟩ := ref_cells h.cells
  have hCT := Lib.hid (fun (b : Nat) => refCount_any (b : Int) 2 w h)
  have hn := h.lt
  clear h
  go_enter Tryz.func116, Tryz.ntmps116
  go_wp2_with fail
  go_loopw [4, 5, 6] (fun bv mv iv wr => ∃ (i x y : Nat), iv = .int .i64 (i : Int) ∧ i ≤ n ∧ bv = .int .i64 (x : Int) ∧ mv = .int .i64 (y : Int) ∧ Hid (worstR (boxS st) i = (x, y)) ∧ wr = w) (fun _ _ iv _ => n + 1 - (intOf iv).toNat)
  case atStart => exact ⟨0, 0, 0, rfl, by omega, rfl, rfl, Lib.hid rfl, rfl⟩
  case round =>
    obtain ⟨i, x, y, rfl, hi, rfl, rfl, HXY, rfl⟩ := hrel
    by_cases hlt : i < n
    · have hi1 : (i : Int) < n := by omega
      have hi0 : (0 : Int) ≤ i := by omega
      have hC := hCT.out i
      rw [cntR_box st i 2 n, if_pos hlt] at hC
      have HNX : Hid (worstR (boxS st) (i + 1) = if y < cnt4 (boxS st i) 2 then (i, cnt4 (boxS st i) 2) else (x, y)) := Lib.hid (by rw [worstR, HXY.out])
      generalize cnt4 (boxS st i) 2 = c at hC HNX
      clear HXY
      go_wp2_with fail
      refine hC.mono ?_
      clear hC
      rintro e w2 ⟨rfl, rfl⟩
      try dsimp only
      by_cases q : y < c
      · rw [if_pos q] at HNX
        have q1 : (y : Int) < c := by omega
        go_wp2_with fail
        exact ⟨⟨i + 1, i, c, by push_cast; rfl, by omega, rfl, rfl, HNX, (by first | trivial | rfl)⟩, by simp [intOf]; omega⟩
      · rw [if_neg q] at HNX
        have q1 : ¬ ((y : Int) < c) := by omega
        go_wp2_with fail
        exact ⟨⟨i + 1, x, y, by push_cast; rfl, by omega, rfl, rfl, HNX, (by first | trivial | rfl)⟩, by simp [intOf]; omega⟩
    · have hi1 : ¬ ((i : Int) < n) := by omega
      have HIN : Hid (i = n) := Lib.hid (by omega)
      clear hlt hi
      go_wp2_with fail
      go_ret2
      have h := HXY.out
      rw [HIN.out] at h
      rw [h]
      exact ⟨rfl, by first | trivial | rfl⟩
/-- The number of an error, of a slot. -/
def hasR (st : Nat → Int) (n : Nat) (slot : Int) : Int := if slot < 0 ∨ (n : Int) * 4 ≤ slot then 1 else if st slot.toNat = 1 then 0 else 23
set_option maxRecDepth 100000 in
set_option maxHeartbeats 2000000 in
theorem refHas_any (slot : Int) (w : World) (h : RefI mb sb qb n st blk w) :
    Calls Tryz.prog 110 #[.pointer (some ⟨mb, 0, none⟩), .int .i64 slot] w fun e w' => e = .returned (.int .i64 (hasR st n slot)) ∧ w = w' := by
  obtain ⟨z0, z1⟩ := ref_cells h.cells
  have hST := Lib.hid (fun s hs => st_cell h.st s hs)
  have hn := h.lt
  clear h
  by_cases q1 : slot < 0
  · have HR : Hid (hasR st n slot = 1) := Lib.hid (by unfold hasR; rw [if_pos (.inl q1)])
    go_enter Tryz.func110, Tryz.ntmps110
    go_wp2_with fail
    go_ret
    rw [HR.out]
    exact ⟨rfl, by first | trivial | rfl⟩
  · by_cases q2 : (n : Int) * 4 ≤ slot
    · have HR : Hid (hasR st n slot = 1) := Lib.hid (by unfold hasR; rw [if_pos (.inr q2)])
      go_enter Tryz.func110, Tryz.ntmps110
      go_wp2_with fail
      go_ret
      rw [HR.out]
      exact ⟨rfl, by first | trivial | rfl⟩
    · obtain ⟨s, rfl⟩ := Int.eq_ofNat_of_zero_le (show 0 ≤ slot by omega)
      have hs : s < n * 4 := by omega
      have hs0 : (0 : Int) ≤ s := by omega
      have hs1 : (s : Int) < n * 4 := by omega
      obtain ⟨c0, f0⟩ := hST.out s hs
      have HR : Hid (hasR st n (s : Int) = if st s = 1 then 0 else 23) := Lib.hid (by unfold hasR; rw [if_neg (fun h => h.elim q1 q2)]; rfl)
      generalize st s = x at c0 HR
      clear q1 q2 hs
      by_cases q : x = 1
      · subst q
        rw [if_pos rfl] at HR
        go_enter Tryz.func110, Tryz.ntmps110
        go_wp2_with fail
        go_ret
        rw [HR.out]
        exact ⟨rfl, by first | trivial | rfl⟩
      · rw [if_neg q] at HR
        go_enter Tryz.func110, Tryz.ntmps110
        go_wp2_with fail
        go_ret
        rw [HR.out]
        exact ⟨rfl, by first | trivial | rfl⟩
set_option maxRecDepth 100000 in
set_option maxHeartbeats 2000000 in
theorem refMay_any (s : Nat) (but : Int) (hm : MayS st n but s) (w : World) (h : RefI mb sb qb n st blk w) :
    Calls Tryz.prog 107 #[.pointer (some ⟨mb, 0, none⟩), .int .i64 (s : Int), .int .i64 but] w fun e w' => e = .returned (.bool true) ∧ w = w' := by
  obtain ⟨z0, z1⟩ := ref_cells h.cells
  obtain ⟨hs, hs00, hbt, hmm⟩ := hm
  obtain ⟨c0, f0⟩ := st_cell h.st s hs
  rw [hs00] at c0
  have hCT := Lib.hid (fun (b : Nat) => refCount_any (b : Int) 0 w h)
  have hC0 := hCT.out (s / 4)
  rw [cntR_box st (s / 4) 0 n, if_pos (by omega)] at hC0
  have HMM : Hid (4 ≤ cnt4 (boxS st (s / 4)) 0 → ∀ b, b < n → (b : Int) ≠ but → 0 < cnt4 (boxS st b) 0 → cnt4 (boxS st b) 0 = 4) := Lib.hid (by
    intro h4 b hb hne hpos
    have hall : ∀ t, t < 4 → boxS st (s / 4) t = 0 := fun t ht => by
      apply Classical.byContradiction
      intro hn
      have := cnt4_lt _ _ t ht hn
      omega
    refine cnt4_four _ _ (fun t ht => ?_)
    have hex : ∃ t, t < 4 ∧ st (b * 4 + t) = 0 := by
      apply Classical.byContradiction
      intro hn
      have := (cnt4_zero (boxS st b) 0).2 (fun t ht e => hn ⟨t, ht, e⟩)
      omega
    rcases hmm with ⟨t', ht', hne'⟩ | hmm
    · exact absurd (hall t' ht') hne'
    · exact hmm b hb hne hex t ht)
  have hn := h.lt
  rw [show ((s / 4 : Nat) : Int) = (s : Int) / 4 by omega] at hC0 hbt
  have hs0 : (0 : Int) ≤ s := by omega
  have hs1 : (s : Int) < n * 4 := by omega
  obtain ⟨c, hc⟩ : ∃ c, cnt4 (boxS st (s / 4)) 0 = c := ⟨_, rfl⟩
  rw [hc] at hC0 HMM
  clear h hs hs00 hmm hc
  have hbt' : ((s : Int) / 4 == but) = false := by simp [hbt]
  clear hbt
  go_enter Tryz.func107, Tryz.ntmps107
  go_wp2_with fail
  refine hC0.mono ?_
  clear hC0
  rintro e w2 ⟨rfl, rfl⟩
  try dsimp only
  by_cases q : c < 4
  · have q1 : (c : Int) < 4 := by omega
    go_wp2_with fail
    go_ret
    exact ⟨rfl, by first | trivial | rfl⟩
  · have q1 : ¬ ((c : Int) < 4) := by omega
    have HM := Lib.hid (HMM.out (by omega))
    clear q HMM
    go_wp2_with fail
    go_loopw [7] (fun iv wr => ∃ i : Nat, iv = .int .i64 (i : Int) ∧ i ≤ n ∧ wr = w) (fun iv _ => n + 1 - (intOf iv).toNat)
    case atStart => exact ⟨0, rfl, by omega, rfl⟩
    case round =>
      obtain ⟨i, rfl, hi, rfl⟩ := hrel
      by_cases hlt : i < n
      · have hi1 : (i : Int) < n := by omega
        have hi0 : (0 : Int) ≤ i := by omega
        have hC := hCT.out i
        rw [cntR_box st i 0 n, if_pos hlt] at hC
        have hM := HM.out i hlt
        generalize cnt4 (boxS st i) 0 = d at hC hM
        have hd : (i : Int) = but ∨ d = 0 ∨ d = 4 := by
          by_cases q1 : (i : Int) = but
          · exact .inl q1
          · by_cases q2 : d = 0
            · exact .inr (.inl q2)
            · exact .inr (.inr (hM q1 (by omega)))
        clear hM
        go_wp2_with fail
        refine hC.mono ?_
        clear hC
        rintro e w3 ⟨rfl, rfl⟩
        try dsimp only
        by_cases q1 : (i : Int) = but
        · have q1' : ((i : Int) != but) = false := by simp [q1]
          clear q1 hd
          go_wp2_with fail
          exact ⟨⟨i + 1, by push_cast; rfl, by omega, (by first | trivial | rfl)⟩, by simp [intOf]; omega⟩
        · rcases hd with hd | rfl | rfl
          · exact absurd hd q1
          · go_wp2_with fail
            exact ⟨⟨i + 1, by push_cast; rfl, by omega, (by first | trivial | rfl)⟩, by simp [intOf]; omega⟩
          · go_wp2_with fail
            exact ⟨⟨i + 1, by push_cast; rfl, by omega, (by first | trivial | rfl)⟩, by simp [intOf]; omega⟩
      · have hi1 : ¬ ((i : Int) < n) := by omega
        clear hlt hi
        go_wp2_with fail
        go_ret
        exact ⟨rfl, by first | trivial | rfl⟩
end
end Go.Proofs.YtajmcplanlibnaaGreatDoor
