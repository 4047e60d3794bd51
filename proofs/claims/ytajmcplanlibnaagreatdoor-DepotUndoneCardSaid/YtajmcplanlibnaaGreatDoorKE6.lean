/- Prints: a table on a new book; what its pages are. -/
import Derived.Test.YtajmcplanlibnaaGreatDoorKE5
set_option linter.unusedSimpArgs false
set_option linter.unusedVariables false
set_option linter.unnecessarySimpa false
namespace Go.Proofs.YtajmcplanlibnaaGreatDoor
open Go.RowKit Go.Maps
set_option maxRecDepth 100000 in
theorem bookPages_any (bb : Nat) (N : Nat → Prop) (B : BookS) (w : World) (h : BookI w bb N B) : Calls Tryz.prog 18 #[.pointer (some ⟨bb, 0, none⟩)] w fun e w' => e = .returned (.int .i64 (B.n : Int)) ∧ w = w' := by
  obtain ⟨db, rb, nb, ov, hX⟩ := h
  obtain ⟨z0, z1, z2, z3, z4, z5, z6, z7, _⟩ := book_cells hX.cells
  clear hX
  go_enter Tryz.func18, Tryz.ntmps18
  go_wp2_with fail
  go_ret
  exact ⟨rfl, rfl⟩
set_option maxRecDepth 100000 in
set_option maxHeartbeats 1000000 in
theorem printsNew_any (bb first n : Nat) (N : Nat → Prop) (B : BookS) (hn : 1 ≤ n ∧ first + n ≤ B.n) (w : World) (h : BookI w bb N B) :
    Calls Tryz.prog 31 #[.pointer (some ⟨bb, 0, none⟩), .int .i64 (first : Int), .int .i64 (n : Int)] w fun e w' => (∃ tb, e = .returned (.tuple #[.pointer (some ⟨tb, 0, none⟩), .nilIface]) ∧ w.heap.size ≤ tb ∧ TabI w' tb N bb first n B) ∧ Below w.heap.size w w' := by
  have HB := Lib.hid h
  have hbn := h.isOk.n.2
  obtain ⟨hn1, hn2⟩ := hn
  have hP := bookPages_any bb N B w h
  clear h
  have g1 : (1 : Int) ≤ n := by omega
  have g2 : (0 : Int) ≤ first := by omega
  have g3 : (first : Int) + n ≤ B.n := by omega
  have g4 : (B.n : Int) ≤ 2048 := by omega
  go_enter Tryz.func31, Tryz.ntmps31
  go_wp2_with fail
  refine hP.mono ?_
  rintro e w1 ⟨rfl, rfl⟩
  try dsimp only
  go_wp2_with fail
  go_ret2
  have hb : ∀ o : Obj, Below w.heap.size w (w.alloc o) := fun o => (Below.refl _ _).alloc (Nat.le_refl _) _
  refine ⟨⟨_, rfl, Nat.le_refl _, heap_alloc_new w _, HB.out.keep (hb _) (fun k hk => ?_), fun hN => ?_, hn2, hn1⟩, hb _⟩
  · rcases hk with hk | hk
    · have := HB.out.N_lt k hk; exact ⟨by simp; omega, .inl hk⟩
    · subst hk; exact ⟨by simp, .inr (Nat.le_refl _)⟩
  · have := HB.out.N_lt _ hN; omega
theorem BookS.wrote_view (B : BookS) (i : Nat) (p : List Int) (j : Nat) : (B.wrote i p).view j = if j = i then p else B.view j := by
  have hb : ∀ k, B.begun.view k = B.view k := fun k => by
    unfold BookS.view
    rw [BookS.bind_f, BookS.bind_f]
    rfl
  unfold BookS.wrote
  split
  · rename_i h
    by_cases e : j = i
    · subst e
      rw [if_pos rfl]
      unfold BookS.view
      simp [putF]
    · rw [if_neg e, ← hb j]
      unfold BookS.view
      simp [putF, e, BookS.begun]
  · rename_i h
    by_cases e : j = i
    · subst e
      rw [if_pos rfl, hb]
      simp only [not_or, ne_eq, Decidable.not_not] at h
      exact h.2
    · rw [if_neg e, hb]
def BookS.cnt (B : BookS) : Nat := (keysF B.f B.n).length
theorem BookS.wrote_f (B : BookS) (i : Nat) (p : List Int) (j : Nat) : (B.wrote i p).f j = B.f j ∨ (j = i ∧ (B.wrote i p).f j = some p) := by
  unfold BookS.wrote
  split
  · by_cases e : j = i
    · right; subst e; exact ⟨rfl, by simp [BookS.f, putF]⟩
    · left; simp [BookS.f, putF, e]
  · left; rfl
theorem BookS.wrote_cnt (B : BookS) (i : Nat) (p : List Int) (hi : i < B.n) : (B.wrote i p).cnt ≤ B.cnt + 1 := by
  unfold BookS.wrote
  split
  · show (keysF (putF B.f i p) B.n).length ≤ _
    rw [keysF_put _ _ _ _ hi]
    unfold BookS.cnt
    split <;> omega
  · show (keysF B.f B.n).length ≤ _
    unfold BookS.cnt; omega
theorem newB_view (s size n : Nat) (hs : 2 + size + n ≤ s) (i : Nat) (hi : i < n) : ((newB size n ⟨List.replicate s (zer 64), []⟩).homed).view i = zer 64 := by
  unfold BookS.view
  show (match (none : Option PgF).bind (fun f => f i) with | some p => p | none => _) = _
  simp only [Option.bind_none]
  show (BookS.homeD (newB size n ⟨List.replicate s (zer 64), []⟩)).view (2 + size + i) = _
  unfold BookS.homeD
  have e1 : newsC (newB size n ⟨List.replicate s (zer 64), []⟩) = [] := by
    unfold newsC
    show (keysF (fun _ => none) n).map _ = []
    rw [keysF_none]; rfl
  rw [e1]
  unfold DiskS.view
  rw [lastOf_nil]
  show ((List.replicate s (zer 64)).set _ _).getD (2 + size + i) [] = _
  have e2 : (((newB size n ⟨List.replicate s (zer 64), []⟩).gen + 1) % 2).toNat = 1 := rfl
  rw [e2, List.getD_eq_getElem?_getD, List.getElem?_set_ne (by omega), List.getElem?_replicate, if_pos (by omega)]
  rfl
theorem newB_cnt (size n : Nat) (d : DiskS) : ((newB size n d).homed).cnt = 0 := by
  unfold BookS.cnt
  show (keysF (fun _ => none) _).length = 0
  rw [keysF_none]; rfl
theorem newB_n (size n : Nat) (d : DiskS) : ((newB size n d).homed).n = n := rfl
theorem zero_view (s i : Nat) (hi : i < s) : (⟨List.replicate s (zer 64), []⟩ : DiskS).view i = zer 64 := by
  unfold DiskS.view
  rw [lastOf_nil]
  show (List.replicate s (zer 64)).getD i [] = _
  rw [List.getD_eq_getElem?_getD, List.getElem?_replicate, if_pos hi]; rfl
def freshB : BookS := (newB 100 198 ⟨List.replicate 300 (zer 64), []⟩).homed
theorem freshB_view (i : Nat) (hi : i < 198) : freshB.view i = zer 64 := newB_view 300 100 198 (by decide) i hi
theorem freshB_cnt : freshB.cnt = 0 := newB_cnt _ _ _
theorem freshB_n : freshB.n = 198 := rfl
set_option maxRecDepth 100000 in
set_option maxHeartbeats 1000000 in
theorem fresh08_any (n : Nat) (hn : 1 ≤ n ∧ n ≤ 195) (N : Nat → Prop) (w : World) (hN : ∀ i, N i → i < w.heap.size) :
    Calls Tryz.prog 83 #[.int .i64 (n : Int)] w fun e w' => (∃ bb tb, e = .returned (.tuple #[.pointer (some ⟨bb, 0, none⟩), .pointer (some ⟨tb, 0, none⟩)]) ∧ TabI w' tb N bb 3 n freshB) ∧ Keeps N w w' := by
  have hDN := diskNew_any 300 (by decide) N w hN
  have HN := Lib.hid hN
  clear hN
  go_enter Tryz.func83, Tryz.ntmps83
  go_wp2_with fail
  refine hDN.mono ?_
  clear hDN
  rintro e w1 ⟨⟨db, rfl, hdb, hd⟩, hb1⟩
  have HD := Lib.hid hd
  have HB1 := Lib.hid hb1
  clear hd hb1
  have hMT := mount_zero db 100 N ⟨List.replicate 300 (zer 64), []⟩ w1 (by decide) (by simp) HD.out (fun h => by have := HN.out _ h; omega) (fun i hi => zero_view 300 i (by simpa using hi))
  try dsimp only
  go_wp2_with fail
  refine hMT.mono ?_
  clear hMT
  rintro e w2 ⟨⟨bb, rfl, hbb, hB⟩, hk2⟩
  have HB : Hid (BookI w2 bb N freshB) := Lib.hid (by simpa [freshB] using hB)
  have HK2 : Hid (Keeps N w w2) := Lib.hid ((Keeps.of_below HB1.out).trans hk2)
  clear hB hk2 HD HB1
  have hPN := printsNew_any bb 3 n N freshB ⟨hn.1, by rw [freshB_n]; omega⟩ w2 HB.out
  try dsimp only
  go_wp2_with fail
  refine hPN.mono ?_
  clear hPN
  rintro e w3 ⟨⟨tb, rfl, htb, hT⟩, hb3⟩
  have HT := Lib.hid hT
  have HB3 := Lib.hid hb3
  clear hT hb3
  try dsimp only
  go_wp2_with fail
  go_ret2
  exact ⟨⟨bb, tb, rfl, HT.out⟩, HK2.out.trans (Keeps.of_below HB3.out)⟩
set_option maxRecDepth 100000 in
theorem num08_nil (w : World) : Calls Tryz.prog 87 #[.nilIface] w fun e w' => e = .returned (.int .i64 0) ∧ w = w' := by
  go_enter Tryz.func87, Tryz.ntmps87
  go_wp2_with fail
  go_ret
  exact ⟨rfl, rfl⟩
end Go.Proofs.YtajmcplanlibnaaGreatDoor
