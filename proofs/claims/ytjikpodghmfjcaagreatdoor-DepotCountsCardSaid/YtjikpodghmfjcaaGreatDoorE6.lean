/- Prints: a table on a new book; what its pages are. -/
import Derived.Test.YtjikpodghmfjcaaGreatDoorE5
set_option linter.unusedSimpArgs false
set_option linter.unusedVariables false
set_option linter.unnecessarySimpa false
namespace Go.Proofs.YtjikpodghmfjcaaGreatDoor
set_option linter.unusedSimpArgs false
set_option linter.unusedVariables false
open Go.RowKit Go.Maps
set_option maxRecDepth 100000 in
theorem bookPages_any (bb : Nat) (N : Nat → Prop) (B : BookS) (w : World) (h : BookI w bb N B) : Calls Tryz.prog 72 #[.pointer (some ⟨bb, 0, none⟩)] w fun e w' => e = .returned (.int .i64 (B.n : Int)) ∧ w = w' := by
  obtain ⟨db, rb, nb, ov, hX⟩ := h
  obtain ⟨z0, z1, z2, z3, z4, z5, z6, z7, _⟩ := book_cells hX.cells
  clear hX
  go_enter Tryz.func72, Tryz.ntmps72
  go_wp2_with fail
  go_ret
  exact ⟨rfl, rfl⟩
theorem BookS.wrote_view (B : BookS) (i : Nat) (p : List Int) (j : Nat) : (B.wrote i p).view j = if j = i then p else B.view j := by
  have hb : ∀ k, B.begun.view k = B.view k := fun k => by
    unfold BookS.view
    rw [BookS.bind_f, BookS.bind_f]
    rfl
  unfold BookS.wrote
  split
  · rename_i h
    by_cases e : j = i
    · subst e
      rw [if_pos rfl]
      unfold BookS.view
      simp [putF]
    · rw [if_neg e, ← hb j]
      unfold BookS.view
      simp [putF, e, BookS.begun]
  · rename_i h
    by_cases e : j = i
    · subst e
      rw [if_pos rfl, hb]
      simp only [not_or, ne_eq, Decidable.not_not] at h
      exact h.2
    · rw [if_neg e, hb]
def BookS.cnt (B : BookS) : Nat := (keysF B.f B.n).length
theorem BookS.wrote_f (B : BookS) (i : Nat) (p : List Int) (j : Nat) : (B.wrote i p).f j = B.f j ∨ (j = i ∧ (B.wrote i p).f j = some p) := by
  unfold BookS.wrote
  split
  · by_cases e : j = i
    · right; subst e; exact ⟨rfl, by simp [BookS.f, putF]⟩
    · left; simp [BookS.f, putF, e]
  · left; rfl
theorem BookS.wrote_cnt (B : BookS) (i : Nat) (p : List Int) (hi : i < B.n) : (B.wrote i p).cnt ≤ B.cnt + 1 := by
  unfold BookS.wrote
  split
  · show (keysF (putF B.f i p) B.n).length ≤ _
    rw [keysF_put _ _ _ _ hi]
    unfold BookS.cnt
    split <;> omega
  · show (keysF B.f B.n).length ≤ _
    unfold BookS.cnt; omega
theorem newB_view (s size n : Nat) (hs : 2 + size + n ≤ s) (i : Nat) (hi : i < n) : ((newB size n ⟨List.replicate s (zer 64), []⟩).homed).view i = zer 64 := by
  unfold BookS.view
  show (match (none : Option PgF).bind (fun f => f i) with | some p => p | none => _) = _
  simp only [Option.bind_none]
  show (BookS.homeD (newB size n ⟨List.replicate s (zer 64), []⟩)).view (2 + size + i) = _
  unfold BookS.homeD
  have e1 : newsC (newB size n ⟨List.replicate s (zer 64), []⟩) = [] := by
    unfold newsC
    show (keysF (fun _ => none) n).map _ = []
    rw [keysF_none]; rfl
  rw [e1]
  unfold DiskS.view
  rw [lastOf_nil]
  show ((List.replicate s (zer 64)).set _ _).getD (2 + size + i) [] = _
  have e2 : (((newB size n ⟨List.replicate s (zer 64), []⟩).gen + 1) % 2).toNat = 1 := rfl
  rw [e2, List.getD_eq_getElem?_getD, List.getElem?_set_ne (by omega), List.getElem?_replicate, if_pos (by omega)]
  rfl
theorem newB_cnt (size n : Nat) (d : DiskS) : ((newB size n d).homed).cnt = 0 := by
  unfold BookS.cnt
  show (keysF (fun _ => none) _).length = 0
  rw [keysF_none]; rfl
theorem newB_n (size n : Nat) (d : DiskS) : ((newB size n d).homed).n = n := rfl
theorem zero_view (s i : Nat) (hi : i < s) : (⟨List.replicate s (zer 64), []⟩ : DiskS).view i = zer 64 := by
  unfold DiskS.view
  rw [lastOf_nil]
  show (List.replicate s (zer 64)).getD i [] = _
  rw [List.getD_eq_getElem?_getD, List.getElem?_replicate, if_pos hi]; rfl
def freshB : BookS := (newB 100 198 ⟨List.replicate 300 (zer 64), []⟩).homed
theorem freshB_view (i : Nat) (hi : i < 198) : freshB.view i = zer 64 := newB_view 300 100 198 (by decide) i hi
theorem freshB_cnt : freshB.cnt = 0 := newB_cnt _ _ _
theorem freshB_n : freshB.n = 198 := rfl
end Go.Proofs.YtjikpodghmfjcaaGreatDoor
