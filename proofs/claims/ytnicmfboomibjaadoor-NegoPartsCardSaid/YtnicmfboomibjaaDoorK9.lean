/- What Choose of the program answers: the first piece between commas that is among others. -/
import Derived.Test.YtnicmfboomibjaaDoorK9p
import Derived.Test.YtnicmfboomibjaaDoorShelf
namespace Go.Proofs.YtnicmfboomibjaaDoor
set_option linter.unusedSimpArgs false
set_option linter.unusedVariables false
open Go.RowKit
theorem find_at {α : Type} (l : List α) (p : α → Bool) (i : Nat) (h : i < l.length) (h0 : (l.take i).any p = false) (h1 : p l[i] = true) : l.find? p = some l[i] := by
  have e : l = l.take i ++ l[i] :: l.drop (i + 1) := by rw [← List.drop_eq_getElem_cons h, List.take_append_drop]
  have hn : (l.take i).find? p = none := by
    rw [List.find?_eq_none]; intro x hx hp
    rw [List.any_eq_false] at h0
    exact h0 x hx hp
  have h2 : ∀ m, m = l.take i ++ l[i] :: l.drop (i + 1) → m.find? p = some l[i] := fun m hm => by
    rw [hm, List.find?_append, hn, Option.none_or, List.find?_cons_of_pos h1]
  exact h2 l e
theorem find_no {α : Type} (l : List α) (p : α → Bool) (h0 : l.any p = false) : l.find? p = none := by
  rw [List.find?_eq_none]; intro x hx hp
  rw [List.any_eq_false] at h0
  exact h0 x hx hp
set_option maxRecDepth 100000 in
set_option maxHeartbeats 2000000 in
theorem choose_any (s : ByteArray) (a : Option Addr) (os : List ByteArray) (c : Nat) (m : Int) (w : World) (hs : s.size ≤ 100000) (hl : os.length ≤ 1000000) (ho : StrsIn w a os) (hm : w.cell? ⟨0, 0, none⟩ = some (.int .i64 m)) :
    Calls Tryd.prog 18 #[.string s, .slice a os.length c] w fun e w' => e = chRes (chGo os [] s.data.toList) ∧ Below w.heap.size w w' := by
  have HC := Lib.hid (chGo_split os s)
  have HSP := Lib.hid (Tryd.strings_Split s ⟨#[44]⟩ m w (by omega) hm (by decide))
  have hlen : (Lib.splitB ⟨#[44]⟩ 0 (Lib.countB s ⟨#[44]⟩) s).length = Lib.countB s ⟨#[44]⟩ + 1 := Lib.splitB_all _ (by decide) _ _ _ rfl
  have hcl : Lib.countB s ⟨#[44]⟩ ≤ s.size := Lib.countB_le _ (by decide) _ _ (Nat.le_refl _)
  generalize Lib.splitB ⟨#[44]⟩ 0 (Lib.countB s ⟨#[44]⟩) s = vs at HC HSP hlen
  generalize Lib.countB s ⟨#[44]⟩ = n at HSP hlen hcl
  have HO := Lib.hid ho
  clear ho hm
  go_enter Tryd.func18, Tryd.ntmps18
  go_wp2_with fail
  refine HSP.out.mono ?_
  rintro e w1 ⟨rfl, rfl⟩
  dsimp only
  go_wp2_with fail
  have hcl1 : ∀ i (h : i < vs.length), (w.alloc (.cells (vs.map Value.string).toArray 9)).cell? ⟨w.heap.size, i, none⟩ = some (.string vs[i]) := fun i h => by
    simp only [World.cell?, heap_alloc_new]
    simp [h]
  have hb : Below w.heap.size w (w.alloc (.cells (vs.map Value.string).toArray 9)) := Below.alloc (Below.refl _ _) (Nat.le_refl _) _
  have ho1 := HO.out.below hb
  have hz : w.heap.size < (w.alloc (.cells (vs.map Value.string).toArray 9)).heap.size := by simp
  generalize w.alloc (.cells (vs.map Value.string).toArray 9) = W1 at hcl1 hb ho1 hz ⊢
  have HO1 := Lib.hid ho1
  have HCL := Lib.hid hcl1
  have HB := Lib.hid hb
  clear ho1 hcl1 hb
  go_loopw [11] (fun iv wr => ∃ i : Nat, iv = .int .i64 i ∧ i ≤ n + 1 ∧ Hid ((vs.take i).any (amongF os) = false) ∧ wr = W1) (fun iv _ => n + 1 - (intOf iv).toNat)
  case atStart => exact ⟨0, rfl, by omega, Lib.hid rfl, rfl⟩
  case round =>
    obtain ⟨i, rfl, hi, HA, rfl⟩ := hrel
    by_cases hlt : i < n + 1
    · have hc := HCL.out i (by omega)
      have HS := Lib.hid (any_take_succ vs (amongF os) i (by omega))
      have HF : Hid (amongF os vs[i] = true → vs.find? (amongF os) = some vs[i]) := Lib.hid (fun h => find_at vs _ i (by omega) HA.out h)
      generalize vs[i] = v at hc HS HF
      go_wp2_with fail
      refine (among_any a os c v _ hl HO1.out).mono ?_
      rintro e w2 ⟨rfl, rfl⟩
      dsimp only
      cases q : amongF os v
      · go_wp2_with fail
        refine ⟨⟨i + 1, by go_num, by omega, Lib.hid (by rw [HS.out, HA.out, q]; rfl), trivial⟩, by simp [intOf]; omega⟩
      · go_wp2_with fail
        go_ret2
        exact ⟨by rw [HC.out, HF.out q]; rfl, HB.out⟩
    · obtain rfl : i = n + 1 := by omega
      rw [List.take_of_length_le (by omega)] at HA
      go_wp2_with fail
      go_ret2
      exact ⟨by rw [HC.out, find_no _ _ HA.out]; rfl, HB.out⟩
end Go.Proofs.YtnicmfboomibjaaDoor
