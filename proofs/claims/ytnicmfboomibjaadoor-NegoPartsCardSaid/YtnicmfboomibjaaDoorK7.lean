/- Whether a string is among others: among of the program. The strings lie in memory, a cell each. -/
import Derived.Test.YtnicmfboomibjaaDoorK2
import Derived.Test.YtnicmfboomibjaaDoorLib
import Derived.Outline
import Derived.Laws.Strings3
import Derived.Deep.QuietTactic
namespace Go.Proofs.YtnicmfboomibjaaDoor
set_option linter.unusedSimpArgs false
set_option linter.unusedVariables false
open Go.RowKit
/-- Strings in memory, a cell each. -/
def StrsIn (w : World) (a : Option Addr) (ss : List ByteArray) : Prop :=
  ∀ i (h : i < ss.length), ∃ b off, a = some ⟨b, off, none⟩ ∧ b < w.heap.size ∧ w.cell? ⟨b, off + i, none⟩ = some (.string ss[i])
theorem StrsIn.below {w w' : World} {a : Option Addr} {ss : List ByteArray} (h : StrsIn w a ss) (hb : Below w.heap.size w w') : StrsIn w' a ss := fun i hi =>
  let ⟨b, off, ha, hs, c1⟩ := h i hi
  ⟨b, off, ha, Nat.lt_of_lt_of_le hs hb.size, (hb.cell (p := ⟨b, off + i, none⟩) hs).trans c1⟩
theorem StrsIn.nil (w : World) (a : Option Addr) : StrsIn w a [] := fun i h => by simp at h
def amongF (os : List ByteArray) (x : ByteArray) : Bool := os.any (fun y => x.toList == y.toList)
theorem any_take_succ {α : Type} (l : List α) (p : α → Bool) (k : Nat) (h : k < l.length) : (l.take (k + 1)).any p = ((l.take k).any p || p l[k]) := by
  rw [List.take_succ_eq_append_getElem h, List.any_append]; simp
set_option maxRecDepth 100000 in
set_option maxHeartbeats 1000000 in
theorem among_any (a : Option Addr) (os : List ByteArray) (c : Nat) (x : ByteArray) (w : World) (hl : os.length ≤ 1000000) (ho : StrsIn w a os) :
    Calls Tryd.prog 34 #[.slice a os.length c, .string x] w fun e w' => e = .returned (.bool (amongF os x)) ∧ w' = w := by
  have HO := Lib.hid ho
  clear ho
  go_enter Tryd.func34, Tryd.ntmps34
  go_wp2_with fail
  go_loopw [9] (fun iv wr => ∃ k : Nat, iv = .int .i64 k ∧ k ≤ os.length ∧ Hid ((os.take k).any (fun y => x.toList == y.toList) = false) ∧ wr = w) (fun iv _ => os.length - (intOf iv).toNat)
  case atStart => exact ⟨0, rfl, by omega, Lib.hid rfl, rfl⟩
  case round =>
    obtain ⟨k, rfl, hk, HA, rfl⟩ := hrel
    by_cases hlt : k < os.length
    · obtain ⟨b, off, rfl, hbs, hc⟩ := HO.out k hlt
      have HS := Lib.hid (any_take_succ os (fun y => x.toList == y.toList) k hlt)
      have hmem : os[k] ∈ os := List.getElem_mem _
      generalize os[k] = y at hc HS hmem
      have HF : Hid ((x.toList == y.toList) = true → amongF os x = true) := Lib.hid (fun h => List.any_eq_true.2 ⟨y, hmem, h⟩)
      clear hmem
      cases q : (x.toList == y.toList)
      · go_wp2_with fail
        refine ⟨⟨k + 1, by go_num, by omega, Lib.hid (by rw [HS.out, HA.out, q]; rfl), trivial⟩, by simp [intOf]; omega⟩
      · go_wp2_with fail
        go_ret
        exact ⟨by rw [HF.out q]; rfl, rfl⟩
    · obtain rfl : k = os.length := by omega
      rw [List.take_length] at HA
      go_wp2_with fail
      go_ret
      exact ⟨by rw [show amongF os x = false from HA.out]; rfl, rfl⟩
end Go.Proofs.YtnicmfboomibjaaDoor
