/- Keys' names in plain; the world's first cells read as values of their types. -/
import Derived.Test.YtnicmfboomibjaaDoorK1
import Derived.Lib.ConvBytes
import Derived.Lib.SplitLaws
import Derived.Outline
import Derived.Laws.Strings3
namespace Go.Proofs.YtnicmfboomibjaaDoor
set_option linter.unusedSimpArgs false
set_option linter.unusedVariables false
open Go.RowKit
def Env (w : World) : Prop := (∃ m, w.cell? ⟨0, 0, none⟩ = some (.int .i64 m)) ∧ (∃ t p, w.cell? ⟨1, 0, none⟩ = some (.iface t p)) ∧ (∃ t p, w.cell? ⟨2, 0, none⟩ = some (.iface t p))
theorem Env.below {w w' : World} {B : Nat} (h : Env w) (hb : Below B w w') (h3 : 2 < B) : Env w' := by
  obtain ⟨⟨m, h0⟩, ⟨t, p, h1⟩, ⟨t', p', h2⟩⟩ := h
  exact ⟨⟨m, (hb.cell (p := ⟨0, 0, none⟩) (show 0 < B by omega)).trans h0⟩, ⟨t, p, (hb.cell (p := ⟨1, 0, none⟩) (show 1 < B by omega)).trans h1⟩, ⟨t', p', (hb.cell (p := ⟨2, 0, none⟩) (show 2 < B by omega)).trans h2⟩⟩
def otherF (c : Int) : Bool := letterF c false
def nameF (l : List UInt8) : Bool := decide (l.length ≤ 63) && (match l with | [] => false | c :: _ => letterF c.toNat true) && l.all (fun c => otherF c.toNat)
theorem otherF_at (c : UInt8) : otherF c.toNat = ((decide (65 ≤ (c.toNat : Int)) && decide ((c.toNat : Int) ≤ 90)) || (decide (97 ≤ (c.toNat : Int)) && decide ((c.toNat : Int) ≤ 122)) || (decide (48 ≤ (c.toNat : Int)) && decide ((c.toNat : Int) ≤ 57)) || decide (0 ≤ Lib.indexByte [46, 45, 43, 64, 95] c)) := by
  have : ∀ n : Fin 256, otherF (UInt8.ofNat n).toNat = ((decide (65 ≤ ((UInt8.ofNat n).toNat : Int)) && decide (((UInt8.ofNat n).toNat : Int) ≤ 90)) || (decide (97 ≤ ((UInt8.ofNat n).toNat : Int)) && decide (((UInt8.ofNat n).toNat : Int) ≤ 122)) || (decide (48 ≤ ((UInt8.ofNat n).toNat : Int)) && decide (((UInt8.ofNat n).toNat : Int) ≤ 57)) || decide (0 ≤ Lib.indexByte [46, 45, 43, 64, 95] (UInt8.ofNat n))) := by decide +kernel
  have h := this ⟨c.toNat, c.toNat_lt⟩
  simpa using h
theorem nameF_at (s : ByteArray) (h : 0 < s.size) : nameF s.data.toList = (!decide ((63 : Int) < (s.size : Int)) && !decide ((s[0].toNat : Int) < 65) && !decide ((90 : Int) < (s[0].toNat : Int)) && s.data.toList.all (fun c => otherF c.toNat)) := by
  have e : s.data.toList = s[0] :: s.data.toList.drop 1 := by
    have := List.drop_eq_getElem_cons (l := s.data.toList) (i := 0) (by simpa using h)
    simp only [List.drop_zero] at this
    exact this
  have hl : s.data.toList.length = s.size := by simp
  unfold nameF
  rw [hl]
  generalize s.data.toList.all (fun c => otherF c.toNat) = x
  rw [e]
  simp only [letterF, Bool.not_true, Bool.false_and, Bool.or_false]
  cases x <;> simp
  rw [Bool.eq_iff_iff]; simp; omega
theorem empty_iff (u : ByteArray) : u.toList.isEmpty = (u.size == 0) := by
  rw [ByteArray.toList_eq, Bool.eq_iff_iff, List.isEmpty_iff]
  constructor
  · intro h; have := congrArg List.length h; simpa using this
  · intro h; apply List.eq_nil_of_length_eq_zero; simpa using h
theorem all_take_succ (l : List UInt8) (p : UInt8 → Bool) (k : Nat) (h : k < l.length) : (l.take (k + 1)).all p = ((l.take k).all p && p l[k]) := by
  rw [List.take_succ_eq_append_getElem h, List.all_append]; simp
end Go.Proofs.YtnicmfboomibjaaDoor
