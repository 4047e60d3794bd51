/- What a walk may forget of a world: all but what is told of it. No condition; no program is named. -/
import Derived.Test.YtopakonpfbbldaaStop
import Derived.Test.YtopakonpfbbldaaR10
namespace Go.Proofs.Ytopakonpfbbldaa
set_option linter.unusedSimpArgs false
set_option linter.unusedVariables false
open Go.RowKit

theorem gen_world {P : Program} {ops : Array Oper} {Q : Exit → Act → World → Prop} {l : List Oper} {a : Act} {w : World} (F : World → Prop) (h : F w) (k : ∀ w', F w' → wpList P ops Q l a w') : wpList P ops Q l a w := k w h
theorem heap_set_ne {w : World} {B i k : Nat} {v : Value} {o : Option Obj} (hb : B ≠ i) (h : w.heap[i]? = o) : (w.setCell ⟨B, k, none⟩ v).heap[i]? = o := by
  rw [← h]; simp [World.setCell, Array.getElem?_modify, hb]
theorem list8b (l : List Bool) (h : l.length = 8) : ∃ a b c d e f g i, l = [a, b, c, d, e, f, g, i] := by
  match l, h with
  | [a, b, c, d, e, f, g, i], _ => exact ⟨a, b, c, d, e, f, g, i, rfl⟩
theorem oneB_len (n : Int) : (oneB n).length = 8 := by simp [oneB]
theorem arr_setv {w : World} {B T : Nat} {l : List Value} (h : w.heap[B]? = some (.cells l.toArray T)) (i : Nat) (x : Value) : (w.setCell ⟨B, i, none⟩ x).heap[B]? = some (.cells (l.set i x).toArray T) := by
  rw [set_blk h]; simp
theorem keys_ret {w : World} {B : Nat} {a : Option Addr} {ks : List (Int × Int)} {v0 v1 v2 v3 v4 : Value} (h : KeysIn w a ks) (hB : w.heap[B]? = some (.cells #[.int .u32 0, .slice none 0 0, .int .i64 0, .int .i64 0, .bool false] 25)) :
    KeysIn (((((w.setCell ⟨B, 0, none⟩ v0).setCell ⟨B, 1, none⟩ v1).setCell ⟨B, 2, none⟩ v2).setCell ⟨B, 3, none⟩ v3).setCell ⟨B, 4, none⟩ v4) a ks :=
  h.grown (grown_trans (grown_trans (grown_trans (grown_trans (grown_set _ _ 0 _) (grown_set _ _ 1 _)) (grown_set _ _ 2 _)) (grown_set _ _ 3 _)) (grown_set _ _ 4 _)) hB (by simp) (by simp) (by simp)
theorem keys_ret_alloc {w : World} {B : Nat} {a : Option Addr} {ks : List (Int × Int)} {v0 v1 v2 v3 v4 : Value} {o : Obj} (h : KeysIn w a ks) (hB : w.heap[B]? = some (.cells #[.int .u32 0, .slice none 0 0, .int .i64 0, .int .i64 0, .bool false] 25)) :
    KeysIn ((((((w.setCell ⟨B, 0, none⟩ v0).setCell ⟨B, 1, none⟩ v1).setCell ⟨B, 2, none⟩ v2).setCell ⟨B, 3, none⟩ v3).setCell ⟨B, 4, none⟩ v4).alloc o) a ks :=
  (keys_ret h hB).below (Below.alloc (Below.refl _ _) (Nat.le_refl _) o)
end Go.Proofs.Ytopakonpfbbldaa
