/- Rows of truth values in memory. No condition; no program is named. -/
import Derived.Test.YtopakonpfbbldaaLib5
import Derived.Test.YtopakonpfbbldaaFnsP
import Derived.Test.YtopakonpfbbldaaMix2
namespace Go.Proofs.Ytopakonpfbbldaa
set_option linter.unusedSimpArgs false
set_option linter.unusedVariables false
open Go.RowKit

theorem gen_code {P : Program} {c : Code} {Q : Exit → Act → World → Prop} {a : Act} {w : World} (F : World → Prop) (h : F w) (k : ∀ w', F w' → Code.wp P c Q a w') : Code.wp P c Q a w := k w h
theorem barr_cell {w : World} {B T : Nat} {X Y : List Bool} {v : Bool} {k : Nat} (h : w.heap[B]? = some (.cells ((X ++ v :: Y).map Value.bool).toArray T)) (hk : X.length = k) : w.cell? ⟨B, k, none⟩ = some (.bool v) ∧ w.frozen? ⟨B, k, none⟩ = false := by
  subst hk
  simp [World.cell?, World.frozen?, h]
theorem barr_set {w : World} {B T : Nat} {X Y : List Bool} {v v' : Bool} {k : Nat} (h : w.heap[B]? = some (.cells ((X ++ v :: Y).map Value.bool).toArray T)) (hk : X.length = k) : (w.setCell ⟨B, k, none⟩ (.bool v')).heap[B]? = some (.cells ((X ++ v' :: Y).map Value.bool).toArray T) := by
  subst hk
  rw [set_blk h]
  simp
theorem some_start (tk : Bool) (n other : Int) (K : List Int) : (rsome tk n other 0 (K.take 0) ++ List.replicate (8 - 0) false) = List.replicate 8 false := by simp [rsome]
theorem some_here (tk : Bool) (n other : Int) (K : List Int) (k : Nat) (hk : k < 8) : (rsome tk n other 0 (K.take k) ++ List.replicate (8 - k) false) = rsome tk n other 0 (K.take k) ++ false :: List.replicate (7 - k) false := by
  rw [show 8 - k = (7 - k) + 1 by omega, List.replicate_succ]
theorem some_next (tk : Bool) (n other : Int) (K : List Int) (k : Nat) (hk : k < K.length) (v : Bool) (hv : (if tk && (k : Int) == n then false else K[k] != 0 && (K[k] == other || tk && other == 0)) = v) :
    rsome tk n other 0 (K.take (k + 1)) ++ List.replicate (8 - (k + 1)) false = rsome tk n other 0 (K.take k) ++ v :: List.replicate (7 - k) false := by
  rw [rsome_take tk n other K k hk, hv, show 8 - (k + 1) = 7 - k by omega]; simp
theorem any_next (tk : Bool) (n other : Int) (K : List Int) (k : Nat) (hk : k < K.length) (v : Bool) (hv : (if tk && (k : Int) == n then false else K[k] != 0 && (K[k] == other || tk && other == 0)) = v) :
    (rsome tk n other 0 (K.take (k + 1))).any id = ((rsome tk n other 0 (K.take k)).any id || v) := by
  rw [rsome_take tk n other K k hk, hv]; simp
theorem ints_ret {w : World} {B : Nat} {a : Option Addr} {ns : List Int} {v0 v1 v2 v3 v4 : Value} {cs : Array Value} (h : IntsIn w a ns) (hB : w.heap[B]? = some (.cells cs 25)) :
    IntsIn (((((w.setCell ⟨B, 0, none⟩ v0).setCell ⟨B, 1, none⟩ v1).setCell ⟨B, 2, none⟩ v2).setCell ⟨B, 3, none⟩ v3).setCell ⟨B, 4, none⟩ v4) a ns :=
  h.grown (grown_trans (grown_trans (grown_trans (grown_trans (grown_set _ _ 0 _) (grown_set _ _ 1 _)) (grown_set _ _ 2 _)) (grown_set _ _ 3 _)) (grown_set _ _ 4 _)) hB (by decide)
/-- What the walk of preempt keeps of memory, before it has a new table. -/
def PB (w : World) (t : Tab) (a : Option Addr) (cap : Nat) (ac oty key other : Int) (oap : Bool) (K : List Int) (A S : Nat) (l : List Bool) (wx : World) : Prop :=
  wx.heap[w.heap.size]? = some (.cells #[.int .u32 t.g, .slice a t.ks.length cap, .int .i64 t.h, .int .i64 t.ty, .bool t.ap] 25) ∧ wx.heap[w.heap.size + 1]? = some (.cells #[.int .i64 ac, .int .i64 oty, .int .u64 key, .int .u64 other, .bool oap] 43) ∧ wx.heap[w.heap.size + 1 + 1]? = some (.cells #[.int .u32 0, .slice none 0 0, .int .i64 0, .int .i64 0, .bool false] 25) ∧ wx.heap[A]? = some (.cells (K.map (Value.int .u64)).toArray 57) ∧ wx.heap[S]? = some (.cells ((l).map Value.bool).toArray 71) ∧ Below w.heap.size w wx ∧ A < wx.heap.size ∧ S < wx.heap.size
theorem PB_set {w : World} {t : Tab} {a : Option Addr} {cap : Nat} {ac oty key other : Int} {oap : Bool} {K : List Int} {A S : Nat} {X Y : List Bool} {v v' : Bool} {k : Nat} {wx : World} (h : PB w t a cap ac oty key other oap K A S (X ++ v :: Y) wx) (hk : X.length = k)
    (h1 : ¬ S = w.heap.size) (h2 : ¬ S = w.heap.size + 1) (h3 : ¬ S = w.heap.size + 1 + 1) (h4 : ¬ S = A) (h5 : w.heap.size ≤ S) : PB w t a cap ac oty key other oap K A S (X ++ v' :: Y) (wx.setCell ⟨S, k, none⟩ (.bool v')) := by
  obtain ⟨a0, a1, a2, a3, a4, a5, a6, a7⟩ := h
  exact ⟨heap_set_ne h1 a0, heap_set_ne h2 a1, heap_set_ne h3 a2, heap_set_ne h4 a3, barr_set a4 hk, Below.setCell a5 h5 _, by simpa using a6, by simpa using a7⟩
/-- The same, where it has one. -/
def PF (w : World) (R : Tab × List Int) (a5 : Option Addr) (c5 : Nat) (a6 : Option Addr) (ac oty key other : Int) (oap : Bool) (M : Nat) (g h ty : Int) (wx : World) : Prop :=
  wx.heap[M]? = some (.cells #[.int .u32 (g), .slice a5 R.1.ks.length c5, .int .i64 (h), .int .i64 (ty), .bool R.1.ap] 25) ∧ wx.heap[w.heap.size + 1]? = some (.cells #[.int .i64 ac, .int .i64 oty, .int .u64 key, .int .u64 other, .bool oap] 43) ∧ wx.heap[w.heap.size + 1 + 1]? = some (.cells #[.int .u32 0, .slice none 0 0, .int .i64 0, .int .i64 0, .bool false] 25) ∧ KeysIn wx a5 R.1.ks ∧ IntsIn wx a6 R.2 ∧ Below w.heap.size w wx ∧ M < wx.heap.size
end Go.Proofs.Ytopakonpfbbldaa
