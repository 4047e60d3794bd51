/- A slice of calls of a depot: each is two whole numbers and a byte. -/
import Derived.Test.YtajmcplanlibnaaGreatDoorKU8
set_option linter.unusedSimpArgs false
set_option linter.unusedVariables false
set_option linter.unnecessarySimpa false
namespace Go.Proofs.YtajmcplanlibnaaGreatDoor
open Go.RowKit Go.Maps
theorem info_call7 : (Tryz.prog.info? 91).map (·.size) = some 3 := by kernel_rfl
/-- Calls in memory: K i, S i, W i. -/
def Calls7At (w : World) (a : Option Addr) (len : Nat) (K S W : Nat → Int) : Prop := ∀ i, i < len → ∃ b off, a = some ⟨b, off, none⟩ ∧ b < w.heap.size ∧ w.rangeAt b (off + i * 3) [.int .i64 (K i), .int .i64 (S i), .int .u8 (W i)]
theorem Calls7At.keeps {w w' : World} {a : Option Addr} {len : Nat} {K S W : Nat → Int} (h : Calls7At w a len K S W) (hk : Keeps (fun k => k < w.heap.size) w w') : Calls7At w' a len K S W := fun i hi => by
  obtain ⟨b, off, ha, hb, hc⟩ := h i hi
  refine ⟨b, off, ha, Nat.lt_of_lt_of_le hb hk.size, fun j v hv => ?_⟩
  have := hc j v hv
  unfold World.cell? at this ⊢
  rw [hk.block b hb hb]
  exact this
theorem call7_load {ops : Array Oper} {rest : List Oper} {o : Oper} {a : Act} {w : World} {Q : Exit → Act → World → Prop} (hgd : o.guard = none) (y : Operand) (ho : o.op = .load 91 y) (g off : Nat) (l b x : Int) (hx : a.eval y = .pointer (some ⟨g, off, none⟩)) (hg : w.rangeAt g off [.int .i64 l, .int .i64 b, .int .u8 x])
    (h : wpList Tryz.prog ops Q rest (a.put o.dst (.agg #[.int .i64 l, .int .i64 b, .int .u8 x])) w) : wpList Tryz.prog ops Q (o :: rest) a w :=
  wpList_load_mid hgd 91 y ho g off hx [.int .i64 l, .int .i64 b, .int .u8 x] _ hg Tryz.underlying91 rfl info_call7 h
theorem call7_store {ops : Array Oper} {rest : List Oper} {o : Oper} {a : Act} {w : World} {Q : Exit → Act → World → Prop} (hgd : o.guard = none) (y z : Operand) (ho : o.op = .store 91 y z) (g : Nat) (l b x c0 c1 c2 : Int) (hx : a.eval y = .pointer (some ⟨g, 0, none⟩)) (hy : a.eval z = .agg #[.int .i64 l, .int .i64 b, .int .u8 x])
    (hg : w.heap[g]? = some (.cells #[.int .i64 c0, .int .i64 c1, .int .u8 c2] 91)) (h : wpList Tryz.prog ops Q rest (a.put o.dst undef) (w.setRow g #[.int .i64 l, .int .i64 b, .int .u8 x])) : wpList Tryz.prog ops Q (o :: rest) a w :=
  wpList_store_row hgd _ y z ho g #[.int .i64 l, .int .i64 b, .int .u8 x] hx hy _ #[.int .i64 c0, .int .i64 c1, .int .u8 c2] hg info_call7 rfl (by simp [Value.oneCell']) h
theorem call7_range {w : World} {b T : Nat} {x y z : Value} (h : w.heap[b]? = some (.cells #[x, y, z] T)) : w.rangeAt b 0 [x, y, z] := fun j v hv => by
  rw [cell_of_row w b (0 + j) _ T (0, 0) h]
  simpa using hv
theorem built_call7 (x : Int) : Tryz.prog.built 91 [(0, .int .i64 3), (1, .int .i64 x)] = some #[.int .i64 3, .int .i64 x, .int .u8 0] := by kernel_rfl
end Go.Proofs.YtajmcplanlibnaaGreatDoor
