/- The rows of this seat, opened: the world that the listed variables ask for, as a witness; what the condition says of the first cells. -/
import Derived.Test.YtnicmfboomibjaaDoorRows
import Derived.Test.YtnicmfboomibjaaDoorK3p
import Derived.Test.YtnicmfboomibjaaDoorK11
import Derived.Test.YtnicmfboomibjaaDoorK8
import Derived.Deep.DeepHandedRow
import Derived.Deep.DeepWitnessRowRef
import Derived.Lib.LaidIn
import Derived.Stop.LaidErr
import Derived.ProofKit
import Derived.SizedLaws
import Derived.SliceStrings
import Derived.Shelf.Vars
namespace Go.Proofs.YtnicmfboomibjaaDoor
set_option linter.unusedSimpArgs false
set_option linter.unusedVariables false
open Go.ChangeShapes Go.WideShapes Go.ChangeAt Go.RowKit Go.Lib

theorem Tryd.own : ownKnob Tryd.prog.godebug = none := by kernel_rfl
theorem Tryd.laidOut : laidOutB Tryd.prog = true := by kernel_rfl
theorem Tryd.star : "*" ++ "errors.errorString" = "*errors.errorString" := by decide
theorem Tryd.rowErr (u : TypeId) (h : Tryd.prog.typeName? 3 u = some "*errors.errorString") : u = 110 :=
  typeName_ptr_named (nm := "errors.errorString") (by rw [Tryd.star]; kernel_rfl) (by kernel_rfl) (by decide) u (by rw [Tryd.star]; exact h)

def cellD : DataW Unit → List Value
  | .lit (.int k n) => [.int k n]
  | _ => []
def rowD : DataW Unit → List Value
  | .agg l => l.flatMap fun d => match d with
    | .agg m => m.flatMap cellD
    | d => cellD d
  | _ => []
/-- The witness: the settled world with two blocks more (the two errors' structs), the listed variables holding what their initialisers lay. -/
noncomputable def laidWorld (os : Os) : World :=
  let N := (World.settled Tryd.prog os).heap.size
  let w0 := World.holding Tryd.prog os ⟨#[.cells #[.string ⟨#[105, 110, 118, 97, 108, 105, 100, 32, 115, 121, 110, 116, 97, 120]⟩] 112, .cells #[.string ⟨#[118, 97, 108, 117, 101, 32, 111, 117, 116, 32, 111, 102, 32, 114, 97, 110, 103, 101]⟩] 112], #[], []⟩
  let put (h : Array Obj) (g : Nat) (cs : Array Value) : Array Obj := h.modify g fun
    | .cells _ t frozen => .cells cs t frozen
    | o => o
  let h0 := put (put w0.heap 1 #[.iface 110 (.pointer (some ⟨N, 0, none⟩))]) 2 #[.iface 110 (.pointer (some ⟨N + 1, 0, none⟩))]
  let h1 := put h0 3 (rowD Rows.laid_unicode_utf8_first).toArray
  let h2 := put h1 4 (rowD Rows.laid_unicode_utf8_acceptRanges).toArray
  let h3 := put h2 5 (rowD Rows.laid_internal_strconv_uint64pow10).toArray
  let h4 := put h3 6 (rowD Rows.laid_math_bits_deBruijn32tab).toArray
  let h5 := put h4 7 (rowD Rows.laid_math_bits_deBruijn64tab).toArray
  { w0 with heap := h5 }
noncomputable abbrev N0 : Nat := (World.settled Tryd.prog default).heap.size
abbrev laid7 : List (String × DataW Unit) := [("math/bits.deBruijn32tab", Rows.laid_math_bits_deBruijn32tab), ("math/bits.deBruijn64tab", Rows.laid_math_bits_deBruijn64tab), ("internal/strconv.uint64pow10", Rows.laid_internal_strconv_uint64pow10), ("unicode/utf8.acceptRanges", Rows.laid_unicode_utf8_acceptRanges), ("strconv.ErrRange", Rows.laid_strconv_ErrRange), ("strconv.ErrSyntax", Rows.laid_strconv_ErrSyntax), ("unicode/utf8.first", Rows.laid_unicode_utf8_first)]
set_option maxRecDepth 1000000 in
theorem laid_met (os : Os) (args : Array Value) : laidMet Tryd.prog laid7 ((laidWorld os).forCall (fun _ _ => 0) ⟨#[], args, []⟩).memory :=
  (LaidIn.of_run [6, 7, 5, 4, 2, N0 + 1, 1, N0, 3] 8 (by kernel_rfl) (by kernel_rfl) (by kernel_rfl) (by kernel_rfl)).met
/-- What the condition says: the two errors are errors; the first cell is an int. -/
theorem env_of_laid {W : World} (hL : laidMet Tryd.prog laid7 W) (hS : W.ShapedOpen Tryd.prog) : Env W ∧ 2 < W.heap.size := by
  obtain ⟨a2, t2, hv2, _⟩ := laid_sentinel (g := 2) hL.tail.tail.tail.tail (by kernel_rfl) (by kernel_rfl) Tryd.underlying64 Tryd.rowErr Tryd.underlying110 Tryd.underlying112 rfl rfl Tryd.underlying9 (by kernel_rfl) (by kernel_rfl)
  obtain ⟨a1, t1, hv1, _⟩ := laid_sentinel (g := 1) hL.tail.tail.tail.tail.tail (by kernel_rfl) (by kernel_rfl) Tryd.underlying64 Tryd.rowErr Tryd.underlying110 Tryd.underlying112 rfl rfl Tryd.underlying9 (by kernel_rfl) (by kernel_rfl)
  have h2 : W.cell? ⟨2, 0, none⟩ = some (.iface 110 (.pointer (some a2))) := by simpa using World.var?_cell (g := 2) (by kernel_rfl) hv2 0
  have h1 : W.cell? ⟨1, 0, none⟩ = some (.iface 110 (.pointer (some a1))) := by simpa using World.var?_cell (g := 1) (by kernel_rfl) hv1 0
  refine ⟨⟨?_, ⟨_, _, h1⟩, ⟨_, _, h2⟩⟩, ?_⟩
  · exact Go.Proofs.cell_of_shapedOpen_int (zero := #[.int .i64 0]) (t := 3) hS (of_decide_eq_true (by kernel_rfl)) (by kernel_rfl) rfl (by kernel_rfl) (by kernel_rfl) Tryd.underlying3
  · exact World.block_lt_of_cell? W _ h2
section
variable {H : Type} {enc : TypeId × Value → H} {W : World} {base : Nat} {spare : Nat → Bool} {held : Bool}
theorem addr_add (b o n : Nat) : (⟨b, o, none⟩ : Addr).add n = ⟨b, o + n, none⟩ := by unfold Addr.add; split <;> simp_all
theorem add_plain {W : World} {a : Addr} {i : Nat} {v v0 : Value} (h0 : W.cell? (a.add 0) = some v0) (h : W.cell? (a.add i) = some v) : ∃ b o, a = ⟨b, o, none⟩ ∧ W.cell? ⟨b, o + i, none⟩ = some v ∧ b < W.heap.size := by
  have hs : a.spot = none := by simpa [Addr.add] using World.cell?_spot h0
  obtain ⟨b, o, sp⟩ := a
  simp only at hs
  subst hs
  rw [addr_add] at h
  exact ⟨b, o, rfl, h, World.block_lt_of_cell? W _ h⟩
theorem open_bytesIn {fuel : Nat} {v : Value} {x : DataW H × List MemPlace} (h : DataW.trod enc Tryd.prog W base spare held fuel 22 [v] = some x) :
    ∃ a bs c, v = .slice a bs.length c ∧ BytesIn W a bs ∧ bs.length ≤ c ∧ bs.length ≤ maxLen := by
  rcases open_ints Tryd.underlying22 Tryd.underlying5 (by kernel_rfl) h with ⟨hcs, rfl⟩ | ⟨a, len, cap, zs, hcs, hb, hl, hm, hlen, rfl, hc, hw⟩
  · simp only [List.cons.injEq, and_true] at hcs
    subst hcs
    exact ⟨none, [], 0, rfl, fun i hi => by simp at hi, by simp, by simp⟩
  · simp only [List.cons.injEq, and_true] at hcs
    subst hcs
    have hlz : len ≤ zs.length := by rw [hlen]; split <;> omega
    have hll : ((zs.take len).map fun n => UInt8.ofNat n.toNat).length = len := by simp; omega
    refine ⟨some a, (zs.take len).map fun n => UInt8.ofNat n.toNat, cap, by rw [hll], fun i hi => ?_, by rw [hll]; exact hl, by rw [hll]; omega⟩
    rw [hll] at hi
    have hiz : i < zs.length := by omega
    obtain ⟨b, o, rfl, h1, h2⟩ := add_plain (hc 0 (by omega)) (hc i hiz)
    refine ⟨b, o, rfl, h2, ?_⟩
    rw [h1]
    have hwf := hw zs[i] (List.getElem_mem hiz)
    have hr : 0 ≤ zs[i] ∧ zs[i] < 256 := by
      have e1 : IntKind.u8.min = 0 := rfl
      have e2 : IntKind.u8.max = 255 := rfl
      simp [Lit.wf, e1, e2] at hwf
      omega
    have hm : zs[i].toNat % 256 = zs[i].toNat := Nat.mod_eq_of_lt (by omega)
    simp [hiz, hm]
    omega
theorem open_strsIn {fuel : Nat} {v : Value} {x : DataW H × List MemPlace} (h : DataW.trod enc Tryd.prog W base spare held fuel 32 [v] = some x) :
    ∃ a os c, v = .slice a os.length c ∧ StrsIn W a os ∧ os.length ≤ maxLen := by
  rcases open_strings Tryd.underlying32 Tryd.underlying9 (by kernel_rfl) h with ⟨hcs, rfl⟩ | ⟨a, len, cap, zs, hcs, hb, hl, hm, hlen, rfl, hc, hw⟩
  · simp only [List.cons.injEq, and_true] at hcs
    subst hcs
    exact ⟨none, [], 0, rfl, StrsIn.nil _ _, by simp⟩
  · simp only [List.cons.injEq, and_true] at hcs
    subst hcs
    have hlz : len ≤ zs.length := by rw [hlen]; split <;> omega
    have hll : (zs.take len).length = len := by simp; omega
    refine ⟨some a, zs.take len, cap, by rw [hll], fun i hi => ?_, by rw [hll]; omega⟩
    rw [hll] at hi
    have hiz : i < zs.length := by omega
    obtain ⟨b, o, rfl, h1, h2⟩ := add_plain (hc 0 (by omega)) (hc i hiz)
    refine ⟨b, o, rfl, h2, ?_⟩
    rw [h1]
    simp [hiz]
end
end Go.Proofs.YtnicmfboomibjaaDoor
