/- A book is mounted on a disk of zeros. -/
import Derived.Test.YtajmcplanlibnaaGreatDoorKYB5
set_option linter.unusedSimpArgs false
set_option linter.unusedVariables false
set_option linter.unnecessarySimpa false
namespace Go.Proofs.YtajmcplanlibnaaGreatDoor
open Go.RowKit Go.Maps
def newB (size n : Nat) (d : DiskS) : BookS := { size := size, n := n, gen := 0, news := fun _ => none, opn := none, disk := d, pl := 0, num := 0, last := zer 32, used := 0, db := none }
theorem built_book (db size nb : Nat) (n : Int) : Tryz.prog.built 146 [(0, .pointer (some ⟨db, 0, none⟩)), (2, .int .i64 (size : Int)), (3, .int .i64 n), (5, .map (some nb))] = some #[.pointer (some ⟨db, 0, none⟩), .pointer none, .int .i64 (size : Int), .int .i64 n, .int .u64 0, .map (some nb), .map none, .bool false] := by kernel_rfl
theorem book_build {ops : Array Oper} {rest : List Oper} {o : Oper} {a : Act} {w : World} {Q : Exit → Act → World → Prop} (hg : o.guard = none) (p0 p2 p3 p5 : Operand) (ho : o.op = .build 146 #[(0, p0), (2, p2), (3, p3), (5, p5)]) (db size nb : Nat) (n : Int)
    (h0 : a.eval p0 = .pointer (some ⟨db, 0, none⟩)) (h2 : a.eval p2 = .int .i64 (size : Int)) (h3 : a.eval p3 = .int .i64 n) (h5 : a.eval p5 = .map (some nb))
    (h : wpList Tryz.prog ops Q rest (a.put o.dst (.agg #[.pointer (some ⟨db, 0, none⟩), .pointer none, .int .i64 (size : Int), .int .i64 n, .int .u64 0, .map (some nb), .map none, .bool false])) w) : wpList Tryz.prog ops Q (o :: rest) a w := by
  refine Qz4 hg _ _ ho _ ?_ h
  simp only [List.map_toArray, List.map_cons, List.map_nil, h0, h2, h3, h5]
  exact built_book db size nb n
theorem blk8c {w : World} {B : Nat} {c0 c1 c2 c3 c4 c5 c6 c7 : Value} {T : Nat} (h : w.heap[B]? = some (.cells #[c0, c1, c2, c3, c4, c5, c6, c7] T)) :
    w.cell? ⟨B, 0, none⟩ = some c0 ∧ w.cell? ⟨B, 1, none⟩ = some c1 ∧ w.cell? ⟨B, 2, none⟩ = some c2 ∧ w.cell? ⟨B, 3, none⟩ = some c3 ∧ w.cell? ⟨B, 4, none⟩ = some c4 ∧ w.frozen? ⟨B, 1, none⟩ = false := by
  simp [World.cell?, World.frozen?, h]
end Go.Proofs.YtajmcplanlibnaaGreatDoor
