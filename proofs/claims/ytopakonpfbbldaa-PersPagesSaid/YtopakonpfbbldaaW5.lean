/- What the function values of layer 10 (pers) say, and what put makes of a table. -/
import Derived.Test.YtopakonpfbbldaaW4
import Derived.BigRegion
namespace Go.Proofs.Ytopakonpfbbldaa
set_option linter.unusedSimpArgs false
set_option linter.unusedVariables false
open Go.RowKit

theorem callFunc_34 (args : Array Value) (w : World) : (callFunc 34 args).run Try.prog w = .ok (.enter 34 args) w := by go_simp
theorem callFunc_40 (args : Array Value) (w : World) : (callFunc 40 args).run Try.prog w = .ok (.enter 40 args) w := by go_simp
theorem callFunc_41 (args : Array Value) (w : World) : (callFunc 41 args).run Try.prog w = .ok (.enter 41 args) w := by go_simp

set_option maxRecDepth 100000 in
set_option maxHeartbeats 400000 in
theorem says_all (w : World) : Says w 34 #[] (fun _ => true) := by
  refine ⟨callFunc_34, fun r w1 hb => ?_⟩
  go_enter Try.func34, Try.ntmps34
  go_wp2
  go_ret
  exact ⟨rfl, by repeat (first | with_reducible assumption | (with_reducible refine Below.setCell ?_ (by first | omega | (simp; done) | (simp; omega)) _) | (with_reducible refine Below.alloc ?_ (by first | omega | (simp; done) | (simp; omega)) _) | (with_reducible refine Below.drew ?_) | (with_reducible refine below_dN ?_ _) | with_reducible exact Below.refl _ _ | (with_reducible refine Below.trans ?_ (Below.mono (by assumption) (by first | omega | (simp; done) | (simp; omega)))))⟩

set_option maxRecDepth 100000 in
set_option maxHeartbeats 400000 in
theorem says_one (w : World) (c : Nat) (n : Int) (hc : w.cell? ⟨c, 0, none⟩ = some (.int .i64 n)) : Says w 40 #[.pointer (some ⟨c, 0, none⟩)] (fun r => r.1 == n) := by
  refine ⟨callFunc_40, fun r w1 hb => ?_⟩
  have hlt : c < w.heap.size := World.block_lt_of_cell? w _ hc
  have hc1 : w1.cell? ⟨c, 0, none⟩ = some (.int .i64 n) := (hb.cell (p := ⟨c, 0, none⟩) hlt).trans hc
  have hlt1 : c < w1.heap.size := Nat.lt_of_lt_of_le hlt hb.size
  clear hc hb
  go_enter Try.func40, Try.ntmps40
  go_wp2
  go_ret
  exact ⟨rfl, by repeat (first | with_reducible assumption | (with_reducible refine Below.setCell ?_ (by first | omega | (simp; done) | (simp; omega)) _) | (with_reducible refine Below.alloc ?_ (by first | omega | (simp; done) | (simp; omega)) _) | (with_reducible refine Below.drew ?_) | (with_reducible refine below_dN ?_ _) | with_reducible exact Below.refl _ _ | (with_reducible refine Below.trans ?_ (Below.mono (by assumption) (by first | omega | (simp; done) | (simp; omega)))))⟩

set_option maxRecDepth 100000 in
set_option maxHeartbeats 400000 in
theorem says_named (w : World) (ct co cn : Nat) (takes : Bool) (ac ty ky other n : Int) (ap : Bool) (hT : w.cell? ⟨ct, 0, none⟩ = some (.bool takes)) (hN : w.cell? ⟨cn, 0, none⟩ = some (.int .i64 n))
    (hO : w.heap[co]? = some (.cells #[.int .i64 ac, .int .i64 ty, .int .u64 ky, .int .u64 other, .bool ap] 37)) :
    Says w 41 #[.pointer (some ⟨ct, 0, none⟩), .pointer (some ⟨co, 0, none⟩), .pointer (some ⟨cn, 0, none⟩)] (namedF takes other n) := by
  refine ⟨callFunc_41, fun r w1 hb => ?_⟩
  have h1 : ct < w.heap.size := World.block_lt_of_cell? w _ hT
  have h2 : cn < w.heap.size := World.block_lt_of_cell? w _ hN
  have h3 : co < w.heap.size := (Array.getElem?_eq_some_iff.1 hO).1
  have e1 : w1.cell? ⟨ct, 0, none⟩ = some (.bool takes) := (hb.cell (p := ⟨ct, 0, none⟩) h1).trans hT
  have e2 : w1.cell? ⟨cn, 0, none⟩ = some (.int .i64 n) := (hb.cell (p := ⟨cn, 0, none⟩) h2).trans hN
  obtain ⟨o0, o1, o2, o3, o4, _⟩ := blk5 ((hb.block co h3).trans hO)
  have h4 : ct < w1.heap.size := Nat.lt_of_lt_of_le h1 hb.size
  have h5 : cn < w1.heap.size := Nat.lt_of_lt_of_le h2 hb.size
  have h6 : co < w1.heap.size := Nat.lt_of_lt_of_le h3 hb.size
  clear hT hN hO hb
  go_enter Try.func41, Try.ntmps41
  go_wp2
  all_goals go_ret
  all_goals refine ⟨?_, by repeat (first | with_reducible assumption | (with_reducible refine Below.setCell ?_ (by first | omega | (simp; done) | (simp; omega)) _) | (with_reducible refine Below.alloc ?_ (by first | omega | (simp; done) | (simp; omega)) _) | (with_reducible refine Below.drew ?_) | (with_reducible refine below_dN ?_ _) | with_reducible exact Below.refl _ _ | (with_reducible refine Below.trans ?_ (Below.mono (by assumption) (by first | omega | (simp; done) | (simp; omega)))))⟩
  all_goals first | (simp [namedF, *]; done) | (simp [namedF, *]; omega) | (simp_all [namedF]; done) | (simp_all [namedF]; omega)

end Go.Proofs.Ytopakonpfbbldaa
