/- Aggregates that are built out of parts, some of them of many cells. What reads in a drawn region: a whole array, an aggregate that is built. No condition; no program is named. -/
import Derived.Test.YtajmcplanlibnaaGreatDoorMix4
import Derived.Test.YtajmcplanlibnaaGreatDoorGen
import Derived.Test.YtajmcplanlibnaaGreatDoorQuiet
import Derived.Deep.MidRow
import Derived.Great.BuildSlice
namespace Go.Proofs.YtajmcplanlibnaaGreatDoor
set_option linter.unusedSimpArgs false
set_option linter.unusedVariables false
open Go.RowKit
theorem fold_set (off : Nat) : ∀ (l : List Value) (k : Nat) (cells : Array Value), off + k + l.length ≤ cells.size →
    ((l.zipIdx k).foldl (fun cs (x : Value × Nat) => cs.setIfInBounds (off + x.2) x.1) cells).toList = cells.toList.take (off + k) ++ (l ++ cells.toList.drop (off + k + l.length))
  | [], k, cells, _ => by simp
  | v :: l, k, cells, h => by
    rw [List.zipIdx_cons, List.foldl_cons]
    have ih := fold_set off l (k + 1) (cells.setIfInBounds (off + k) v) (by simp at h ⊢; omega)
    rw [ih]
    have hk : off + k < cells.toList.length := by simp at h ⊢; omega
    rw [Array.toList_setIfInBounds, show off + (k + 1) = off + k + 1 by omega, List.take_succ_eq_append_getElem (by simpa using hk), List.take_set_of_le (Nat.le_refl _), List.getElem_set_self, List.drop_set_of_lt (by omega)]
    simp only [List.append_assoc, List.singleton_append, List.cons_append, List.nil_append, List.length_cons]
    rw [show off + k + 1 + l.length = off + k + (l.length + 1) by omega]
theorem fold_arr (off : Nat) (xs cells : Array Value) (h : off + xs.size ≤ cells.size) :
    xs.zipIdx.foldl (fun cs (x : Value × Nat) => cs.setIfInBounds (off + x.2) x.1) cells = (cells.toList.take off ++ (xs.toList ++ cells.toList.drop (off + xs.size))).toArray := by
  apply Array.ext'
  have := fold_set off xs.toList 0 cells (by simpa using h)
  rw [← Array.foldl_toList, Array.toList_zipIdx]
  simpa using this
theorem built_struct {P : Program} {t : TypeId} {it : TypeInfo} {z : Value} {fields : Array Field} {places : List (Nat × Nat)} (h1 : P.info? t = some it) (h2 : P.underlying t = some (.struct fields)) (h3 : it.zero = some z)
    (h4 : fields.toList.mapM (fun f => (P.info? f.type).map fun i => (f.offset, i.size)) = some places) (parts : List (Nat × Value)) : P.built t parts = Instr.fill (places.toArray[·]?) z.cells parts := by
  simp [Program.built, h1, h2, h3, h4]
theorem fill_cons {place : Nat → Option (Nat × Nat)} {cells : Array Value} {i off : Nat} {v : Value} {rest : List (Nat × Value)} (h : place i = some (off, v.cells.size)) (hs : off + v.cells.size ≤ cells.size) :
    Instr.fill place cells ((i, v) :: rest) = Instr.fill place (cells.toList.take off ++ (v.cells.toList ++ cells.toList.drop (off + v.cells.size))).toArray rest := by
  rw [Instr.fill, h]
  simp only
  rw [if_neg (by simp; omega)]
  have e := fold_arr off v.cells cells hs
  rw [← e]
theorem quiet_build_to {P : Program} {o : Oper} {a : Act} {C : World → Prop} {K : Act → Prop} (t : TypeId) (parts : Array (Nat × Operand)) (ho : o.op = .build t parts)
    (cs : Array Value) (hb : P.built t (parts.map fun (i, x) => (i, a.eval x)).toList = some cs) (h : K (a.put o.dst (.agg cs))) : o.quiet P a C K :=
  quiet_of_run _ (fun w _ => by
    unfold execOp
    simp only [ho, Sem.run_bind, run_build w t _ cs hb, Result.andThen_ok]
    rfl) h
/-- A slice of one element, of many cells. -/
theorem wpList_buildOne {P : Program} {ops : Array Oper} {rest : List Oper} {o : Oper} {a : Act} {w : World} {Q : Exit → Act → World → Prop} (hg : o.guard = none) (t e : TypeId) (x : Operand) (ho : o.op = .buildSlice t 1 #[(0, x)])
    (ie : TypeInfo) (z : Value) (hu : P.underlying t = some (.slice e)) (hie : P.info? e = some ie) (hz : ie.zero = some z) (n : Nat) (hn : ie.size = n) (hsmall : n ≤ 16777216) (hpos : 0 < n)
    (v : Value) (hv : a.eval x = v) (cs : Array Value) (hx : v.cells = cs) (hcs : cs.size = n)
    (h : wpList P ops Q rest (a.put o.dst (.slice (some ⟨w.heap.size, 0, none⟩) 1 1)) (w.alloc (.cells cs e))) : wpList P ops Q (o :: rest) a w := by
  subst hn
  refine wpList_buildSlice hg t e 1 #[(0, x)] ho cs ie z hu hie hz (by omega) (by omega) ?_ h
  simp only [List.map_toArray, List.map_cons, List.map_nil, hv]
  rw [fill_cons (off := 0) (by rw [hx, hcs]; simp) (by rw [hx, hcs]; simp)]
  simp only [Instr.fill, Option.some.injEq]
  apply Array.ext'
  rw [hx]
  simp [hcs]
theorem quiet_load_mid {P : Program} {op : Oper} {a : Act} {C : World → Prop} {K : Act → Prop} (ty : TypeId) (x : Operand) (ho : op.op = .load ty x)
    (b o : Nat) (hx : a.eval x = .pointer (some ⟨b, o, none⟩)) (cs : List Value) (d : TypeDesc) (hS : ∀ w, C w → w.rangeAt b o cs)
    (hu : P.underlying ty = some d) (hd : d.isRow = true) (hi : (P.info? ty).map (·.size) = some cs.length)
    (h : K (a.put op.dst (.agg cs.toArray))) : op.quiet P a C K :=
  quiet_of_run _ (fun w hw => by
    unfold execOp
    simp only [ho, hx, Instr.loadAt, Instr.sureAddr, Sem.run_bind, Sem.run_pure, Result.andThen_ok, run_loadVar_mid w b o ty cs d (hS w hw) hu hd hi]) h
theorem blkB {W : World} {k R : Nat} {ob : Obj} (h : W.heap[k]? = some ob) (hne : k ≠ R) (d : Nat) (os : Array Obj) (o : Obj) : (setO (Go.Sort.grow (redrawn W d) os) R o).heap[k]? = some ob := by
  have hlt := lt_of_blk h
  simp only [setO, Go.Sort.grow, redrawn]
  rw [Array.getElem?_setIfInBounds, if_neg (fun e => hne e.symm), Array.getElem?_append_left hlt]
  exact h
end Go.Proofs.YtajmcplanlibnaaGreatDoor
