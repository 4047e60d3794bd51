/- clear of a map; a row of cells stored into the middle of a block. No condition; no program is named. -/
import Derived.Test.YtajmcplanlibnaaGreatDoorBuilt
import Derived.Test.YtajmcplanlibnaaGreatDoorKeep
namespace Go.Proofs.YtajmcplanlibnaaGreatDoor
set_option linter.unusedSimpArgs false
set_option linter.unusedVariables false
open Go.RowKit Go.ChangeMaps Go.MapKept Go.Maps
open Go.WideElems (Fit rd rg pl rd_val elemAt)
theorem run_clear_is {P : Program} {k t e : TypeId} {w : World} {b c : Nat} {f : Lit → Option Value} (ht : P.underlying t = some (.map k e)) (h : MapIs P k w b c f) (ty : TypeId) :
    ∃ w', (Builtin.clear_ #[t] ty #[.map (some b)]).run P w = .ok (.tuple #[]) w' ∧ MapIs P k w' b 0 (fun _ => none) ∧ w.mapTurned w' b := by
  obtain ⟨D, ⟨es, clock, hb, F, hs, hD⟩, _⟩ := h
  refine ⟨setBlock w b (.map #[] clock), ?_, ⟨.map [], ⟨#[], clock, heap_setBlock_same hb _, ⟨by simp, stamped_empty clock, by simp⟩, Nat.le_refl _, rfl⟩, rfl, fun _ _ _ => rfl⟩, ⟨es, clock, #[], clock, hb, rfl⟩⟩
  simp [Builtin.clear_, run_underlying ht, MapKept.run_getObj_map hb, MapKept.run_setObj_map _ hb, Result.andThen, setBlock]
theorem wpList_clear_is {P : Program} (w : World) {ops : Array Oper} {rest : List Oper} {o : Oper} {a : Act} {Q : Exit → Act → World → Prop}
    (hg : o.guard = none) (m : Operand) (t : TypeId) (hop : o.op = Op.call { callee := Callee.builtin Builtin.clear, args := #[m], argTypes := #[t] })
    (k e : TypeId) (ht : P.underlying t = some (.map k e)) (b c : Nat) (f : Lit → Option Value) (hm : a.eval m = .map (some b)) (hown : MapIs P k w b c f)
    (hK : ∀ w', MapIs P k w' b 0 (fun _ => none) → w.mapTurned w' b → wpList P ops Q rest (a.put o.dst (.tuple #[])) w') : wpList P ops Q (o :: rest) a w := by
  refine wpList_plain hg fun K' hK' => ?_
  obtain ⟨w', hrun, r1, r2⟩ := run_clear_is ht hown o.type
  unfold Oper.wp
  simp [execOp, hop, resolve, invoke, builtin, hm, hrun, Result.andThen]
  exact hK' _ _ (hK w' r1 r2)
theorem setCells_grown (b : Nat) : ∀ (vs : List Value) (o : Nat) (w : World), w.grownBy (w.setCells b o vs) (some b)
  | [], o, w => grown_of_below (Below.refl _ _) _
  | v :: vs, o, w => grown_trans (grown_set w b o v) (setCells_grown b vs (o + 1) _)
theorem setCells_blk (b : Nat) : ∀ (vs : List Value) (k o : Nat) (w : World) (cs : Array Value) (T : Nat), w.heap[b]? = some (.cells cs T) →
    (w.setCells b (o + k) vs).heap[b]? = some (.cells ((vs.zipIdx k).foldl (fun cs (x : Value × Nat) => cs.setIfInBounds (o + x.2) x.1) cs) T)
  | [], k, o, w, cs, T, h => h
  | v :: vs, k, o, w, cs, T, h => by
    have ih := setCells_blk b vs (k + 1) o (w.setCell ⟨b, o + k, none⟩ v) (cs.setIfInBounds (o + k) v) T (set_blk h v)
    rw [List.zipIdx_cons, List.foldl_cons]
    exact ih
theorem setCells_row {b o T : Nat} {vs : List Value} {w : World} {cs : List Value} (h : w.heap[b]? = some (.cells cs.toArray T)) (hs : o + vs.length ≤ cs.length) :
    (w.setCells b o vs).heap[b]? = some (.cells (cs.take o ++ (vs ++ cs.drop (o + vs.length))).toArray T) := by
  have h1 := setCells_blk b vs 0 o w cs.toArray T h
  rw [Nat.add_zero] at h1
  rw [h1]
  congr 2
  apply Array.ext'
  have := fold_set o vs 0 cs.toArray (by simpa using hs)
  simpa using this
theorem flat_set : ∀ (l : List (List Int)) (i : Nat) (p : List Int), (∀ q ∈ l, q.length = 64) → i < l.length → p.length = 64 → (l.set i p).flatten = l.flatten.take (i * 64) ++ (p ++ l.flatten.drop (i * 64 + 64))
  | [], i, p, _, h, _ => by simp at h
  | q :: l, 0, p, h, _, hp => by
    have hq := h q (by simp)
    simp only [List.set_cons_zero, List.flatten_cons, Nat.zero_mul, List.take_zero, List.nil_append, Nat.zero_add]
    rw [List.drop_append_of_le_length (by omega), List.drop_of_length_le (by omega), List.nil_append]
  | q :: l, i + 1, p, h, hi, hp => by
    have hq := h q (by simp)
    have ih := flat_set l i p (fun x hx => h x (by simp [hx])) (by simpa using hi) hp
    simp only [List.set_cons_succ, List.flatten_cons]
    rw [ih, show (i + 1) * 64 = q.length + i * 64 by omega, List.take_length_add_append, show q.length + i * 64 + 64 = q.length + (i * 64 + 64) by omega, List.drop_length_add_append]
    simp
end Go.Proofs.YtajmcplanlibnaaGreatDoor
