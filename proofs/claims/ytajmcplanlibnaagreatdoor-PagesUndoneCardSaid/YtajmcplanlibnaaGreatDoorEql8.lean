/- == on two arrays of bytes. No condition; no program is named. -/
import Derived.Test.YtajmcplanlibnaaGreatDoorBuilt
import Derived.Test.YtajmcplanlibnaaGreatDoorClear
import Derived.DeepKeys
namespace Go.Proofs.YtajmcplanlibnaaGreatDoor
set_option linter.unusedSimpArgs false
set_option linter.unusedVariables false
open Go.RowKit Go.Maps
theorem eqItems_u8 {P : Program} {e : TypeId} (he : P.plainKey e = true) (hu : P.underlying e = some (.int .u8)) (d : Nat) (w : World) (x y : List Int) (hl : x.length = y.length) : ∀ is : List Nat, (∀ i ∈ is, i < x.length) →
    (Op.eqItems (d + 1) e 1 (x.map (Value.int .u8)).toArray (y.map (Value.int .u8)).toArray is).run P w = .ok (is.all fun i => x.getD i 0 == y.getD i 0) w
  | [], _ => by simp [Op.eqItems]
  | i :: is, h => by
    have hi := h i (by simp)
    have hx : (x.map (Value.int IntKind.u8)).toArray[i * 1]? = some (.int .u8 (x.getD i 0)) := by simp [hi]
    have hy : (y.map (Value.int IntKind.u8)).toArray[i * 1]? = some (.int .u8 (y.getD i 0)) := by simp [hl ▸ hi]
    have ih := eqItems_u8 he hu d w x y hl is (fun j hj => h j (by simp [hj]))
    simp only [Op.eqItems, Sem.run_bind, run_part_plain w he hx, run_part_plain w he hy, Result.andThen_ok, run_equalIn_int w d e .u8 .u8 _ _ hu, List.all_cons]
    cases hb : (x.getD i 0 == y.getD i 0)
    · simp
    · simp [ih]
theorem run_eql_u8 {P : Program} {t e : TypeId} {n : Nat} {i : TypeInfo} (ht : P.underlying t = some (.array n e)) (hi : P.info? e = some i) (hc : P.cellsOf e = 1) (he : P.plainKey e = true) (hu : P.underlying e = some (.int .u8)) (w : World) (x y : List Int) (hx : x.length = n) (hy : y.length = n) :
    (binOp .eql t (.agg (x.map (Value.int .u8)).toArray) (.agg (y.map (Value.int .u8)).toArray)).run P w = .ok (.bool (decide (x = y))) w := by
  rw [run_eql_struct w, show (10000 : Nat) = 9999 + 1 from rfl, run_equalIn_array w 9999 _ _ ht hi, hc, show (9999 : Nat) = 9998 + 1 from rfl, eqItems_u8 he hu 9998 w x y (by omega) _ (fun i h => by rw [List.mem_range] at h; omega)]
  simp only [Result.andThen_ok]
  congr 2
  rw [Bool.eq_iff_iff, List.all_eq_true, decide_eq_true_iff]
  constructor
  · intro h
    refine List.ext_getElem (by omega) (fun i h1 h2 => ?_)
    have := h i (by rw [List.mem_range]; omega)
    simpa [h1, h2] using this
  · rintro rfl i _
    simp
theorem quiet_eql_to {P : Program} {op : Oper} {a : Act} {C : World → Prop} {K : Act → Prop} (t t2 : TypeId) (x y : Operand) (ho : op.op = .binOp .eql t x y t2) (xs ys : Array Value) (b : Bool)
    (hx : a.eval x = .agg xs) (hy : a.eval y = .agg ys) (hm : P.eqGuardType P.depth t = false) (hr : ∀ w, (binOp .eql t (.agg xs) (.agg ys)).run P w = .ok (.bool b) w) (h : K (a.put op.dst (.bool b))) : op.quiet P a C K :=
  quiet_of_run _ (fun w _ => by
    unfold execOp
    simp only [ho, hx, hy, Sem.run_bind, run_eqGuard_agg w .eql t x y xs ys hm, hr, Result.andThen_ok]
    rfl) h
end Go.Proofs.YtajmcplanlibnaaGreatDoor
