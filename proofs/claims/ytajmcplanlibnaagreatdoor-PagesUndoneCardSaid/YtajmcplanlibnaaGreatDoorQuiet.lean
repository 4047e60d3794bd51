/- An operation that only reads, by what its run yields in every world of a class: conversions. No condition; no program is named. -/
import Derived.Test.YtajmcplanlibnaaGreatDoorLib2
namespace Go.Proofs.YtajmcplanlibnaaGreatDoor
set_option linter.unusedSimpArgs false
set_option linter.unusedVariables false
open Go.RowKit
theorem quiet_of_run {P : Program} {o : Oper} {a : Act} {C : World → Prop} {K : Act → Prop} (v : Value) (h : ∀ w, C w → (execOp a.eval o).run P w = .ok (.value v) w) (hk : K (a.put o.dst v)) : o.quiet P a C K :=
  ⟨v, fun w hw => by unfold Oper.quietAt; rw [h w hw]; exact ⟨rfl, rfl⟩, hk⟩
theorem quiet_convert {P : Program} {o : Oper} {a : Act} {C : World → Prop} {K : Act → Prop} (x : Operand) (src dst : TypeId) (ho : o.op = .convert src dst x) (v : Value) (hx : a.eval x = v) (r : Value)
    (hrun : ∀ w, C w → (convert src dst v).run P w = .ok r w) (h : K (a.put o.dst r)) : o.quiet P a C K :=
  quiet_of_run r (fun w hw => by
    unfold execOp
    simp only [ho, hx, Sem.run_bind, Sem.run_pure, Result.andThen_ok, hrun w hw]) h
end Go.Proofs.YtajmcplanlibnaaGreatDoor
