/- What Act of layer 10 (pers) makes of a table, as its Go text has it. No condition; no program is named. -/
import Derived.Test.YtopakonpfbbldaaFns
namespace Go.Proofs.Ytopakonpfbbldaa
set_option linter.unusedSimpArgs false
set_option linter.unusedVariables false
def actF (t : Tab) (n ac oty key other : Int) (oap : Bool) : Tab × Int × List Int :=
  let mine := keyF t.ks n
  if ac == 0 || ac == 6 then
    if ac == 0 && ((mine.2 && key != mine.1) || (!mine.2 && key != 0)) then (t, 24, [])
    else if !mine.2 && other == 0 then (t, 0, [])
    else if other == 0 then
      let l := t.ks.filter (fun r => !(r.1 == n))
      ({ g := u32 (t.g + 1), ks := l, h := (withF l t.h t.ty).1, ty := (withF l t.h t.ty).2, ap := oap }, 0, [])
    else if !(putF t.ks n other).2 then (t, 8, [])
    else ({ t with g := u32 (t.g + 1), ks := (putF t.ks n other).1, ap := oap }, 0, [])
  else if ac == 1 || ac == 2 || ac == 3 || ac == 4 || ac == 5 then
    if !mine.2 || key != mine.1 then (t, 24, [])
    else if ac == 1 then
      if !knownF oty then (t, 2, [])
      else if t.ty == 0 then ({ t with h := n, ty := oty }, 0, [])
      else if !holdsF t.ks t.h t.ty n || t.ty != oty then (t, 24, [])
      else (t, 0, [])
    else if ac == 2 then
      if t.ty == 0 || !holdsF t.ks t.h t.ty n then (t, 0, [])
      else if t.ty != oty then (t, 2, [])
      else ({ t with h := -1, ty := 0 }, 0, [])
    else if ac == 3 then
      ({ t with g := u32 (t.g + 1), ks := [], h := (withF [] t.h t.ty).1, ty := (withF [] t.h t.ty).2 }, 0, othersF (t.ks.map (·.1)) n)
    else preemptF t n oty other
  else (t, 2, [])

end Go.Proofs.Ytopakonpfbbldaa
