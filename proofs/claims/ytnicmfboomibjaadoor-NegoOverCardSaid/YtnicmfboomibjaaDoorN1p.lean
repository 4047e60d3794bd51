/- The login in plain: what a pair makes of a deal, what a step answers. -/
import Derived.Test.YtnicmfboomibjaaDoorK8
import Derived.Test.YtnicmfboomibjaaDoorK2
import Derived.Test.YtnicmfboomibjaaDoorPairs
import Derived.Lib.ItoaNum
namespace Go.Proofs.YtnicmfboomibjaaDoor
set_option linter.unusedSimpArgs false
set_option linter.unusedVariables false
open Go.RowKit
structure DealS where
  nx : Int
  hd : Bool
  dt : Bool
  sg : Int
  bu : Int
  fi : Int
  rd : Bool
  tg : Bool
  deriving DecidableEq
structure LogS where
  st : Int
  d : DealS
  first : Bool
  over : Bool
def dealVals (d : DealS) : Array Value := #[.int .i64 d.nx, .bool d.hd, .bool d.dt, .int .i64 d.sg, .int .i64 d.bu, .int .i64 d.fi, .bool d.rd, .bool d.tg]
def logCells (s : LogS) : Array Value := #[.int .i64 s.st, .int .i64 s.d.nx, .bool s.d.hd, .bool s.d.dt, .int .i64 s.d.sg, .int .i64 s.d.bu, .int .i64 s.d.fi, .bool s.d.rd, .bool s.d.tg, .bool s.first, .bool s.over]
/-- Is it one of the eight names? -/
def nameB (v : ByteArray) : Bool := decide (v.size = 5) && ((v.extract 0 4).toList == [105, 113, 110, 46]) && decide (48 ≤ (v.data.toList.getD 4 0).toNat) && decide ((v.data.toList.getD 4 0).toNat ≤ 55)
def nameN (v : ByteArray) : Int := ((v.data.toList.getD 4 0).toNat : Int) - 48
def chosenF (v : ByteArray) (os : List ByteArray) : ByteArray := match chGo os [] v.data.toList with
  | some l => bstr l
  | none => ⟨#[82, 101, 106, 101, 99, 116]⟩
def itoaB (n : Int) : ByteArray := ⟨(Lib.itoa n).toArray⟩
def operF (d : DealS) (k v : ByteArray) : ByteArray × DealS :=
  if k.toList == [72, 101, 97, 100, 101, 114, 68, 105, 103, 101, 115, 116] then (chosenF v [⟨#[67, 82, 67, 51, 50, 67]⟩, ⟨#[78, 111, 110, 101]⟩], { d with hd := (chosenF v [⟨#[67, 82, 67, 51, 50, 67]⟩, ⟨#[78, 111, 110, 101]⟩]).toList == [67, 82, 67, 51, 50, 67] })
  else if k.toList == [68, 97, 116, 97, 68, 105, 103, 101, 115, 116] then (chosenF v [⟨#[67, 82, 67, 51, 50, 67]⟩, ⟨#[78, 111, 110, 101]⟩], { d with dt := (chosenF v [⟨#[67, 82, 67, 51, 50, 67]⟩, ⟨#[78, 111, 110, 101]⟩]).toList == [67, 82, 67, 51, 50, 67] })
  else if k.toList == [73, 110, 105, 116, 105, 97, 108, 82, 50, 84] then (if !(v.toList == [89, 101, 115]) && !(v.toList == [78, 111]) then (⟨#[82, 101, 106, 101, 99, 116]⟩, d) else (v, { d with rd := v.toList == [89, 101, 115] }))
  else if k.toList == [73, 109, 109, 101, 100, 105, 97, 116, 101, 68, 97, 116, 97] then (if !(v.toList == [89, 101, 115]) && !(v.toList == [78, 111]) then (⟨#[82, 101, 106, 101, 99, 116]⟩, d) else (v, { d with tg := v.toList == [89, 101, 115] }))
  else if k.toList == [77, 97, 120, 82, 101, 99, 118, 68, 97, 116, 97, 83, 101, 103, 109, 101, 110, 116, 76, 101, 110, 103, 116, 104] then (if (rnumberF v 64 16777215).2 then (itoaB 256, { d with sg := min (rnumberF v 64 16777215).1 256 }) else (⟨#[82, 101, 106, 101, 99, 116]⟩, d))
  else if k.toList == [77, 97, 120, 66, 117, 114, 115, 116, 76, 101, 110, 103, 116, 104] then (if (rnumberF v 64 16777215).2 then (itoaB (min (rnumberF v 64 16777215).1 512), { d with bu := min (rnumberF v 64 16777215).1 512 }) else (⟨#[82, 101, 106, 101, 99, 116]⟩, d))
  else if k.toList == [70, 105, 114, 115, 116, 66, 117, 114, 115, 116, 76, 101, 110, 103, 116, 104] then (if (rnumberF v 64 16777215).2 then (itoaB (min (rnumberF v 64 16777215).1 512), { d with fi := min (rnumberF v 64 16777215).1 512 }) else (⟨#[82, 101, 106, 101, 99, 116]⟩, d))
  else (⟨#[78, 111, 116, 85, 110, 100, 101, 114, 115, 116, 111, 111, 100]⟩, d)
def pairF (d : DealS) (k v : ByteArray) (at_ : Int) : ByteArray × Int × DealS :=
  if k.toList == [73, 110, 105, 116, 105, 97, 116, 111, 114, 78, 97, 109, 101] then
    (if nameB v then (if decide (0 ≤ d.nx) && (d.nx != nameN v) then (⟨#[]⟩, 512, d) else (⟨#[]⟩, 0, { d with nx := nameN v })) else (⟨#[]⟩, 515, d))
  else if k.toList == [83, 101, 115, 115, 105, 111, 110, 84, 121, 112, 101] then (if v.toList == [78, 111, 114, 109, 97, 108] then (⟨#[]⟩, 0, d) else (⟨#[]⟩, 521, d))
  else if k.toList == [84, 97, 114, 103, 101, 116, 78, 97, 109, 101] then (⟨#[]⟩, 0, d)
  else if k.toList == [73, 110, 105, 116, 105, 97, 116, 111, 114, 65, 108, 105, 97, 115] then (⟨#[]⟩, 0, d)
  else if k.toList == [65, 117, 116, 104, 77, 101, 116, 104, 111, 100] then (if at_ != 0 then (⟨#[]⟩, 512, d) else (chosenF v [⟨#[78, 111, 110, 101]⟩], 0, d))
  else if at_ != 1 then (⟨#[78, 111, 116, 85, 110, 100, 101, 114, 115, 116, 111, 111, 100]⟩, 0, d)
  else ((operF d k v).1, 0, (operF d k v).2)
/-- Pair by pair: the status, what is answered, the deal. -/
def pairsF (at_ : Int) : List Pr → List Pr → DealS → Int × List Pr × DealS
  | [], out, d => (0, out, d)
  | p :: l, out, d =>
    if (pairF d p.1 p.2 at_).2.1 != 0 then ((pairF d p.1 p.2 at_).2.1, out, (pairF d p.1 p.2 at_).2.2)
    else pairsF at_ l (if (pairF d p.1 p.2 at_).1.toList.isEmpty then out else out ++ [(p.1, (pairF d p.1 p.2 at_).1)]) (pairF d p.1 p.2 at_).2.2
def atF (f : Nat) : Int := (f / 4 % 4 : Nat)
def nxF (f : Nat) : Int := (f % 4 : Nat)
def trF (f : Nat) : Bool := decide (128 ≤ f)
def badF (s : LogS) (f : Nat) : Bool :=
  f / 16 % 8 != 0 || atF f == 2 || atF f == 3 || decide (atF f < s.st) || s.first && (atF f != s.st) || trF f && (decide (nxF f ≤ atF f) || nxF f == 2) || !trF f && (nxF f != 0)
def clipF (d : DealS) : DealS := if d.bu < d.fi then { d with fi := d.bu } else d
def stepF (s : LogS) (f : Nat) (ps : List Pr) : Nat × List Pr × Int × LogS :=
  if s.over || s.st == 3 then (0, [], 512, s)
  else if badF s f then (0, [], 512, { s with over := true })
  else if (pairsF (atF f) ps [] s.d).1 != 0 then (0, [], (pairsF (atF f) ps [] s.d).1, ⟨atF f, (pairsF (atF f) ps [] s.d).2.2, true, true⟩)
  else if !s.first && decide ((pairsF (atF f) ps [] s.d).2.2.nx < 0) then (0, [], 519, ⟨atF f, (pairsF (atF f) ps [] s.d).2.2, true, true⟩)
  else (f, (pairsF (atF f) ps [] s.d).2.1, 0, ⟨if trF f then nxF f else atF f, clipF (pairsF (atF f) ps [] s.d).2.2, true, false⟩)
def newS : LogS := ⟨0, ⟨-1, false, false, 256, 512, 256, true, true⟩, false, false⟩
end Go.Proofs.YtnicmfboomibjaaDoor
