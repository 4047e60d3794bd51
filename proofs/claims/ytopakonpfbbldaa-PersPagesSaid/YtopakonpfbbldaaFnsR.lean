/- The plain functions of the reference of layer 10, as its Go text has them. No condition; no program is named. -/
import Derived.Test.YtopakonpfbbldaaFns
namespace Go.Proofs.Ytopakonpfbbldaa
set_option linter.unusedSimpArgs false
set_option linter.unusedVariables false

/-- One registration put among the keys by nexus. -/
def keyPut (acc : List Int) (r : Int × Int) : List Int := if decide (0 ≤ r.1) && decide (r.1 < 8) then acc.set r.1.toNat r.2 else acc
/-- The keys by nexus. -/
def keysF (ks : List (Int × Int)) : List Int := ks.foldl keyPut (List.replicate 8 0)
theorem keyPut_length (acc : List Int) (r : Int × Int) : (keyPut acc r).length = acc.length := by unfold keyPut; split <;> simp
theorem foldl_keyPut_length (ks : List (Int × Int)) : ∀ acc, (ks.foldl keyPut acc).length = acc.length := by
  induction ks with
  | nil => intro acc; rfl
  | cons r l ih => intro acc; rw [List.foldl_cons, ih, keyPut_length]
theorem keysF_length (ks : List (Int × Int)) : (keysF ks).length = 8 := by unfold keysF; rw [foldl_keyPut_length]; simp
theorem keysF_snoc (ks : List (Int × Int)) (r : Int × Int) : keysF (ks ++ [r]) = keyPut (keysF ks) r := by simp [keysF]
theorem list8 (l : List Int) (h : l.length = 8) : ∃ a b c d e f g i, l = [a, b, c, d, e, f, g, i] := by
  match l, h with
  | [a, b, c, d, e, f, g, i], _ => exact ⟨a, b, c, d, e, f, g, i, rfl⟩

def rholdsF (ks : List (Int × Int)) (h ty n : Int) : Bool :=
  !(decide (n < 0) || decide (7 < n) || ty == 0 || (keysF ks).getD n.toNat 0 == 0) && (ty == 7 || ty == 8 || h == n)
def rsoundF (ks : List (Int × Int)) (h ty : Int) : Bool :=
  decide (ks.length ≤ 6) && okF (-1) ks && (if ty == 0 then h == -1 else knownF ty && decide (0 ≤ h) && decide (h < 8) && (keysF ks).getD h.toNat 0 != 0)
def rbarsF (ks : List (Int × Int)) (h ty n d : Int) : Bool :=
  let reg := decide (0 ≤ n) && decide (n ≤ 7) && (keysF ks).getD n.toNat 0 != 0
  let write := d == 7 || d == 8 || d == 9 || d == 10 || d == 11
  let read := d == 6
  if ty == 0 || rholdsF ks h ty n then false
  else if ty == 1 then write
  else if ty == 3 then write || read
  else if ty == 5 then write && !reg
  else if ty == 6 then (write || read) && !reg
  else if ty == 7 then write
  else write || read
end Go.Proofs.Ytopakonpfbbldaa
