/- Plain lemmas on a map that reads as a function of its keys, element by element: made, read, written, counted. No condition. -/
import Derived.Test.YtajmcplanlibnaaGreatDoorProg
import Derived.Maps.OwnSet
import Derived.WalkKit
import Derived.Lib.Hide
namespace Go.Proofs.YtajmcplanlibnaaGreatDoor
set_option linter.unusedSimpArgs false
set_option linter.unusedVariables false
open Go Go.Maps Go.WideShapes Go.MapKept Go.RowKit
open Go.WideElems (Fit rd rg pl rd_val elemAt)

/-- A function of keys, turned at one of them. -/
noncomputable def upd (f : Lit → Option Value) (kl : Lit) (v : Option Value) : Lit → Option Value := fun x => @ite _ (x = kl) (Classical.propDecidable _) v (f x)
theorem upd_same (f : Lit → Option Value) (kl : Lit) (v : Option Value) : upd f kl v kl = v := if_pos rfl
theorem upd_other (f : Lit → Option Value) {x kl : Lit} (h : x ≠ kl) (v : Option Value) : upd f kl v x = f x := if_neg h
def heldE : Value → Option (DataW Value × List MemPlace) := fun v => some (.held v, [])
/-- Block b of w is a map of c entries: at key kl stands f kl. -/
def MapIs (P : Program) (k : TypeId) (w : World) (b c : Nat) (f : Lit → Option Value) : Prop :=
  ∃ D, w.ownsMap P k heldE b c D ∧ Maps.size D = c ∧ ∀ kl, WideAt.IsKeyLit kl → ∀ z, D.atKey kl z = (match f kl with | some v => .held v | none => z)

theorem owns_tight {P : Program} {k : TypeId} {w : World} {b n : Nat} {D : DataW Value} (h : w.ownsMap P k heldE b n D) : w.ownsMap P k heldE b (Maps.size D) D := by
  obtain ⟨es, clock, hb, F, hs, rfl⟩ := h
  exact ⟨es, clock, hb, F, by simp [Maps.size, length_sorted], rfl⟩

section
variable {P : Program} {k : TypeId} {w : World} {b c : Nat} {f : Lit → Option Value}

theorem mapIs_made (P : Program) (k : TypeId) (w : World) : MapIs P k (w.alloc (.map #[] 0)) w.heap.size 0 (fun _ => none) :=
  ⟨.map [], World.ownsMap_made _ _ _ _, rfl, fun _ _ _ => rfl⟩
theorem MapIs.lt (h : MapIs P k w b c f) : b < w.heap.size := by
  obtain ⟨D, h1, _⟩ := h
  exact h1.lt
theorem MapIs.kept {w' : World} {row : Option Nat} (h : MapIs P k w b c f) (hg : w.grownBy w' row) (hne : some b ≠ row) : MapIs P k w' b c f := by
  obtain ⟨D, h1, h2⟩ := h
  exact ⟨D, h1.kept hg hne, h2⟩
theorem MapIs.alloc (h : MapIs P k w b c f) (o : Obj) : MapIs P k (w.alloc o) b c f := by
  obtain ⟨D, h1, h2⟩ := h
  exact ⟨D, h1.alloc o, h2⟩
theorem MapIs.drew (h : MapIs P k w b c f) : MapIs P k w.drew b c f := by
  obtain ⟨D, h1, h2⟩ := h
  exact ⟨D, h1.drew, h2⟩
theorem MapIs.of_block {w' : World} (h : MapIs P k w b c f) (hb : w'.heap[b]? = w.heap[b]?) : MapIs P k w' b c f := by
  obtain ⟨D, ⟨es, clock, hbl, F, hs, hD⟩, h2⟩ := h
  exact ⟨D, ⟨es, clock, hb.trans hbl, F, hs, hD⟩, h2⟩
theorem MapIs.setCell (h : MapIs P k w b c f) {a : Addr} (ha : b ≠ a.block) (u : Value) : MapIs P k (w.setCell a u) b c f := by
  obtain ⟨D, h1, h2⟩ := h
  exact ⟨D, h1.setCell ha u, h2⟩
theorem MapIs.below {B : Nat} {w' : World} (h : MapIs P k w b c f) (hb : Below B w w') (hlt : b < B) : MapIs P k w' b c f :=
  h.of_block (hb.block b hlt)

/-- 'm[k]': what comes back is what stands there, or the zero value. -/
theorem MapIs.look {t e : TypeId} (h : MapIs P k w b c f) (K : Keyed P k) (ht : P.underlying t = some (.map k e)) {z : Value} (hz : (zeroValue e).run P w = .ok z w)
    {key : Value} {kl : Lit} (hkey : keyOf P k key = some kl) : (Instr.lookup t (.map (some b)) key false).run P w = .ok ((f kl).getD z) w := by
  obtain ⟨D, h1, _, h3⟩ := h
  obtain ⟨v, ps, hrun, hv⟩ := h1.lookup K ht hz (zd := .held z) (zp := []) rfl hkey
  rw [h3 kl (K.key hkey)] at hv
  rw [hrun]
  cases hf : f kl with
  | none => rw [hf] at hv; simp [heldE] at hv; rw [hv.1]; rfl
  | some x => rw [hf] at hv; simp [heldE] at hv; rw [hv.1]; rfl
theorem MapIs.has {kl : Lit} {D : DataW Value} (h3 : ∀ z, D.atKey kl z = (match f kl with | some v => .held v | none => z)) : Maps.has D kl = (f kl).isSome := by
  cases hf : f kl with
  | none => rw [hf] at h3; exact has_false_of_atKey h3
  | some x => rw [hf] at h3; exact has_true_of_atKey h3
/-- 'v, ok := m[k]'. -/
theorem MapIs.look_ok {t e : TypeId} (h : MapIs P k w b c f) (K : Keyed P k) (ht : P.underlying t = some (.map k e)) {z : Value} (hz : (zeroValue e).run P w = .ok z w)
    {key : Value} {kl : Lit} (hkey : keyOf P k key = some kl) : (Instr.lookup t (.map (some b)) key true).run P w = .ok (.tuple #[(f kl).getD z, .bool (f kl).isSome]) w := by
  obtain ⟨D, h1, _, h3⟩ := h
  obtain ⟨v, ps, hrun, hv⟩ := h1.look_ok K ht hz (zd := .held z) (zp := []) rfl hkey
  rw [MapIs.has (h3 kl (K.key hkey))] at hrun
  rw [h3 kl (K.key hkey)] at hv
  rw [hrun]
  cases hf : f kl with
  | none => rw [hf] at hv; simp [heldE] at hv; rw [hv.1]; rfl
  | some x => rw [hf] at hv; simp [heldE] at hv; rw [hv.1]; rfl
/-- 'm[k] = v'. -/
theorem MapIs.store {t e : TypeId} (h : MapIs P k w b c f) (K : Keyed P k) (ht : P.underlying t = some (.map k e)) (hc : c < maxLen) {key : Value} (val : Value) {kl : Lit} (hkey : keyOf P k key = some kl) :
    ∃ w', (Instr.mapUpdate t (.map (some b)) key val).run P w = .ok () w' ∧ MapIs P k w' b (if (f kl).isSome then c else c + 1) (upd f kl (some val)) ∧ w.mapTurned w' b := by
  obtain ⟨D, h1, h2, h3⟩ := h
  obtain ⟨w', hrun, h4, h5⟩ := h1.store K ht hc hkey (val := val) (d := .held val) (ps := []) rfl
  have hs : Maps.size (D.put kl (.held val)) = if (f kl).isSome then c else c + 1 := by
    rw [size_put (h1.tidy K), MapIs.has (h3 kl (K.key hkey)), h2]
  refine ⟨w', hrun, ⟨_, ?_, hs, fun x hx z => ?_⟩, h5⟩
  · rw [← hs]; exact owns_tight h4
  · by_cases e : x = kl
    · subst e
      rw [atKey_put_same h1.isMap hx, upd_same]
    · rw [atKey_put_other e, h3 x hx, upd_other _ e]
/-- 'delete(m, k)'. -/
theorem MapIs.del {t e : TypeId} (h : MapIs P k w b c f) (K : Keyed P k) (ht : P.underlying t = some (.map k e)) {key : Value} {kl : Lit} (hkey : keyOf P k key = some kl) (ty : TypeId) :
    ∃ w', (Builtin.delete_ #[t, k] ty #[.map (some b), key]).run P w = .ok (.tuple #[]) w' ∧ MapIs P k w' b (if (f kl).isSome then c - 1 else c) (upd f kl none) ∧ w.mapTurned w' b := by
  obtain ⟨D, h1, h2, h3⟩ := h
  obtain ⟨w', hrun, h4, h5⟩ := h1.drop K ht hkey ty
  have hs : Maps.size (D.del kl) = if (f kl).isSome then c - 1 else c := by
    have := size_del (k := kl) (h1.tidy K)
    rw [MapIs.has (h3 kl (K.key hkey)), h2] at this
    split <;> simp_all <;> omega
  refine ⟨w', hrun, ⟨_, ?_, hs, fun x hx z => ?_⟩, h5⟩
  · rw [← hs]; exact owns_tight h4
  · by_cases e : x = kl
    · subst e
      rw [atKey_del_same, upd_same]
    · rw [atKey_del_other e, h3 x hx, upd_other _ e]
/-- 'len(m)'. -/
theorem MapIs.len {t e : TypeId} (h : MapIs P k w b c f) (ht : P.underlying t = some (.map k e)) (ty : TypeId) : (Builtin.len_ #[t] ty #[.map (some b)]).run P w = .ok (.int .i64 c) w := by
  obtain ⟨D, h1, h2, _⟩ := h
  rw [h1.len ht ty, h2]
end

/-- 'm[k]' at the operation. -/
theorem wpList_look_is {P : Program} (w : World) {ops : Array Oper} {rest : List Oper} {o : Oper} {a : Act} {Q : Exit → Act → World → Prop}
    (hg : o.guard = none) (m x : Operand) (t : TypeId) (hop : o.op = Op.lookup t m x false)
    (k e : TypeId) (K : Keyed P k) (ht : P.underlying t = some (.map k e)) (z : Value) (hz : (zeroValue e).run P w = .ok z w) (b c : Nat) (f : Lit → Option Value)
    (hm : a.eval m = .map (some b)) (hown : MapIs P k w b c f) (key : Value) (kl : Lit) (hx : a.eval x = key) (hkey : keyOf P k key = some kl)
    (hK : wpList P ops Q rest (a.put o.dst ((f kl).getD z)) w) : wpList P ops Q (o :: rest) a w := by
  refine wpList_plain hg fun K' hK' => ?_
  have hrun := hown.look K ht hz hkey
  unfold Oper.wp
  simp [execOp, hop, hm, hx, hrun, Result.andThen]
  exact hK' _ _ hK
/-- 'v, ok := m[k]' at the operation. -/
theorem wpList_look_ok_is {P : Program} (w : World) {ops : Array Oper} {rest : List Oper} {o : Oper} {a : Act} {Q : Exit → Act → World → Prop}
    (hg : o.guard = none) (m x : Operand) (t : TypeId) (hop : o.op = Op.lookup t m x true)
    (k e : TypeId) (K : Keyed P k) (ht : P.underlying t = some (.map k e)) (z : Value) (hz : (zeroValue e).run P w = .ok z w) (b c : Nat) (f : Lit → Option Value)
    (hm : a.eval m = .map (some b)) (hown : MapIs P k w b c f) (key : Value) (kl : Lit) (hx : a.eval x = key) (hkey : keyOf P k key = some kl)
    (hK : wpList P ops Q rest (a.put o.dst (.tuple #[(f kl).getD z, .bool (f kl).isSome])) w) : wpList P ops Q (o :: rest) a w := by
  refine wpList_plain hg fun K' hK' => ?_
  have hrun := hown.look_ok K ht hz hkey
  unfold Oper.wp
  simp [execOp, hop, hm, hx, hrun, Result.andThen]
  exact hK' _ _ hK
/-- 'm[k] = v' at the operation. -/
theorem wpList_store_is {P : Program} (w : World) {ops : Array Oper} {rest : List Oper} {o : Oper} {a : Act} {Q : Exit → Act → World → Prop}
    (hg : o.guard = none) (m x v : Operand) (t : TypeId) (hop : o.op = Op.mapUpdate t m x v)
    (k e : TypeId) (K : Keyed P k) (ht : P.underlying t = some (.map k e)) (b c : Nat) (f : Lit → Option Value)
    (hm : a.eval m = .map (some b)) (hown : MapIs P k w b c f) (hc : c < maxLen) (key val : Value) (kl : Lit) (hx : a.eval x = key) (hv : a.eval v = val) (hkey : keyOf P k key = some kl)
    (hK : ∀ w', MapIs P k w' b (if (f kl).isSome then c else c + 1) (upd f kl (some val)) → w.mapTurned w' b → wpList P ops Q rest (a.put o.dst undef) w') : wpList P ops Q (o :: rest) a w := by
  refine wpList_plain hg fun K' hK' => ?_
  obtain ⟨w', hrun, r1, r2⟩ := hown.store K ht hc val hkey
  unfold Oper.wp
  simp [execOp, hop, hm, hx, hv, hrun, Result.andThen]
  exact hK' _ _ (hK w' r1 r2)
/-- 'len(m)' at the operation. -/
theorem wpList_len_is {P : Program} (w : World) {ops : Array Oper} {rest : List Oper} {o : Oper} {a : Act} {Q : Exit → Act → World → Prop}
    (hg : o.guard = none) (m : Operand) (t : TypeId) (hop : o.op = Op.call { callee := Callee.builtin Builtin.len, args := #[m], argTypes := #[t] })
    (k e : TypeId) (ht : P.underlying t = some (.map k e)) (b c : Nat) (f : Lit → Option Value) (hm : a.eval m = .map (some b)) (hown : MapIs P k w b c f)
    (hK : wpList P ops Q rest (a.put o.dst (.int .i64 c)) w) : wpList P ops Q (o :: rest) a w := by
  obtain ⟨D, h1, h2, _⟩ := hown
  exact wpList_len_own w hg m t hop k e ht heldE b c D hm h1 (by rw [h2]; exact hK)
end Go.Proofs.YtajmcplanlibnaaGreatDoor
