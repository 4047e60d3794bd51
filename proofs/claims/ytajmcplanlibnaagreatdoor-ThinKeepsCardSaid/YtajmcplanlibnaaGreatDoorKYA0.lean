/- The entries of reflectlite that errors.As comes to, at this program's types. -/
import Derived.Test.YtajmcplanlibnaaGreatDoorKYR0
import Derived.LaidEql
import Derived.Stop.Asserts
import Derived.Test.YtajmcplanlibnaaGreatDoorKYD3
import Derived.Test.YtajmcplanlibnaaGreatDoorKYE4
set_option linter.unusedSimpArgs false
set_option linter.unusedVariables false
set_option linter.unnecessarySimpa false
namespace Go.Proofs.YtajmcplanlibnaaGreatDoor
open Go.RowKit Go.Extern.Stop Go.Stop Go.Extern
/-! Xzj facts on the entries of reflectlite at this program's types. -/
theorem as_valueOfP (t : Addr) (w : World) : (ReflectliteValue.unpack (.iface 175 (.pointer (some t)))).run Tryz.prog w
    = .ok (.agg #[.pointer (some ⟨1, 175, none⟩), .pointer (some ⟨w.heap.size, 0, none⟩), .int .u64 150]) (w.alloc (.cells #[.pointer (some t)] 175)) := by kernel_rfl
theorem as_typeP (a : Addr) (w : World) : (ReflectliteValue.methodAny (ReflectliteValue.valueError "reflectlite.Value.Type" 0) (fun t _ _ _ => ReflectliteType.toType t) #[.agg #[.pointer (some ⟨1, 175, none⟩), .pointer (some a), .int .u64 150]]).run Tryz.prog w
    = .ok (.iface 309 (.agg #[.pointer (some ⟨1, 175, none⟩)])) w := by kernel_rfl
theorem as_methodKind (h : Value) (w : World) : (Go.method 495 309 (.agg #[h]) "Kind").run Tryz.prog w = .ok (266, h) w := by kernel_rfl
theorem as_kindP (w : World) : ((ReflectliteType.abiMethod fun t => (fun a : Nat => Value.int IntKind.u8 (a : Int)) <$> Rtype.kind t) #[.pointer (some ⟨1, 175, none⟩)]).run Tryz.prog w = .ok (.int .u8 22) w := by kernel_rfl
theorem as_kindE (w : World) : ((ReflectliteType.abiMethod fun t => (fun a : Nat => Value.int IntKind.u8 (a : Int)) <$> Rtype.kind t) #[.pointer (some ⟨1, 137, none⟩)]).run Tryz.prog w = .ok (.int .u8 2) w := by kernel_rfl
theorem as_rlm (z : Sem Value) (f : TypeId → Addr → Nat → Nat → Sem Value) (v : Value) :
    ReflectliteValue.method z f #[v] = (do match ← ReflectliteValue.parts v with | none => z | some (t, a, fl) => f t a fl (fl % 32)) := rfl
theorem as_partsP (a : Addr) (w : World) : (ReflectliteValue.parts (.agg #[.pointer (some ⟨1, 175, none⟩), .pointer (some a), .int .u64 150])).run Tryz.prog w = .ok (some (175, a, 150)) w := by kernel_rfl
theorem as_methodElem (h : Value) (w : World) : (Go.method 495 309 (.agg #[h]) "Elem").run Tryz.prog w = .ok (279, .agg #[h]) w := by kernel_rfl
theorem as_methodImplements (h : Value) (w : World) : (Go.method 495 309 (.agg #[h]) "Implements").run Tryz.prog w = .ok (280, .agg #[h]) w := by kernel_rfl
theorem as_methodAssignableTo (h : Value) (w : World) : (Go.method 495 309 (.agg #[h]) "AssignableTo").run Tryz.prog w = .ok (277, .agg #[h]) w := by kernel_rfl
theorem as_elemP (w : World) : (ReflectliteType.method ReflectliteType.elem #[.agg #[.pointer (some ⟨1, 175, none⟩)]]).run Tryz.prog w = .ok (.iface 309 (.agg #[.pointer (some ⟨1, 137, none⟩)])) w := by kernel_rfl
theorem as_implementsE (w : World) : (ReflectliteType.relation "Implements" ReflectliteType.implements_ #[.agg #[.pointer (some ⟨1, 137, none⟩)], .iface 309 (.agg #[.pointer (some ⟨1, 27, none⟩)])]).run Tryz.prog w = .ok (.bool true) w := by kernel_rfl
theorem as_typeOfE (v : Value) (w : World) : (ReflectliteType.typeOf #[.iface 137 v]).run Tryz.prog w = .ok (.iface 309 (.agg #[.pointer (some ⟨1, 137, none⟩)])) w := by kernel_rfl
theorem as_typeOfW (v : Value) (w : World) : (ReflectliteType.typeOf #[.iface 247 v]).run Tryz.prog w = .ok (.iface 309 (.agg #[.pointer (some ⟨1, 247, none⟩)])) w := by kernel_rfl
theorem as_assignableE (w : World) : (ReflectliteType.relation "AssignableTo" ReflectliteType.assignableTo #[.agg #[.pointer (some ⟨1, 137, none⟩)], .iface 309 (.agg #[.pointer (some ⟨1, 137, none⟩)])]).run Tryz.prog w = .ok (.bool true) w := by kernel_rfl
theorem as_assignableW (w : World) : (ReflectliteType.relation "AssignableTo" ReflectliteType.assignableTo #[.agg #[.pointer (some ⟨1, 247, none⟩)], .iface 309 (.agg #[.pointer (some ⟨1, 137, none⟩)])]).run Tryz.prog w = .ok (.bool false) w := by kernel_rfl
theorem as_valueOfE (n : Int) (w : World) : (ReflectliteValue.unpack (.iface 137 (.int .i64 n))).run Tryz.prog w
    = .ok (.agg #[.pointer (some ⟨1, 137, none⟩), .pointer (some ⟨w.heap.size, 0, none⟩), .int .u64 130]) (w.alloc (.cells #[.int .i64 n] 137)) := by kernel_rfl
theorem as_elemOfP (w : World) : (Rtype.elem? 175).run Tryz.prog w = .ok (some 137) w := by kernel_rfl
theorem as_mkE (p : Addr) (w : World) : (ReflectliteValue.mk 137 p ReflectliteValue.flagAddr).run Tryz.prog w = .ok (.agg #[.pointer (some ⟨1, 137, none⟩), .pointer (some p), .int .u64 386]) w := by kernel_rfl
theorem as_partsEa (a : Addr) (w : World) : (ReflectliteValue.parts (.agg #[.pointer (some ⟨1, 137, none⟩), .pointer (some a), .int .u64 386])).run Tryz.prog w = .ok (some (137, a, 386)) w := by kernel_rfl
theorem as_partsE (a : Addr) (w : World) : (ReflectliteValue.parts (.agg #[.pointer (some ⟨1, 137, none⟩), .pointer (some a), .int .u64 130])).run Tryz.prog w = .ok (some (137, a, 130)) w := by kernel_rfl
theorem as_directE (w : World) : (Rtype.directlyAssignable 137 137).run Tryz.prog w = .ok true w := by kernel_rfl
theorem as_isNilP (a p : Addr) (W : World) (ha : W.cell? a = some (.pointer (some p))) :
    (ReflectliteValue.method (ReflectliteValue.valueError "reflectlite.Value.IsNil" 0) ReflectliteValue.isNil #[.agg #[.pointer (some ⟨1, 175, none⟩), .pointer (some a), .int .u64 150]]).run Tryz.prog W = .ok (.bool false) W := by
  rw [as_rlm]
  simp only [Sem.run_bind, as_partsP, Result.andThen]
  simp [ReflectliteValue.isNil, loadVar, isAgg, underlying, Tryz.underlying175, ha, Result.andThen]
theorem as_elemVP (a p : Addr) (W : World) (ha : W.cell? a = some (.pointer (some p))) :
    (ReflectliteValue.method (ReflectliteValue.valueError "reflectlite.Value.Elem" 0) ReflectliteValue.elem #[.agg #[.pointer (some ⟨1, 175, none⟩), .pointer (some a), .int .u64 150]]).run Tryz.prog W
      = .ok (.agg #[.pointer (some ⟨1, 137, none⟩), .pointer (some p), .int .u64 386]) W := by
  rw [as_rlm]
  simp only [Sem.run_bind, as_partsP, Result.andThen]
  simp [ReflectliteValue.elem, loadVar, isAgg, underlying, Tryz.underlying175, ha, Result.andThen, as_elemOfP, as_mkE]
theorem as_rls (v x : Value) : ReflectliteValue.set #[v, x] = (do
    let (some (dst, a, fl), some (src, b, _)) := (← ReflectliteValue.parts v, ← ReflectliteValue.parts x)
      | unsupported (.noEntry "extern/(internal/reflectlite.Value).Set.zeroValue")
    if fl / ReflectliteValue.flagAddr % 2 == 0 then unsupported (.noEntry "extern/(internal/reflectlite.Value).Set.unaddressable")
    let val ← loadVar src b
    if ← Rtype.directlyAssignable dst src then storeVar dst a val
    else if ← Rtype.implements dst src then
      if (← Rtype.kind src) == 20 then
        match val with
        | .nilIface => unsupported (.noEntry "extern/reflectlite: a nil value of one interface type handed on as a value of another")
        | _ => storeVar dst a val
      else storeVar dst a (.iface src val)
    else panicString ("reflectlite.Set: value of type " ++ (← Rtype.spelt src) ++ " is not assignable to type " ++ (← Rtype.spelt dst))
    pure (.tuple #[])) := rfl
theorem as_setE (ta b : Addr) (n : Int) (old : Value) (W : World) (hb : W.cell? b = some (.int .i64 n)) (ht : W.cell? ta = some old) (hf : W.frozen? ta = false) :
    (ReflectliteValue.set #[.agg #[.pointer (some ⟨1, 137, none⟩), .pointer (some ta), .int .u64 386], .agg #[.pointer (some ⟨1, 137, none⟩), .pointer (some b), .int .u64 130]]).run Tryz.prog W
      = .ok (.tuple #[]) (W.setCell ta (.int .i64 n)) := by
  rw [as_rls]
  simp only [Sem.run_bind, as_partsEa, as_partsE, Result.andThen]
  simp [ReflectliteValue.flagAddr, loadVar, isAgg, underlying, Tryz.underlying137, hb, Result.andThen, as_directE, storeVar, Value.cells, storeCells, Addr.add]
  rw [run_store Tryz.prog W ta _ _ (by rfl)]
  simp [ht, hf]
set_option maxRecDepth 100000 in
theorem as_noAs (v : Value) (xT : TypeId) (w : World) : (Instr.typeAssert (.iface 247 v) xT 325 true).run Tryz.prog w = .ok (.tuple #[.nilIface, .bool false]) w := run_typeAssert_lacksB Tryz.underlying325 (by kernel_rfl) (by kernel_rfl) v xT w
set_option maxRecDepth 100000 in
theorem as_hasUnwrap (v : Value) (xT : TypeId) (w : World) : (Instr.typeAssert (.iface 247 v) xT 328 true).run Tryz.prog w = .ok (.tuple #[.iface 247 v, .bool true]) w := run_typeAssert_hasB Tryz.underlying328 (by kernel_rfl) v xT w
theorem as_methodUnwrap (a : Addr) (w : World) : (Go.method 495 247 (.pointer (some a)) "Unwrap").run Tryz.prog w = .ok (272, .pointer (some a)) w := by kernel_rfl
open Go.RowKit Go.Extern.Stop Go.Stop Go.Extern
theorem ErrAt.depth {w : World} : ∀ {k k' : Nat} {v : Value} {n n' : Int}, ErrAt w k v n → ErrAt w k' v n' → k = k'
  | 0, 0, _, _, _, _, _ => rfl
  | 0, _ + 1, _, _, _, h, ⟨_, _, _, h1, _, _⟩ => by rw [show _ = _ from h] at h1; cases h1
  | _ + 1, 0, _, _, _, ⟨_, _, _, h1, _, _⟩, h => by rw [show _ = _ from h] at h1; cases h1
  | k + 1, k' + 1, _, _, _, ⟨b, s, e, h1, h2, h3⟩, ⟨b', s', e', h1', h2', h3'⟩ => by
    rw [h1] at h1'
    obtain rfl : b = b' := by injection h1' with _ q; injection q with q; injection q with q; injection q
    rw [h2] at h2'
    obtain rfl : e = e' := by
      simp only [Option.some.injEq, Obj.cells.injEq] at h2'
      have := congrArg (fun a : Array Value => a[1]?) h2'.1
      simpa using this
    rw [ErrAt.depth h3 h3']
open Classical in
noncomputable def depthE (w : World) (v : Value) : Nat := if h : ∃ k n, ErrAt w k v n then h.choose else 0
theorem depthE_of {w : World} {k : Nat} {v : Value} {n : Int} (h : ErrAt w k v n) : depthE w v = k := by
  have hx : ∃ k n, ErrAt w k v n := ⟨k, n, h⟩
  unfold depthE
  rw [dif_pos hx]
  obtain ⟨m, hm⟩ := hx.choose_spec
  exact hm.depth h
set_option maxRecDepth 100000 in
theorem unwrap_any (b : Nat) (s : ByteArray) (e0 : Value) (w : World) (h : w.heap[b]? = some (.cells #[.string s, e0] 249)) : Calls Tryz.prog 272 #[.pointer (some ⟨b, 0, none⟩)] w fun e w' => e = .returned e0 ∧ w = w' := by
  have z1 : w.cell? ⟨b, 1, none⟩ = some e0 := by simp [World.cell?, h]
  go_enter Tryz.func272, Tryz.ntmps272
  go_wp2_with fail
  go_ret
  exact ⟨rfl, rfl⟩
set_option maxRecDepth 100000 in
set_option maxHeartbeats 4000000 in
theorem as_walk (k : Nat) (v : Value) (n : Int) (tb ab : Nat) (old : Value) (w : World) (hv : ErrAt w k v n) (ha : w.heap[ab]? = some (.cells #[.pointer (some ⟨tb, 0, none⟩)] 175)) (ht : w.heap[tb]? = some (.cells #[old] 137)) :
    Calls Tryz.prog 166 #[v, .iface 175 (.pointer (some ⟨tb, 0, none⟩)), .agg #[.pointer (some ⟨1, 175, none⟩), .pointer (some ⟨ab, 0, none⟩), .int .u64 150], .iface 309 (.agg #[.pointer (some ⟨1, 137, none⟩)])] w fun e w' => e = .returned (.bool true) ∧ w'.heap[tb]? = some (.cells #[.int .i64 n] 137) ∧ Below tb w w' := by
  have h83 := @run_callFunc_extern Tryz.prog 149 _ (fun args => ReflectliteValue.unpack (args.getD 0 (.tuple #[]))) Tryz.func149 (by kernel_rfl) (by kernel_rfl) (by kernel_rfl) (by kernel_rfl)
  have h95 := @run_callFunc_extern Tryz.prog 215 _ ReflectliteType.typeOf Tryz.func215 (by kernel_rfl) (by kernel_rfl) (by kernel_rfl) (by kernel_rfl)
  have h147 := @run_callFunc_extern Tryz.prog 277 _ (ReflectliteType.relation "AssignableTo" ReflectliteType.assignableTo) Tryz.func277 (by kernel_rfl) (by kernel_rfl) (by kernel_rfl) (by kernel_rfl)
  have h96 := @run_callFunc_extern Tryz.prog 216 _ (ReflectliteValue.method (ReflectliteValue.valueError "reflectlite.Value.Elem" 0) ReflectliteValue.elem) Tryz.func216 (by kernel_rfl) (by kernel_rfl) (by kernel_rfl) (by kernel_rfl)
  have h97 := @run_callFunc_extern Tryz.prog 217 _ ReflectliteValue.set Tryz.func217 (by kernel_rfl) (by kernel_rfl) (by kernel_rfl) (by kernel_rfl)
  have tE := as_typeOfE
  have tW := as_typeOfW
  have mA := as_methodAssignableTo
  have aE := as_assignableE
  have aW := as_assignableW
  have vE := as_valueOfE
  have nA := as_noAs
  have hU := as_hasUnwrap
  have mU := as_methodUnwrap
  go_enter Tryz.func166, Tryz.ntmps166
  have HB : ∀ o : Obj, Below w.heap.size w (w.alloc o) := fun o => bZ
  go_wp2_with fail
  have htl := Zz0 ht
  have hal := Zz0 ha
  generalize hbx : w.alloc (.cells #[.pointer (some ⟨1, 175, none⟩), .pointer (some ⟨ab, 0, none⟩), .int .u64 150] 265) = wb
  have hsz : wb.heap.size = w.heap.size + 1 := by rw [← hbx]; simp
  have c0 : wb.cell? ⟨w.heap.size, 0, none⟩ = some (.pointer (some ⟨1, 175, none⟩)) := by rw [← hbx]; simp
  have c1 : wb.cell? ⟨w.heap.size, 1, none⟩ = some (.pointer (some ⟨ab, 0, none⟩)) := by rw [← hbx]; simp
  have c2 : wb.cell? ⟨w.heap.size, 2, none⟩ = some (.int .u64 150) := by rw [← hbx]; simp
  have hab : wb.heap[ab]? = some (.cells #[.pointer (some ⟨tb, 0, none⟩)] 175) := by rw [← hbx]; exact ((HB _).block _ hal).trans ha
  have htb : wb.heap[tb]? = some (.cells #[old] 137) := by rw [← hbx]; exact ((HB _).block _ htl).trans ht
  have hvb : ErrAt wb k v n := by rw [← hbx]; exact hv.below (HB _)
  have el := as_elemVP ⟨ab, 0, none⟩ ⟨tb, 0, none⟩ wb (by simp [World.cell?, hab])
  have st := as_setE ⟨tb, 0, none⟩ ⟨w.heap.size + 1, 0, none⟩ n old (wb.alloc (.cells #[.int .i64 n] 137)) (by rw [← hsz]; simp) (by rw [World.cell?_alloc_lt _ _ ⟨tb, 0, none⟩ (by simp; omega)]; simp [World.cell?, htb]) (by rw [World.frozen?_alloc_old _ _ ⟨tb, 0, none⟩ (by simp; omega)]; simp [World.frozen?, htb])
  have HX : Hid (∃ o1, wb = w.alloc o1) := hZ ⟨_, hbx.symm⟩
  clear hbx ha ht hv
  go_loopw [0] (fun ev wr => ∃ k' : Nat, Hid (ErrAt wb k' ev n) ∧ wr = wb) (fun ev _ => depthE wb ev)
  case atStart => exact ⟨k, hZ hvb, rfl⟩
  case round =>
    clear hvb
    obtain ⟨k', HE, rfl⟩ := hrel
    cases k' with
    | zero =>
      obtain rfl : u0 = .iface 137 (.int .i64 n) := HE.out
      go_wp2_with (first | (go_at_call 272; refine hUW.mono ?_; rintro e2 w2 ⟨rfl, rfl⟩))
      go_ret
      obtain ⟨o1, rfl⟩ := HX.out
      refine ⟨rfl, ?_, ?_⟩
      · rw [Below.heap_alloc _ _ _ (by simp; omega), Xz3 htb]; rfl
      · exact ((((Below.refl tb w).alloc (Nat.le_of_lt htl) _).setCell (Nat.le_refl _) _).alloc (by simp; omega) _)
    | succ k' =>
      obtain ⟨b, s, e0, rfl, hb, HE2⟩ := HE.out
      have hUW := unwrap_any b s e0 wr hb
      have hd1 : depthE wr e0 = k' := depthE_of HE2
      have hd2 : depthE wr (.iface 247 (.pointer (some ⟨b, 0, none⟩))) = k' + 1 := depthE_of HE.out
      obtain ⟨te, xe, rfl⟩ : ∃ t x, e0 = .iface t x := by
        cases k' with
        | zero => exact ⟨_, _, HE2⟩
        | succ j => obtain ⟨_, _, _, h1, _⟩ := HE2; exact ⟨_, _, h1⟩
      have HE2 := hZ HE2
      go_wp2_with (first | (go_at_call 272; refine hUW.mono ?_; rintro e2 w2 ⟨rfl, rfl⟩))
      exact ⟨⟨k', HE2, trivial⟩, by rw [hd1, hd2]; omega⟩
set_option maxRecDepth 100000 in
set_option maxHeartbeats 4000000 in
theorem as_any (k : Nat) (v : Value) (n : Int) (tb : Nat) (old : Value) (w : World) (hv : ErrAt w k v n) (hg : w.cell? ⟨0, 0, none⟩ = some (.iface 309 (.agg #[.pointer (some ⟨1, 27, none⟩)]))) (ht : w.heap[tb]? = some (.cells #[old] 137)) :
    Calls Tryz.prog 76 #[v, .iface 175 (.pointer (some ⟨tb, 0, none⟩))] w fun e w' => e = .returned (.bool true) ∧ w'.heap[tb]? = some (.cells #[.int .i64 n] 137) ∧ Below tb w w' := by
  obtain ⟨te, xe, rfl⟩ : ∃ t x, v = .iface t x := by
    cases k with
    | zero => exact ⟨_, _, hv⟩
    | succ j => obtain ⟨_, _, _, h1, _⟩ := hv; exact ⟨_, _, h1⟩
  have h83 := @run_callFunc_extern Tryz.prog 149 _ (fun args => ReflectliteValue.unpack (args.getD 0 (.tuple #[]))) Tryz.func149 (by kernel_rfl) (by kernel_rfl) (by kernel_rfl) (by kernel_rfl)
  have h84 := @run_callFunc_extern Tryz.prog 164 _ (ReflectliteValue.methodAny (ReflectliteValue.valueError "reflectlite.Value.Type" 0) (fun t _ _ _ => ReflectliteType.toType t)) Tryz.func164 (by kernel_rfl) (by kernel_rfl) (by kernel_rfl) (by kernel_rfl)
  have h85 := @run_callFunc_extern Tryz.prog 165 _ (ReflectliteValue.method (ReflectliteValue.valueError "reflectlite.Value.IsNil" 0) ReflectliteValue.isNil) Tryz.func165 (by kernel_rfl) (by kernel_rfl) (by kernel_rfl) (by kernel_rfl)
  have h134 := @run_callFunc_extern Tryz.prog 266 _ (ReflectliteType.abiMethod fun t => do pure (.int .u8 (← Rtype.kind t))) Tryz.func266 (by kernel_rfl) (by kernel_rfl) (by kernel_rfl) (by kernel_rfl)
  have h149 := @run_callFunc_extern Tryz.prog 279 _ (ReflectliteType.method ReflectliteType.elem) Tryz.func279 (by kernel_rfl) (by kernel_rfl) (by kernel_rfl) (by kernel_rfl)
  have h150 := @run_callFunc_extern Tryz.prog 280 _ (ReflectliteType.relation "Implements" ReflectliteType.implements_) Tryz.func280 (by kernel_rfl) (by kernel_rfl) (by kernel_rfl) (by kernel_rfl)
  have fv := as_valueOfP
  have ft := as_typeP
  have mK := as_methodKind
  have mE := as_methodElem
  have mI := as_methodImplements
  have kP := as_kindP
  have kE := as_kindE
  have eP := as_elemP
  have iE := as_implementsE
  have htl := Zz0 ht
  have hlt : 0 < w.heap.size := by omega
  have n8 := as_isNilP ⟨w.heap.size, 0, none⟩ ⟨tb, 0, none⟩ ((w.alloc (.cells #[.pointer (some ⟨tb, 0, none⟩)] 175)).alloc (.cells #[.pointer (some ⟨1, 175, none⟩), .pointer (some ⟨w.heap.size, 0, none⟩), .int .u64 150] 265)) (by simp)
  have hg2 : ((w.alloc (.cells #[.pointer (some ⟨tb, 0, none⟩)] 175)).alloc (.cells #[.pointer (some ⟨1, 175, none⟩), .pointer (some ⟨w.heap.size, 0, none⟩), .int .u64 150] 265)).cell? ⟨0, 0, none⟩ = some (.iface 309 (.agg #[.pointer (some ⟨1, 27, none⟩)])) := by
    rw [World.cell?_alloc_lt _ _ ⟨0, 0, none⟩ (by simp), World.cell?_alloc_lt _ _ ⟨0, 0, none⟩ hlt]; exact hg
  have hbw : Below w.heap.size w ((w.alloc (.cells #[.pointer (some ⟨tb, 0, none⟩)] 175)).alloc (.cells #[.pointer (some ⟨1, 175, none⟩), .pointer (some ⟨w.heap.size, 0, none⟩), .int .u64 150] 265)) := (bZ).alloc (by simp) _
  have hW := as_walk k (.iface te xe) n tb w.heap.size old _ (hv.below hbw) (by rw [Below.heap_alloc _ _ _ (by simp)]; exact heap_alloc_new _ _) ((hbw.block _ htl).trans ht)
  have HBW := hZ (hbw.mono (Nat.le_of_lt htl))
  clear hv ht hbw
  go_enter Tryz.func76, Tryz.ntmps76
  go_wp2_with (first | (go_at_call 166; refine hW.mono ?_; rintro e2 w2 ⟨rfl, hx, hy⟩))
  go_ret
  exact ⟨rfl, hx, HBW.out.trans hy⟩
open Go.RowKit Go.Maps
def EtAt (w : World) : Prop := w.cell? ⟨0, 0, none⟩ = some (.iface 309 (.agg #[.pointer (some ⟨1, 27, none⟩)]))
theorem EtAt.pos {w : World} (h : EtAt w) : 0 < w.heap.size := by
  rcases Nat.eq_zero_or_pos w.heap.size with h0 | h1
  · simp [EtAt, World.cell?, h0] at h
  · exact h1
theorem EtAt.below {w w' : World} {B : Nat} (h : EtAt w) (hb : Below B w w') (hB : 0 < B) : EtAt w' := by
  unfold EtAt at *
  rw [hb.cell (p := ⟨0, 0, none⟩) hB]; exact h
end Go.Proofs.YtajmcplanlibnaaGreatDoor
