/- errors.As at a pointer to an api.Errno, of an error with a number that was met somewhere. -/
import Derived.Test.YthaaoghbginmpaaDoorD3
import Derived.Test.YthaaoghbginmpaaDoorA0
set_option linter.unusedSimpArgs false
set_option linter.unusedVariables false
set_option linter.unnecessarySimpa false
namespace Go.Proofs.YthaaoghbginmpaaDoor
set_option linter.unusedSimpArgs false
set_option linter.unusedVariables false
open Go.RowKit Go.Extern.Stop Go.Stop Go.Extern
theorem ErrAt.depth {w : World} : ∀ {k k' : Nat} {v : Value} {n n' : Int}, ErrAt w k v n → ErrAt w k' v n' → k = k'
  | 0, 0, _, _, _, _, _ => rfl
  | 0, _ + 1, _, _, _, h, ⟨_, _, _, h1, _, _⟩ => by rw [show _ = _ from h] at h1; cases h1
  | _ + 1, 0, _, _, _, ⟨_, _, _, h1, _, _⟩, h => by rw [show _ = _ from h] at h1; cases h1
  | k + 1, k' + 1, _, _, _, ⟨b, s, e, h1, h2, h3⟩, ⟨b', s', e', h1', h2', h3'⟩ => by
    rw [h1] at h1'
    obtain rfl : b = b' := by injection h1' with _ q; injection q with q; injection q with q; injection q
    rw [h2] at h2'
    obtain rfl : e = e' := by
      simp only [Option.some.injEq, Obj.cells.injEq] at h2'
      have := congrArg (fun a : Array Value => a[1]?) h2'.1
      simpa using this
    rw [ErrAt.depth h3 h3']
open Classical in
noncomputable def depthE (w : World) (v : Value) : Nat := if h : ∃ k n, ErrAt w k v n then h.choose else 0
theorem depthE_of {w : World} {k : Nat} {v : Value} {n : Int} (h : ErrAt w k v n) : depthE w v = k := by
  have hx : ∃ k n, ErrAt w k v n := ⟨k, n, h⟩
  unfold depthE
  rw [dif_pos hx]
  obtain ⟨m, hm⟩ := hx.choose_spec
  exact hm.depth h

set_option maxRecDepth 100000 in
theorem unwrap_any (b : Nat) (s : ByteArray) (e0 : Value) (w : World) (h : w.heap[b]? = some (.cells #[.string s, e0] 150)) : Calls Tryd.prog 142 #[.pointer (some ⟨b, 0, none⟩)] w fun e w' => e = .returned e0 ∧ w = w' := by
  have z1 : w.cell? ⟨b, 1, none⟩ = some e0 := by simp [World.cell?, h]
  go_enter Tryd.func142, Tryd.ntmps142
  go_wp2_with fail
  go_ret
  exact ⟨rfl, rfl⟩
set_option maxRecDepth 100000 in
set_option maxHeartbeats 4000000 in
theorem as_walk (k : Nat) (v : Value) (n : Int) (tb ab : Nat) (old : Value) (w : World) (hv : ErrAt w k v n) (ha : w.heap[ab]? = some (.cells #[.pointer (some ⟨tb, 0, none⟩)] 125)) (ht : w.heap[tb]? = some (.cells #[old] 92)) :
    Calls Tryd.prog 86 #[v, .iface 125 (.pointer (some ⟨tb, 0, none⟩)), .agg #[.pointer (some ⟨1, 125, none⟩), .pointer (some ⟨ab, 0, none⟩), .int .u64 150], .iface 188 (.agg #[.pointer (some ⟨1, 92, none⟩)])] w fun e w' => e = .returned (.bool true) ∧ w'.heap[tb]? = some (.cells #[.int .i64 n] 92) ∧ Below tb w w' := by
  have h83 := @run_callFunc_extern Tryd.prog 83 _ (fun args => ReflectliteValue.unpack (args.getD 0 (.tuple #[]))) Tryd.func83 (by kernel_rfl) (by kernel_rfl) (by kernel_rfl) (by kernel_rfl)
  have h95 := @run_callFunc_extern Tryd.prog 95 _ ReflectliteType.typeOf Tryd.func95 (by kernel_rfl) (by kernel_rfl) (by kernel_rfl) (by kernel_rfl)
  have h147 := @run_callFunc_extern Tryd.prog 147 _ (ReflectliteType.relation "AssignableTo" ReflectliteType.assignableTo) Tryd.func147 (by kernel_rfl) (by kernel_rfl) (by kernel_rfl) (by kernel_rfl)
  have h96 := @run_callFunc_extern Tryd.prog 96 _ (ReflectliteValue.method (ReflectliteValue.valueError "reflectlite.Value.Elem" 0) ReflectliteValue.elem) Tryd.func96 (by kernel_rfl) (by kernel_rfl) (by kernel_rfl) (by kernel_rfl)
  have h97 := @run_callFunc_extern Tryd.prog 97 _ ReflectliteValue.set Tryd.func97 (by kernel_rfl) (by kernel_rfl) (by kernel_rfl) (by kernel_rfl)
  have tE := as_typeOfE
  have tW := as_typeOfW
  have mA := as_methodAssignableTo
  have aE := as_assignableE
  have aW := as_assignableW
  have vE := as_valueOfE
  have nA := as_noAs
  have hU := as_hasUnwrap
  have mU := as_methodUnwrap
  go_enter Tryd.func86, Tryd.ntmps86
  have HB : ∀ o : Obj, Below w.heap.size w (w.alloc o) := fun o => (Below.refl _ _).alloc (Nat.le_refl _) _
  go_wp2_with fail
  have htl := lt_of_blk ht
  have hal := lt_of_blk ha
  generalize hbx : w.alloc (.cells #[.pointer (some ⟨1, 125, none⟩), .pointer (some ⟨ab, 0, none⟩), .int .u64 150] 170) = wb
  have hsz : wb.heap.size = w.heap.size + 1 := by rw [← hbx]; simp
  have c0 : wb.cell? ⟨w.heap.size, 0, none⟩ = some (.pointer (some ⟨1, 125, none⟩)) := by rw [← hbx]; simp
  have c1 : wb.cell? ⟨w.heap.size, 1, none⟩ = some (.pointer (some ⟨ab, 0, none⟩)) := by rw [← hbx]; simp
  have c2 : wb.cell? ⟨w.heap.size, 2, none⟩ = some (.int .u64 150) := by rw [← hbx]; simp
  have hab : wb.heap[ab]? = some (.cells #[.pointer (some ⟨tb, 0, none⟩)] 125) := by rw [← hbx]; exact ((HB _).block _ hal).trans ha
  have htb : wb.heap[tb]? = some (.cells #[old] 92) := by rw [← hbx]; exact ((HB _).block _ htl).trans ht
  have hvb : ErrAt wb k v n := by rw [← hbx]; exact hv.below (HB _)
  have el := as_elemVP ⟨ab, 0, none⟩ ⟨tb, 0, none⟩ wb (by simp [World.cell?, hab])
  have st := as_setE ⟨tb, 0, none⟩ ⟨w.heap.size + 1, 0, none⟩ n old (wb.alloc (.cells #[.int .i64 n] 92)) (by rw [← hsz]; simp) (by rw [World.cell?_alloc_lt _ _ ⟨tb, 0, none⟩ (by simp; omega)]; simp [World.cell?, htb]) (by rw [World.frozen?_alloc_old _ _ ⟨tb, 0, none⟩ (by simp; omega)]; simp [World.frozen?, htb])
  have HX : Hid (∃ o1, wb = w.alloc o1) := Lib.hid ⟨_, hbx.symm⟩
  clear hbx ha ht hv
  go_loopw [0] (fun ev wr => ∃ k' : Nat, Hid (ErrAt wb k' ev n) ∧ wr = wb) (fun ev _ => depthE wb ev)
  case atStart => exact ⟨k, Lib.hid hvb, rfl⟩
  case round =>
    clear hvb
    obtain ⟨k', HE, rfl⟩ := hrel
    cases k' with
    | zero =>
      obtain rfl : u0 = .iface 92 (.int .i64 n) := HE.out
      go_wp2_with (first | (go_at_call 142; refine hUW.mono ?_; rintro e2 w2 ⟨rfl, rfl⟩))
      go_ret
      obtain ⟨o1, rfl⟩ := HX.out
      refine ⟨rfl, ?_, ?_⟩
      · rw [Below.heap_alloc _ _ _ (by simp; omega), set_blk htb]; rfl
      · exact ((((Below.refl tb w).alloc (Nat.le_of_lt htl) _).setCell (Nat.le_refl _) _).alloc (by simp; omega) _)
    | succ k' =>
      obtain ⟨b, s, e0, rfl, hb, HE2⟩ := HE.out
      have hUW := unwrap_any b s e0 wr hb
      have hd1 : depthE wr e0 = k' := depthE_of HE2
      have hd2 : depthE wr (.iface 148 (.pointer (some ⟨b, 0, none⟩))) = k' + 1 := depthE_of HE.out
      obtain ⟨te, xe, rfl⟩ : ∃ t x, e0 = .iface t x := by
        cases k' with
        | zero => exact ⟨_, _, HE2⟩
        | succ j => obtain ⟨_, _, _, h1, _⟩ := HE2; exact ⟨_, _, h1⟩
      have HE2 := Lib.hid HE2
      go_wp2_with (first | (go_at_call 142; refine hUW.mono ?_; rintro e2 w2 ⟨rfl, rfl⟩))
      exact ⟨⟨k', HE2, trivial⟩, by rw [hd1, hd2]; omega⟩
set_option maxRecDepth 100000 in
set_option maxHeartbeats 4000000 in
/-- errors.As of an error with a number: the number. -/
theorem as_any (k : Nat) (v : Value) (n : Int) (tb : Nat) (old : Value) (w : World) (hv : ErrAt w k v n) (hg : w.cell? ⟨0, 0, none⟩ = some (.iface 188 (.agg #[.pointer (some ⟨1, 29, none⟩)]))) (ht : w.heap[tb]? = some (.cells #[old] 92)) :
    Calls Tryd.prog 55 #[v, .iface 125 (.pointer (some ⟨tb, 0, none⟩))] w fun e w' => e = .returned (.bool true) ∧ w'.heap[tb]? = some (.cells #[.int .i64 n] 92) ∧ Below tb w w' := by
  obtain ⟨te, xe, rfl⟩ : ∃ t x, v = .iface t x := by
    cases k with
    | zero => exact ⟨_, _, hv⟩
    | succ j => obtain ⟨_, _, _, h1, _⟩ := hv; exact ⟨_, _, h1⟩
  have h83 := @run_callFunc_extern Tryd.prog 83 _ (fun args => ReflectliteValue.unpack (args.getD 0 (.tuple #[]))) Tryd.func83 (by kernel_rfl) (by kernel_rfl) (by kernel_rfl) (by kernel_rfl)
  have h84 := @run_callFunc_extern Tryd.prog 84 _ (ReflectliteValue.methodAny (ReflectliteValue.valueError "reflectlite.Value.Type" 0) (fun t _ _ _ => ReflectliteType.toType t)) Tryd.func84 (by kernel_rfl) (by kernel_rfl) (by kernel_rfl) (by kernel_rfl)
  have h85 := @run_callFunc_extern Tryd.prog 85 _ (ReflectliteValue.method (ReflectliteValue.valueError "reflectlite.Value.IsNil" 0) ReflectliteValue.isNil) Tryd.func85 (by kernel_rfl) (by kernel_rfl) (by kernel_rfl) (by kernel_rfl)
  have h134 := @run_callFunc_extern Tryd.prog 134 _ (ReflectliteType.abiMethod fun t => do pure (.int .u8 (← Rtype.kind t))) Tryd.func134 (by kernel_rfl) (by kernel_rfl) (by kernel_rfl) (by kernel_rfl)
  have h149 := @run_callFunc_extern Tryd.prog 149 _ (ReflectliteType.method ReflectliteType.elem) Tryd.func149 (by kernel_rfl) (by kernel_rfl) (by kernel_rfl) (by kernel_rfl)
  have h150 := @run_callFunc_extern Tryd.prog 150 _ (ReflectliteType.relation "Implements" ReflectliteType.implements_) Tryd.func150 (by kernel_rfl) (by kernel_rfl) (by kernel_rfl) (by kernel_rfl)
  have fv := as_valueOfP
  have ft := as_typeP
  have mK := as_methodKind
  have mE := as_methodElem
  have mI := as_methodImplements
  have kP := as_kindP
  have kE := as_kindE
  have eP := as_elemP
  have iE := as_implementsE
  have htl := lt_of_blk ht
  have hlt : 0 < w.heap.size := by omega
  have n8 := as_isNilP ⟨w.heap.size, 0, none⟩ ⟨tb, 0, none⟩ ((w.alloc (.cells #[.pointer (some ⟨tb, 0, none⟩)] 125)).alloc (.cells #[.pointer (some ⟨1, 125, none⟩), .pointer (some ⟨w.heap.size, 0, none⟩), .int .u64 150] 170)) (by simp)
  have hg2 : ((w.alloc (.cells #[.pointer (some ⟨tb, 0, none⟩)] 125)).alloc (.cells #[.pointer (some ⟨1, 125, none⟩), .pointer (some ⟨w.heap.size, 0, none⟩), .int .u64 150] 170)).cell? ⟨0, 0, none⟩ = some (.iface 188 (.agg #[.pointer (some ⟨1, 29, none⟩)])) := by
    rw [World.cell?_alloc_lt _ _ ⟨0, 0, none⟩ (by simp), World.cell?_alloc_lt _ _ ⟨0, 0, none⟩ hlt]; exact hg
  have hbw : Below w.heap.size w ((w.alloc (.cells #[.pointer (some ⟨tb, 0, none⟩)] 125)).alloc (.cells #[.pointer (some ⟨1, 125, none⟩), .pointer (some ⟨w.heap.size, 0, none⟩), .int .u64 150] 170)) := ((Below.refl _ _).alloc (Nat.le_refl _) _).alloc (by simp) _
  have hW := as_walk k (.iface te xe) n tb w.heap.size old _ (hv.below hbw) (by rw [Below.heap_alloc _ _ _ (by simp)]; exact heap_alloc_new _ _) ((hbw.block _ htl).trans ht)
  have HBW := Lib.hid (hbw.mono (Nat.le_of_lt htl))
  clear hv ht hbw
  go_enter Tryd.func55, Tryd.ntmps55
  go_wp2_with (first | (go_at_call 86; refine hW.mono ?_; rintro e2 w2 ⟨rfl, hx, hy⟩))
  go_ret
  exact ⟨rfl, hx, HBW.out.trans hy⟩
end Go.Proofs.YthaaoghbginmpaaDoor
