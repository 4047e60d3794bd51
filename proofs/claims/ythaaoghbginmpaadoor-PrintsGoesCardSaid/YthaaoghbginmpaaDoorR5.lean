/- At whatever input: an entry that is set to no refs is found no more, and its place is free again. The row's own condition alone: what the listed variable reads as. -/
import Derived.Test.YthaaoghbginmpaaDoorR0
import Derived.Test.YthaaoghbginmpaaDoorF5
import Derived.Deep.Grids
set_option linter.unusedSimpArgs false
set_option linter.unusedVariables false
set_option linter.unnecessarySimpa false
namespace Go.Proofs.YthaaoghbginmpaaDoor
set_option linter.unusedSimpArgs false
set_option linter.unusedVariables false
open Go.ChangeShapes Go.WideShapes Go.ChangeAt Go.RowKit Go.Lib
section
variable {H : Type} {enc : TypeId × Value → H} {W : World} {base : Nat} {held : Bool}
theorem open_boolsIn {fuel : Nat} {v : Value} {x : DataW H × List MemPlace} (h : DataW.trod enc Tryd.prog W base (fun _ => true) held fuel 60 [v] = some x) :
    ∃ a len cap L, v = .slice a len cap ∧ BoolsIn W a len L ∧ len ≤ maxLen := by
  rcases Go.Deep.open_bools Tryd.underlying60 Tryd.underlying4 (by kernel_rfl) h with ⟨hcs, _⟩ | ⟨a, len, cap, L, hcs, _, hl, hm, _, hi⟩
  · simp only [List.cons.injEq, and_true] at hcs
    exact ⟨none, 0, 0, fun _ => false, hcs, fun i h => by omega, Nat.zero_le _⟩
  · simp only [List.cons.injEq, and_true] at hcs
    refine ⟨some a, len, cap, L, hcs, fun i hil => ?_, Nat.le_trans hl hm⟩
    have h0 := hi 0 (by omega)
    have h1 := hi i (by omega)
    have hs : a.spot = none := by simpa [Addr.add] using World.cell?_spot h0
    obtain ⟨b, o, sp⟩ := a
    simp only at hs
    subst hs
    rw [Addr.add_mid] at h1
    exact ⟨b, o, rfl, World.block_lt_of_cell? W _ h1, h1⟩
end
set_option maxRecDepth 100000 in
theorem printsGoes_lifted (os : Os) (started : os.Started) (H : Type) (enc : TypeId × Value → H) :
    ReturnsInHanded {} Tryd.checked os 6 .any (fun w args => (Rows.printsGoesSpec.pre enc Tryd.prog Tryd.f6 [] false w args ∧ laidMetH Tryd.prog laidE w) ∧ sizedMet enc Tryd.prog Tryd.f6 (OpenSpec.ofChange Rows.printsGoesSpec) false w args)
      (Rows.printsGoesSpec.post enc Tryd.prog Tryd.f6 false true false false) := by
  refine returnsInHanded_of_change_and (C := Tryd.checked) (X := fun w _ => laidMetH Tryd.prog laidE w) (fun _ _ _ hh h => h.of_heap hh) Tryd.own started (by kernel_rfl) Tryd.func6
    (ChangeSpec.witness_at (enc := enc) (C := Tryd.checked) (os := os) (X := fun w _ => laidMetH Tryd.prog laidE w) false (laidWorld os) #[.int .i64 0, .slice none 0 0] 8 rfl (by kernel_rfl) (by kernel_rfl) (by kernel_rfl) (by kernel_rfl) (by kernel_rfl) (laidWorld_met os _)) ?_
  intro W base args ds gs before hval0 hW _ _ hL _
  have hval : ∀ (j : Nat) t v, Tryd.f6.params[j]? = some t → args[j]? = some v → Value.okWide Tryd.prog W .any base t v := hval0
  have hW' := hW
  obtain ⟨p, q, hA0, hV0, rfl, _, _⟩ := hW
  have hA : DataW.TrodAll enc Tryd.prog W 0 (fun _ => true) true Tryd.f6.params.toList args.toList ds p := hA0
  rw [Tryd.params6] at hA hval
  obtain ⟨v0, v1, d0, d1, p0, p1, rfl, rfl, rfl, h0, h1⟩ := trodAll_two hA
  obtain ⟨rfl, rfl⟩ := trodVars_none hV0
  clear hA0 hV0 hval0
  simp only [List.append_nil] at hW'
  have hW1 := hW'
  have hlt : ∀ x ∈ p0 ++ p1, x.block < W.heap.size := fun x hx => by simpa using hW'.lt x (by simpa using hx)
  have hargs : ∀ (W' : World), Below W.heap.size W W' → DataW.TrodAll enc Tryd.prog W' 0 (fun b => decide (b < W.heap.size)) true [3, 60] [v0, v1] [d0, d1] (p0 ++ p1) := fun W' hn =>
    trodAll_mk2 (Below.trod Tryd.laidOut (by kernel_rfl) (of_decide_eq_true (by kernel_rfl)) h0 hn (fun x hx => hlt x (by simp [hx]))) (Below.trod Tryd.laidOut (by kernel_rfl) (of_decide_eq_true (by kernel_rfl)) h1 hn (fun x hx => hlt x (by simp [hx])))
  have emin : IntKind.i64.min = -9223372036854775808 := rfl
  have emax : IntKind.i64.max = 9223372036854775807 := rfl
  have bmin : IntKind.u8.min = 0 := rfl
  have bmax : IntKind.u8.max = 255 := rfl
  obtain ⟨n0, rfl, rfl, rfl, w0⟩ := open_int Tryd.underlying3 (hval 0 3 v0 rfl rfl) h0
  obtain ⟨u1, l1, k1, hv1⟩ := okWide_slice Tryd.underlying60 (hval 1 60 v1 rfl rfl)
  obtain ⟨fuel1, hf1⟩ := h1
  subst hv1
  obtain ⟨a1, len1, c1, L1, hq1, hb1, hm1⟩ := open_boolsIn (v := .slice u1 l1 k1) hf1
  rw [hq1] at hargs hW1 ⊢
  have hq : Calls Tryd.prog 6 #[.int .i64 n0, .slice a1 len1 c1] W fun e w' => e = .returned (.bool true) ∧ Below W.heap.size W w' :=
    goes_any n0 a1 len1 c1 L1 (by have := w0; simp [Lit.wf, emin, emax] at this; omega) hm1 W hb1
  refine hq.mono fun e W' ⟨he, hb⟩ => ?_
  subst he
  exact ⟨_, rfl, ⟨_, _, _, [], _, [], hW1, trodAll_mk1 (shut_bool Tryd.underlying4 true), hargs _ hb, rfl, hb.frame _, fun h => by cases h⟩⟩
theorem printsGoes_holds : Rows.PrintsGoesSaid :=
  OpenClaim.holds_of_wide 6 Tryd.f6 rfl rfl rfl rfl rfl rfl rfl ⟨rfl, rfl, rfl, rfl, rfl⟩ rfl rfl rfl rfl rfl (by kernel_rfl) Tryd.func6 (by kernel_rfl)
    (of_decide_eq_true (by kernel_rfl)) (by unfold Func.isWrapper; first | (rw [if_pos (by decide +kernel)]; kernel_rfl) | (rw [if_neg (by decide +kernel)]; exact ⟨rfl, rfl⟩))
    (fun os started H enc _ => printsGoes_lifted os started H enc)
end Go.Proofs.YthaaoghbginmpaaDoor
