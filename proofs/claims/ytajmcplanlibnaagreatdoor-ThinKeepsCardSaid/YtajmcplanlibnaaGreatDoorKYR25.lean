/- At whatever input: reservations that are to last are there behind any crash; those that are not to are gone. The row's own condition alone: what the listed variable reads as. -/
import Derived.Test.YtajmcplanlibnaaGreatDoorKYR0
import Derived.Test.YtajmcplanlibnaaGreatDoorKYZK
import Derived.Test.YtajmcplanlibnaaGreatDoorKYJFns
import Derived.Deep.Grids
set_option linter.unusedSimpArgs false
set_option linter.unusedVariables false
set_option linter.unnecessarySimpa false
namespace Go.Proofs.YtajmcplanlibnaaGreatDoor
open Go.ChangeShapes Go.WideShapes Go.ChangeAt Go.RowKit Go.Lib
section
variable {H : Type} {enc : TypeId × Value → H} {W : World} {base : Nat} {held : Bool}
theorem open_numsIn {fuel : Nat} {v : Value} {x : DataW H × List MemPlace} (h : DataW.trod enc Tryz.prog W base (fun _ => true) held fuel 33 [v] = some x) :
    ∃ a len cap K, v = .slice a len cap ∧ PickIn W a len K ∧ len ≤ maxLen ∧ ∀ i, i < len → -9223372036854775808 ≤ K i ∧ K i ≤ 9223372036854775807 := by
  rcases Go.Deep.open_slice1 Tryz.underlying33 (by kernel_rfl) h with ⟨hcs, _⟩ | ⟨a, len, cap, m, n, V, D, Pl, hcs, _, hl, hm, hmm, _, hi⟩
  · simp only [List.cons.injEq, and_true] at hcs
    exact ⟨none, 0, 0, fun _ => 0, hcs, fun i h => by omega, Nat.zero_le _, fun i h => by omega⟩
  · simp only [List.cons.injEq, and_true] at hcs
    simp only [if_true] at hmm
    subst hmm
    obtain ⟨K, hK⟩ := Go.Deep.choose_lt (α := Int) (p := fun i k => V i = .int .i64 k ∧ (Lit.int .i64 k).wf = true) (fun i hil => by
      obtain ⟨k, e1, _, e3⟩ := DataW.trod_int Tryz.underlying3 (hi i hil).2
      simp only [List.cons.injEq, and_true] at e1
      exact ⟨k, e1, e3⟩)
    have emin : IntKind.i64.min = -9223372036854775808 := rfl
    have emax : IntKind.i64.max = 9223372036854775807 := rfl
    refine ⟨some a, len, m, K, hcs, fun i hil => ?_, Nat.le_trans hl hm, fun i hil => ?_⟩
    · have h0 := (hi 0 (by omega)).1
      have h1 := (hi i (by omega)).1
      rw [(hK i (by omega)).1] at h1
      have hs : a.spot = none := by simpa [Addr.add] using World.cell?_spot h0
      obtain ⟨b, o, sp⟩ := a
      simp only at hs
      subst hs
      rw [Addr.add_mid] at h1
      exact ⟨b, o, rfl, World.block_lt_of_cell? W _ h1, h1⟩
    · have := (hK i (by omega)).2
      simp [Lit.wf, emin, emax] at this
      exact this
end
set_option maxRecDepth 100000 in
theorem thinKeeps_lifted (os : Os) (started : os.Started) (H : Type) (enc : TypeId × Value → H) :
    ReturnsInHanded {} Tryz.checked os 8 .any (fun w args => (Rows.thinKeepsSpec.pre enc Tryz.prog Tryz.f8 [] false w args ∧ laidMetH Tryz.prog laidE w) ∧ sizedMet enc Tryz.prog Tryz.f8 (OpenSpec.ofChange Rows.thinKeepsSpec) false w args)
      (Rows.thinKeepsSpec.post enc Tryz.prog Tryz.f8 false true false false) := by
  refine returnsInHanded_of_change_and (C := Tryz.checked) (X := fun w _ => laidMetH Tryz.prog laidE w) (fun _ _ _ hh h => h.of_heap hh) Tryz.own started (by kernel_rfl) Tryz.func8
    (ChangeSpec.witness_at (enc := enc) (C := Tryz.checked) (os := os) (X := fun w _ => laidMetH Tryz.prog laidE w) false (laidWorld os) #[.slice none 0 0, .slice none 0 0] 8 rfl (by kernel_rfl) (by kernel_rfl) (by kernel_rfl) (by kernel_rfl) (by kernel_rfl) (laidWorld_met os _)) ?_
  intro W base args ds gs before hval0 hW _ _ hL _
  have hval : ∀ (j : Nat) t v, Tryz.f8.params[j]? = some t → args[j]? = some v → Value.okWide Tryz.prog W .any base t v := hval0
  have hW' := hW
  obtain ⟨p, q, hA0, hV0, rfl, _, _⟩ := hW
  have hA : DataW.TrodAll enc Tryz.prog W 0 (fun _ => true) true Tryz.f8.params.toList args.toList ds p := hA0
  rw [Tryz.params8] at hA hval
  obtain ⟨v0, v1, d0, d1, p0, p1, rfl, rfl, rfl, h0, h1⟩ := trodAll_two hA
  obtain ⟨rfl, rfl⟩ := trodVars_none hV0
  clear hA0 hV0 hval0
  simp only [List.append_nil] at hW'
  have hW1 := hW'
  have hlt : ∀ x ∈ p0 ++ p1, x.block < W.heap.size := fun x hx => by simpa using hW'.lt x (by simpa using hx)
  have hargs : ∀ (W' : World), Below W.heap.size W W' → DataW.TrodAll enc Tryz.prog W' 0 (fun b => decide (b < W.heap.size)) true [100, 33] [v0, v1] [d0, d1] (p0 ++ p1) := fun W' hn =>
    trodAll_mk2 (Below.trod Tryz.laidOut (by kernel_rfl) (of_decide_eq_true (by kernel_rfl)) h0 hn (fun x hx => hlt x (by simp [hx]))) (Below.trod Tryz.laidOut (by kernel_rfl) (of_decide_eq_true (by kernel_rfl)) h1 hn (fun x hx => hlt x (by simp [hx])))
  have emin : IntKind.i64.min = -9223372036854775808 := rfl
  have emax : IntKind.i64.max = 9223372036854775807 := rfl
  have bmin : IntKind.u8.min = 0 := rfl
  have bmax : IntKind.u8.max = 255 := rfl
  obtain ⟨u0, l0, k0, hv0⟩ := okWide_slice Tryz.underlying100 (hval 0 100 v0 rfl rfl)
  obtain ⟨fuel0, hf0⟩ := h0
  subst hv0
  obtain ⟨a0, len0, c0, T0, A0, C0, hq0, hb0, hm0⟩ := open_tablesIn (v := .slice u0 l0 k0) hf0
  rw [hq0] at hargs hW1 ⊢
  obtain ⟨u1, l1, k1, hv1⟩ := okWide_slice Tryz.underlying33 (hval 1 33 v1 rfl rfl)
  obtain ⟨fuel1, hf1⟩ := h1
  subst hv1
  obtain ⟨a1, len1, c1, L1, hq1, hb1, hm1, hr1⟩ := open_numsIn (v := .slice u1 l1 k1) hf1
  rw [hq1] at hargs hW1 ⊢
  have et : EtAt W := by
    have h := handle_of_laid hL
    rw [show typeHandle Tryz.prog 27 = .pointer (some ⟨1, 27, none⟩) by kernel_rfl] at h
    exact h
  have hq : Calls Tryz.prog 8 #[.slice a0 len0 c0, .slice a1 len1 c1] W fun e w' => e = .returned (.bool true) ∧ Below W.heap.size W w' :=
    keeps11_any a0 len0 c0 T0 A0 C0 a1 len1 c1 L1 hm0 hm1 W hb0 hb1 et
  refine hq.mono fun e W' ⟨he, hb⟩ => ?_
  subst he
  exact ⟨_, rfl, ⟨_, _, _, [], _, [], hW1, trodAll_mk1 (shut_bool Tryz.underlying4 true), hargs _ hb, rfl, hb.frame _, fun h => by cases h⟩⟩
set_option maxHeartbeats 8000000 in
theorem thinKeeps_facts : joinedFacts Tryz.pinned.checked.prog 8 Tryz.f8 Rows.thinKeepsSpec Rows.thinKeepsRow = true := by
  unfold joinedFacts
  simp only [Bool.and_eq_true]
  repeat' apply And.intro
  all_goals (as_aux_lemma => kernel_rfl)
theorem thinKeeps_holds : Rows.ThinKeepsSaid :=
  OpenClaim.holds_of_wide 8 Tryz.f8 rfl rfl rfl rfl rfl rfl rfl ⟨rfl, rfl, rfl, rfl, rfl⟩ rfl rfl rfl rfl rfl (by as_aux_lemma => kernel_rfl) Tryz.func8 thinKeeps_facts
    (of_decide_eq_true (by kernel_rfl)) (by unfold Func.isWrapper; first | (rw [if_pos (by decide +kernel)]; kernel_rfl) | (rw [if_neg (by decide +kernel)]; exact ⟨rfl, rfl⟩))
    (fun os started H enc _ => thinKeeps_lifted os started H enc)
end Go.Proofs.YtajmcplanlibnaaGreatDoor
