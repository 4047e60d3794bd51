/- At whatever input: behind a step that is not fine nothing is any more. The row's own condition alone: what the listed variables read as. -/
import Derived.Test.YtnicmfboomibjaaDoorP0n
import Derived.Test.YtnicmfboomibjaaDoorM2
namespace Go.Proofs.YtnicmfboomibjaaDoor
set_option linter.unusedSimpArgs false
set_option linter.unusedVariables false
open Go.ChangeShapes Go.WideShapes Go.ChangeAt Go.RowKit Go.Lib
theorem negoOver_fits (os : Os) {H : Type} (enc : TypeId × Value → H) :
    (OpenSpec.ofChange Rows.negoOverSpec).preRow enc Tryd.prog Tryd.f9 Rows.negoOverRow.domain false Rows.negoOverRow.laid ((laidWorld os).forCall (fun _ _ => 0) ⟨#[], #[.slice none 0 0, .slice none 0 0], []⟩).memory #[.slice none 0 0, .slice none 0 0] := by
  have hw : (DataW.whole enc Tryd.prog ((laidWorld os).forCall (fun _ _ => 0) ⟨#[], #[.slice none 0 0, .slice none 0 0], []⟩).memory Tryd.f9.params.toList (OpenSpec.ofChange Rows.negoOverSpec).vars false (#[.slice none 0 0, .slice none 0 0] : Array Value).toList 8).map (fun x => (x.1, x.2.1)) =
      some ([.nil, .nil], []) := by kernel_rfl
  obtain ⟨⟨x1, x2, x3⟩, hx, hx1⟩ := Option.map_eq_some_iff.1 hw
  simp only [Prod.mk.injEq] at hx1
  obtain ⟨rfl, rfl⟩ := hx1
  exact OpenSpec.preRow_of_cond 8 hx (by kernel_rfl) (fun k hk => by cases hk) (by kernel_rfl) (laid_met os _)
set_option maxRecDepth 100000 in
theorem negoOver_lifted (os : Os) (started : os.Started) (H : Type) (enc : TypeId × Value → H) (F : Stop.Interp) :
    ReturnsInHanded {} Tryd.checked os 9 .any ((OpenSpec.ofChange Rows.negoOverSpec).preRow enc Tryd.prog Tryd.f9 Rows.negoOverRow.domain false Rows.negoOverRow.laid) (((OpenSpec.ofChange Rows.negoOverSpec).at F).post enc Tryd.prog Tryd.f9 false true false false) := by
  refine returnsInHanded_of_row (C := Tryd.checked) (s := OpenSpec.ofChange Rows.negoOverSpec) Tryd.own started (by kernel_rfl) Tryd.func9
    (witness_row_atRef (enc := enc) (C := Tryd.checked) false (laidWorld os) #[.slice none 0 0, .slice none 0 0] rfl (by kernel_rfl) (by kernel_rfl) (by kernel_rfl) (negoOver_fits os enc)) ?_
  intro W base args ds gs before hval0 hW _ _ hsz0 hL hsh _
  have hval : ∀ (j : Nat) t v, Tryd.f9.params[j]? = some t → args[j]? = some v → Value.okWide Tryd.prog W .any base t v := hval0
  have hW' := hW
  obtain ⟨p, q, hA0, hV0, rfl, _, _⟩ := hW
  have hA : DataW.TrodAll enc Tryd.prog W 0 (fun _ => true) true Tryd.f9.params.toList args.toList ds p := hA0
  rw [Tryd.params9] at hA hval hsz0
  obtain ⟨v0, v1, d0, d1, p0, p1, rfl, rfl, rfl, h0, h1⟩ := trodAll_two hA
  obtain ⟨rfl, rfl⟩ := trodVars_none hV0
  clear hA0 hV0 hval0
  simp only [List.append_nil] at hW'
  have hW1 := hW'
  have hlt : ∀ x ∈ p0 ++ p1, x.block < W.heap.size := fun x hx => by simpa using hW'.lt x (by simpa using hx)
  have hargs : ∀ (W' : World), Below W.heap.size W W' → DataW.TrodAll enc Tryd.prog W' 0 (fun b => decide (b < W.heap.size)) true [44, 44] [v0, v1] [d0, d1] (p0 ++ p1) := fun W' hn =>
    trodAll_mk2 (Below.trod Tryd.laidOut (by kernel_rfl) (of_decide_eq_true (by kernel_rfl)) h0 hn (fun x hx => hlt x (by simp [hx]))) (Below.trod Tryd.laidOut (by kernel_rfl) (of_decide_eq_true (by kernel_rfl)) h1 hn (fun x hx => hlt x (by simp [hx])))
  have hE := envN_of_laid (show laidMet Tryd.prog laid7 W from hL) hsh
  have emin : IntKind.i64.min = -9223372036854775808 := rfl
  have emax : IntKind.i64.max = 9223372036854775807 := rfl
  have hwt0 : ∀ n ∈ d0.weights Tryd.prog 44, n ≤ 140737488355328 := fun n hn => by
    have h := List.all_eq_true.1 hsz0 n (DataW.weights_mem_each (j := 0) rfl rfl n hn)
    have h2 : n ≤ reachBytes := of_decide_eq_true h
    exact Nat.le_trans h2 (by decide)
  have hwt1 : ∀ n ∈ d1.weights Tryd.prog 44, n ≤ 140737488355328 := fun n hn => by
    have h := List.all_eq_true.1 hsz0 n (DataW.weights_mem_each (j := 1) rfl rfl n hn)
    have h2 : n ≤ reachBytes := of_decide_eq_true h
    exact Nat.le_trans h2 (by decide)
  obtain ⟨u0, l0, k0, hv0⟩ := okWide_slice Tryd.underlying44 (hval 0 44 v0 rfl rfl)
  obtain ⟨fuel0, hf0⟩ := h0
  subst hv0
  obtain ⟨u1, l1, k1, hv1⟩ := okWide_slice Tryd.underlying44 (hval 1 44 v1 rfl rfl)
  obtain ⟨fuel1, hf1⟩ := h1
  subst hv1
  obtain ⟨a0, rs0, c0, hq0, hr0, hz0, hn0, hm0⟩ := open_rqsIn (v := .slice u0 l0 k0) hf0
  rw [hq0] at hargs hW1 ⊢
  obtain ⟨a1, rs1, c1, hq1, hr1, hz1, hn1, hm1⟩ := open_rqsIn (v := .slice u1 l1 k1) hf1
  rw [hq1] at hargs hW1 ⊢
  refine (negoOver_any a0 rs0 c0 a1 rs1 c1 W hE hr0 hr1 hz0 hz1 (rqs_len hn0 hwt0) (fun r hr => (hm0 r hr).1) (fun r hr p hp => ⟨hwt0 _ ((hm0 r hr).2 p hp).1, hwt0 _ ((hm0 r hr).2 p hp).2⟩) (rqs_len hn1 hwt1) (fun r hr => (hm1 r hr).1) (fun r hr p hp => ⟨hwt1 _ ((hm1 r hr).2 p hp).1, hwt1 _ ((hm1 r hr).2 p hp).2⟩)).mono fun e W' ⟨he, hb⟩ => ?_
  subst he
  exact ⟨_, rfl, ⟨_, _, _, [], _, [], hW1, trodAll_mk1 (shut_bool Tryd.underlying4 true), hargs _ hb, rfl, hb.frame _, fun h => by cases h⟩⟩
theorem negoOver_holds : Rows.NegoOverSaid :=
  OpenClaim.holds_of_cond 9 Tryd.f9 rfl rfl rfl rfl rfl rfl rfl ⟨rfl, rfl, rfl, rfl, rfl⟩ rfl rfl rfl rfl rfl (by kernel_rfl) Tryd.func9 (by kernel_rfl)
    (of_decide_eq_true (by kernel_rfl)) (by unfold Func.isWrapper; first | (rw [if_pos (by decide +kernel)]; kernel_rfl) | (rw [if_neg (by decide +kernel)]; exact ⟨rfl, rfl⟩))
    (fun os started H enc _ F0 => by rw [OpenClaim.pre_eq_preRow]; exact negoOver_lifted os started H enc F0)
end Go.Proofs.YtnicmfboomibjaaDoor
