/- At whatever input: a block that is moved is at its new place, in another container, and nowhere else. The row's own condition alone: what the listed variable reads as. The tied card: a block that is moved is at its new place, in another container, and nowhere else. -/
import Derived.Test.YthaaoghbginmpaaDoorR0
import Derived.Test.YthaaoghbginmpaaDoorF6
import Derived.Deep.Grids
import Derived.Test.YthaaoghbginmpaaDoorTie
import Derived.Test.YthaaoghbginmpaaDoorCards
import Derived.SevenTiedAt
set_option linter.unusedSimpArgs false
set_option linter.unusedVariables false
set_option linter.unnecessarySimpa false
namespace Go.Proofs.YthaaoghbginmpaaDoor
set_option linter.unusedSimpArgs false
set_option linter.unusedVariables false
open Go.ChangeShapes Go.WideShapes Go.ChangeAt Go.RowKit Go.Lib
section
variable {H : Type} {enc : TypeId × Value → H} {W : World} {base : Nat} {held : Bool}
theorem open_numsIn {fuel : Nat} {v : Value} {x : DataW H × List MemPlace} (h : DataW.trod enc Tryd.prog W base (fun _ => true) held fuel 48 [v] = some x) :
    ∃ a len cap K, v = .slice a len cap ∧ NumsIn W a len K ∧ len ≤ maxLen ∧ ∀ i, i < len → -9223372036854775808 ≤ K i ∧ K i ≤ 9223372036854775807 := by
  rcases Go.Deep.open_slice1 Tryd.underlying48 (by kernel_rfl) h with ⟨hcs, _⟩ | ⟨a, len, cap, m, n, V, D, Pl, hcs, _, hl, hm, hmm, _, hi⟩
  · simp only [List.cons.injEq, and_true] at hcs
    exact ⟨none, 0, 0, fun _ => 0, hcs, fun i h => by omega, Nat.zero_le _, fun i h => by omega⟩
  · simp only [List.cons.injEq, and_true] at hcs
    simp only [if_true] at hmm
    subst hmm
    obtain ⟨K, hK⟩ := Go.Deep.choose_lt (α := Int) (p := fun i k => V i = .int .i64 k ∧ (Lit.int .i64 k).wf = true) (fun i hil => by
      obtain ⟨k, e1, _, e3⟩ := DataW.trod_int Tryd.underlying3 (hi i hil).2
      simp only [List.cons.injEq, and_true] at e1
      exact ⟨k, e1, e3⟩)
    have emin : IntKind.i64.min = -9223372036854775808 := rfl
    have emax : IntKind.i64.max = 9223372036854775807 := rfl
    refine ⟨some a, len, m, K, hcs, fun i hil => ?_, Nat.le_trans hl hm, fun i hil => ?_⟩
    · have h0 := (hi 0 (by omega)).1
      have h1 := (hi i (by omega)).1
      rw [(hK i (by omega)).1] at h1
      have hs : a.spot = none := by simpa [Addr.add] using World.cell?_spot h0
      obtain ⟨b, o, sp⟩ := a
      simp only at hs
      subst hs
      rw [Addr.add_mid] at h1
      exact ⟨b, o, rfl, World.block_lt_of_cell? W _ h1, h1⟩
    · have := (hK i (by omega)).2
      simp [Lit.wf, emin, emax] at this
      exact this
end
set_option maxRecDepth 100000 in
theorem depotMoves_lifted (os : Os) (started : os.Started) (H : Type) (enc : TypeId × Value → H) :
    ReturnsInHanded {} Tryd.checked os 7 .any (fun w args => (Rows.depotMovesSpec.pre enc Tryd.prog Tryd.f7 [] false w args ∧ laidMetH Tryd.prog laidE w) ∧ sizedMet enc Tryd.prog Tryd.f7 (OpenSpec.ofChange Rows.depotMovesSpec) false w args)
      (Rows.depotMovesSpec.post enc Tryd.prog Tryd.f7 false true false false) := by
  refine returnsInHanded_of_change_and (C := Tryd.checked) (X := fun w _ => laidMetH Tryd.prog laidE w) (fun _ _ _ hh h => h.of_heap hh) Tryd.own started (by kernel_rfl) Tryd.func7
    (ChangeSpec.witness_at (enc := enc) (C := Tryd.checked) (os := os) (X := fun w _ => laidMetH Tryd.prog laidE w) false (laidWorld os) #[.int .i64 0, .slice none 0 0] 8 rfl (by kernel_rfl) (by kernel_rfl) (by kernel_rfl) (by kernel_rfl) (by kernel_rfl) (laidWorld_met os _)) ?_
  intro W base args ds gs before hval0 hW _ _ hL _
  have hval : ∀ (j : Nat) t v, Tryd.f7.params[j]? = some t → args[j]? = some v → Value.okWide Tryd.prog W .any base t v := hval0
  have hW' := hW
  obtain ⟨p, q, hA0, hV0, rfl, _, _⟩ := hW
  have hA : DataW.TrodAll enc Tryd.prog W 0 (fun _ => true) true Tryd.f7.params.toList args.toList ds p := hA0
  rw [Tryd.params7] at hA hval
  obtain ⟨v0, v1, d0, d1, p0, p1, rfl, rfl, rfl, h0, h1⟩ := trodAll_two hA
  obtain ⟨rfl, rfl⟩ := trodVars_none hV0
  clear hA0 hV0 hval0
  simp only [List.append_nil] at hW'
  have hW1 := hW'
  have hlt : ∀ x ∈ p0 ++ p1, x.block < W.heap.size := fun x hx => by simpa using hW'.lt x (by simpa using hx)
  have hargs : ∀ (W' : World), Below W.heap.size W W' → DataW.TrodAll enc Tryd.prog W' 0 (fun b => decide (b < W.heap.size)) true [3, 48] [v0, v1] [d0, d1] (p0 ++ p1) := fun W' hn =>
    trodAll_mk2 (Below.trod Tryd.laidOut (by kernel_rfl) (of_decide_eq_true (by kernel_rfl)) h0 hn (fun x hx => hlt x (by simp [hx]))) (Below.trod Tryd.laidOut (by kernel_rfl) (of_decide_eq_true (by kernel_rfl)) h1 hn (fun x hx => hlt x (by simp [hx])))
  have emin : IntKind.i64.min = -9223372036854775808 := rfl
  have emax : IntKind.i64.max = 9223372036854775807 := rfl
  have bmin : IntKind.u8.min = 0 := rfl
  have bmax : IntKind.u8.max = 255 := rfl
  obtain ⟨n0, rfl, rfl, rfl, w0⟩ := open_int Tryd.underlying3 (hval 0 3 v0 rfl rfl) h0
  obtain ⟨u1, l1, k1, hv1⟩ := okWide_slice Tryd.underlying48 (hval 1 48 v1 rfl rfl)
  obtain ⟨fuel1, hf1⟩ := h1
  subst hv1
  obtain ⟨a1, len1, c1, L1, hq1, hb1, hm1, hr1⟩ := open_numsIn (v := .slice u1 l1 k1) hf1
  rw [hq1] at hargs hW1 ⊢
  have et : EtAt W := by
    have h := handle_of_laid hL
    rw [show typeHandle Tryd.prog 29 = .pointer (some ⟨1, 29, none⟩) by kernel_rfl] at h
    exact h
  have hq : Calls Tryd.prog 7 #[.int .i64 n0, .slice a1 len1 c1] W fun e w' => e = .returned (.bool true) ∧ Below W.heap.size W w' :=
    moves_any n0 a1 len1 c1 L1 (by have := w0; simp [Lit.wf, emin, emax] at this; omega) hm1 hr1 W hb1 et
  refine hq.mono fun e W' ⟨he, hb⟩ => ?_
  subst he
  exact ⟨_, rfl, ⟨_, _, _, [], _, [], hW1, trodAll_mk1 (shut_bool Tryd.underlying4 true), hargs _ hb, rfl, hb.frame _, fun h => by cases h⟩⟩
theorem depotMoves_holds : Rows.DepotMovesSaid :=
  OpenClaim.holds_of_wide 7 Tryd.f7 rfl rfl rfl rfl rfl rfl rfl ⟨rfl, rfl, rfl, rfl, rfl⟩ rfl rfl rfl rfl rfl (by kernel_rfl) Tryd.func7 (by kernel_rfl)
    (of_decide_eq_true (by kernel_rfl)) (by unfold Func.isWrapper; first | (rw [if_pos (by decide +kernel)]; kernel_rfl) | (rw [if_neg (by decide +kernel)]; exact ⟨rfl, rfl⟩))
    (fun os started H enc _ => depotMoves_lifted os started H enc)
end Go.Proofs.YthaaoghbginmpaaDoor
set_option linter.unusedSimpArgs false
set_option linter.unusedVariables false
set_option linter.unnecessarySimpa false
namespace Go.Proofs.YthaaoghbginmpaaDoor
open Go
theorem depotMoves_card : Rows.DepotMovesCardSaid :=
  Claim7.holds_tied_plain_at .later [] [.handle] true (true, "1d068f4eefb04d78be3a024ca2db7ec01f6045fe4f66575a666619ad57cdb383") true
    depotMoves_holds (fun _ h => by cases h) (by kernel_rfl) (fun _ h => by cases h) depotMoves_row_tie rfl ⟨rfl, rfl⟩ (by kernel_rfl) rfl
    (fun f fn hf hfn => by
      obtain rfl : f = 7 := Option.some.inj ((show Tryd.prog.funcNamed "bulkhead/bulkheadlaw07.DepotMoves" = some 7 by kernel_rfl).symm.trans hf) |>.symm
      obtain rfl : fn = Tryd.f7 := (Option.some.inj (Tryd.func7.symm.trans hfn)).symm
      exact ⟨by kernel_rfl, fun j t ht => by
        rw [Tryd.params7] at ht
        have hm : t ∈ [3, 48] := by simpa using Array.mem_of_getElem? ht
        have hall : ([3, 48].all fun u => !Tryd.prog.wantsStandIn u) = true := by kernel_rfl
        exact (show Tryd.prog.wantsStandIn t = false by simpa using List.all_eq_true.1 hall t hm)⟩)
    (by kernel_rfl)
end Go.Proofs.YthaaoghbginmpaaDoor
