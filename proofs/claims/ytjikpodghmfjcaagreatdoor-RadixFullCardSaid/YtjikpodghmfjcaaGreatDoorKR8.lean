/- At whatever input: as many groups of blocks have numbers as there are nodes for, and one more is refused; whatever order they come in. The row's own condition alone: what the listed variable reads as. -/
import Derived.Test.YtjikpodghmfjcaaGreatDoorR0
import Derived.Test.YtjikpodghmfjcaaGreatDoorKF3
import Derived.Deep.Grids
set_option linter.unusedSimpArgs false
set_option linter.unusedVariables false
set_option linter.unnecessarySimpa false
namespace Go.Proofs.YtjikpodghmfjcaaGreatDoor
open Go.ChangeShapes Go.WideShapes Go.ChangeAt Go.RowKit Go.Lib
section
variable {H : Type} {enc : TypeId × Value → H} {W : World} {base : Nat} {held : Bool}
theorem open_numsIn {fuel : Nat} {v : Value} {x : DataW H × List MemPlace} (h : DataW.trod enc Tryz.prog W base (fun _ => true) held fuel 27 [v] = some x) :
    ∃ a len cap K, v = .slice a len cap ∧ NumsAt W a len K ∧ len ≤ maxLen ∧ ∀ i, i < len → -9223372036854775808 ≤ K i ∧ K i ≤ 9223372036854775807 := by
  rcases Go.Deep.open_slice1 Tryz.underlying27 (by kernel_rfl) h with ⟨hcs, _⟩ | ⟨a, len, cap, m, n, V, D, Pl, hcs, _, hl, hm, hmm, _, hi⟩
  · simp only [List.cons.injEq, and_true] at hcs
    exact ⟨none, 0, 0, fun _ => 0, hcs, fun i h => by omega, Nat.zero_le _, fun i h => by omega⟩
  · simp only [List.cons.injEq, and_true] at hcs
    simp only [if_true] at hmm
    subst hmm
    obtain ⟨K, hK⟩ := Go.Deep.choose_lt (α := Int) (p := fun i k => V i = .int .i64 k ∧ (Lit.int .i64 k).wf = true) (fun i hil => by
      obtain ⟨k, e1, _, e3⟩ := DataW.trod_int Tryz.underlying3 (hi i hil).2
      simp only [List.cons.injEq, and_true] at e1
      exact ⟨k, e1, e3⟩)
    have emin : IntKind.i64.min = -9223372036854775808 := rfl
    have emax : IntKind.i64.max = 9223372036854775807 := rfl
    refine ⟨some a, len, m, K, hcs, fun i hil => ?_, Nat.le_trans hl hm, fun i hil => ?_⟩
    · have h0 := (hi 0 (by omega)).1
      have h1 := (hi i (by omega)).1
      rw [(hK i (by omega)).1] at h1
      have hs : a.spot = none := by simpa [Addr.add] using World.cell?_spot h0
      obtain ⟨b, o, sp⟩ := a
      simp only at hs
      subst hs
      rw [Addr.add_mid] at h1
      exact ⟨b, o, rfl, World.block_lt_of_cell? W _ h1, h1⟩
    · have := (hK i (by omega)).2
      simp [Lit.wf, emin, emax] at this
      exact this
end
set_option maxRecDepth 100000 in
theorem radixFull_lifted (os : Os) (started : os.Started) (H : Type) (enc : TypeId × Value → H) :
    ReturnsInHanded {} Tryz.checked os 7 .any (fun w args => (Rows.radixFullSpec.pre enc Tryz.prog Tryz.f7 [] false w args ∧ laidMetH Tryz.prog laidE w) ∧ sizedMet enc Tryz.prog Tryz.f7 (OpenSpec.ofChange Rows.radixFullSpec) false w args)
      (Rows.radixFullSpec.post enc Tryz.prog Tryz.f7 false true false false) := by
  refine returnsInHanded_of_change_and (C := Tryz.checked) (X := fun w _ => laidMetH Tryz.prog laidE w) (fun _ _ _ hh h => h.of_heap hh) Tryz.own started (by kernel_rfl) Tryz.func7
    (ChangeSpec.witness_at (enc := enc) (C := Tryz.checked) (os := os) (X := fun w _ => laidMetH Tryz.prog laidE w) false (laidWorld os) #[.int .i64 0, .int .i64 0, .slice none 0 0] 8 rfl (by kernel_rfl) (by kernel_rfl) (by kernel_rfl) (by kernel_rfl) (by kernel_rfl) (laidWorld_met os _)) ?_
  intro W base args ds gs before hval0 hW _ _ hL _
  have hval : ∀ (j : Nat) t v, Tryz.f7.params[j]? = some t → args[j]? = some v → Value.okWide Tryz.prog W .any base t v := hval0
  have hW' := hW
  obtain ⟨p, q, hA0, hV0, rfl, _, _⟩ := hW
  have hA : DataW.TrodAll enc Tryz.prog W 0 (fun _ => true) true Tryz.f7.params.toList args.toList ds p := hA0
  rw [Tryz.params7] at hA hval
  obtain ⟨v0, v1, v2, d0, d1, d2, p0, p1, p2, rfl, rfl, rfl, h0, h1, h2⟩ := trodAll_three hA
  obtain ⟨rfl, rfl⟩ := trodVars_none hV0
  clear hA0 hV0 hval0
  simp only [List.append_nil] at hW'
  have hW1 := hW'
  have hlt : ∀ x ∈ p0 ++ (p1 ++ p2), x.block < W.heap.size := fun x hx => by simpa using hW'.lt x (by simpa using hx)
  have hargs : ∀ (W' : World), Below W.heap.size W W' → DataW.TrodAll enc Tryz.prog W' 0 (fun b => decide (b < W.heap.size)) true [3, 3, 27] [v0, v1, v2] [d0, d1, d2] (p0 ++ (p1 ++ p2)) := fun W' hn =>
    trodAll_mk3 (Below.trod Tryz.laidOut (by kernel_rfl) (of_decide_eq_true (by kernel_rfl)) h0 hn (fun x hx => hlt x (by simp [hx]))) (Below.trod Tryz.laidOut (by kernel_rfl) (of_decide_eq_true (by kernel_rfl)) h1 hn (fun x hx => hlt x (by simp [hx]))) (Below.trod Tryz.laidOut (by kernel_rfl) (of_decide_eq_true (by kernel_rfl)) h2 hn (fun x hx => hlt x (by simp [hx])))
  have emin : IntKind.i64.min = -9223372036854775808 := rfl
  have emax : IntKind.i64.max = 9223372036854775807 := rfl
  have bmin : IntKind.u8.min = 0 := rfl
  have bmax : IntKind.u8.max = 255 := rfl
  obtain ⟨n0, rfl, rfl, rfl, w0⟩ := open_int Tryz.underlying3 (hval 0 3 v0 rfl rfl) h0
  obtain ⟨n1, rfl, rfl, rfl, w1⟩ := open_int Tryz.underlying3 (hval 1 3 v1 rfl rfl) h1
  obtain ⟨u2, l2, k2, hv2⟩ := okWide_slice Tryz.underlying27 (hval 2 27 v2 rfl rfl)
  obtain ⟨fuel2, hf2⟩ := h2
  subst hv2
  obtain ⟨a2, len2, c2, L2, hq2, hb2, hm2, hr2⟩ := open_numsIn (v := .slice u2 l2 k2) hf2
  rw [hq2] at hargs hW1 ⊢
  have et : EtAt W := by
    have h := handle_of_laid hL
    rw [show typeHandle Tryz.prog 29 = .pointer (some ⟨1, 29, none⟩) by kernel_rfl] at h
    exact h
  have hq : Calls Tryz.prog 7 #[.int .i64 n0, .int .i64 n1, .slice a2 len2 c2] W fun e w' => e = .returned (.bool true) ∧ Below W.heap.size W w' :=
    full_any n0 n1 a2 len2 c2 L2 hm2 hr2 W hb2 et
  refine hq.mono fun e W' ⟨he, hb⟩ => ?_
  subst he
  exact ⟨_, rfl, ⟨_, _, _, [], _, [], hW1, trodAll_mk1 (shut_bool Tryz.underlying4 true), hargs _ hb, rfl, hb.frame _, fun h => by cases h⟩⟩
theorem radixFull_holds : Rows.RadixFullSaid :=
  OpenClaim.holds_of_wide 7 Tryz.f7 rfl rfl rfl rfl rfl rfl rfl ⟨rfl, rfl, rfl, rfl, rfl⟩ rfl rfl rfl rfl rfl (by kernel_rfl) Tryz.func7 (by kernel_rfl)
    (of_decide_eq_true (by kernel_rfl)) (by unfold Func.isWrapper; first | (rw [if_pos (by decide +kernel)]; kernel_rfl) | (rw [if_neg (by decide +kernel)]; exact ⟨rfl, rfl⟩))
    (fun os started H enc _ => radixFull_lifted os started H enc)
end Go.Proofs.YtjikpodghmfjcaaGreatDoor
