/- A slice of a depot's calls that came in: each is two whole numbers and a byte. -/
import Derived.Test.YtajmcplanlibnaaGreatDoorKR0
import Derived.Test.YtajmcplanlibnaaGreatDoorKU9p
import Derived.Deep.Grids
import Derived.SizedLaws
import Derived.Test.YtajmcplanlibnaaGreatDoorKUA
set_option linter.unusedSimpArgs false
set_option linter.unusedVariables false
set_option linter.unnecessarySimpa false
namespace Go.Proofs.YtajmcplanlibnaaGreatDoor
open Go.ChangeShapes Go.WideShapes Go.ChangeAt Go.RowKit Go.Lib
section
variable {H : Type} {enc : TypeId × Value → H} {W : World} {base : Nat} {held : Bool}
set_option maxRecDepth 100000 in
theorem open_calls7In {fuel : Nat} {v : Value} {x : DataW H × List MemPlace} (h : DataW.trod enc Tryz.prog W base (fun _ => true) held fuel 84 [v] = some x) :
    ∃ a len cap L B X, v = .slice a len cap ∧ Calls7At W a len L B X ∧ len ≤ maxLen ∧ (∀ i, i < len → 0 ≤ X i ∧ X i < 256) ∧ (len = 0 ∨ ∃ E T, x.1 = .slice E T ∧ E.length = len) := by
  have ec : Tryz.prog.cellsOf 91 = 3 := by kernel_rfl
  have e3 : Tryz.prog.cellsOf 3 = 1 := by kernel_rfl
  have e8 : Tryz.prog.cellsOf 5 = 1 := by kernel_rfl
  rcases Go.Deep.open_slice Tryz.underlying84 h with ⟨hcs, _⟩ | ⟨a, len, cap, m, n, D, Pl, hcs, _, hl, hm, hmm, hxx, hi⟩
  · simp only [List.cons.injEq, and_true] at hcs
    exact ⟨none, 0, 0, fun _ => 0, fun _ => 0, fun _ => 0, hcs, fun i h => by omega, Nat.zero_le _, fun i h => by omega, .inl rfl⟩
  · simp only [List.cons.injEq, and_true] at hcs
    simp only [if_true] at hmm
    subst hmm
    rw [ec] at hi
    obtain ⟨K, hK⟩ := Go.Deep.choose_lt (α := Int × Int × Int) (p := fun i k => W.cell? ((a.add (i * 3)).add 0) = some (.int .i64 k.1) ∧ W.cell? ((a.add (i * 3)).add 1) = some (.int .i64 k.2.1) ∧ W.cell? ((a.add (i * 3)).add 2) = some (.int .u8 k.2.2) ∧ (Lit.int .u8 k.2.2).wf = true) (fun i hil => by
      obtain ⟨cs', h1, hf⟩ := hi i hil
      obtain ⟨_, hlen, hc⟩ := World.cells?_some h1
      match cs', hlen with
      | [v0, v1, v2], _ =>
        obtain ⟨xs, n, _, hx, _, hxl, hat⟩ := DataW.trod_struct Tryz.underlying91 hf
        have h0 := hat 0 _ rfl
        have h1 := hat 1 _ rfl
        have h2 := hat 2 _ rfl
        try simp only [List.getElem_toArray, List.getElem_cons_zero, List.getElem_cons_succ] at h0 h1 h2
        simp only [e3, e8, List.drop_succ_cons, List.drop_zero, List.take_succ_cons, List.take_zero] at h0 h1 h2
        first | skip | skip
        have hl3 : xs.length = 3 := hxl
        match xs, hl3 with
        | [y0, y1, y2], _ =>
          simp only [List.getElem?_cons_zero, List.getElem?_cons_succ] at h0 h1 h2
          obtain ⟨p, ea, _, _⟩ := DataW.trod_int Tryz.underlying3 h0
          obtain ⟨q, eb, _, _⟩ := DataW.trod_int Tryz.underlying3 h1
          obtain ⟨r, ed, _, wr⟩ := DataW.trod_int Tryz.underlying5 h2
          simp only [List.cons.injEq, and_true] at ea eb ed
          subst ea eb ed
          exact ⟨(p, q, r), hc 0 (by omega), hc 1 (by omega), hc 2 (by omega), wr⟩)
    refine ⟨some a, len, m, fun i => (K i).1, fun i => (K i).2.1, fun i => (K i).2.2, hcs, fun i hil => ?_, Nat.le_trans hl hm, fun i hil => by
      have h := (hK i (by omega)).2.2.2
      have bmin : IntKind.u8.min = 0 := rfl
      have bmax : IntKind.u8.max = 255 := rfl
      simp [Lit.wf, bmin, bmax] at h
      show 0 ≤ (K i).2.2 ∧ (K i).2.2 < 256
      omega, .inr ⟨_, _, congrArg Prod.fst hxx, by simp⟩⟩
    obtain ⟨q0, q1, q2, _⟩ := hK i (by omega)
    have hs : a.spot = none := by simpa [Addr.add] using World.cell?_spot (hK 0 (by omega)).1
    obtain ⟨b, o, sp⟩ := a
    simp only at hs
    subst hs
    rw [Addr.add_mid, Addr.add_mid] at q0 q1 q2
    refine ⟨b, o, rfl, World.block_lt_of_cell? W _ q0, fun j v hv => ?_⟩
    match j, hv with
    | 0, hv => cases hv; exact q0
    | 1, hv => cases hv; exact q1
    | 2, hv => cases hv; exact q2
end
end Go.Proofs.YtajmcplanlibnaaGreatDoor
set_option linter.unnecessarySimpa false
namespace Go.Proofs.YtajmcplanlibnaaGreatDoor
open Go.ChangeShapes Go.WideShapes Go.ChangeAt Go.RowKit Go.Lib
set_option maxRecDepth 100000 in
theorem depotUndone_lifted (os : Os) (started : os.Started) (H : Type) (enc : TypeId × Value → H) :
    ReturnsInHanded {} Tryz.checked os 7 .any (fun w args => (Rows.depotUndoneSpec.pre enc Tryz.prog Tryz.f7 [] false w args ∧ laidMetH Tryz.prog laidE w) ∧ sizedMet enc Tryz.prog Tryz.f7 (OpenSpec.ofChange Rows.depotUndoneSpec) false w args)
      (Rows.depotUndoneSpec.post enc Tryz.prog Tryz.f7 false true false false) := by
  refine returnsInHanded_of_change_and (C := Tryz.checked) (X := fun w _ => laidMetH Tryz.prog laidE w) (fun _ _ _ hh h => h.of_heap hh) Tryz.own started (by kernel_rfl) Tryz.func7
    (ChangeSpec.witness_at (enc := enc) (C := Tryz.checked) (os := os) (X := fun w _ => laidMetH Tryz.prog laidE w) false (laidWorld os) #[.slice none 0 0, .slice none 0 0] 8 rfl (by kernel_rfl) (by kernel_rfl) (by kernel_rfl) (by kernel_rfl) (by kernel_rfl) (laidWorld_met os _)) ?_
  intro W base args ds gs before hval0 hW _ hSz hL _
  have hval : ∀ (j : Nat) t v, Tryz.f7.params[j]? = some t → args[j]? = some v → Value.okWide Tryz.prog W .any base t v := hval0
  have hW' := hW
  obtain ⟨p, q, hA0, hV0, rfl, _, _⟩ := hW
  have hA : DataW.TrodAll enc Tryz.prog W 0 (fun _ => true) true Tryz.f7.params.toList args.toList ds p := hA0
  rw [Tryz.params7] at hA hval
  obtain ⟨v0, v1, d0, d1, p0, p1, rfl, rfl, rfl, h0, h1⟩ := trodAll_two hA
  obtain ⟨rfl, rfl⟩ := trodVars_none hV0
  clear hA0 hV0 hval0
  simp only [List.append_nil] at hW'
  have hW1 := hW'
  have hlt : ∀ x ∈ p0 ++ p1, x.block < W.heap.size := fun x hx => by simpa using hW'.lt x (by simpa using hx)
  have hargs : ∀ (W' : World), Below W.heap.size W W' → DataW.TrodAll enc Tryz.prog W' 0 (fun b => decide (b < W.heap.size)) true [84, 84] [v0, v1] [d0, d1] (p0 ++ p1) := fun W' hn =>
    trodAll_mk2 (Below.trod Tryz.laidOut (by kernel_rfl) (of_decide_eq_true (by kernel_rfl)) h0 hn (fun x hx => hlt x (by simp [hx]))) (Below.trod Tryz.laidOut (by kernel_rfl) (of_decide_eq_true (by kernel_rfl)) h1 hn (fun x hx => hlt x (by simp [hx])))
  have emin : IntKind.i64.min = -9223372036854775808 := rfl
  have emax : IntKind.i64.max = 9223372036854775807 := rfl
  have bmin : IntKind.u8.min = 0 := rfl
  have bmax : IntKind.u8.max = 255 := rfl
  obtain ⟨u0, l0, k0, hv0⟩ := okWide_slice Tryz.underlying84 (hval 0 84 v0 rfl rfl)
  obtain ⟨fuel0, hf0⟩ := h0
  subst hv0
  obtain ⟨a0, len0, c0, L0, B0, X0, hq0, hb0, hm0, hr0, hx0⟩ := open_calls7In (v := .slice u0 l0 k0) hf0
  rw [hq0] at hargs hW1 ⊢
  obtain ⟨u1, l1, k1, hv1⟩ := okWide_slice Tryz.underlying84 (hval 1 84 v1 rfl rfl)
  obtain ⟨fuel1, hf1⟩ := h1
  subst hv1
  obtain ⟨a1, len1, c1, L1, B1, X1, hq1, hb1, hm1, hr1, hx1⟩ := open_calls7In (v := .slice u1 l1 k1) hf1
  rw [hq1] at hargs hW1 ⊢
  have hs0 : len0 ≤ 140737488355328 := by
    rcases hx0 with hx0 | ⟨E, T, hx0, hE⟩
    · omega
    · have h := sized_slice hSz (j := 0) (t := 84) (elems := E) (spare := T) (by kernel_rfl) (by show some d0 = _; rw [show d0 = .slice E T from hx0]) Tryz.underlying84
      have hb : 1 ≤ Tryz.prog.bytesOf 91 := of_decide_eq_true (by kernel_rfl)
      have h2 := Nat.le_trans (Nat.mul_le_mul_left (E.length + T.length) hb) h
      unfold reachBytes at h2
      omega
  have hs1 : len1 ≤ 140737488355328 := by
    rcases hx1 with hx1 | ⟨E, T, hx1, hE⟩
    · omega
    · have h := sized_slice hSz (j := 1) (t := 84) (elems := E) (spare := T) (by kernel_rfl) (by show some d1 = _; rw [show d1 = .slice E T from hx1]) Tryz.underlying84
      have hb : 1 ≤ Tryz.prog.bytesOf 91 := of_decide_eq_true (by kernel_rfl)
      have h2 := Nat.le_trans (Nat.mul_le_mul_left (E.length + T.length) hb) h
      unfold reachBytes at h2
      omega
  have et : EtAt W := by
    have h := handle_of_laid hL
    rw [show typeHandle Tryz.prog 27 = .pointer (some ⟨1, 27, none⟩) by kernel_rfl] at h
    exact h
  have hq : Calls Tryz.prog 7 #[.slice a0 len0 c0, .slice a1 len1 c1] W fun e w' => e = .returned (.bool true) ∧ Below W.heap.size W w' :=
    dundone_any a0 len0 c0 L0 B0 X0 a1 len1 c1 L1 B1 X1 hs0 hs1 hr0 hr1 W hb0 hb1 et
  refine hq.mono fun e W' ⟨he, hb⟩ => ?_
  subst he
  exact ⟨_, rfl, ⟨_, _, _, [], _, [], hW1, trodAll_mk1 (shut_bool Tryz.underlying4 true), hargs _ hb, rfl, hb.frame _, fun h => by cases h⟩⟩
theorem depotUndone_holds : Rows.DepotUndoneSaid :=
  OpenClaim.holds_of_wide 7 Tryz.f7 rfl rfl rfl rfl rfl rfl rfl ⟨rfl, rfl, rfl, rfl, rfl⟩ rfl rfl rfl rfl rfl (by kernel_rfl) Tryz.func7 (by kernel_rfl)
    (of_decide_eq_true (by kernel_rfl)) (by unfold Func.isWrapper; first | (rw [if_pos (by decide +kernel)]; kernel_rfl) | (rw [if_neg (by decide +kernel)]; exact ⟨rfl, rfl⟩))
    (fun os started H enc _ => depotUndone_lifted os started H enc)
end Go.Proofs.YtajmcplanlibnaaGreatDoor
