/- A slice of a book's calls that came in: each is two whole numbers, a byte and a slice. -/
import Derived.Test.YtajmcplanlibnaaGreatDoorR0
import Derived.Test.YtajmcplanlibnaaGreatDoorKVC
import Derived.Deep.Grids
import Derived.OpenShut
import Derived.Test.YtajmcplanlibnaaGreatDoorKVF
set_option linter.unusedSimpArgs false
set_option linter.unusedVariables false
set_option linter.unnecessarySimpa false
namespace Go.Proofs.YtajmcplanlibnaaGreatDoor
open Go.ChangeShapes Go.WideShapes Go.ChangeAt Go.RowKit Go.Lib
section
variable {H : Type} {enc : TypeId × Value → H} {W : World} {base : Nat} {held : Bool}
set_option maxRecDepth 100000 in
theorem open_calls6In {fuel : Nat} {v : Value} {x : DataW H × List MemPlace} (h : DataW.trod enc Tryz.prog W base (fun _ => true) held fuel 22 [v] = some x) :
    ∃ a len cap K I X A L C, v = .slice a len cap ∧ Calls6At W a len K I X A L C ∧ len ≤ maxLen ∧ (∀ i, i < len → L i ≤ maxLen) ∧ ∀ i, i < len → 0 ≤ X i ∧ X i < 256 := by
  have ec : Tryz.prog.cellsOf 35 = 4 := by kernel_rfl
  have e3 : Tryz.prog.cellsOf 3 = 1 := by kernel_rfl
  have e8 : Tryz.prog.cellsOf 5 = 1 := by kernel_rfl
  have es : Tryz.prog.cellsOf 33 = 1 := by kernel_rfl
  rcases Go.Deep.open_slice Tryz.underlying22 h with ⟨hcs, _⟩ | ⟨a, len, cap, m, n, Dd, Pl, hcs, _, hl, hm, hmm, _, hi⟩
  · simp only [List.cons.injEq, and_true] at hcs
    exact ⟨none, 0, 0, fun _ => 0, fun _ => 0, fun _ => 0, fun _ => none, fun _ => 0, fun _ => 0, hcs, fun i h => by omega, Nat.zero_le _, fun i h => by omega, fun i h => by omega⟩
  · simp only [List.cons.injEq, and_true] at hcs
    simp only [if_true] at hmm
    subst hmm
    rw [ec] at hi
    obtain ⟨K, hK⟩ := Go.Deep.choose_lt (α := Int × Int × Int × Option Addr × Nat × Nat) (p := fun i k => W.cell? ((a.add (i * 4)).add 0) = some (.int .i64 k.1) ∧ W.cell? ((a.add (i * 4)).add 1) = some (.int .i64 k.2.1) ∧ W.cell? ((a.add (i * 4)).add 2) = some (.int .u8 k.2.2.1) ∧ W.cell? ((a.add (i * 4)).add 3) = some (.slice k.2.2.2.1 k.2.2.2.2.1 k.2.2.2.2.2) ∧ (Lit.int .u8 k.2.2.1).wf = true ∧ k.2.2.2.2.1 ≤ maxLen) (fun i hil => by
      obtain ⟨cs', h1, hf⟩ := hi i hil
      obtain ⟨_, hlen, hc⟩ := World.cells?_some h1
      match cs', hlen with
      | [v0, v1, v2, v3], _ =>
        obtain ⟨xs, n, _, hx, _, hxl, hat⟩ := DataW.trod_struct Tryz.underlying35 hf
        have h0 := hat 0 _ rfl
        have h1 := hat 1 _ rfl
        have h2 := hat 2 _ rfl
        have h3 := hat 3 _ rfl
        try simp only [List.getElem_toArray, List.getElem_cons_zero, List.getElem_cons_succ] at h0 h1 h2 h3
        simp only [e3, e8, es, List.drop_succ_cons, List.drop_zero, List.take_succ_cons, List.take_zero] at h0 h1 h2 h3
        have hl3 : xs.length = 4 := hxl
        match xs, hl3 with
        | [y0, y1, y2, y3], _ =>
          simp only [List.getElem?_cons_zero, List.getElem?_cons_succ] at h0 h1 h2 h3
          obtain ⟨p, ea, _, _⟩ := DataW.trod_int Tryz.underlying3 h0
          obtain ⟨q, eb, _, _⟩ := DataW.trod_int Tryz.underlying3 h1
          obtain ⟨r, ed, _, wr⟩ := DataW.trod_int Tryz.underlying5 h2
          simp only [List.cons.injEq, and_true] at ea eb ed
          subst ea eb ed
          rcases Go.Deep.open_slice Tryz.underlying33 h3 with ⟨es, _⟩ | ⟨a3, len3, cap3, m3, n3, D3, P3, es, _, hl3, hm3, _⟩
          · simp only [List.cons.injEq, and_true] at es
            subst es
            exact ⟨(p, q, r, none, 0, 0), hc 0 (by omega), hc 1 (by omega), hc 2 (by omega), hc 3 (by omega), wr, Nat.zero_le _⟩
          · simp only [List.cons.injEq, and_true] at es
            subst es
            exact ⟨(p, q, r, _, _, _), hc 0 (by omega), hc 1 (by omega), hc 2 (by omega), hc 3 (by omega), wr, Nat.le_trans hl3 hm3⟩)
    refine ⟨some a, len, m, fun i => (K i).1, fun i => (K i).2.1, fun i => (K i).2.2.1, fun i => (K i).2.2.2.1, fun i => (K i).2.2.2.2.1, fun i => (K i).2.2.2.2.2, hcs, fun i hil => ?_, Nat.le_trans hl hm, fun i hil => (hK i (by omega)).2.2.2.2.2, fun i hil => by
      have h := (hK i (by omega)).2.2.2.2.1
      have bmin : IntKind.u8.min = 0 := rfl
      have bmax : IntKind.u8.max = 255 := rfl
      simp [Lit.wf, bmin, bmax] at h
      show 0 ≤ (K i).2.2.1 ∧ (K i).2.2.1 < 256
      omega⟩
    obtain ⟨q0, q1, q2, q3, _⟩ := hK i (by omega)
    have hs : a.spot = none := by simpa [Addr.add] using World.cell?_spot (hK 0 (by omega)).1
    obtain ⟨b, o, sp⟩ := a
    simp only at hs
    subst hs
    rw [Addr.add_mid, Addr.add_mid] at q0 q1 q2 q3
    refine ⟨b, o, rfl, World.block_lt_of_cell? W _ q0, fun j v hv => ?_⟩
    match j, hv with
    | 0, hv => cases hv; exact q0
    | 1, hv => cases hv; exact q1
    | 2, hv => cases hv; exact q2
    | 3, hv => cases hv; exact q3
end
end Go.Proofs.YtajmcplanlibnaaGreatDoor
set_option linter.unnecessarySimpa false
namespace Go.Proofs.YtajmcplanlibnaaGreatDoor
open Go.ChangeShapes Go.WideShapes Go.ChangeAt Go.RowKit Go.Lib
set_option maxRecDepth 100000 in
theorem pagesUndone_lifted (os : Os) (started : os.Started) (H : Type) (enc : TypeId × Value → H) :
    ReturnsInHanded {} Tryz.checked os 3 .any (fun w args => (Rows.pagesUndoneSpec.pre enc Tryz.prog Tryz.f3 [] false w args ∧ laidMetH Tryz.prog laidE w) ∧ sizedMet enc Tryz.prog Tryz.f3 (OpenSpec.ofChange Rows.pagesUndoneSpec) false w args)
      (Rows.pagesUndoneSpec.post enc Tryz.prog Tryz.f3 false true false false) := by
  refine returnsInHanded_of_change_and (C := Tryz.checked) (X := fun w _ => laidMetH Tryz.prog laidE w) (fun _ _ _ hh h => h.of_heap hh) Tryz.own started (by kernel_rfl) Tryz.func3
    (ChangeSpec.witness_at (enc := enc) (C := Tryz.checked) (os := os) (X := fun w _ => laidMetH Tryz.prog laidE w) false (laidWorld os) #[.slice none 0 0] 8 rfl (by kernel_rfl) (by kernel_rfl) (by kernel_rfl) (by kernel_rfl) (by kernel_rfl) (laidWorld_met os _)) ?_
  intro W base args ds gs before hval0 hW _ _ hL _
  have hval : ∀ (j : Nat) t v, Tryz.f3.params[j]? = some t → args[j]? = some v → Value.okWide Tryz.prog W .any base t v := hval0
  have hW' := hW
  obtain ⟨p, q, hA0, hV0, rfl, _, _⟩ := hW
  have hA : DataW.TrodAll enc Tryz.prog W 0 (fun _ => true) true Tryz.f3.params.toList args.toList ds p := hA0
  rw [Tryz.params3] at hA hval
  obtain ⟨v0, d0, rfl, rfl, h0⟩ := trodAll_one hA
  obtain ⟨rfl, rfl⟩ := trodVars_none hV0
  clear hA0 hV0 hval0
  simp only [List.append_nil] at hW'
  have hW1 := hW'
  have hlt : ∀ x ∈ p, x.block < W.heap.size := fun x hx => by simpa using hW'.lt x (by simpa using hx)
  have hargs : ∀ (W' : World), Below W.heap.size W W' → DataW.TrodAll enc Tryz.prog W' 0 (fun b => decide (b < W.heap.size)) true [22] [v0] [d0] (p) := fun W' hn =>
    trodAll_mk1 (Below.trod Tryz.laidOut (by kernel_rfl) (of_decide_eq_true (by kernel_rfl)) h0 hn hlt)
  have emin : IntKind.i64.min = -9223372036854775808 := rfl
  have emax : IntKind.i64.max = 9223372036854775807 := rfl
  have bmin : IntKind.u8.min = 0 := rfl
  have bmax : IntKind.u8.max = 255 := rfl
  obtain ⟨u0, l0, k0, hv0⟩ := okWide_slice Tryz.underlying22 (hval 0 22 v0 rfl rfl)
  obtain ⟨fuel0, hf0⟩ := h0
  subst hv0
  obtain ⟨a0, len0, c0, K0, I0, X0, A0, L0, C0, hq0, hb0, hm0, hl0, hr0⟩ := open_calls6In (v := .slice u0 l0 k0) hf0
  rw [hq0] at hargs hW1 ⊢
  have hq : Calls Tryz.prog 3 #[.slice a0 len0 c0] W fun e w' => e = .returned (.bool true) ∧ Below W.heap.size W w' :=
    undone06_any a0 len0 c0 K0 I0 X0 A0 L0 C0 hm0 hl0 hr0 W hb0
  refine hq.mono fun e W' ⟨he, hb⟩ => ?_
  subst he
  exact ⟨_, rfl, ⟨_, _, _, [], _, [], hW1, trodAll_mk1 (shut_bool Tryz.underlying4 true), hargs _ hb, rfl, hb.frame _, fun h => by cases h⟩⟩
theorem pagesUndone_holds : Rows.PagesUndoneSaid :=
  OpenClaim.holds_of_wide 3 Tryz.f3 rfl rfl rfl rfl rfl rfl rfl ⟨rfl, rfl, rfl, rfl, rfl⟩ rfl rfl rfl rfl rfl (by kernel_rfl) Tryz.func3 (by kernel_rfl)
    (of_decide_eq_true (by kernel_rfl)) (by unfold Func.isWrapper; first | (rw [if_pos (by decide +kernel)]; kernel_rfl) | (rw [if_neg (by decide +kernel)]; exact ⟨rfl, rfl⟩))
    (fun os started H enc _ => pagesUndone_lifted os started H enc)
end Go.Proofs.YtajmcplanlibnaaGreatDoor
