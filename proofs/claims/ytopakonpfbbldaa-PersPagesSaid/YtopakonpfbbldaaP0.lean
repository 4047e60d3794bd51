/- An argument that is a table, opened: what a reading of it says of memory. No condition. -/
import Derived.Test.YtopakonpfbbldaaRows
import Derived.Test.YtopakonpfbbldaaLib
import Derived.Deep.SlicePairs
import Derived.ProofKit
namespace Go.Proofs.Ytopakonpfbbldaa
set_option linter.unusedSimpArgs false
set_option linter.unusedVariables false
open Go.ChangeShapes Go.WideShapes Go.ChangeAt Go.RowKit Go.Deep

theorem Try.own : ownKnob Try.prog.godebug = none := by kernel_rfl
theorem Try.laidOut : laidOutB Try.prog = true := by kernel_rfl

section
variable {H : Type} {enc : TypeId × Value → H} {W : World} {base : Nat} {spare : Nat → Bool} {held : Bool}

theorem addr_add (b o n : Nat) : (⟨b, o, none⟩ : Addr).add n = ⟨b, o + n, none⟩ := by unfold Addr.add; split <;> simp_all

/-- A slice of registrations that is read. -/
theorem open_regs {fuel : Nat} {v : Value} {x : DataW H × List MemPlace} (h : DataW.trod enc Try.prog W base spare held fuel 23 [v] = some x) (hlt : ∀ y ∈ x.2, y.block < W.heap.size) :
    ∃ a ks cap, v = .slice a ks.length cap ∧ KeysIn W a ks ∧ ks.length ≤ maxLen ∧ (a = none → cap = 0) ∧ (∀ r ∈ ks, (Lit.int .i64 r.1).wf = true ∧ (Lit.int .u64 r.2).wf = true) := by
  rcases open_slice_pairs Try.underlying23 Try.underlying32 (by kernel_rfl) rfl rfl (by kernel_rfl) (by kernel_rfl) h with ⟨hcs, rfl⟩ | ⟨a, len, cap, m, n, V0, V1, D0, D1, P0, P1, hcs, hb, hl, hm, hmm, rfl, hi⟩
  · simp only [List.cons.injEq, and_true] at hcs
    subst hcs
    exact ⟨none, [], 0, rfl, KeysIn.nil _ _, by simp, fun _ => rfl, by simp⟩
  · simp only [List.cons.injEq, and_true] at hcs
    subst hcs
    have hlm : len ≤ m := by rw [hmm]; split <;> omega
    have each : ∀ i, i < len → ∃ q : Int × Int, V0 i = .int .i64 q.1 ∧ V1 i = .int .u64 q.2 ∧ (Lit.int .i64 q.1).wf = true ∧ (Lit.int .u64 q.2).wf = true := by
      intro i hil
      obtain ⟨c0, c1, t0, t1⟩ := hi i (by omega)
      obtain ⟨n0, e0, _, w0⟩ := DataW.trod_int Try.underlying3 t0
      obtain ⟨n1, e1, _, w1⟩ := DataW.trod_int Try.underlying30 t1
      simp only [List.cons.injEq, and_true] at e0 e1
      exact ⟨(n0, n1), e0, e1, w0, w1⟩
    obtain ⟨q, hq⟩ := choose_lt (α := Int × Int) (p := fun i q => V0 i = .int .i64 q.1 ∧ V1 i = .int .u64 q.2 ∧ (Lit.int .i64 q.1).wf = true ∧ (Lit.int .u64 q.2).wf = true) each
    refine ⟨some a, (List.range len).map q, cap, by simp, ?_, by simp; omega, by simp, ?_⟩
    · intro i hil
      have hil' : i < len := by simpa using hil
      obtain ⟨c0, c1, _, _⟩ := hi i (by omega)
      obtain ⟨e0, e1, _, _⟩ := hq i hil'
      rw [e0] at c0
      rw [e1] at c1
      have hs : a.spot = none := by
        obtain ⟨z0, _⟩ := hi 0 (by omega)
        simpa [Addr.add] using World.cell?_spot z0
      obtain ⟨b, o, sp⟩ := a
      simp only at hs
      subst hs
      rw [addr_add] at c0 c1
      refine ⟨b, o, rfl, World.block_lt_of_cell? W _ c0, by simpa using c0, by simpa [Nat.add_assoc] using c1⟩
    · intro r hr
      obtain ⟨i, hi', rfl⟩ := List.mem_map.1 hr
      obtain ⟨_, _, w0, w1⟩ := hq i (by simpa using hi')
      exact ⟨w0, w1⟩

/-- A table that is read. -/
theorem open_tab {v : Value} {d : DataW H} {p : List MemPlace} {r : Reach} {b0 : Nat} (hv : Value.okWide Try.prog W r b0 25 v) (h : DataW.Trod enc Try.prog W base spare held 25 v d p) (hlt : ∀ y ∈ p, y.block < W.heap.size) :
    ∃ g a ks cap h ty ap, v = .agg #[.int .u32 g, .slice a ks.length cap, .int .i64 h, .int .i64 ty, .bool ap] ∧ KeysIn W a ks ∧ ks.length ≤ maxLen ∧ (a = none → cap = 0) ∧ (Lit.int .u32 g).wf = true ∧ (∀ r ∈ ks, (Lit.int .i64 r.1).wf = true ∧ (Lit.int .u64 r.2).wf = true) := by
  obtain ⟨cs, rfl, hsz⟩ := okWide_struct Try.underlying25 hv
  have hsz5 : cs.size = 5 := hsz.trans (by kernel_rfl)
  obtain ⟨l⟩ := cs
  match l, hsz5 with
  | [v0, v1, v2, v3, v4], _ =>
    obtain ⟨fuel, hf⟩ := h
    obtain ⟨xs, n, _, hx, _, hxl, hat⟩ := DataW.trod_struct Try.underlying25 hf
    have hx2 := congrArg Prod.snd hx
    simp only at hx2
    have h0 := hat 0 _ rfl
    have h1 := hat 1 _ rfl
    have h2 := hat 2 _ rfl
    have h3 := hat 3 _ rfl
    have h4 := hat 4 _ rfl
    have e22 : Try.prog.cellsOf 22 = 1 := by kernel_rfl
    have e23 : Try.prog.cellsOf 23 = 1 := by kernel_rfl
    have e3 : Try.prog.cellsOf 3 = 1 := by kernel_rfl
    have e4 : Try.prog.cellsOf 4 = 1 := by kernel_rfl
    simp only [List.getElem_toArray, List.getElem_cons_zero, List.getElem_cons_succ] at h0 h1 h2 h3 h4
    simp only [Value.cells, e22, e23, e3, e4, List.drop_succ_cons, List.drop_zero, List.take_succ_cons, List.take_zero] at h0 h1 h2 h3 h4
    have hl5 : xs.length = 5 := hxl
    match xs, hl5 with
    | [y0, y1, y2, y3, y4], _ =>
      simp only [List.getElem?_cons_zero, List.getElem?_cons_succ] at h0 h1 h2 h3 h4
      obtain ⟨g, eg, _, wg⟩ := DataW.trod_int Try.underlying22 h0
      obtain ⟨hh, eh, _, _⟩ := DataW.trod_int Try.underlying3 h2
      obtain ⟨ty, et, _, _⟩ := DataW.trod_int Try.underlying3 h3
      obtain ⟨ap, ea, _⟩ := DataW.trod_bool Try.underlying4 h4
      obtain ⟨a, ks, cap, ev, hk, hl, hn, hw⟩ := open_regs h1 (fun y hy => hlt y (by rw [hx2]; simp [hy]))
      simp only [List.cons.injEq, and_true] at eg eh et ea
      subst eg eh et ea ev
      exact ⟨g, a, ks, cap, hh, ty, ap, rfl, hk, hl, hn, wg, hw⟩
end
end Go.Proofs.Ytopakonpfbbldaa
