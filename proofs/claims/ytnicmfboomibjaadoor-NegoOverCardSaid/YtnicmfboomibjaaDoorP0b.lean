/- Slices of pairs, and of requests, opened: each string's size is one of the weights that the row's domain bounds. -/
import Derived.Test.YtnicmfboomibjaaDoorP0
import Derived.Test.YtnicmfboomibjaaDoorNRq
import Derived.Deep.SlicePairs
namespace Go.Proofs.YtnicmfboomibjaaDoor
set_option linter.unusedSimpArgs false
set_option linter.unusedVariables false
open Go.ChangeShapes Go.WideShapes Go.ChangeAt Go.RowKit Go.Lib Go.Deep
theorem weightsAll_mem {H : Type} {P : Program} {e : TypeId} {n : Nat} {d : DataW H} : ∀ {l : List (DataW H)}, d ∈ l → n ∈ d.weights P e → n ∈ DataW.weightsAll P e l
  | [], h, _ => by cases h
  | x :: l, h, hn => by
    simp only [DataW.weightsAll, List.mem_append]
    rcases List.mem_cons.1 h with rfl | h
    · exact .inl hn
    · exact .inr (weightsAll_mem h hn)
theorem weights_slice {H : Type} {P : Program} {t e : TypeId} {n : Nat} {d : DataW H} {elems sp : List (DataW H)} (ht : P.underlying t = some (.slice e)) (hd : d ∈ elems) (hn : n ∈ d.weights P e) : n ∈ (DataW.slice elems sp).weights P t := by
  unfold DataW.weights
  rw [ht]
  simp only [List.mem_cons, List.mem_append]
  exact .inr (.inl (weightsAll_mem hd hn))
theorem weights_pair0 {H : Type} {P : Program} {e : TypeId} {f0 f1 : Field} {n : Nat} {d0 d1 : DataW H} (he : P.underlying e = some (.struct #[f0, f1])) (hn : n ∈ d0.weights P f0.type) : n ∈ (DataW.agg [d0, d1]).weights P e := by
  unfold DataW.weights
  rw [he]
  simp only [List.map_cons, List.map_nil, DataW.weightsEach, List.mem_append]
  exact .inl hn
theorem weights_pair1 {H : Type} {P : Program} {e : TypeId} {f0 f1 : Field} {n : Nat} {d0 d1 : DataW H} (he : P.underlying e = some (.struct #[f0, f1])) (hn : n ∈ d1.weights P f1.type) : n ∈ (DataW.agg [d0, d1]).weights P e := by
  unfold DataW.weights
  rw [he]
  simp only [List.map_cons, List.map_nil, DataW.weightsEach, List.mem_append]
  exact .inr (.inl hn)
theorem weights_str {H : Type} (P : Program) (t : TypeId) (s : ByteArray) : s.size ∈ (DataW.lit (.string s.data.toList) : DataW H).weights P t := by
  unfold DataW.weights
  simp
section
variable {H : Type} {enc : TypeId × Value → H} {W : World} {base : Nat} {spare : Nat → Bool} {held : Bool}
theorem pair_addr {W : World} {a : Addr} {i : Nat} {v0 v1 z : Value} (h0 : W.cell? (a.add (0 * 2)) = some z) (c0 : W.cell? (a.add (i * 2)) = some v0) (c1 : W.cell? (a.add (i * 2 + 1)) = some v1) :
    ∃ b o, a = ⟨b, o, none⟩ ∧ b < W.heap.size ∧ W.cell? ⟨b, o + i * 2, none⟩ = some v0 ∧ W.cell? ⟨b, o + i * 2 + 1, none⟩ = some v1 := by
  have hs : a.spot = none := by simpa [Addr.add] using World.cell?_spot h0
  obtain ⟨b, o, sp⟩ := a
  simp only at hs
  subst hs
  rw [addr_add] at c0 c1
  exact ⟨b, o, rfl, World.block_lt_of_cell? W _ c0, c0, c1⟩
theorem open_pairsIn {fuel : Nat} {v : Value} {x : DataW H × List MemPlace} (h : DataW.trod enc Tryd.prog W base spare held fuel 24 [v] = some x) :
    ∃ a ps c, v = .slice a ps.length c ∧ PairsIn W a ps ∧ ps.length ≤ maxLen ∧ ∀ p ∈ ps, p.1.size ∈ x.1.weights Tryd.prog 24 ∧ p.2.size ∈ x.1.weights Tryd.prog 24 := by
  rcases open_slice_pairs Tryd.underlying24 Tryd.underlying39 (by kernel_rfl) rfl rfl (by kernel_rfl) (by kernel_rfl) h with ⟨hcs, rfl⟩ | ⟨a, len, cap, m, n, V0, V1, D0, D1, P0, P1, hcs, hb, hl, hm, hmm, rfl, hi⟩
  · simp only [List.cons.injEq, and_true] at hcs
    subst hcs
    exact ⟨none, [], 0, rfl, PairsIn.nil _ _, by simp, by simp⟩
  · simp only [List.cons.injEq, and_true] at hcs
    subst hcs
    have hlm : len ≤ m := by rw [hmm]; split <;> omega
    have each : ∀ i, i < len → ∃ q : Pr, V0 i = .string q.1 ∧ V1 i = .string q.2 ∧ D0 i = .lit (.string q.1.data.toList) ∧ D1 i = .lit (.string q.2.data.toList) := by
      intro i hil
      obtain ⟨c0, c1, t0, t1⟩ := hi i (by omega)
      obtain ⟨n0, e0, x0, _⟩ := DataW.trod_string Tryd.underlying9 t0
      obtain ⟨n1, e1, x1, _⟩ := DataW.trod_string Tryd.underlying9 t1
      simp only [List.cons.injEq, and_true] at e0 e1
      simp only [Prod.mk.injEq] at x0 x1
      exact ⟨(n0, n1), e0, e1, x0.1, x1.1⟩
    obtain ⟨q, hq⟩ := choose_lt (α := Pr) (p := fun i q => V0 i = .string q.1 ∧ V1 i = .string q.2 ∧ D0 i = .lit (.string q.1.data.toList) ∧ D1 i = .lit (.string q.2.data.toList)) each
    refine ⟨some a, (List.range len).map q, cap, by simp, ?_, by simp; omega, ?_⟩
    · intro i hil
      have hil' : i < len := by simpa using hil
      obtain ⟨c0, c1, _, _⟩ := hi i (by omega)
      obtain ⟨z0, _⟩ := hi 0 (by omega)
      obtain ⟨b, o, rfl, h1, h2, h3⟩ := pair_addr z0 c0 c1
      obtain ⟨e0, e1, _, _⟩ := hq i hil'
      rw [e0] at h2
      rw [e1] at h3
      exact ⟨b, o, rfl, h1, by simpa using h2, by simpa using h3⟩
    · intro p hp
      obtain ⟨i, hir, rfl⟩ := List.mem_map.1 hp
      have hil := List.mem_range.1 hir
      obtain ⟨_, _, d0, d1⟩ := hq i hil
      have hmem : DataW.agg [D0 i, D1 i] ∈ (List.range len).map fun i => DataW.agg [D0 i, D1 i] := List.mem_map.2 ⟨i, hir, rfl⟩
      exact ⟨weights_slice Tryd.underlying24 hmem (weights_pair0 Tryd.underlying39 (by rw [d0]; exact weights_str _ _ _)), weights_slice Tryd.underlying24 hmem (weights_pair1 Tryd.underlying39 (by rw [d1]; exact weights_str _ _ _))⟩
theorem open_rqsIn {fuel : Nat} {v : Value} {x : DataW H × List MemPlace} (h : DataW.trod enc Tryd.prog W base spare held fuel 44 [v] = some x) :
    ∃ a rs c, v = .slice a rs.length c ∧ RqsIn W a rs ∧ (a = none → c = 0) ∧ (rs ≠ [] → ∃ n ∈ x.1.weights Tryd.prog 44, rs.length ≤ n) ∧ ∀ r ∈ rs, r.f < 256 ∧ ∀ p ∈ r.ps, p.1.size ∈ x.1.weights Tryd.prog 44 ∧ p.2.size ∈ x.1.weights Tryd.prog 44 := by
  rcases open_slice_pairs Tryd.underlying44 Tryd.underlying51 (by kernel_rfl) rfl rfl (by kernel_rfl) (by kernel_rfl) h with ⟨hcs, rfl⟩ | ⟨a, len, cap, m, n, V0, V1, D0, D1, P0, P1, hcs, hb, hl, hm, hmm, rfl, hi⟩
  · simp only [List.cons.injEq, and_true] at hcs
    subst hcs
    exact ⟨none, [], 0, rfl, RqsIn.nil _ _, fun _ => rfl, by simp, by simp⟩
  · simp only [List.cons.injEq, and_true] at hcs
    subst hcs
    have hlm : len ≤ m := by rw [hmm]; split <;> omega
    have each : ∀ i, i < len → ∃ q : Rq, V0 i = .int .u8 q.f ∧ q.f < 256 ∧ V1 i = .slice q.a q.ps.length q.c ∧ PairsIn W q.a q.ps ∧ ∀ p ∈ q.ps, p.1.size ∈ (D1 i).weights Tryd.prog 24 ∧ p.2.size ∈ (D1 i).weights Tryd.prog 24 := by
      intro i hil
      obtain ⟨c0, c1, t0, t1⟩ := hi i (by omega)
      obtain ⟨n0, e0, _, w0⟩ := DataW.trod_int Tryd.underlying5 t0
      obtain ⟨a1, ps, c, e1, hp, _, hw⟩ := open_pairsIn t1
      simp only [List.cons.injEq, and_true] at e0
      have hr : 0 ≤ n0 ∧ n0 < 256 := by
        have e1 : IntKind.u8.min = 0 := rfl
        have e2 : IntKind.u8.max = 255 := rfl
        simp [Lit.wf, e1, e2] at w0
        omega
      exact ⟨⟨n0.toNat, a1, ps, c⟩, by rw [e0]; simp; omega, by simp only; omega, e1, hp, hw⟩
    obtain ⟨q, hq⟩ := choose_lt (α := Rq) (p := fun i q => V0 i = .int .u8 q.f ∧ q.f < 256 ∧ V1 i = .slice q.a q.ps.length q.c ∧ PairsIn W q.a q.ps ∧ ∀ p ∈ q.ps, p.1.size ∈ (D1 i).weights Tryd.prog 24 ∧ p.2.size ∈ (D1 i).weights Tryd.prog 24) each
    refine ⟨some a, (List.range len).map q, cap, by simp, ?_, fun h => (by cases h), fun _ => ⟨(len + (m - len)) * Tryd.prog.bytesOf 51, ?_, ?_⟩, ?_⟩
    · intro i hil
      have hil' : i < len := by simpa using hil
      obtain ⟨c0, c1, _, _⟩ := hi i (by omega)
      obtain ⟨z0, _⟩ := hi 0 (by omega)
      obtain ⟨b, o, rfl, h1, h2, h3⟩ := pair_addr z0 c0 c1
      obtain ⟨e0, _, e1, hp, _⟩ := hq i hil'
      rw [e0] at h2
      rw [e1] at h3
      exact ⟨b, o, rfl, h1, by simpa using h2, by simpa using h3, by simpa using hp⟩
    · unfold DataW.weights
      rw [Tryd.underlying44]
      simp
    · have e : Tryd.prog.bytesOf 51 = 32 := by kernel_rfl
      rw [e]; simp; omega
    · intro r hr
      obtain ⟨i, hir, rfl⟩ := List.mem_map.1 hr
      have hil := List.mem_range.1 hir
      obtain ⟨_, h256, _, _, hw⟩ := hq i hil
      refine ⟨h256, fun p hp => ?_⟩
      obtain ⟨d0, d1⟩ := hw p hp
      have hmem : DataW.agg [D0 i, D1 i] ∈ (List.range len).map fun i => DataW.agg [D0 i, D1 i] := List.mem_map.2 ⟨i, hir, rfl⟩
      exact ⟨weights_slice Tryd.underlying44 hmem (weights_pair1 Tryd.underlying51 d0), weights_slice Tryd.underlying44 hmem (weights_pair1 Tryd.underlying51 d1)⟩
end
end Go.Proofs.YtnicmfboomibjaaDoor
