/- The blocks of errors are none of a depot's. (The same lemmas stand in the text of the forests: no text imports both.) -/
import Derived.Test.YtajmcplanlibnaaGreatDoorKU1
set_option linter.unusedSimpArgs false
set_option linter.unusedVariables false
set_option linter.unnecessarySimpa false
namespace Go.Proofs.YtajmcplanlibnaaGreatDoor
open Go.RowKit Go.Maps
/-- Block i is an error's. -/
def WoeB (w : World) (i : Nat) : Prop := ∃ cs, w.heap[i]? = some (.cells cs 249)
theorem WoeB.lt {w : World} {i : Nat} (h : WoeB w i) : i < w.heap.size := by
  obtain ⟨cs, h⟩ := h
  exact lt_of_blk h
theorem WoeB.not {w : World} {i T : Nat} {cs : Array Value} (h : w.heap[i]? = some (.cells cs T)) (hT : T ≠ 249) : ¬ WoeB w i := by
  rintro ⟨cs', e⟩
  rw [h] at e
  simp only [Option.some.injEq, Obj.cells.injEq] at e
  exact hT e.2.1
theorem WoeB.not_map {P : Program} {w : World} {k b c : Nat} {f : Lit → Option Value} (h : MapIs P k w b c f) : ¬ WoeB w b := by
  rintro ⟨cs', e⟩
  obtain ⟨D, ⟨es, clock, hb, _⟩, _⟩ := h
  rw [hb] at e
  simp at e
theorem WoeB.not_row {w : World} {base e s n : Nat} {v : Value} {xs : List Value} (h : w.ownsRow base e s v n xs) (he : e ≠ 249) (k : Nat) (hk : v.ownBlock = some k) : ¬ WoeB w k := by
  rcases h.2 with ⟨rfl, _⟩ | ⟨g, cap, cur, rfl, _, hg, _⟩
  · simp [Value.ownBlock] at hk
  · simp [Value.ownBlock] at hk
    subst hk
    exact WoeB.not hg he
theorem DiskI.wide {w : World} {db : Nat} {N : Nat → Prop} {d : DiskS} (h : DiskI w db N d) : DiskI w db (fun i => N i ∨ WoeB w i) d := by
  obtain ⟨fb, cv, lb, c, ⟨fc, hfc, h1⟩, ⟨rest, h2⟩, h3, h4, h5, n1, n2, n3, n4, n5, h6⟩ := h
  exact ⟨fb, cv, lb, c, ⟨fc, hfc, h1⟩, ⟨rest, h2⟩, h3, h4, h5, fun q => q.elim n1 (WoeB.not h1 (by decide)), fun q => q.elim n2 (WoeB.not h2 (by decide)), fun q => q.elim n3 (WoeB.not_map h4), fun k hk q => q.elim (n4 k hk) (WoeB.not_row h3 (by decide) k hk), fun i hi => hi.elim (n5 i) WoeB.lt, h6⟩
theorem BookI.wide {w : World} {bb : Nat} {N : Nat → Prop} {B : BookS} (h : BookI w bb N B) : BookI w bb (fun i => N i ∨ WoeB w i) B := by
  obtain ⟨db, rb, nb, ov, hX⟩ := h
  have ho : ∀ k, ovB ov k → ¬ WoeB w k := fun k hk => by
    have h1 := hX.opn
    unfold ovB at hk
    subst hk
    cases hq : B.opn with
    | none => rw [hq] at h1; simp [OpenI] at h1
    | some f =>
      rw [hq] at h1
      obtain ⟨ob, e, hm⟩ := h1
      simp at e
      subst e
      exact WoeB.not_map hm
  have hd := hX.disk.wide
  refine ⟨db, rb, nb, ov, hX.cells, hX.ring, hd.keep (Below.refl _ _) (fun i hi => ⟨?_, .inl ?_⟩), hX.news, hX.opn, hX.ne, ⟨fun q => q.elim hX.nots.1 (WoeB.not hX.cells (by decide)), fun q => q.elim hX.nots.2.1 (WoeB.not hX.ring (by decide)), fun q => q.elim hX.nots.2.2.1 (WoeB.not_map hX.news), fun k hk q => q.elim (hX.nots.2.2.2 k hk) (ho k hk)⟩, hX.ok, hX.dbs⟩
  · refine hd.N_lt i ?_
    rcases hi with (hi | hi) | hi
    · exact .inl (.inl hi)
    · exact .inr hi
    · exact .inl (.inr hi)
  · rcases hi with (hi | hi) | hi
    · exact .inl (.inl hi)
    · exact .inr hi
    · exact .inl (.inr hi)
theorem HolI.wide {T : Nat} (hT : T ≠ 249) {w : World} {tb bb first n : Nat} {N : Nat → Prop} {B : BookS} (h : HolI T w tb N bb first n B) : HolI T w tb (fun i => N i ∨ WoeB w i) bb first n B := by
  obtain ⟨h1, h2, h3⟩ := h
  have hl : ∀ i, N i → i < w.heap.size := fun i hi => h2.N_lt i (.inl hi)
  refine ⟨h1, h2.wide.keep (Below.refl _ _) (fun i hi => ⟨?_, .inl ?_⟩), fun q => q.elim h3 (WoeB.not h1 hT)⟩
  · rcases hi with (hi | hi) | hi
    · exact hl i hi
    · exact hi.lt
    · rw [hi]; exact lt_of_blk h1
  · rcases hi with (hi | hi) | hi
    · exact .inl (.inl hi)
    · exact .inr hi
    · exact .inl (.inr hi)
/-- An error stays where its blocks stay. -/
theorem ErrAt.stays {w w' : World} (hk : Keeps (WoeB w) w w') : ∀ {k : Nat} {v : Value} {n : Int}, ErrAt w k v n → ErrAt w' k v n
  | 0, _, _, h => h
  | k + 1, _, _, ⟨b, s, e, h1, h2, h3⟩ => ⟨b, s, e, h1, hk.blk ⟨_, h2⟩ h2, ErrAt.stays hk h3⟩
theorem ErrV.stays {w w' : World} (hk : Keeps (WoeB w) w w') {v : Value} {n : Int} (h : ErrV w v n) : ErrV w' v n := by
  obtain ⟨k, h⟩ := h
  exact ⟨k, h.stays hk⟩
theorem DepS.wide {g : Geo} {N : Nat → Prop} {tb bb n k c : Nat} {st : Nat → Int} {blk : Nat → List Int} {wx : World} (h : DepS g N tb bb n k c st blk wx) : DepS g (fun i => N i ∨ WoeB wx i) tb bb n k c st blk wx := by
  obtain ⟨B, h1, h2⟩ := h
  exact ⟨B, h1.wide (by decide), h2⟩
theorem DepS.thin {g : Geo} {N M : Nat → Prop} {tb bb n k c : Nat} {st : Nat → Int} {blk : Nat → List Int} {wx : World} (h : DepS g (fun i => N i ∨ M i) tb bb n k c st blk wx) : DepS g N tb bb n k c st blk wx :=
  h.keep (Below.refl _ _) (fun i hi => ⟨h.N_lt i (.inl hi), .inl (.inl hi)⟩)
end Go.Proofs.YtajmcplanlibnaaGreatDoor
