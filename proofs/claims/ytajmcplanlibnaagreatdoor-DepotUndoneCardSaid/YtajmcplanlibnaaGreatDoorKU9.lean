/- A depot and the document's, of which nothing is under way; a depot under way on what it was. -/
import Derived.Test.YtajmcplanlibnaaGreatDoorKU9p
set_option linter.unusedSimpArgs false
set_option linter.unusedVariables false
set_option linter.unnecessarySimpa false
namespace Go.Proofs.YtajmcplanlibnaaGreatDoor
open Go.RowKit Go.Maps
theorem nodup_leD : ∀ (l m : List Nat), l.Nodup → (∀ x ∈ l, x ∈ m) → l.length ≤ m.length
  | [], m, _, _ => Nat.zero_le _
  | x :: l, m, hn, hs => by
    have hx : x ∈ m := hs x (by simp)
    have h1 := List.length_erase_of_mem hx
    have hp := List.length_pos_of_mem hx
    obtain ⟨hnx, hnl⟩ := List.nodup_cons.1 hn
    have ih := nodup_leD l (m.erase x) hnl (fun y hy => by
      have hyx : y ≠ x := fun e => hnx (e ▸ hy)
      exact (List.mem_erase_of_ne hyx).2 (hs y (by simp [hy])))
    simp only [List.length_cons]
    omega
/-- What is under way lies in some pages alone. -/
def PgsIn (B : BookS) (a b : Nat) : Prop := ∀ i, (B.f i).isSome = true → a ≤ i ∧ i < a + b
theorem PgsIn.cnt {B : BookS} {a b : Nat} (h : PgsIn B a b) : B.cnt ≤ b := by
  unfold BookS.cnt
  have hnd : (keysF B.f B.n).Nodup := List.nodup_range.filter _
  have := nodup_leD _ ((List.range b).map (a + ·)) hnd (fun x hx => by
    unfold keysF at hx
    have hk := h x (List.mem_filter.1 hx).2
    exact List.mem_map.2 ⟨x - a, List.mem_range.2 (by omega), by omega⟩)
  rw [List.length_map, List.length_range] at this
  exact this
theorem PgsIn.wrote {B : BookS} {a b : Nat} (h : PgsIn B a b) {i : Nat} (hi : a ≤ i ∧ i < a + b) (p : List Int) : PgsIn (B.wrote i p) a b := fun j hj => by
  rcases BookS.wrote_f B i p j with e | ⟨e, _⟩
  · rw [e] at hj; exact h j hj
  · omega
theorem shut_of_opn {B : BookS} (h : B.opn = none) : B.shut = B := by
  cases B
  simp only at h
  subst h
  rfl
/-- A depot of which nothing is under way. -/
def DepO (g : Geo) (N : Nat → Prop) (tb bb n k : Nat) (st : Nat → Int) (blk : Nat → List Int) (wx : World) : Prop :=
  ∃ B, B.opn = none ∧ HolI 215 wx tb N bb g.fs n B ∧ DpI g.fs B n st blk ∧ GdT B g k ∧ (g.fs + n * 5 ≤ g.n ∧ g.fs + n * 5 ≤ 256) ∧ ∀ s, s < n * 4 → st s = 1 → Tame (blk s)
section
variable {g : Geo} {N : Nat → Prop} {tb bb n k c : Nat} {st : Nat → Int} {blk : Nat → List Int} {wx wy : World}
theorem DepO.toS (h : DepO g N tb bb n k st blk wx) : DepS g N tb bb n k 0 st blk wx := by
  obtain ⟨B, h0, h1, h2, h3⟩ := h
  exact ⟨B, h1, h2, by rw [opn_cnt h0]; exact Nat.le_refl _, h3⟩
theorem DepO.below (h : DepO g N tb bb n k st blk wx) (hb : Below wx.heap.size wx wy) : DepO g N tb bb n k st blk wy := by
  obtain ⟨B, h0, h1, h2⟩ := h
  exact ⟨B, h0, h1.below hb, h2⟩
theorem dep_commitO (hk : k ≤ 9000) (hc : c ≤ 60) (h : DepS g N tb bb n k c st blk wx) :
    Calls Tryz.prog 17 #[.pointer (some ⟨bb, 0, none⟩)] wx fun e wy => e = .returned .nilIface ∧ DepO g N tb bb n (k + 1) st blk wy ∧ Keeps N wx wy := by
  obtain ⟨B, h1, h2, h3, h4, ⟨h5, h6⟩, h7⟩ := h
  have hBn := h4.1.n
  refine (gcommit_any 215 tb N bb g.fs n B g k (by omega) (by omega) h4 wx h1).mono ?_
  rintro e wz ⟨rfl, hD, hG, hkz⟩
  exact ⟨rfl, ⟨B.done, BookS.done_opn B, hD, h2.congr (fun i _ hi => BookS.done_view_lim h4.1.ok h4.1.lim (by omega) i (by omega)), hG, ⟨h5, h6⟩, h7⟩, hkz⟩
end
/-- What is known of a book that is flushed, and not under way: its depot's slots. -/
structure FlD (S : BookS) (g : Geo) (n k : Nat) (st : Nat → Int) (blk : Nat → List Int) : Prop where
  dep : DpI g.fs S n st blk
  good : GdT S g k
  cache : S.disk.cache = []
  opn : S.opn = none
  shut : S.shut = S
  room : g.fs + n * 5 ≤ g.n ∧ g.fs + n * 5 ≤ 256
  tame : ∀ s, s < n * 4 → st s = 1 → Tame (blk s)
/-- A depot under way on a book that was S. -/
def DepU (g : Geo) (N : Nat → Prop) (tb bb n k : Nat) (S : BookS) (wx : World) : Prop :=
  ∃ B st blk, HolI 215 wx tb N bb g.fs n B ∧ DpI g.fs B n st blk ∧ PgsIn B g.fs (n * 5) ∧ GdT B g k ∧ B.shut = S
section
variable {g : Geo} {N : Nat → Prop} {tb bb n k : Nat} {S : BookS} {st : Nat → Int} {blk : Nat → List Int} {wx wy : World}
theorem dep_sync (h : DepO g N tb bb n k st blk wx) :
    Calls Tryz.prog 33 #[.pointer (some ⟨bb, 0, none⟩)] wx fun e wy => e = .returned .nilIface ∧ (∃ S, FlD S g n k st blk ∧ HolI 215 wy tb N bb g.fs n S) ∧ Keeps N wx wy := by
  obtain ⟨B, ho, ⟨t1, t2, t3⟩, h2, h3, ⟨h5, h6⟩, h7⟩ := h
  have hBn := h3.1.n
  refine (g_sync wx t2 h3.1).mono ?_
  rintro e wy ⟨rfl, hB, hG, hk⟩
  have hso : B.synced.opn = none := ho
  refine ⟨rfl, ⟨B.synced, ⟨h2.congr (fun i _ hi => ?_), GdT.of_opn hG hso, rfl, hso, shut_of_opn hso, ⟨h5, h6⟩, h7⟩, ⟨hk.blk (.inr rfl) t1, hB, t3⟩⟩, hk.mono (fun q _ hq => .inl hq)⟩
  rw [BookS.base_view hso, BookS.base_view ho]
  exact BookS.synced_base h3.1.ok i (by omega)
theorem DepU.below (h : DepU g N tb bb n k S wx) (hb : Below wx.heap.size wx wy) : DepU g N tb bb n k S wy := by
  obtain ⟨B, st, blk, h1, h2⟩ := h
  exact ⟨B, st, blk, h1.below hb, h2⟩
theorem DepU.start (hF : FlD S g n k st blk) (h : HolI 215 wx tb N bb g.fs n S) : DepU g N tb bb n k S wx :=
  ⟨S, st, blk, h, hF.dep, (fun i hi => by rw [opn_f hF.opn] at hi; cases hi), hF.good, hF.shut⟩
theorem depu_put (hn : n ≤ 10) (h5 : g.fs + n * 5 ≤ g.n) (h6 : g.fs + n * 5 ≤ 256) (p : List Int) (hp : PgOk p) (ht : Tame p) (h : DepU g N tb bb n k S wx) :
    Calls Tryz.prog 46 #[.pointer (some ⟨tb, 0, none⟩), .agg (v8a p)] wx fun e wy => (∃ v, e = .returned v) ∧ DepU g N tb bb n k S wy ∧ Keeps N wx wy := by
  obtain ⟨B, st, blk, h1, h2, h3, h4, hS⟩ := h
  have hBn := h4.1.n
  have hc := h3.cnt
  by_cases hf : ∃ s, s < n * 4 ∧ st s = 0
  · refine (hd_put (by omega) (by omega) p hp hf h1 h2).mono ?_
    rintro e wy ⟨⟨s, rfl, hm, hH, hD⟩, hk⟩
    have hs4 := hm.1
    refine ⟨⟨_, rfl⟩, ⟨_, _, _, hH, hD, ?_, h4.put h2 h5 h6 hs4 hp ht, (putB_shut _ _ _ _).trans hS⟩, hk⟩
    unfold putB
    exact (h3.wrote (by omega) _).wrote (by omega) _
  · refine (hd_full (by omega) p hp (fun s hs e => hf ⟨s, hs, e⟩) h1 h2).mono ?_
    rintro e wy ⟨⟨t, x, rfl, _⟩, hb⟩
    exact ⟨⟨_, rfl⟩, ⟨B, st, blk, h1.below hb, h2, h3, h4, hS⟩, Keeps.of_below hb⟩
theorem depu_drop (hn : n ≤ 10) (h5 : g.fs + n * 5 ≤ g.n) (h6 : g.fs + n * 5 ≤ 256) (slot : Int) (h : DepU g N tb bb n k S wx) :
    Calls Tryz.prog 47 #[.pointer (some ⟨tb, 0, none⟩), .int .i64 slot] wx fun e wy => (∃ v, e = .returned v) ∧ DepU g N tb bb n k S wy ∧ Keeps N wx wy := by
  obtain ⟨B, st, blk, h1, h2, h3, h4, hS⟩ := h
  have hBn := h4.1.n
  have hc := h3.cnt
  by_cases hr : hasR st n slot = 0
  · obtain ⟨s, rfl, hs, hl⟩ := hasR_zero hr
    refine (hd_drop (by omega) (by omega) hs hl h1 h2).mono ?_
    rintro e wy ⟨rfl, ⟨hH, hD⟩, hk⟩
    refine ⟨⟨_, rfl⟩, ⟨_, _, _, hH, hD, ?_, h4.drop h2 h5 h6 hs, (dropB_shut _ _ _).trans hS⟩, hk⟩
    unfold dropB
    exact h3.wrote (by omega) _
  · rcases hasR_cases rfl hr with ⟨_, hs⟩ | ⟨_, s, rfl, hs, hne⟩
    · refine (ddrop_bad tb N bb g.fs n B slot hs (by omega) wx h1).mono ?_
      rintro e wy ⟨⟨t, x, rfl, _⟩, hb⟩
      exact ⟨⟨_, rfl⟩, ⟨B, st, blk, h1.below hb, h2, h3, h4, hS⟩, Keeps.of_below hb⟩
    · refine (ddrop_none tb N bb g.fs n B s hs (by omega) (by have := h2.hst s hs; unfold stD at this; rw [this]; exact hne) wx h1).mono ?_
      rintro e wy ⟨⟨t, x, rfl, _⟩, hb⟩
      exact ⟨⟨_, rfl⟩, ⟨B, st, blk, h1.below hb, h2, h3, h4, hS⟩, Keeps.of_below hb⟩
theorem depu_undo (h : DepU g N tb bb n k S wx) :
    Calls Tryz.prog 15 #[.pointer (some ⟨bb, 0, none⟩)] wx fun e wy => e = .returned (.tuple #[]) ∧ HolI 215 wy tb N bb g.fs n S ∧ Keeps N wx wy := by
  obtain ⟨B, st, blk, h1, h2, h3, h4, hS⟩ := h
  refine (hundo_any 215 tb N bb g.fs n B wx h1).mono ?_
  rintro e wz ⟨rfl, hD, hkz⟩
  rw [hS] at hD
  exact ⟨rfl, hD, hkz⟩
theorem FlD.toO (hF : FlD S g n k st blk) (h : HolI 215 wx tb N bb g.fs n S) : DepO g N tb bb n k st blk wx :=
  ⟨S, hF.opn, h, hF.dep, hF.good, hF.room, hF.tame⟩
end
end Go.Proofs.YtajmcplanlibnaaGreatDoor
