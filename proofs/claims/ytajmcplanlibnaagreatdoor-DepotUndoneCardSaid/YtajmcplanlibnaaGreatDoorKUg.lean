/- A book in order, of which only harmless pages of the first 256 are under way. -/
import Derived.Test.YtajmcplanlibnaaGreatDoorKVC
import Derived.Test.YtajmcplanlibnaaGreatDoorKM1
set_option linter.unusedSimpArgs false
set_option linter.unusedVariables false
set_option linter.unnecessarySimpa false
namespace Go.Proofs.YtajmcplanlibnaaGreatDoor
open Go.RowKit Go.Maps
theorem wrOk_le {B : BookS} {k : Nat} (h : B.cnt ≤ k) (hk : k < 60) (i : Nat) (p : List Int) : WrOk B i p := .inr (.inr (by show B.cnt ≠ 60; omega))
theorem BookS.wrote_ok {B : BookS} (h : B.ok) {i : Nat} (hi : i < B.n) {p : List Int} (hp : PgOk p) : (B.wrote i p).ok := by
  unfold BookS.wrote
  split
  · exact ⟨h.size, h.n, h.room, h.gen, h.news, fun f hf => by cases hf; exact (BookS.f_map h).put hi hp, h.pl, h.num, h.last, h.used, h.disk⟩
  · exact ⟨h.size, h.n, h.room, h.gen, h.news, fun f hf => by cases hf; exact BookS.f_map h, h.pl, h.num, h.last, h.used, h.disk⟩
/-- The sizes of a book, its disk's block, and the first page of what stands on it. -/
structure Geo where
  size : Nat
  n : Nat
  S : Nat
  db : Nat
  fs : Nat
def GdT (B : BookS) (g : Geo) (k : Nat) : Prop := GdS B g.size g.n g.S k g.db ∧ ∀ i p, B.f i = some p → i < 256 ∧ Tame p
theorem GdT.wrote {B : BookS} {g : Geo} {k i : Nat} {p : List Int} (h : GdT B g k) (hi : i < B.n) (hp : PgOk p) (h256 : i < 256) (ht : Tame p) : GdT (B.wrote i p) g k :=
  ⟨h.1.wrote i p (BookS.wrote_ok h.1.ok hi hp), fun j q hq => by
    rcases BookS.wrote_f B i p j with h1 | ⟨rfl, h1⟩
    · rw [h1] at hq; exact h.2 j q hq
    · rw [h1] at hq; cases hq; exact ⟨h256, ht⟩⟩
theorem GdT.of_opn {B : BookS} {g : Geo} {k : Nat} (h : GdS B g.size g.n g.S k g.db) (ho : B.opn = none) : GdT B g k :=
  ⟨h, fun i p hp => by rw [opn_f ho] at hp; cases hp⟩
theorem GdT.shut {B : BookS} {g : Geo} {k : Nat} (h : GdT B g k) : GdT B.shut g k :=
  GdT.of_opn (h.1.same (BookS.shut_ok h.1.ok) rfl) rfl
theorem gcommit_any (T tb : Nat) (N : Nat → Prop) (bb first n : Nat) (B : BookS) (g : Geo) (k : Nat) (hk : k ≤ 10000) (hc : B.cnt ≤ 60) (hg : GdT B g k) (w : World) (h : HolI T w tb N bb first n B) :
    Calls Tryz.prog 17 #[.pointer (some ⟨bb, 0, none⟩)] w fun e w' => e = .returned .nilIface ∧ HolI T w' tb N bb first n B.done ∧ GdT B.done g (k + 1) ∧ Keeps N w w' := by
  refine (g_commitT hk hc hg.2 w h.2.1 hg.1).mono ?_
  rintro e w' ⟨rfl, hB, hG, hk'⟩
  exact ⟨rfl, ⟨hk'.blk (.inr rfl) h.1, hB, h.2.2⟩, GdT.of_opn hG (BookS.done_opn _), hk'.mono (fun q _ hq => .inl hq)⟩
end Go.Proofs.YtajmcplanlibnaaGreatDoor
