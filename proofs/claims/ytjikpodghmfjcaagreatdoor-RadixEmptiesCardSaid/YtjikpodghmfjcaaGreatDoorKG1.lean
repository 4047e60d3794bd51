/- A forest: plain. The number at a place of a page, where one has been put. -/
import Derived.Test.YtjikpodghmfjcaaGreatDoorKM1
import Derived.Laws.Bits64b
import Derived.Test.YtjikpodghmfjcaaGreatDoorKQ1
import Derived.Test.YtjikpodghmfjcaaGreatDoorKN1
set_option linter.unusedSimpArgs false
set_option linter.unusedVariables false
set_option linter.unnecessarySimpa false
namespace Go.Proofs.YtjikpodghmfjcaaGreatDoor
open Go.RowKit Go.Maps
theorem wrap_i64_nat (x : Nat) (h : x < 9223372036854775808) : IntKind.i64.wrap (x : Int) = (x : Int) := by
  have h1 : (x : Int) % 18446744073709551616 = x := by omega
  show (if true && decide ((x : Int) % (2 ^ 64 : Int) ≥ (2 ^ (64 - 1) : Int)) then (x : Int) % (2 ^ 64 : Int) - (2 ^ 64 : Int) else (x : Int) % (2 ^ 64 : Int)) = x
  rw [show (2 ^ 64 : Int) = 18446744073709551616 by decide, h1, show (2 ^ (64 - 1) : Int) = 9223372036854775808 by decide]
  rw [if_neg]
  rw [Bool.true_and, decide_eq_true_eq]
  omega
theorem or_i64_nat (a b : Nat) (ha : a < 9223372036854775808) (hb : b < 9223372036854775808) : bits .or .i64 (a : Int) (b : Int) = ((a ||| b : Nat) : Int) := by
  have hx : a ||| b < 2 ^ 63 := Nat.or_lt_two_pow (by omega) (by omega)
  have h1 : (BitVec.ofInt 64 (a : Int)).toNat = a := by
    rw [BitVec.ofInt_natCast, BitVec.toNat_ofNat]; exact Nat.mod_eq_of_lt (by omega)
  have h2 : (BitVec.ofInt 64 (b : Int)).toNat = b := by
    rw [BitVec.ofInt_natCast, BitVec.toNat_ofNat]; exact Nat.mod_eq_of_lt (by omega)
  show IntKind.i64.wrap ((BitVec.ofInt 64 (a : Int) ||| BitVec.ofInt 64 (b : Int)).toNat : Int) = _
  rw [BitVec.toNat_or, h1, h2]
  exact wrap_i64_nat _ (by omega)
theorem or_parts (a b k : Nat) (ha : a < 2 ^ k) (hk : 2 ^ k < 9223372036854775808) (hb : b * 2 ^ k < 9223372036854775808) : bits .or .i64 (a : Int) ((b * 2 ^ k : Nat) : Int) = ((a + b * 2 ^ k : Nat) : Int) := by
  rw [or_i64_nat a (b * 2 ^ k) (by omega) hb]
  congr 1
  have h := Nat.two_pow_add_eq_or_of_lt ha b
  rw [Nat.or_comm, Nat.mul_comm b, ← h, Nat.add_comm]
theorem atF_eq (p : List Int) (hp : PgOk p) (i : Nat) : atF p i = p.getD (4 * i) 0 + p.getD (4 * i + 1) 0 * 256 + p.getD (4 * i + 2) 0 * 65536 := by
  obtain ⟨u0, v0⟩ := hp.2.at (4 * i)
  obtain ⟨u1, v1⟩ := hp.2.at (4 * i + 1)
  obtain ⟨u2, v2⟩ := hp.2.at (4 * i + 2)
  unfold atF
  generalize p.getD (4 * i) 0 = a at *
  generalize p.getD (4 * i + 1) 0 = b at *
  generalize p.getD (4 * i + 2) 0 = c at *
  obtain ⟨a', rfl⟩ := Int.eq_ofNat_of_zero_le u0
  obtain ⟨b', rfl⟩ := Int.eq_ofNat_of_zero_le u1
  obtain ⟨c', rfl⟩ := Int.eq_ofNat_of_zero_le u2
  have h1 := or_parts a' b' 8 (by omega) (by decide) (by omega)
  have h2 := or_parts (a' + b' * 256) c' 16 (by omega) (by decide) (by omega)
  rw [show ((b' : Int) * 256) = ((b' * 2 ^ 8 : Nat) : Int) by show _ = ((b' * 256 : Nat) : Int); omega, h1, show ((c' : Int) * 65536) = ((c' * 2 ^ 16 : Nat) : Int) by show _ = ((c' * 65536 : Nat) : Int); omega]
  rw [show (a' + b' * 2 ^ 8 : Nat) = a' + b' * 256 from rfl, h2]
  show ((a' + b' * 256 + c' * 65536 : Nat) : Int) = _
  omega
theorem atF_put (p : List Int) (hp : PgOk p) (k : Nat) (hk : k < 16) (x : Int) (hx : 0 ≤ x ∧ x < 16777216) (j : Nat) (hj : j < 16) : atF (putNF p k x) j = if j = k then x else atF p j := by
  rw [atF_eq _ (putNF_ok hp k x hx), atF_eq _ hp]
  have hl := hp.1
  have hs : ∀ (l : List Int) (a : Nat) (v : Int) (i : Nat), a < l.length → (l.set a v).getD i 0 = if i = a then v else l.getD i 0 := fun l a v i ha => by
    by_cases e : i = a
    · subst e
      simp [List.getD, List.getElem?_set_self ha]
    · rw [if_neg e]
      simp [List.getD, List.getElem?_set_ne (fun e' => e e'.symm)]
  have hput : ∀ i, (putNF p k x).getD i 0 = if i = 4 * k + 2 then x / 65536 else if i = 4 * k + 1 then x / 256 % 256 else if i = 4 * k then x % 256 else p.getD i 0 := fun i => by
    unfold putNF
    rw [hs _ _ _ _ (by rw [List.length_set, List.length_set]; omega), hs _ _ _ _ (by rw [List.length_set]; omega), hs _ _ _ _ (by omega)]
  rw [hput, hput, hput]
  by_cases e : j = k
  · subst e
    rw [if_neg (by omega), if_neg (by omega), if_pos rfl, if_neg (by omega), if_pos rfl, if_pos rfl, if_pos rfl]
    omega
  · rw [if_neg (by omega), if_neg (by omega), if_neg (by omega), if_neg (by omega), if_neg (by omega), if_neg (by omega), if_neg (by omega), if_neg (by omega), if_neg (by omega), if_neg e]
theorem putNF_get (p : List Int) (hp : p.length = 64) (k : Nat) (hk : k < 16) (x : Int) (i : Nat) : (putNF p k x).getD i 0 = if i = 4 * k + 2 then x / 65536 else if i = 4 * k + 1 then x / 256 % 256 else if i = 4 * k then x % 256 else p.getD i 0 := by
  have hs : ∀ (l : List Int) (a : Nat) (v : Int) (i : Nat), a < l.length → (l.set a v).getD i 0 = if i = a then v else l.getD i 0 := fun l a v i ha => by
    by_cases e : i = a
    · subst e
      simp [List.getD, List.getElem?_set_self ha]
    · rw [if_neg e]
      simp [List.getD, List.getElem?_set_ne (fun e' => e e'.symm)]
  unfold putNF
  rw [hs _ _ _ _ (by rw [List.length_set, List.length_set]; omega), hs _ _ _ _ (by rw [List.length_set]; omega), hs _ _ _ _ (by omega)]
/-- A page of a forest: of four bytes the last one is 0. -/
def NdOk (p : List Int) : Prop := PgOk p ∧ ∀ i, i < 16 → p.getD (4 * i + 3) 0 = 0
theorem NdOk.put {p : List Int} (hp : NdOk p) (k : Nat) (hk : k < 16) (x : Int) (hx : 0 ≤ x ∧ x < 16777216) : NdOk (putNF p k x) :=
  ⟨putNF_ok hp.1 k x hx, fun i hi => by
    rw [putNF_get p hp.1.1 k hk, if_neg (by omega), if_neg (by omega), if_neg (by omega)]; exact hp.2 i hi⟩
theorem zer_getD (n i : Nat) : (zer n).getD i 0 = 0 := by
  unfold zer List.getD
  rw [List.getElem?_replicate]
  split <;> rfl
theorem NdOk.zer : NdOk (zer 64) := ⟨zer_pg, fun i _ => zer_getD _ _⟩
/-- A page of a forest is none where it has no number. -/
theorem NdOk.none {p : List Int} (hp : NdOk p) (h : ∀ i, i < 16 → atF p i = 0) : p = Go.Proofs.YtjikpodghmfjcaaGreatDoor.zer 64 := by
  apply List.ext_getElem (by rw [hp.1.1]; rfl)
  intro i h1 h2
  have hz : (Go.Proofs.YtjikpodghmfjcaaGreatDoor.zer 64)[i] = 0 := by unfold Go.Proofs.YtjikpodghmfjcaaGreatDoor.zer; exact List.getElem_replicate _
  have hi : i < 64 := by rw [hp.1.1] at h1; exact h1
  have hg : p[i] = p.getD i 0 := by simp [List.getD, List.getElem?_eq_getElem h1]
  rw [hz, hg]
  have ha := h (i / 4) (by omega)
  rw [atF_eq _ hp.1] at ha
  obtain ⟨u0, v0⟩ := hp.1.2.at (4 * (i / 4))
  obtain ⟨u1, v1⟩ := hp.1.2.at (4 * (i / 4) + 1)
  obtain ⟨u2, v2⟩ := hp.1.2.at (4 * (i / 4) + 2)
  rcases (show i = 4 * (i / 4) ∨ i = 4 * (i / 4) + 1 ∨ i = 4 * (i / 4) + 2 ∨ i = 4 * (i / 4) + 3 by omega) with e | e | e | e
  · rw [e]; omega
  · rw [e]; omega
  · rw [e]; omega
  · rw [e]; exact hp.2 (i / 4) (by omega)
end Go.Proofs.YtjikpodghmfjcaaGreatDoor
set_option linter.unnecessarySimpa false
namespace Go.Proofs.YtjikpodghmfjcaaGreatDoor
open Go.RowKit Go.Maps
/-- Pages rd are a forest of n nodes: r1 the nodes of units, r2 those of their groups, M the numbers; the nodes in A are linked and have nothing yet. -/
structure ForI (rd : Nat → List Int) (n : Nat) (A : Nat → Prop) (M : Nat → Nat → Nat → Int) (r1 : Nat → Nat) (r2 : Nat → Nat → Nat) : Prop where
  root : ∀ l, l < 4 → atF (rd 0) l = (r1 l : Int)
  mid : ∀ l g, l < 4 → g < 16 → r1 l ≠ 0 → atF (rd (r1 l)) g = (r2 l g : Int)
  mid0 : ∀ l g, l < 4 → g < 16 → r1 l = 0 → r2 l g = 0
  leaf : ∀ l g b, l < 4 → g < 16 → b < 16 → r2 l g ≠ 0 → atF (rd (r2 l g)) b = M l g b
  leaf0 : ∀ l g b, l < 4 → g < 16 → b < 16 → r2 l g = 0 → M l g b = 0
  le1 : ∀ l, l < 4 → r1 l ≤ n
  le2 : ∀ l g, l < 4 → g < 16 → r2 l g ≤ n
  inj1 : ∀ l l', l < 4 → l' < 4 → r1 l ≠ 0 → r1 l = r1 l' → l = l'
  inj2 : ∀ l g l' g', l < 4 → g < 16 → l' < 4 → g' < 16 → r2 l g ≠ 0 → r2 l g = r2 l' g' → l = l' ∧ g = g'
  apart : ∀ l l' g', l < 4 → l' < 4 → g' < 16 → r1 l ≠ 0 → r1 l ≠ r2 l' g'
  used : ∀ p, 1 ≤ p → p ≤ n → ((rd p ≠ zer 64 ∨ A p) ↔ ((∃ l, l < 4 ∧ r1 l = p) ∨ ∃ l g, l < 4 ∧ g < 16 ∧ r2 l g = p))
  pend : ∀ p, A p → 1 ≤ p ∧ rd p = zer 64
  ok : ∀ p, p ≤ n → NdOk (rd p)
theorem ForI.pg {rd : Nat → List Int} {n : Nat} {A : Nat → Prop} {M : Nat → Nat → Nat → Int} {r1 : Nat → Nat} {r2 : Nat → Nat → Nat} (h : ForI rd n A M r1 r2) (p : Nat) (hp : p ≤ n) : PgOk (rd p) := (h.ok p hp).1
theorem atF_zer (i : Nat) (hi : i < 16) : atF (zer 64) i = 0 := by
  have h : ∀ i : Fin 16, atF (zer 64) i = 0 := by decide +kernel
  exact h ⟨i, hi⟩
/-- A page with a number is not empty. -/
theorem put_ne {p : List Int} (hp : PgOk p) (k : Nat) (hk : k < 16) (x : Int) (hx : 1 ≤ x ∧ x < 16777216) : putNF p k x ≠ zer 64 := fun e => by
  have h := atF_put p hp k hk x ⟨by omega, hx.2⟩ k hk
  rw [if_pos rfl, e, atF_zer k hk] at h
  omega
section
variable {rd : Nat → List Int} {n : Nat} {A : Nat → Prop} {M : Nat → Nat → Nat → Int} {r1 : Nat → Nat} {r2 : Nat → Nat → Nat}
def rdPut (rd : Nat → List Int) (q k : Nat) (x : Int) : Nat → List Int := fun p => if p = q then putNF (rd q) k x else rd p
/-- A unit's node is linked. -/
theorem ForI.link1 (h : ForI rd n A M r1 r2) {l p : Nat} (hl : l < 4) (h0 : r1 l = 0) (hp : 1 ≤ p ∧ p ≤ n) (hn : n ≤ 4095) (hz : rd p = zer 64) (hA : ¬ A p) :
    ForI (rdPut rd 0 l p) n (fun q => A q ∨ q = p) M (fun l' => if l' = l then p else r1 l') r2 := by
  have hfree : ∀ q, q = p → ¬ ((∃ l, l < 4 ∧ r1 l = q) ∨ ∃ l g, l < 4 ∧ g < 16 ∧ r2 l g = q) := fun q e hq => by
    subst e
    rcases (h.used q hp.1 hp.2).2 hq with h1 | h1
    · exact h1 hz
    · exact hA h1
  have hrd : ∀ q, q ≠ 0 → rdPut rd 0 l p q = rd q := fun q hq => by unfold rdPut; rw [if_neg hq]
  have hrd0 : rdPut rd 0 l p 0 = putNF (rd 0) l p := by unfold rdPut; rw [if_pos rfl]
  have hpx : (0 : Int) ≤ p ∧ (p : Int) < 16777216 := by omega
  refine ⟨fun l' hl' => ?_, fun l' g hl' hg h1 => ?_, fun l' g hl' hg h1 => ?_, fun l' g b hl' hg hb h1 => ?_, h.leaf0, fun l' hl' => ?_, h.le2, fun l1 l2 h1 h2 h3 h4 => ?_, h.inj2, fun l1 l2 g2 h1 h2 h3 h4 => ?_, fun q q1 q2 => ?_, fun q hq => ?_, fun q hq => ?_⟩
  · rw [hrd0, atF_put _ (h.pg 0 (by omega)) l (by omega) _ hpx l' (by omega)]
    by_cases e : l' = l
    · simp [e]
    · simp [e, h.root l' hl']
  · by_cases e : l' = l
    · subst e
      simp only [if_true] at h1 ⊢
      rw [hrd p h1, hz, atF_zer g hg, h.mid0 l' g hl' hg h0]; rfl
    · simp only [e, if_false] at h1 ⊢
      rw [hrd _ h1]; exact h.mid l' g hl' hg h1
  · by_cases e : l' = l
    · simp only [e, if_true] at h1; omega
    · simp only [e, if_false] at h1; exact h.mid0 l' g hl' hg h1
  · rw [hrd _ h1]; exact h.leaf l' g b hl' hg hb h1
  · by_cases e : l' = l
    · simp [e, hp.2]
    · simp [e, h.le1 l' hl']
  · by_cases e1 : l1 = l
    · by_cases e2 : l2 = l
      · omega
      · simp only [e1, e2, if_true, if_false] at h4
        exact absurd (.inl ⟨l2, h2, h4.symm⟩) (hfree p rfl)
    · by_cases e2 : l2 = l
      · simp only [e1, e2, if_true, if_false] at h4
        exact absurd (.inl ⟨l1, h1, h4⟩) (hfree p rfl)
      · simp only [e1, e2, if_false] at h3 h4
        exact h.inj1 l1 l2 h1 h2 h3 h4
  · by_cases e1 : l1 = l
    · simp only [e1, if_true]
      exact fun e => hfree p rfl (.inr ⟨l2, g2, h2, h3, e.symm⟩)
    · simp only [e1, if_false] at h4 ⊢
      exact h.apart l1 l2 g2 h1 h2 h3 h4
  · rw [hrd q (by omega)]
    constructor
    · rintro (h1 | h1 | h1)
      · rcases (h.used q q1 q2).1 (.inl h1) with ⟨l', a, b⟩ | h2
        · exact .inl ⟨l', a, by rw [if_neg (fun e => by rw [e, h0] at b; omega)]; exact b⟩
        · exact .inr h2
      · rcases (h.used q q1 q2).1 (.inr h1) with ⟨l', a, b⟩ | h2
        · exact .inl ⟨l', a, by rw [if_neg (fun e => by rw [e, h0] at b; omega)]; exact b⟩
        · exact .inr h2
      · exact .inl ⟨l, hl, by rw [if_pos rfl, h1]⟩
    · rintro (⟨l', a, b⟩ | h2)
      · by_cases e : l' = l
        · rw [if_pos e] at b; exact .inr (.inr b.symm)
        · rw [if_neg e] at b
          rcases (h.used q q1 q2).2 (.inl ⟨l', a, b⟩) with h3 | h3
          · exact .inl h3
          · exact .inr (.inl h3)
      · rcases (h.used q q1 q2).2 (.inr h2) with h3 | h3
        · exact .inl h3
        · exact .inr (.inl h3)
  · rcases hq with hq | hq
    · have := h.pend q hq
      rw [hrd q (by omega)]; exact this
    · rw [hq, hrd p (by omega)]; exact ⟨hp.1, hz⟩
  · by_cases e : q = 0
    · rw [e, hrd0]; exact (h.ok 0 (by omega)).put l (by omega) p hpx
    · rw [hrd q e]; exact h.ok q hq
/-- A group's node is linked. -/
theorem ForI.link2 (h : ForI rd n A M r1 r2) {l g p : Nat} (hl : l < 4) (hg : g < 16) (h1 : r1 l ≠ 0) (h0 : r2 l g = 0) (hp : 1 ≤ p ∧ p ≤ n) (hn : n ≤ 4095) (hz : rd p = zer 64) (hA : ¬ A p) :
    ForI (rdPut rd (r1 l) g p) n (fun q => A q ∧ q ≠ r1 l ∨ q = p) M r1 (fun l' g' => if l' = l ∧ g' = g then p else r2 l' g') := by
  have hfree : ¬ ((∃ l, l < 4 ∧ r1 l = p) ∨ ∃ l g, l < 4 ∧ g < 16 ∧ r2 l g = p) := fun hq => by
    rcases (h.used p hp.1 hp.2).2 hq with h1 | h1
    · exact h1 hz
    · exact hA h1
  have hpl : p ≠ r1 l := fun e => hfree (.inl ⟨l, hl, e.symm⟩)
  have hrd : ∀ q, q ≠ r1 l → rdPut rd (r1 l) g p q = rd q := fun q hq => by unfold rdPut; rw [if_neg hq]
  have hrd0 : rdPut rd (r1 l) g p (r1 l) = putNF (rd (r1 l)) g p := by unfold rdPut; rw [if_pos rfl]
  have hpx : (0 : Int) ≤ p ∧ (p : Int) < 16777216 := by omega
  have hok := h.pg (r1 l) (h.le1 l hl)
  refine ⟨fun l' hl' => ?_, fun l' g' hl' hg' h2 => ?_, fun l' g' hl' hg' h2 => ?_, fun l' g' b hl' hg' hb h2 => ?_, fun l' g' b hl' hg' hb h2 => ?_, h.le1, fun l' g' hl' hg' => ?_, h.inj1, fun l1 g1 l2 g2 a1 a2 a3 a4 a5 a6 => ?_, fun l1 l2 g2 a1 a2 a3 a4 => ?_, fun q q1 q2 => ?_, fun q hq => ?_, fun q hq => ?_⟩
  · rw [hrd 0 (fun e => h1 e.symm)]; exact h.root l' hl'
  · by_cases e : l' = l
    · subst e
      rw [hrd0, atF_put _ hok g hg _ hpx g' hg']
      by_cases e2 : g' = g
      · simp [e2]
      · simp [e2, h.mid l' g' hl' hg' h2]
    · rw [hrd _ (fun e' => e (h.inj1 l' l hl' hl h2 e')), if_neg (fun e' => e e'.1)]
      exact h.mid l' g' hl' hg' h2
  · rw [if_neg (fun e' => h1 (by rw [← e'.1]; exact h2))]
    exact h.mid0 l' g' hl' hg' h2
  · by_cases e : l' = l ∧ g' = g
    · obtain ⟨rfl, rfl⟩ := e
      simp only [and_self, if_true]
      rw [hrd p hpl, hz, atF_zer b hb, h.leaf0 l' g' b hl' hg' hb h0]
    · rw [if_neg e] at h2 ⊢
      rw [hrd _ (fun e' => h.apart l l' g' hl hl' hg' h1 e'.symm)]
      exact h.leaf l' g' b hl' hg' hb h2
  · by_cases e : l' = l ∧ g' = g
    · rw [if_pos e] at h2; omega
    · rw [if_neg e] at h2; exact h.leaf0 l' g' b hl' hg' hb h2
  · by_cases e : l' = l ∧ g' = g
    · rw [if_pos e]; exact hp.2
    · rw [if_neg e]; exact h.le2 l' g' hl' hg'
  · by_cases e1 : l1 = l ∧ g1 = g
    · by_cases e2 : l2 = l ∧ g2 = g
      · omega
      · rw [if_pos e1, if_neg e2] at a6
        exact absurd (.inr ⟨l2, g2, a3, a4, a6.symm⟩) hfree
    · by_cases e2 : l2 = l ∧ g2 = g
      · rw [if_neg e1, if_pos e2] at a6
        exact absurd (.inr ⟨l1, g1, a1, a2, a6⟩) hfree
      · rw [if_neg e1] at a5 a6
        rw [if_neg e2] at a6
        exact h.inj2 l1 g1 l2 g2 a1 a2 a3 a4 a5 a6
  · by_cases e : l2 = l ∧ g2 = g
    · rw [if_pos e]
      exact fun e' => hfree (.inl ⟨l1, a1, e'⟩)
    · rw [if_neg e]; exact h.apart l1 l2 g2 a1 a2 a3 a4
  · by_cases e : q = r1 l
    · subst e
      refine ⟨fun _ => .inl ⟨l, hl, rfl⟩, fun _ => .inl ?_⟩
      rw [hrd0]
      exact put_ne hok g hg _ (by omega)
    · rw [hrd q e]
      constructor
      · rintro (b1 | ⟨b1, _⟩ | b1)
        · rcases (h.used q q1 q2).1 (.inl b1) with c | ⟨l', g', c1, c2, c3⟩
          · exact .inl c
          · exact .inr ⟨l', g', c1, c2, by rw [if_neg (fun e => by rw [e.1, e.2, h0] at c3; omega)]; exact c3⟩
        · rcases (h.used q q1 q2).1 (.inr b1) with c | ⟨l', g', c1, c2, c3⟩
          · exact .inl c
          · exact .inr ⟨l', g', c1, c2, by rw [if_neg (fun e => by rw [e.1, e.2, h0] at c3; omega)]; exact c3⟩
        · exact .inr ⟨l, g, hl, hg, by rw [if_pos ⟨rfl, rfl⟩, b1]⟩
      · rintro (c | ⟨l', g', c1, c2, c3⟩)
        · rcases (h.used q q1 q2).2 (.inl c) with d | d
          · exact .inl d
          · exact .inr (.inl ⟨d, e⟩)
        · by_cases e2 : l' = l ∧ g' = g
          · rw [if_pos e2] at c3; exact .inr (.inr c3.symm)
          · rw [if_neg e2] at c3
            rcases (h.used q q1 q2).2 (.inr ⟨l', g', c1, c2, c3⟩) with d | d
            · exact .inl d
            · exact .inr (.inl ⟨d, e⟩)
  · rcases hq with ⟨hq, hne⟩ | hq
    · have := h.pend q hq
      rw [hrd q hne]; exact this
    · rw [hq, hrd p hpl]; exact ⟨hp.1, hz⟩
  · by_cases e : q = r1 l
    · rw [e, hrd0]; exact (h.ok (r1 l) (h.le1 l hl)).put g hg _ hpx
    · rw [hrd q e]; exact h.ok q hq
/-- A number is laid. -/
theorem ForI.lay (h : ForI rd n A M r1 r2) {l g b : Nat} (hl : l < 4) (hg : g < 16) (hb : b < 16) (h1 : r2 l g ≠ 0) (x : Int) (hx : 1 ≤ x ∧ x < 16777216) (hr : r1 l ≠ 0) :
    ForI (rdPut rd (r2 l g) b x) n (fun q => A q ∧ q ≠ r2 l g) (fun l' g' b' => if l' = l ∧ g' = g ∧ b' = b then x else M l' g' b') r1 r2 := by
  have hrd : ∀ q, q ≠ r2 l g → rdPut rd (r2 l g) b x q = rd q := fun q hq => by unfold rdPut; rw [if_neg hq]
  have hrd0 : rdPut rd (r2 l g) b x (r2 l g) = putNF (rd (r2 l g)) b x := by unfold rdPut; rw [if_pos rfl]
  have hok := h.pg (r2 l g) (h.le2 l g hl hg)
  refine ⟨fun l' hl' => ?_, fun l' g' hl' hg' h2 => ?_, h.mid0, fun l' g' b' hl' hg' hb' h2 => ?_, fun l' g' b' hl' hg' hb' h2 => ?_, h.le1, h.le2, h.inj1, h.inj2, h.apart, fun q q1 q2 => ?_, fun q hq => ?_, fun q hq => ?_⟩
  · rw [hrd 0 (fun e => h1 e.symm)]; exact h.root l' hl'
  · rw [hrd _ (h.apart l' l g hl' hl hg h2)]; exact h.mid l' g' hl' hg' h2
  · by_cases e : l' = l ∧ g' = g
    · obtain ⟨rfl, rfl⟩ := e
      rw [hrd0, atF_put _ hok b hb x ⟨by omega, hx.2⟩ b' hb']
      by_cases e2 : b' = b
      · simp [e2]
      · simp [e2, h.leaf l' g' b' hl' hg' hb' h2]
    · rw [hrd _ (fun e' => e (h.inj2 l' g' l g hl' hg' hl hg h2 e')), if_neg (fun e' => e ⟨e'.1, e'.2.1⟩)]
      exact h.leaf l' g' b' hl' hg' hb' h2
  · rw [if_neg (fun e' => h1 (by rw [← e'.1, ← e'.2.1]; exact h2))]
    exact h.leaf0 l' g' b' hl' hg' hb' h2
  · by_cases e : q = r2 l g
    · subst e
      refine ⟨fun _ => .inr ⟨l, g, hl, hg, rfl⟩, fun _ => .inl ?_⟩
      rw [hrd0]
      exact put_ne hok b hb x hx
    · rw [hrd q e]
      constructor
      · rintro (c | ⟨c, _⟩)
        · exact (h.used q q1 q2).1 (.inl c)
        · exact (h.used q q1 q2).1 (.inr c)
      · intro c
        rcases (h.used q q1 q2).2 c with d | d
        · exact .inl d
        · exact .inr ⟨d, e⟩
  · have := h.pend q hq.1
    rw [hrd q hq.2]; exact this
  · by_cases e : q = r2 l g
    · rw [e, hrd0]; exact (h.ok (r2 l g) (h.le2 l g hl hg)).put b hb x ⟨by omega, hx.2⟩
    · rw [hrd q e]; exact h.ok q hq
end
/-- A forest that has nothing. -/
theorem ForI.start (n : Nat) : ForI (fun _ => zer 64) n (fun _ => False) (fun _ _ _ => 0) (fun _ => 0) (fun _ _ => 0) where
  root := fun l hl => atF_zer l (by omega)
  mid := fun l g hl hg h => absurd rfl h
  mid0 := fun _ _ _ _ _ => rfl
  leaf := fun l g b hl hg hb h => absurd rfl h
  leaf0 := fun _ _ _ _ _ _ _ => rfl
  le1 := fun _ _ => Nat.zero_le _
  le2 := fun _ _ _ _ => Nat.zero_le _
  inj1 := fun _ _ _ _ h => absurd rfl h
  inj2 := fun _ _ _ _ _ _ _ _ h => absurd rfl h
  apart := fun _ _ _ _ _ _ h => absurd rfl h
  used := fun p h1 h2 => ⟨fun h => by rcases h with h | h; exact absurd rfl h; exact h.elim, fun h => by
    rcases h with ⟨l, _, h⟩ | ⟨l, g, _, _, h⟩ <;> omega⟩
  pend := fun _ h => h.elim
  ok := fun _ _ => NdOk.zer
end Go.Proofs.YtjikpodghmfjcaaGreatDoor
set_option linter.unnecessarySimpa false
namespace Go.Proofs.YtjikpodghmfjcaaGreatDoor
open Go.RowKit Go.Maps
def rdOf (B : BookS) (first : Nat) : Nat → List Int := fun p => B.view (first + p)
def ndOf (a b : Nat) : Nat → Nat
  | 0 => 0
  | 1 => a
  | _ => b
def plOf (l g b : Nat) : Nat → Nat
  | 0 => l
  | 1 => g
  | _ => b
section
variable {B : BookS} {first n : Nat} {A : Nat → Prop} {M : Nat → Nat → Nat → Int} {r1 : Nat → Nat} {r2 : Nat → Nat → Nat}
theorem way0 (h : ForI (rdOf B first) n A M r1 r2) {l block : Nat} (hl : l < 4) (hb : block < 256) (h1 : r1 l = 0) (a b : Nat) : WayS B first n l block 0 (ndOf a b) (plOf l (block / 16) (block % 16)) where
  hm := by decide
  nd0 := rfl
  pl0 := rfl
  pl1 := by show block / 16 = block / 16 % 16; omega
  pl2 := rfl
  le := fun k hk => by rw [show k = 0 by omega]; exact Nat.zero_le _
  on := fun k hk => by omega
  last := fun _ => by
    have := h.root l hl
    rw [h1] at this
    exact this
theorem way1 (h : ForI (rdOf B first) n A M r1 r2) {l block : Nat} (hl : l < 4) (hb : block < 256) (h1 : r1 l ≠ 0) (h2 : r2 l (block / 16) = 0) (b : Nat) : WayS B first n l block 1 (ndOf (r1 l) b) (plOf l (block / 16) (block % 16)) where
  hm := by decide
  nd0 := rfl
  pl0 := rfl
  pl1 := by show block / 16 = block / 16 % 16; omega
  pl2 := rfl
  le := fun k hk => by
    rcases (show k = 0 ∨ k = 1 by omega) with rfl | rfl
    · exact Nat.zero_le _
    · exact h.le1 l hl
  on := fun k hk => by
    rw [show k = 0 by omega]
    exact ⟨h.root l hl, h1⟩
  last := fun _ => by
    have := h.mid l (block / 16) hl (by omega) h1
    rw [h2] at this
    exact this
theorem way2 (h : ForI (rdOf B first) n A M r1 r2) {l block : Nat} (hl : l < 4) (hb : block < 256) (h1 : r1 l ≠ 0) (h2 : r2 l (block / 16) ≠ 0) : WayS B first n l block 2 (ndOf (r1 l) (r2 l (block / 16))) (plOf l (block / 16) (block % 16)) where
  hm := by decide
  nd0 := rfl
  pl0 := rfl
  pl1 := by show block / 16 = block / 16 % 16; omega
  pl2 := rfl
  le := fun k hk => by
    rcases (show k = 0 ∨ k = 1 ∨ k = 2 by omega) with rfl | rfl | rfl
    · exact Nat.zero_le _
    · exact h.le1 l hl
    · exact h.le2 l _ hl (by omega)
  on := fun k hk => by
    rcases (show k = 0 ∨ k = 1 by omega) with rfl | rfl
    · exact ⟨h.root l hl, h1⟩
    · exact ⟨h.mid l (block / 16) hl (by omega) h1, h2⟩
  last := fun h => by omega
/-- Get answers what the forest has. -/
theorem rget_for (h : ForI (rdOf B first) n A M r1 r2) (tb : Nat) (N : Nat → Prop) (bb : Nat) (hn : first + n < B.n) {l block : Nat} (hl : l < 4) (hb : block < 256) (w : World) (hh : HolI 119 w tb N bb first n B) :
    Calls Tryz.prog 22 #[.pointer (some ⟨tb, 0, none⟩), .int .i64 (l : Int), .int .i64 (block : Int)] w fun e w' => e = .returned (.tuple #[.int .i64 (M l (block / 16) (block % 16)), .nilIface]) ∧ Below w.heap.size w w' := by
  by_cases h1 : r1 l = 0
  · rw [h.leaf0 l (block / 16) (block % 16) hl (by omega) (by omega) (h.mid0 l _ hl (by omega) h1)]
    exact rget_zero tb N bb first n B l block 0 hl hb hn _ _ (by decide) (way0 h hl hb h1 0 0) w hh
  · by_cases h2 : r2 l (block / 16) = 0
    · rw [h.leaf0 l (block / 16) (block % 16) hl (by omega) (by omega) h2]
      exact rget_zero tb N bb first n B l block 1 hl hb hn _ _ (by decide) (way1 h hl hb h1 h2 0) w hh
    · have e : atF (B.view (first + ndOf (r1 l) (r2 l (block / 16)) 2)) (plOf l (block / 16) (block % 16) 2) = M l (block / 16) (block % 16) := h.leaf l (block / 16) (block % 16) hl (by omega) (by omega) h2
      rw [← e]
      exact rget_some tb N bb first n B l block hl hb hn _ _ (way2 h hl hb h1 h2) w hh
end
end Go.Proofs.YtjikpodghmfjcaaGreatDoor
set_option linter.unnecessarySimpa false
namespace Go.Proofs.YtjikpodghmfjcaaGreatDoor
open Go.RowKit Go.Maps
theorem wrOk_few {B : BookS} {k : Nat} (h : B.cnt ≤ k) (hk : k < 60) (i : Nat) (p : List Int) : WrOk B i p := .inr (.inr (by show B.cnt ≠ 60; omega))
theorem rdOf_wrote (B : BookS) (first q k : Nat) (x : Int) : rdOf (B.wrote (first + q) (putNF (B.view (first + q)) k x)) first = rdPut (rdOf B first) q k x := by
  funext p
  unfold rdOf rdPut
  rw [BookS.wrote_view]
  by_cases h : p = q
  · rw [if_pos (by omega), if_pos h]
  · rw [if_neg (by omega), if_neg h]
theorem ForI.unpend {rd : Nat → List Int} {n : Nat} {A : Nat → Prop} {M : Nat → Nat → Nat → Int} {r1 : Nat → Nat} {r2 : Nat → Nat → Nat} (h : ForI rd n A M r1 r2) (hA : ∀ p, ¬ A p) : ForI rd n (fun _ => False) M r1 r2 :=
  ⟨h.root, h.mid, h.mid0, h.leaf, h.leaf0, h.le1, h.le2, h.inj1, h.inj2, h.apart, fun p a b => (Iff.intro (fun h => h.elim .inl (fun h => h.elim)) (fun h' => h'.elim .inl (fun h => absurd h (hA p)))).trans (h.used p a b), fun p hp => hp.elim, h.ok⟩
/-- The first free node, but for one. -/
def FirstF (rd : Nat → List Int) (n : Nat) (but : Nat → Prop) (p : Nat) : Prop := 1 ≤ p ∧ p ≤ n ∧ rd p = zer 64 ∧ ¬ but p ∧ ∀ j, 1 ≤ j → j < p → rd j ≠ zer 64 ∨ but j
section
variable {B : BookS} {first n : Nat} {M : Nat → Nat → Nat → Int} {r1 : Nat → Nat} {r2 : Nat → Nat → Nat}
def layM (M : Nat → Nat → Nat → Int) (l g b : Nat) (x : Int) : Nat → Nat → Nat → Int := fun l' g' b' => if l' = l ∧ g' = g ∧ b' = b then x else M l' g' b'
/-- What a set makes of a book. -/
def SetR (B B' : BookS) (first n : Nat) (M : Nat → Nat → Nat → Int) (l block : Nat) (x : Int) (r1 : Nat → Nat) (r2 : Nat → Nat → Nat) : Prop :=
  B'.n = B.n ∧ B'.cnt ≤ B.cnt + 3 ∧ B'.shut = B.shut ∧ ForI (rdOf B' first) n (fun _ => False) (layM M l (block / 16) (block % 16) x) r1 r2
theorem rset_for2 (h : ForI (rdOf B first) n (fun _ => False) M r1 r2) (tb : Nat) (N : Nat → Prop) (bb : Nat) (hn : first + n < B.n) (hc : B.cnt ≤ 50) {l block : Nat} (hl : l < 4) (hb : block < 256) (x : Int) (hx : 1 ≤ x ∧ x < 16777216) (h1 : r1 l ≠ 0) (h2 : r2 l (block / 16) ≠ 0) (w : World) (hh : HolI 119 w tb N bb first n B) :
    Calls Tryz.prog 21 #[.pointer (some ⟨tb, 0, none⟩), .int .i64 (l : Int), .int .i64 (block : Int), .int .i64 x] w fun e w' => e = .returned .nilIface ∧ (∃ B', HolI 119 w' tb N bb first n B' ∧ SetR B B' first n M l block x r1 r2) ∧ Keeps N w w' := by
  have hle := h.le2 l (block / 16) hl (by omega)
  have hs : SetS first n 2 (ndOf (r1 l) (r2 l (block / 16))) (plOf l (block / 16) (block % 16)) (fun _ => B) x :=
    ⟨fun k _ hk => by omega, fun k _ hk => by omega, fun k _ hk => by omega, fun k _ hk => by omega, fun k _ hk => by omega, fun k _ hk => by omega, wrOk_few hc (by decide) _ _⟩
  refine (rset_any tb N bb first n B l block 2 hl hb hn _ _ (way2 h hl hb h1 h2) (fun _ => B) x hx hs rfl w hh).mono ?_
  rintro e w' ⟨rfl, hH, hk⟩
  refine ⟨rfl, ⟨_, hH, BookS.wrote_n _ _ _, ?_, BookS.wrote_shut _ _ _, ?_⟩, hk⟩
  · have := BookS.wrote_cnt B (first + r2 l (block / 16)) (putNF (B.view (first + r2 l (block / 16))) (block % 16) x) (by omega)
    show (B.wrote (first + r2 l (block / 16)) (putNF (B.view (first + r2 l (block / 16))) (block % 16) x)).cnt ≤ _
    omega
  · show ForI (rdOf (B.wrote (first + r2 l (block / 16)) (putNF (B.view (first + r2 l (block / 16))) (block % 16) x)) first) n _ _ r1 r2
    rw [rdOf_wrote]
    exact (h.lay hl (show block / 16 < 16 by omega) (show block % 16 < 16 by omega) h2 x hx h1).unpend (fun p hp => hp.1)
theorem rset_for1 (h : ForI (rdOf B first) n (fun _ => False) M r1 r2) (tb : Nat) (N : Nat → Prop) (bb : Nat) (hn : first + n < B.n) (hn2 : n ≤ 4095) (hc : B.cnt ≤ 50) {l block : Nat} (hl : l < 4) (hb : block < 256) (x : Int) (hx : 1 ≤ x ∧ x < 16777216) (h1 : r1 l ≠ 0) (h2 : r2 l (block / 16) = 0) (p : Nat) (hp : FirstF (rdOf B first) n (fun _ => False) p) (w : World) (hh : HolI 119 w tb N bb first n B) :
    Calls Tryz.prog 21 #[.pointer (some ⟨tb, 0, none⟩), .int .i64 (l : Int), .int .i64 (block : Int), .int .i64 x] w fun e w' => e = .returned .nilIface ∧ (∃ B', HolI 119 w' tb N bb first n B' ∧ SetR B B' first n M l block x r1 (fun l' g' => if l' = l ∧ g' = block / 16 then p else r2 l' g')) ∧ Keeps N w w' := by
  obtain ⟨p1, p2, p3, _, p4⟩ := hp
  have hg : block / 16 < 16 := by omega
  have hle := h.le1 l hl
  have hL := h.link2 hl hg h1 h2 ⟨p1, p2⟩ hn2 p3 (fun h => h)
  rw [← rdOf_wrote] at hL
  have hn' : (B.wrote (first + r1 l) (putNF (B.view (first + r1 l)) (block / 16) (p : Int))).n = B.n := BookS.wrote_n _ _ _
  have hc' := BookS.wrote_cnt B (first + r1 l) (putNF (B.view (first + r1 l)) (block / 16) (p : Int)) (by omega)
  have hbs := BookS.wrote_shut B (first + r1 l) (putNF (B.view (first + r1 l)) (block / 16) (p : Int))
  generalize hB2 : B.wrote (first + r1 l) (putNF (B.view (first + r1 l)) (block / 16) (p : Int)) = B2 at hL hn' hc' hbs
  have hs : SetS first n 1 (ndOf (r1 l) p) (plOf l (block / 16) (block % 16)) (fun k => if k = 2 then B2 else B) x := by
    refine ⟨fun k a b => ?_, fun k a b => ?_, fun k a b => ?_, fun k a b j j1 j2 => ?_, fun k a b => ?_, fun k a b => ?_, ?_⟩
    · rw [show k = 1 by omega]; exact ⟨p1, p2⟩
    · rw [show k = 1 by omega]; exact p3
    · rw [show k = 1 by omega, ahF_self]; simp
    · rw [show k = 1 by omega] at j2 ⊢
      rcases p4 j j1 j2 with q | q
      · exact .inl q
      · exact q.elim
    · rw [show k = 1 by omega]; exact wrOk_few hc (by decide) _ _
    · rw [show k = 1 by omega]; exact hB2.symm
    · exact wrOk_few (k := 51) (show B2.cnt ≤ 51 by omega) (by decide) _ _
  refine (rset_any tb N bb first n B l block 1 hl hb hn _ _ (way1 h hl hb h1 h2 p) _ x hx hs rfl w hh).mono ?_
  rintro e w' ⟨rfl, hH, hk⟩
  have hlay := hL.lay hl hg (show block % 16 < 16 by omega) (show (if l = l ∧ block / 16 = block / 16 then p else r2 l (block / 16)) ≠ 0 by rw [if_pos ⟨rfl, rfl⟩]; omega) x hx h1
  rw [if_pos (show l = l ∧ block / 16 = block / 16 from ⟨rfl, rfl⟩)] at hlay
  have hfin : (if (2 : Nat) = 2 then B2 else B) = B2 := rfl
  refine ⟨rfl, ⟨B2.wrote (first + p) (putNF (B2.view (first + p)) (block % 16) x), hH, by rw [BookS.wrote_n]; exact hn', ?_, by rw [BookS.wrote_shut]; exact hbs, ?_⟩, hk⟩
  · have := BookS.wrote_cnt B2 (first + p) (putNF (B2.view (first + p)) (block % 16) x) (by omega)
    omega
  · rw [rdOf_wrote]
    exact hlay.unpend (fun q hq => by
      rcases hq.1 with h6 | h6
      · exact h6.1
      · exact hq.2 h6)
theorem rset_for0 (h : ForI (rdOf B first) n (fun _ => False) M r1 r2) (tb : Nat) (N : Nat → Prop) (bb : Nat) (hn : first + n < B.n) (hn2 : n ≤ 4095) (hc : B.cnt ≤ 50) {l block : Nat} (hl : l < 4) (hb : block < 256) (x : Int) (hx : 1 ≤ x ∧ x < 16777216) (h1 : r1 l = 0) (p p' : Nat) (hp : FirstF (rdOf B first) n (fun _ => False) p) (hp' : FirstF (rdOf B first) n (fun q => q = p) p') (w : World) (hh : HolI 119 w tb N bb first n B) :
    Calls Tryz.prog 21 #[.pointer (some ⟨tb, 0, none⟩), .int .i64 (l : Int), .int .i64 (block : Int), .int .i64 x] w fun e w' => e = .returned .nilIface ∧ (∃ B', HolI 119 w' tb N bb first n B' ∧ SetR B B' first n M l block x (fun l' => if l' = l then p else r1 l') (fun l' g' => if l' = l ∧ g' = block / 16 then p' else r2 l' g')) ∧ Keeps N w w' := by
  obtain ⟨p1, p2, p3, _, p4⟩ := hp
  obtain ⟨q1, q2, q3, q5, q4⟩ := hp'
  have hg : block / 16 < 16 := by omega
  have h2 : r2 l (block / 16) = 0 := h.mid0 l _ hl hg h1
  have hL1 := h.link1 hl h1 ⟨p1, p2⟩ hn2 p3 (fun h => h)
  rw [← rdOf_wrote] at hL1
  have hn1 : (B.wrote (first + 0) (putNF (B.view (first + 0)) l (p : Int))).n = B.n := BookS.wrote_n _ _ _
  have hc1 := BookS.wrote_cnt B (first + 0) (putNF (B.view (first + 0)) l (p : Int)) (by omega)
  have hbs1 := BookS.wrote_shut B (first + 0) (putNF (B.view (first + 0)) l (p : Int))
  have hv1 : ∀ j, 1 ≤ j → rdOf (B.wrote (first + 0) (putNF (B.view (first + 0)) l (p : Int))) first j = rdOf B first j := fun j hj => by
    unfold rdOf
    rw [BookS.wrote_view, if_neg (by omega)]
  generalize hB1 : B.wrote (first + 0) (putNF (B.view (first + 0)) l (p : Int)) = B1 at hL1 hn1 hc1 hbs1 hv1
  have hL2 := hL1.link2 hl hg (show (if l = l then p else r1 l) ≠ 0 by rw [if_pos rfl]; omega) h2 ⟨q1, q2⟩ hn2 (by rw [hv1 p' q1]; exact q3) (fun h => by rcases h with h | h; exact h; exact q5 h)
  rw [if_pos (show l = l from rfl)] at hL2
  rw [← rdOf_wrote] at hL2
  have hn2' : (B1.wrote (first + p) (putNF (B1.view (first + p)) (block / 16) (p' : Int))).n = B1.n := BookS.wrote_n _ _ _
  have hc2 := BookS.wrote_cnt B1 (first + p) (putNF (B1.view (first + p)) (block / 16) (p' : Int)) (by omega)
  have hbs2 := BookS.wrote_shut B1 (first + p) (putNF (B1.view (first + p)) (block / 16) (p' : Int))
  generalize hB2 : B1.wrote (first + p) (putNF (B1.view (first + p)) (block / 16) (p' : Int)) = B2 at hL2 hn2' hc2 hbs2
  have hs : SetS first n 0 (ndOf p p') (plOf l (block / 16) (block % 16)) (fun k => if k = 2 then B2 else if k = 1 then B1 else B) x := by
    refine ⟨fun k a b => ?_, fun k a b => ?_, fun k a b => ?_, fun k a b j j1 j2 => ?_, fun k a b => ?_, fun k a b => ?_, ?_⟩
    · rcases (show k = 0 ∨ k = 1 by omega) with rfl | rfl
      · exact ⟨p1, p2⟩
      · exact ⟨q1, q2⟩
    · rcases (show k = 0 ∨ k = 1 by omega) with rfl | rfl
      · exact p3
      · have := hv1 p' q1
        show rdOf B1 first p' = zer 64
        rw [this]; exact q3
    · rcases (show k = 0 ∨ k = 1 by omega) with rfl | rfl
      · rw [ahF_self]; simp
      · rw [ahF_succ _ 0 0 (Nat.le_refl _), ahF_self]
        show (p' : Int) ∉ [(p : Int)]
        simp only [List.mem_singleton]
        omega
    · rcases (show k = 0 ∨ k = 1 by omega) with rfl | rfl
      · rcases p4 j j1 j2 with q | q
        · exact .inl q
        · exact q.elim
      · rcases q4 j j1 j2 with q | q
        · left
          show rdOf B1 first j ≠ zer 64
          rw [hv1 j j1]; exact q
        · right
          rw [ahF_succ _ 0 0 (Nat.le_refl _), ahF_self, q]
          show (p : Int) ∈ [(p : Int)]
          simp
    · rcases (show k = 0 ∨ k = 1 by omega) with rfl | rfl
      · exact wrOk_few hc (by decide) _ _
      · exact wrOk_few (k := 51) (show B1.cnt ≤ 51 by omega) (by decide) _ _
    · rcases (show k = 0 ∨ k = 1 by omega) with rfl | rfl
      · exact hB1.symm
      · exact hB2.symm
    · exact wrOk_few (k := 52) (show B2.cnt ≤ 52 by omega) (by decide) _ _
  refine (rset_any tb N bb first n B l block 0 hl hb hn _ _ (way0 h hl hb h1 p p') _ x hx hs rfl w hh).mono ?_
  rintro e w' ⟨rfl, hH, hk⟩
  have hlay := hL2.lay hl hg (show block % 16 < 16 by omega) (show (if l = l ∧ block / 16 = block / 16 then p' else r2 l (block / 16)) ≠ 0 by rw [if_pos ⟨rfl, rfl⟩]; omega) x hx (show (if l = l then p else r1 l) ≠ 0 by rw [if_pos rfl]; omega)
  rw [if_pos (show l = l ∧ block / 16 = block / 16 from ⟨rfl, rfl⟩)] at hlay
  refine ⟨rfl, ⟨B2.wrote (first + p') (putNF (B2.view (first + p')) (block % 16) x), hH, by rw [BookS.wrote_n, hn2', hn1], ?_, by rw [BookS.wrote_shut, hbs2, hbs1], ?_⟩, hk⟩
  · have := BookS.wrote_cnt B2 (first + p') (putNF (B2.view (first + p')) (block % 16) x) (by omega)
    omega
  · rw [rdOf_wrote]
    exact hlay.unpend (fun q hq => by
      rcases hq with ⟨h6 | h6, h7⟩
      · rcases h6 with ⟨h8 | h8, h9⟩
        · exact h8
        · exact h9 h8
      · exact h7 h6)
end
end Go.Proofs.YtjikpodghmfjcaaGreatDoor
set_option linter.unnecessarySimpa false
namespace Go.Proofs.YtjikpodghmfjcaaGreatDoor
open Go.RowKit Go.Maps
theorem nodup_le : ∀ (l m : List Nat), l.Nodup → (∀ x ∈ l, x ∈ m) → l.length ≤ m.length
  | [], m, _, _ => Nat.zero_le _
  | x :: l, m, hn, hs => by
    have hx : x ∈ m := hs x (by simp)
    have h1 := List.length_erase_of_mem hx
    have hp := List.length_pos_of_mem hx
    obtain ⟨hnx, hnl⟩ := List.nodup_cons.1 hn
    have ih := nodup_le l (m.erase x) hnl (fun y hy => by
      have hyx : y ≠ x := fun e => hnx (e ▸ hy)
      exact (List.mem_erase_of_ne hyx).2 (hs y (by simp [hy])))
    simp only [List.length_cons]
    omega
theorem least (P : Nat → Prop) : ∀ n, (∃ p, 1 ≤ p ∧ p ≤ n ∧ P p) → ∃ p, 1 ≤ p ∧ p ≤ n ∧ P p ∧ ∀ j, 1 ≤ j → j < p → ¬ P j
  | 0, ⟨p, h1, h2, _⟩ => by omega
  | n + 1, ⟨p, h1, h2, h3⟩ => by
    by_cases h : ∃ p, 1 ≤ p ∧ p ≤ n ∧ P p
    · obtain ⟨q, a, b, c, d⟩ := least P n h
      exact ⟨q, a, by omega, c, d⟩
    · have hp : p = n + 1 := by
        rcases Nat.lt_or_ge p (n + 1) with q | q
        · exact absurd ⟨p, h1, by omega, h3⟩ h
        · omega
      exact ⟨p, h1, h2, h3, fun j a b c => h ⟨j, a, by omega, c⟩⟩
/-- All the nodes that may be linked. -/
def allN (r1 : Nat → Nat) (r2 : Nat → Nat → Nat) : List Nat := (List.range 4).map r1 ++ (List.range 64).map fun i => r2 (i / 16) (i % 16)
theorem allN_mem {r1 : Nat → Nat} {r2 : Nat → Nat → Nat} {p : Nat} (h : (∃ l, l < 4 ∧ r1 l = p) ∨ ∃ l g, l < 4 ∧ g < 16 ∧ r2 l g = p) : p ∈ allN r1 r2 := by
  unfold allN
  rw [List.mem_append]
  rcases h with ⟨l, h1, h2⟩ | ⟨l, g, h1, h2, h3⟩
  · exact .inl (List.mem_map.2 ⟨l, List.mem_range.2 h1, h2⟩)
  · refine .inr (List.mem_map.2 ⟨l * 16 + g, List.mem_range.2 (by omega), ?_⟩)
    rw [show (l * 16 + g) / 16 = l by omega, show (l * 16 + g) % 16 = g by omega]; exact h3
theorem allN_length (r1 : Nat → Nat) (r2 : Nat → Nat → Nat) : (allN r1 r2).length = 68 := by simp [allN]
theorem ForI.room {rd : Nat → List Int} {n : Nat} {M : Nat → Nat → Nat → Int} {r1 : Nat → Nat} {r2 : Nat → Nat → Nat} (h : ForI rd n (fun _ => False) M r1 r2) (hn : 70 ≤ n) (q : Nat) : ∃ p, FirstF rd n (fun p => p = q) p := by
  have hex : ∃ p, 1 ≤ p ∧ p ≤ n ∧ (rd p = zer 64 ∧ p ≠ q) := by
    apply Classical.byContradiction
    intro hno
    have hall : ∀ p, 1 ≤ p → p ≤ n → p ∈ q :: allN r1 r2 := fun p a b => by
      rw [List.mem_cons]
      by_cases hq : p = q
      · exact .inl hq
      · right
        refine allN_mem ((h.used p a b).1 (.inl (fun hz => hno ⟨p, a, b, hz, hq⟩)))
    have := nodup_le (List.range' 1 n) (q :: allN r1 r2) List.nodup_range' (fun x hx => by
      have := List.mem_range'_1.1 hx
      exact hall x this.1 (by omega))
    simp only [List.length_range', List.length_cons, allN_length] at this
    omega
  obtain ⟨p, a, b, ⟨c, d⟩, e⟩ := least (fun p => rd p = zer 64 ∧ p ≠ q) n hex
  refine ⟨p, a, b, c, d, fun j j1 j2 => ?_⟩
  have := e j j1 j2
  by_cases hz : rd j = zer 64
  · right
    apply Classical.byContradiction
    intro hq
    exact this ⟨hz, hq⟩
  · exact .inl hz
theorem FirstF.any {rd : Nat → List Int} {n p : Nat} (h : FirstF rd n (fun q => q = 0) p) : FirstF rd n (fun _ => False) p := by
  obtain ⟨a, b, c, d, e⟩ := h
  refine ⟨a, b, c, fun h => h, fun j j1 j2 => ?_⟩
  rcases e j j1 j2 with q | q
  · exact .inl q
  · omega
/-- A number that is not 0 is set. -/
theorem rset_room {B : BookS} {first n : Nat} {M : Nat → Nat → Nat → Int} {r1 : Nat → Nat} {r2 : Nat → Nat → Nat} (h : ForI (rdOf B first) n (fun _ => False) M r1 r2) (hn70 : 70 ≤ n) (tb : Nat) (N : Nat → Prop) (bb : Nat) (hn : first + n < B.n) (hn2 : n ≤ 4095) (hc : B.cnt ≤ 50) {l block : Nat} (hl : l < 4) (hb : block < 256) (x : Int) (hx : 1 ≤ x ∧ x < 16777216) (w : World) (hh : HolI 119 w tb N bb first n B) :
    Calls Tryz.prog 21 #[.pointer (some ⟨tb, 0, none⟩), .int .i64 (l : Int), .int .i64 (block : Int), .int .i64 x] w fun e w' => e = .returned .nilIface ∧ (∃ B' r1' r2', HolI 119 w' tb N bb first n B' ∧ SetR B B' first n M l block x r1' r2') ∧ Keeps N w w' := by
  obtain ⟨p, hp0⟩ := h.room hn70 0
  have hp := hp0.any
  by_cases h1 : r1 l = 0
  · obtain ⟨p', hp'⟩ := h.room hn70 p
    refine (rset_for0 h tb N bb hn hn2 hc hl hb x hx h1 p p' hp hp' w hh).mono ?_
    rintro e w' ⟨rfl, ⟨B', a, b⟩, hk⟩
    exact ⟨rfl, ⟨B', _, _, a, b⟩, hk⟩
  · by_cases h2 : r2 l (block / 16) = 0
    · refine (rset_for1 h tb N bb hn hn2 hc hl hb x hx h1 h2 p hp w hh).mono ?_
      rintro e w' ⟨rfl, ⟨B', a, b⟩, hk⟩
      exact ⟨rfl, ⟨B', _, _, a, b⟩, hk⟩
    · refine (rset_for2 h tb N bb hn hc hl hb x hx h1 h2 w hh).mono ?_
      rintro e w' ⟨rfl, ⟨B', a, b⟩, hk⟩
      exact ⟨rfl, ⟨B', _, _, a, b⟩, hk⟩
end Go.Proofs.YtjikpodghmfjcaaGreatDoor
set_option linter.unnecessarySimpa false
namespace Go.Proofs.YtjikpodghmfjcaaGreatDoor
open Go.RowKit Go.Maps
section
variable {rd : Nat → List Int} {n : Nat} {A : Nat → Prop} {M : Nat → Nat → Nat → Int} {r1 : Nat → Nat} {r2 : Nat → Nat → Nat}
theorem rdPut_ne {rd : Nat → List Int} {q k : Nat} {x : Int} {p : Nat} (h : p ≠ q) : rdPut rd q k x p = rd p := by unfold rdPut; rw [if_neg h]
theorem rdPut_at (rd : Nat → List Int) (q k : Nat) (x : Int) : rdPut rd q k x q = putNF (rd q) k x := by unfold rdPut; rw [if_pos rfl]
/-- A number goes. -/
theorem ForI.unlay (h : ForI rd n (fun _ => False) M r1 r2) {l g b : Nat} (hl : l < 4) (hg : g < 16) (hb : b < 16) (h1 : r2 l g ≠ 0) (hr : r1 l ≠ 0) :
    ForI (rdPut rd (r2 l g) b 0) n (fun q => q = r2 l g ∧ rdPut rd (r2 l g) b 0 q = zer 64) (layM M l g b 0) r1 r2 := by
  have hok := h.pg (r2 l g) (h.le2 l g hl hg)
  have hx : (0 : Int) ≤ 0 ∧ (0 : Int) < 16777216 := by decide
  refine ⟨fun l' hl' => ?_, fun l' g' hl' hg' h2 => ?_, h.mid0, fun l' g' b' hl' hg' hb' h2 => ?_, fun l' g' b' hl' hg' hb' h2 => ?_, h.le1, h.le2, h.inj1, h.inj2, h.apart, fun q q1 q2 => ?_, fun q hq => ?_, fun q hq => ?_⟩
  · rw [rdPut_ne (fun e => h1 e.symm)]; exact h.root l' hl'
  · rw [rdPut_ne (h.apart l' l g hl' hl hg h2)]; exact h.mid l' g' hl' hg' h2
  · unfold layM
    by_cases e : l' = l ∧ g' = g
    · obtain ⟨rfl, rfl⟩ := e
      rw [rdPut_at, atF_put _ hok b hb 0 hx b' hb']
      by_cases e2 : b' = b
      · simp [e2]
      · simp [e2, h.leaf l' g' b' hl' hg' hb' h2]
    · rw [rdPut_ne (fun e' => e (h.inj2 l' g' l g hl' hg' hl hg h2 e')), if_neg (fun e' => e ⟨e'.1, e'.2.1⟩)]
      exact h.leaf l' g' b' hl' hg' hb' h2
  · unfold layM
    rw [if_neg (fun e' => h1 (by rw [← e'.1, ← e'.2.1]; exact h2))]
    exact h.leaf0 l' g' b' hl' hg' hb' h2
  · by_cases e : q = r2 l g
    · refine ⟨fun _ => .inr ⟨l, g, hl, hg, e.symm⟩, fun _ => ?_⟩
      by_cases hz : rdPut rd (r2 l g) b 0 q = zer 64
      · exact .inr ⟨e, hz⟩
      · exact .inl hz
    · rw [rdPut_ne e]
      constructor
      · rintro (c | ⟨c, _⟩)
        · exact (h.used q q1 q2).1 (.inl c)
        · exact absurd c e
      · intro c
        rcases (h.used q q1 q2).2 c with d | d
        · exact .inl d
        · exact d.elim
  · refine ⟨by rw [hq.1]; omega, hq.2⟩
  · by_cases e : q = r2 l g
    · rw [e, rdPut_at]; exact (h.ok (r2 l g) (h.le2 l g hl hg)).put b hb 0 hx
    · rw [rdPut_ne e]; exact h.ok q hq
/-- A group's node goes. -/
theorem ForI.unlink2 {p : Nat} (h : ForI rd n (fun q => q = p) M r1 r2) {l g : Nat} (hp : p = r2 l g) (hl : l < 4) (hg : g < 16) (h1 : r2 l g ≠ 0) (hr : r1 l ≠ 0) (hz : rd p = zer 64) :
    ForI (rdPut rd (r1 l) g 0) n (fun q => q = r1 l ∧ rdPut rd (r1 l) g 0 q = zer 64) M r1 (fun l' g' => if l' = l ∧ g' = g then 0 else r2 l' g') := by
  have hok := h.pg (r1 l) (h.le1 l hl)
  have hx : (0 : Int) ≤ 0 ∧ (0 : Int) < 16777216 := by decide
  have hne : r1 l ≠ p := by rw [hp]; exact h.apart l l g hl hl hg hr
  refine ⟨fun l' hl' => ?_, fun l' g' hl' hg' h2 => ?_, fun l' g' hl' hg' h2 => ?_, fun l' g' b' hl' hg' hb' h2 => ?_, fun l' g' b' hl' hg' hb' h2 => ?_, h.le1, fun l' g' hl' hg' => ?_, h.inj1, fun l1 g1 l2 g2 a1 a2 a3 a4 a5 a6 => ?_, fun l1 l2 g2 a1 a2 a3 a4 => ?_, fun q q1 q2 => ?_, fun q hq => ?_, fun q hq => ?_⟩
  · rw [rdPut_ne (fun e => hr e.symm)]; exact h.root l' hl'
  · by_cases e : l' = l
    · subst e
      rw [rdPut_at, atF_put _ hok g hg 0 hx g' hg']
      by_cases e2 : g' = g
      · rw [if_pos e2, if_pos ⟨rfl, e2⟩]; rfl
      · rw [if_neg e2, if_neg (fun e' => e2 e'.2)]; exact h.mid l' g' hl' hg' h2
    · rw [rdPut_ne (fun e' => e (h.inj1 l' l hl' hl h2 e')), if_neg (fun e' => e e'.1)]
      exact h.mid l' g' hl' hg' h2
  · split
    · rfl
    · exact h.mid0 l' g' hl' hg' h2
  · by_cases e : l' = l ∧ g' = g
    · rw [if_pos e] at h2; exact absurd rfl h2
    · rw [if_neg e] at h2 ⊢
      rw [rdPut_ne (fun e' => h.apart l l' g' hl hl' hg' hr e'.symm)]
      exact h.leaf l' g' b' hl' hg' hb' h2
  · by_cases e : l' = l ∧ g' = g
    · have hh := h.leaf l g b' hl hg hb' h1
      rw [← hp, hz, atF_zer b' hb'] at hh
      rw [e.1, e.2]; exact hh.symm
    · rw [if_neg e] at h2; exact h.leaf0 l' g' b' hl' hg' hb' h2
  · split
    · exact Nat.zero_le _
    · exact h.le2 l' g' hl' hg'
  · by_cases e1 : l1 = l ∧ g1 = g
    · rw [if_pos e1] at a5; exact absurd rfl a5
    · rw [if_neg e1] at a5 a6
      by_cases e2 : l2 = l ∧ g2 = g
      · rw [if_pos e2] at a6; exact absurd a6 a5
      · rw [if_neg e2] at a6; exact h.inj2 l1 g1 l2 g2 a1 a2 a3 a4 a5 a6
  · split
    · exact a4
    · exact h.apart l1 l2 g2 a1 a2 a3 a4
  · by_cases e : q = r1 l
    · refine ⟨fun _ => .inl ⟨l, hl, e.symm⟩, fun _ => ?_⟩
      by_cases hzq : rdPut rd (r1 l) g 0 q = zer 64
      · exact .inr ⟨e, hzq⟩
      · exact .inl hzq
    · rw [rdPut_ne e]
      constructor
      · rintro (c | ⟨c, _⟩)
        · rcases (h.used q q1 q2).1 (.inl c) with d | ⟨l', g', d1, d2, d3⟩
          · exact .inl d
          · refine .inr ⟨l', g', d1, d2, ?_⟩
            rw [if_neg (fun e' => c (by rw [← d3, e'.1, e'.2, ← hp]; exact hz))]
            exact d3
        · exact absurd c e
      · rintro (c | ⟨l', g', c1, c2, c3⟩)
        · rcases (h.used q q1 q2).2 (.inl c) with d | d
          · exact .inl d
          · obtain ⟨l', c1, c2⟩ := c
            exact absurd (c2.trans (d.trans hp)) (h.apart l' l g c1 hl hg (by rw [c2]; omega))
        · by_cases e2 : l' = l ∧ g' = g
          · rw [if_pos e2] at c3; omega
          · rw [if_neg e2] at c3
            rcases (h.used q q1 q2).2 (.inr ⟨l', g', c1, c2, c3⟩) with d | d
            · exact .inl d
            · exact absurd (h.inj2 l' g' l g c1 c2 hl hg (by rw [c3]; omega) (by rw [c3, d, hp])) e2
  · exact ⟨by rw [hq.1]; omega, hq.2⟩
  · by_cases e : q = r1 l
    · rw [e, rdPut_at]; exact (h.ok (r1 l) (h.le1 l hl)).put g hg 0 hx
    · rw [rdPut_ne e]; exact h.ok q hq
/-- A unit's node goes. -/
theorem ForI.unlink1 {p : Nat} (h : ForI rd n (fun q => q = p) M r1 r2) {l : Nat} (hp : p = r1 l) (hl : l < 4) (hr : r1 l ≠ 0) (hz : rd p = zer 64) :
    ForI (rdPut rd 0 l 0) n (fun _ => False) M (fun l' => if l' = l then 0 else r1 l') r2 := by
  have hx : (0 : Int) ≤ 0 ∧ (0 : Int) < 16777216 := by decide
  have hm : ∀ g, g < 16 → r2 l g = 0 := fun g hg => by
    have hh := h.mid l g hl hg hr
    rw [← hp, hz, atF_zer g hg] at hh
    omega
  refine ⟨fun l' hl' => ?_, fun l' g' hl' hg' h2 => ?_, fun l' g' hl' hg' h2 => ?_, fun l' g' b' hl' hg' hb' h2 => ?_, h.leaf0, fun l' hl' => ?_, h.le2, fun l1 l2 a1 a2 a3 a4 => ?_, h.inj2, fun l1 l2 g2 a1 a2 a3 a4 => ?_, fun q q1 q2 => ?_, fun q hq => hq.elim, fun q hq => ?_⟩
  · rw [rdPut_at, atF_put _ (h.pg 0 (by omega)) l (by omega) 0 hx l' (by omega)]
    by_cases e : l' = l
    · simp [e]
    · simp [e, h.root l' hl']
  · by_cases e : l' = l
    · rw [if_pos e] at h2; exact absurd rfl h2
    · rw [if_neg e] at h2 ⊢
      rw [rdPut_ne h2]; exact h.mid l' g' hl' hg' h2
  · by_cases e : l' = l
    · rw [e]; exact hm g' hg'
    · rw [if_neg e] at h2; exact h.mid0 l' g' hl' hg' h2
  · rw [rdPut_ne h2]; exact h.leaf l' g' b' hl' hg' hb' h2
  · by_cases e : l' = l
    · rw [if_pos e]; exact Nat.zero_le _
    · rw [if_neg e]; exact h.le1 l' hl'
  · by_cases e1 : l1 = l
    · rw [if_pos e1] at a3; exact absurd rfl a3
    · rw [if_neg e1] at a3 a4
      by_cases e2 : l2 = l
      · rw [if_pos e2] at a4; exact absurd a4 a3
      · rw [if_neg e2] at a4; exact h.inj1 l1 l2 a1 a2 a3 a4
  · by_cases e1 : l1 = l
    · rw [if_pos e1] at a4; exact absurd rfl a4
    · rw [if_neg e1] at a4 ⊢; exact h.apart l1 l2 g2 a1 a2 a3 a4
  · rw [rdPut_ne (by omega)]
    constructor
    · rintro (c | c)
      · rcases (h.used q q1 q2).1 (.inl c) with ⟨l', d1, d2⟩ | d
        · refine .inl ⟨l', d1, ?_⟩
          rw [if_neg (fun e => c (by rw [← d2, e, ← hp]; exact hz))]
          exact d2
        · exact .inr d
      · exact c.elim
    · rintro (⟨l', c1, c2⟩ | ⟨l', g', c1, c2, c3⟩)
      · by_cases e : l' = l
        · rw [if_pos e] at c2; omega
        · rw [if_neg e] at c2
          rcases (h.used q q1 q2).2 (.inl ⟨l', c1, c2⟩) with d | d
          · exact .inl d
          · exact absurd (h.inj1 l' l c1 hl (by rw [c2]; omega) (by rw [c2, d, hp])) e
      · rcases (h.used q q1 q2).2 (.inr ⟨l', g', c1, c2, c3⟩) with d | d
        · exact .inl d
        · exact absurd (hp.symm.trans (d.symm.trans c3.symm)) (h.apart l l' g' hl c1 c2 hr)
  · by_cases e : q = 0
    · rw [e, rdPut_at]; exact (h.ok 0 (by omega)).put l (by omega) 0 hx
    · rw [rdPut_ne e]; exact h.ok q hq
/-- What is linked has something. -/
theorem ForI.some2 (h : ForI rd n (fun _ => False) M r1 r2) {l g : Nat} (hl : l < 4) (hg : g < 16) : r2 l g ≠ 0 ↔ ∃ b, b < 16 ∧ M l g b ≠ 0 := by
  constructor
  · intro h2
    have hle := h.le2 l g hl hg
    rcases (h.used (r2 l g) (by omega) hle).2 (.inr ⟨l, g, hl, hg, rfl⟩) with c | c
    · apply Classical.byContradiction
      intro hn
      exact c ((h.ok _ hle).none (fun b hb => by
        rw [h.leaf l g b hl hg hb h2]
        exact Classical.byContradiction (fun hh => hn ⟨b, hb, hh⟩)))
    · exact c.elim
  · rintro ⟨b, hb, hM⟩ h2
    exact hM (h.leaf0 l g b hl hg hb h2)
theorem ForI.some1 (h : ForI rd n (fun _ => False) M r1 r2) {l : Nat} (hl : l < 4) : r1 l ≠ 0 ↔ ∃ g, g < 16 ∧ r2 l g ≠ 0 := by
  constructor
  · intro h2
    have hle := h.le1 l hl
    rcases (h.used (r1 l) (by omega) hle).2 (.inl ⟨l, hl, rfl⟩) with c | c
    · apply Classical.byContradiction
      intro hn
      exact c ((h.ok _ hle).none (fun g hg => by
        rw [h.mid l g hl hg h2]
        have : r2 l g = 0 := Classical.byContradiction (fun hh => hn ⟨g, hg, hh⟩)
        rw [this]; rfl))
    · exact c.elim
  · rintro ⟨g, hg, hM⟩ h2
    exact hM (h.mid0 l g hl hg h2)
end
end Go.Proofs.YtjikpodghmfjcaaGreatDoor
set_option linter.unnecessarySimpa false
namespace Go.Proofs.YtjikpodghmfjcaaGreatDoor
open Go.RowKit Go.Maps
def lin1 (r1 : Nat → Nat) : List Nat := (List.range 4).filter fun l => decide (r1 l ≠ 0)
def lin2 (r2 : Nat → Nat → Nat) : List Nat := (List.range 64).filter fun i => decide (r2 (i / 16) (i % 16) ≠ 0)
/-- How many nodes are linked. -/
def lkF (r1 : Nat → Nat) (r2 : Nat → Nat → Nat) : Nat := (lin1 r1).length + (lin2 r2).length
def tkn (B : BookS) (first n : Nat) : List Nat := ((List.range n).map (· + 1)).filter fun p => decide (B.view (first + p) ≠ zer 64)
theorem tkn_length (B : BookS) (first : Nat) : ∀ n, (tkn B first n).length = nodesF B first n
  | 0 => rfl
  | n + 1 => by
    have ih := tkn_length B first n
    unfold tkn at ih ⊢
    rw [List.range_succ, List.map_append, List.filter_append, List.length_append, ih]
    show _ + (List.filter _ [n + 1]).length = nodesF B first n + _
    by_cases h : B.view (first + (n + 1)) ≠ zer 64
    · simp [h]
    · simp [h]
theorem nodup_map_on {f : Nat → Nat} : ∀ {l : List Nat}, l.Nodup → (∀ x ∈ l, ∀ y ∈ l, f x = f y → x = y) → (l.map f).Nodup
  | [], _, _ => List.nodup_nil
  | a :: l, hn, hi => by
    obtain ⟨h1, h2⟩ := List.nodup_cons.1 hn
    rw [List.map_cons, List.nodup_cons]
    refine ⟨fun hm => ?_, nodup_map_on h2 (fun x hx y hy => hi x (by simp [hx]) y (by simp [hy]))⟩
    obtain ⟨y, hy, e⟩ := List.mem_map.1 hm
    have := hi y (by simp [hy]) a (by simp) e
    exact h1 (this ▸ hy)
section
variable {B : BookS} {first n : Nat} {M : Nat → Nat → Nat → Int} {r1 : Nat → Nat} {r2 : Nat → Nat → Nat}
theorem ForI.nodes (h : ForI (rdOf B first) n (fun _ => False) M r1 r2) : nodesF B first n = lkF r1 r2 := by
  rw [← tkn_length]
  have hn1 : (tkn B first n).Nodup := (nodup_map_on (List.nodup_range (n := n)) (fun x _ y _ e => by omega)).filter _
  have m1 : ∀ l ∈ lin1 r1, l < 4 ∧ r1 l ≠ 0 := fun l hl => by
    have := List.mem_filter.1 hl
    exact ⟨List.mem_range.1 this.1, of_decide_eq_true this.2⟩
  have m2 : ∀ i ∈ lin2 r2, i < 64 ∧ r2 (i / 16) (i % 16) ≠ 0 := fun l hl => by
    have := List.mem_filter.1 hl
    exact ⟨List.mem_range.1 this.1, of_decide_eq_true this.2⟩
  have hn2 : ((lin1 r1).map r1 ++ (lin2 r2).map fun i => r2 (i / 16) (i % 16)).Nodup := by
    refine List.nodup_append.2 ⟨nodup_map_on ((List.nodup_range (n := 4)).filter _) (fun x hx y hy e => h.inj1 x y (m1 x hx).1 (m1 y hy).1 (m1 x hx).2 e), nodup_map_on ((List.nodup_range (n := 64)).filter _) (fun x hx y hy e => ?_), fun a ha b hb e => ?_⟩
    · have := h.inj2 (x / 16) (x % 16) (y / 16) (y % 16) (by have := (m2 x hx).1; omega) (by omega) (by have := (m2 y hy).1; omega) (by omega) (m2 x hx).2 e
      omega
    · obtain ⟨l, hl, rfl⟩ := List.mem_map.1 ha
      obtain ⟨i, hi, rfl⟩ := List.mem_map.1 hb
      exact h.apart l (i / 16) (i % 16) (m1 l hl).1 (by have := (m2 i hi).1; omega) (by omega) (m1 l hl).2 e
  have hiff : ∀ p, p ∈ tkn B first n ↔ p ∈ (lin1 r1).map r1 ++ (lin2 r2).map fun i => r2 (i / 16) (i % 16) := fun p => by
    constructor
    · intro hp
      have hf := List.mem_filter.1 hp
      obtain ⟨q, hq, rfl⟩ := List.mem_map.1 hf.1
      have hq' := List.mem_range.1 hq
      rcases (h.used (q + 1) (by omega) (by omega)).1 (.inl (of_decide_eq_true hf.2)) with ⟨l, a, b⟩ | ⟨l, g, a, b, c⟩
      · refine List.mem_append.2 (.inl (List.mem_map.2 ⟨l, List.mem_filter.2 ⟨List.mem_range.2 a, decide_eq_true (by omega)⟩, b⟩))
      · refine List.mem_append.2 (.inr (List.mem_map.2 ⟨16 * l + g, List.mem_filter.2 ⟨List.mem_range.2 (by omega), decide_eq_true ?_⟩, ?_⟩))
        · rw [show (16 * l + g) / 16 = l by omega, show (16 * l + g) % 16 = g by omega]; omega
        · show r2 ((16 * l + g) / 16) ((16 * l + g) % 16) = _
          rw [show (16 * l + g) / 16 = l by omega, show (16 * l + g) % 16 = g by omega]; exact c
    · intro hp
      have key : 1 ≤ p ∧ p ≤ n ∧ ((∃ l, l < 4 ∧ r1 l = p) ∨ ∃ l g, l < 4 ∧ g < 16 ∧ r2 l g = p) := by
        rcases List.mem_append.1 hp with hp | hp
        · obtain ⟨l, hl, rfl⟩ := List.mem_map.1 hp
          have := m1 l hl
          exact ⟨by omega, h.le1 l this.1, .inl ⟨l, this.1, rfl⟩⟩
        · obtain ⟨i, hi, rfl⟩ := List.mem_map.1 hp
          have := m2 i hi
          exact ⟨by omega, h.le2 _ _ (by omega) (by omega), .inr ⟨i / 16, i % 16, by omega, by omega, rfl⟩⟩
      rcases (h.used p key.1 key.2.1).2 key.2.2 with c | c
      · exact List.mem_filter.2 ⟨List.mem_map.2 ⟨p - 1, List.mem_range.2 (by omega), by omega⟩, decide_eq_true c⟩
      · exact c.elim
  have e1 := nodup_le _ _ hn1 (fun x hx => (hiff x).1 hx)
  have e2 := nodup_le _ _ hn2 (fun x hx => (hiff x).2 hx)
  unfold lkF
  simp only [List.length_append, List.length_map] at e1 e2
  omega
theorem nodesF_all (B : BookS) (first : Nat) : ∀ n, (∀ j, 1 ≤ j → j ≤ n → B.view (first + j) ≠ zer 64) → nodesF B first n = n
  | 0, _ => rfl
  | n + 1, h => by
    unfold nodesF
    rw [nodesF_all B first n (fun j a b => h j a (by omega)), if_pos (h (n + 1) (by omega) (by omega))]
theorem nodesF_but (B : BookS) (first p : Nat) : ∀ n, (∀ j, 1 ≤ j → j ≤ n → j ≠ p → B.view (first + j) ≠ zer 64) → n ≤ nodesF B first n + 1
  | 0, _ => by omega
  | n + 1, h => by
    unfold nodesF
    by_cases e : n + 1 = p
    · rw [nodesF_all B first n (fun j a b => h j a (by omega) (by omega))]; omega
    · have := nodesF_but B first p n (fun j a b => h j a (by omega))
      rw [if_pos (h (n + 1) (by omega) (by omega) e)]; omega
theorem nodesF_full (B : BookS) (first : Nat) : ∀ n, nodesF B first n = n → ∀ j, 1 ≤ j → j ≤ n → B.view (first + j) ≠ zer 64
  | 0, _, j, a, b => by omega
  | n + 1, h, j, a, b => by
    unfold nodesF at h
    have hle := nodesF_le B first n
    by_cases e : B.view (first + (n + 1)) ≠ zer 64
    · rw [if_pos e] at h
      by_cases ej : j = n + 1
      · rw [ej]; exact e
      · exact nodesF_full B first n (by omega) j a (by omega)
    · rw [if_neg e] at h; omega
theorem FirstF.least {rd : Nat → List Int} {n : Nat} {but : Nat → Prop} (h : ∃ p, 1 ≤ p ∧ p ≤ n ∧ rd p = zer 64 ∧ ¬ but p) : ∃ p, FirstF rd n but p := by
  obtain ⟨p, a, b, c, d⟩ := Go.Proofs.YtjikpodghmfjcaaGreatDoor.least (fun p => rd p = zer 64 ∧ ¬ but p) n h
  refine ⟨p, a, b, c.1, c.2, fun j h1 h2 => ?_⟩
  have := d j h1 h2
  by_cases e : rd j = zer 64
  · exact .inr (Classical.byContradiction fun hb => this ⟨e, hb⟩)
  · exact .inl e
theorem ForI.free1 (h : ForI (rdOf B first) n (fun _ => False) M r1 r2) (hlt : lkF r1 r2 < n) : ∃ p, FirstF (rdOf B first) n (fun _ => False) p := by
  refine FirstF.least (Classical.byContradiction fun hn => ?_)
  have := nodesF_all B first n (fun j a b e => hn ⟨j, a, b, e, fun h => h⟩)
  rw [h.nodes] at this
  omega
theorem ForI.free2 (h : ForI (rdOf B first) n (fun _ => False) M r1 r2) (hlt : lkF r1 r2 + 1 < n) (p : Nat) : ∃ p', FirstF (rdOf B first) n (fun q => q = p) p' := by
  refine FirstF.least (Classical.byContradiction fun hn => ?_)
  have := nodesF_but B first p n (fun j a b c e => hn ⟨j, a, b, e, c⟩)
  rw [h.nodes] at this
  omega
theorem ForI.full (h : ForI (rdOf B first) n (fun _ => False) M r1 r2) (hge : n ≤ lkF r1 r2) : ∀ j, 1 ≤ j → j ≤ n → B.view (first + j) ≠ zer 64 := by
  have := nodesF_le B first n
  rw [h.nodes] at this
  exact nodesF_full B first n (by rw [h.nodes]; omega)
/-- One more free node than linked ones: all others are taken. -/
theorem ForI.full1 (h : ForI (rdOf B first) n (fun _ => False) M r1 r2) (hge : n ≤ lkF r1 r2 + 1) (p : Nat) (hp : 1 ≤ p ∧ p ≤ n) (hz : B.view (first + p) = zer 64) : ∀ j, 1 ≤ j → j ≤ n → j ≠ p → B.view (first + j) ≠ zer 64 := by
  intro j a b c e
  have key : ∀ n, 1 ≤ p → p ≤ n → j ≤ n → nodesF B first n + 2 ≤ n := by
    intro n
    induction n with
    | zero => intro h1 h2 _; omega
    | succ m ih =>
      intro h1 h2 h3
      unfold nodesF
      have hle := nodesF_le B first m
      have one : ∀ m q, 1 ≤ q → q ≤ m → B.view (first + q) = zer 64 → nodesF B first m + 1 ≤ m := by
        intro m
        induction m with
        | zero => intro q h1 h2 _; omega
        | succ k ih =>
          intro q h1 h2 hq
          unfold nodesF
          have hle := nodesF_le B first k
          by_cases eq : q = k + 1
          · rw [eq] at hq
            rw [if_neg (by simp [hq])]; omega
          · have := ih q h1 (by omega) hq
            split <;> omega
      by_cases e1 : p = m + 1
      · rw [if_neg (by rw [← e1]; simp [hz])]
        have := one m j a (by omega) e
        omega
      · by_cases e2 : j = m + 1
        · rw [if_neg (by rw [← e2]; simp [e])]
          have := one m p h1 (by omega) hz
          omega
        · have := ih h1 (by omega) (by omega)
          split <;> omega
  have := key n hp.1 hp.2 b
  rw [h.nodes] at this
  omega
/-- Set of a number where there is room. -/
theorem rset_fits (h : ForI (rdOf B first) n (fun _ => False) M r1 r2) (tb : Nat) (N : Nat → Prop) (bb : Nat) (hn : first + n < B.n) (hn2 : n ≤ 4095) (hc : B.cnt ≤ 50) {l block : Nat} (hl : l < 4) (hb : block < 256) (x : Int) (hx : 1 ≤ x ∧ x < 16777216)
    (hroom : lkF r1 r2 + (if r1 l = 0 then 1 else 0) + (if r2 l (block / 16) = 0 then 1 else 0) ≤ n) (w : World) (hh : HolI 119 w tb N bb first n B) :
    Calls Tryz.prog 21 #[.pointer (some ⟨tb, 0, none⟩), .int .i64 (l : Int), .int .i64 (block : Int), .int .i64 x] w fun e w' => e = .returned .nilIface ∧ (∃ B' r1' r2', HolI 119 w' tb N bb first n B' ∧ SetR B B' first n M l block x r1' r2') ∧ Keeps N w w' := by
  have hg : block / 16 < 16 := by omega
  by_cases h1 : r1 l = 0
  · have h2 := h.mid0 l _ hl hg h1
    rw [if_pos h1, if_pos h2] at hroom
    obtain ⟨p, hp⟩ := h.free1 (by omega)
    obtain ⟨p', hp'⟩ := h.free2 (by omega) p
    refine (rset_for0 h tb N bb hn hn2 hc hl hb x hx h1 p p' hp hp' w hh).mono ?_
    rintro e w' ⟨rfl, ⟨B', a, b⟩, hk⟩
    exact ⟨rfl, ⟨B', _, _, a, b⟩, hk⟩
  · by_cases h2 : r2 l (block / 16) = 0
    · rw [if_neg h1, if_pos h2] at hroom
      obtain ⟨p, hp⟩ := h.free1 (by omega)
      refine (rset_for1 h tb N bb hn hn2 hc hl hb x hx h1 h2 p hp w hh).mono ?_
      rintro e w' ⟨rfl, ⟨B', a, b⟩, hk⟩
      exact ⟨rfl, ⟨B', _, _, a, b⟩, hk⟩
    · refine (rset_for2 h tb N bb hn hc hl hb x hx h1 h2 w hh).mono ?_
      rintro e w' ⟨rfl, ⟨B', a, b⟩, hk⟩
      exact ⟨rfl, ⟨B', _, _, a, b⟩, hk⟩
end
end Go.Proofs.YtjikpodghmfjcaaGreatDoor
set_option linter.unnecessarySimpa false
namespace Go.Proofs.YtjikpodghmfjcaaGreatDoor
open Go.RowKit Go.Maps
section
variable {B : BookS} {first n : Nat} {M : Nat → Nat → Nat → Int} {r1 : Nat → Nat} {r2 : Nat → Nat → Nat}
theorem layM_zero (M : Nat → Nat → Nat → Int) (l g b : Nat) (h : M l g b = 0) : layM M l g b 0 = M := by
  funext l' g' b'
  unfold layM
  split
  case isTrue e => rw [e.1, e.2.1, e.2.2, h]
  case isFalse => rfl
theorem ForI.pends {rd : Nat → List Int} {n : Nat} {A A' : Nat → Prop} {M : Nat → Nat → Nat → Int} {r1 : Nat → Nat} {r2 : Nat → Nat → Nat} (h : ForI rd n A M r1 r2) (hA : ∀ p, A p ↔ A' p) : ForI rd n A' M r1 r2 := by
  have : A = A' := funext fun p => propext (hA p)
  rw [← this]; exact h
/-- What a wipe makes of a book. -/
noncomputable def wfOf (B : BookS) (first a b l g k : Nat) : Nat → BookS
  | 0 => ((B.wrote (first + b) (putNF (B.view (first + b)) k 0)).wrote (first + a) (putNF ((B.wrote (first + b) (putNF (B.view (first + b)) k 0)).view (first + a)) g 0)).wrote (first + 0) (putNF (((B.wrote (first + b) (putNF (B.view (first + b)) k 0)).wrote (first + a) (putNF ((B.wrote (first + b) (putNF (B.view (first + b)) k 0)).view (first + a)) g 0)).view (first + 0)) l 0)
  | 1 => (B.wrote (first + b) (putNF (B.view (first + b)) k 0)).wrote (first + a) (putNF ((B.wrote (first + b) (putNF (B.view (first + b)) k 0)).view (first + a)) g 0)
  | 2 => B.wrote (first + b) (putNF (B.view (first + b)) k 0)
  | _ => B
theorem rset_clear (h : ForI (rdOf B first) n (fun _ => False) M r1 r2) (tb : Nat) (N : Nat → Prop) (bb : Nat) (hn : first + n < B.n) (hn2 : n ≤ 4095) (hc : B.cnt ≤ 50) {l block : Nat} (hl : l < 4) (hb : block < 256) (w : World) (hh : HolI 119 w tb N bb first n B) :
    Calls Tryz.prog 21 #[.pointer (some ⟨tb, 0, none⟩), .int .i64 (l : Int), .int .i64 (block : Int), .int .i64 0] w fun e w' => e = .returned .nilIface ∧ (∃ B' r1' r2', HolI 119 w' tb N bb first n B' ∧ SetR B B' first n M l block 0 r1' r2') ∧ Keeps N w w' := by
  have hg : block / 16 < 16 := by omega
  have hk : block % 16 < 16 := by omega
  have stay : r2 l (block / 16) = 0 → SetR B B first n M l block 0 r1 r2 := fun h2 =>
    ⟨rfl, by omega, rfl, by rw [layM_zero M _ _ _ (h.leaf0 l _ _ hl hg hk h2)]; exact h⟩
  by_cases h1 : r1 l = 0
  · refine (rset_zero tb N bb first n B l block 0 hl hb hn _ _ (by decide) (way0 h hl hb h1 0 0) w hh).mono ?_
    rintro e w' ⟨rfl, hbl⟩
    exact ⟨rfl, ⟨B, r1, r2, hh.below hbl, stay (h.mid0 l _ hl hg h1)⟩, Keeps.of_below hbl⟩
  · by_cases h2 : r2 l (block / 16) = 0
    · refine (rset_zero tb N bb first n B l block 1 hl hb hn _ _ (by decide) (way1 h hl hb h1 h2 0) w hh).mono ?_
      rintro e w' ⟨rfl, hbl⟩
      exact ⟨rfl, ⟨B, r1, r2, hh.below hbl, stay h2⟩, Keeps.of_below hbl⟩
    · have hle1 := h.le1 l hl
      have hle2 := h.le2 l (block / 16) hl hg
      obtain ⟨a, ha⟩ : ∃ a, r1 l = a := ⟨_, rfl⟩
      obtain ⟨b, hbb⟩ : ∃ b, r2 l (block / 16) = b := ⟨_, rfl⟩
      have hW2 := h.unlay hl hg hk h2 h1
      obtain ⟨B2, hB2⟩ : ∃ B2, B.wrote (first + b) (putNF (B.view (first + b)) (block % 16) 0) = B2 := ⟨_, rfl⟩
      obtain ⟨B1, hB1⟩ : ∃ B1, B2.wrote (first + a) (putNF (B2.view (first + a)) (block / 16) 0) = B1 := ⟨_, rfl⟩
      obtain ⟨B0, hB0⟩ : ∃ B0, B1.wrote (first + 0) (putNF (B1.view (first + 0)) l 0) = B0 := ⟨_, rfl⟩
      have n2 : B2.n = B.n := by rw [← hB2, BookS.wrote_n]
      have n1 : B1.n = B.n := by rw [← hB1, BookS.wrote_n, n2]
      have n0 : B0.n = B.n := by rw [← hB0, BookS.wrote_n, n1]
      have s2 : B2.shut = B.shut := by rw [← hB2, BookS.wrote_shut]
      have s1 : B1.shut = B.shut := by rw [← hB1, BookS.wrote_shut, s2]
      have s0 : B0.shut = B.shut := by rw [← hB0, BookS.wrote_shut, s1]
      have c2 : B2.cnt ≤ B.cnt + 1 := by rw [← hB2]; exact BookS.wrote_cnt B _ _ (by omega)
      have c1 : B1.cnt ≤ B.cnt + 2 := by rw [← hB1]; have := BookS.wrote_cnt B2 (first + a) (putNF (B2.view (first + a)) (block / 16) 0) (by omega); omega
      have c0 : B0.cnt ≤ B.cnt + 3 := by rw [← hB0]; have := BookS.wrote_cnt B1 (first + 0) (putNF (B1.view (first + 0)) l 0) (by omega); omega
      have r2e : rdOf B2 first = rdPut (rdOf B first) b (block % 16) 0 := by rw [← hB2]; exact rdOf_wrote B first b (block % 16) 0
      have r1e : rdOf B1 first = rdPut (rdOf B2 first) a (block / 16) 0 := by rw [← hB1]; exact rdOf_wrote B2 first a (block / 16) 0
      have r0e : rdOf B0 first = rdPut (rdOf B1 first) 0 l 0 := by rw [← hB0]; exact rdOf_wrote B1 first 0 l 0
      have hwf : wfOf B first a b l (block / 16) (block % 16) = fun i => match i with
        | 0 => B0
        | 1 => B1
        | 2 => B2
        | _ => B := by
        funext i
        match i with
        | 0 => show BookS.wrote _ _ _ = B0; rw [hB2, hB1, hB0]
        | 1 => show BookS.wrote _ _ _ = B1; rw [hB2, hB1]
        | 2 => show BookS.wrote _ _ _ = B2; rw [hB2]
        | _ + 3 => rfl
      have hway := way2 h hl hb h1 h2
      have run : ∀ s, WipeS first (ndOf (r1 l) (r2 l (block / 16))) (plOf l (block / 16) (block % 16)) (wfOf B first a b l (block / 16) (block % 16)) s →
          Calls Tryz.prog 21 #[.pointer (some ⟨tb, 0, none⟩), .int .i64 (l : Int), .int .i64 (block : Int), .int .i64 0] w fun e w' => e = .returned .nilIface ∧ HolI 119 w' tb N bb first n (wfOf B first a b l (block / 16) (block % 16) s) ∧ Keeps N w w' :=
        fun s hs => rset_wipe tb N bb first n B l block hl hb hn _ _ hway _ s hs rfl w hh
      have nx : ∀ i, i ≤ 2 → wfOf B first a b l (block / 16) (block % 16) i = (wfOf B first a b l (block / 16) (block % 16) (i + 1)).wrote (first + ndOf (r1 l) (r2 l (block / 16)) i) (putNF ((wfOf B first a b l (block / 16) (block % 16) (i + 1)).view (first + ndOf (r1 l) (r2 l (block / 16)) i)) (plOf l (block / 16) (block % 16) i) 0) := fun i hi => by
        rw [hwf]
        rcases (show i = 0 ∨ i = 1 ∨ i = 2 by omega) with rfl | rfl | rfl
        · exact hB0.symm
        · show B1 = B2.wrote (first + r1 l) (putNF (B2.view (first + r1 l)) (block / 16) 0)
          rw [ha]; exact hB1.symm
        · show B2 = B.wrote (first + r2 l (block / 16)) (putNF (B.view (first + r2 l (block / 16))) (block % 16) 0)
          rw [hbb]; exact hB2.symm
      have my : ∀ i, i ≤ 2 → WrOk (wfOf B first a b l (block / 16) (block % 16) (i + 1)) (first + ndOf (r1 l) (r2 l (block / 16)) i) (putNF ((wfOf B first a b l (block / 16) (block % 16) (i + 1)).view (first + ndOf (r1 l) (r2 l (block / 16)) i)) (plOf l (block / 16) (block % 16) i) 0) := fun i hi => by
        rw [hwf]
        rcases (show i = 0 ∨ i = 1 ∨ i = 2 by omega) with rfl | rfl | rfl
        · exact wrOk_few (B := B1) (k := 52) (by omega) (by decide) _ _
        · exact wrOk_few (B := B2) (k := 51) (by omega) (by decide) _ _
        · exact wrOk_few hc (by decide) _ _
      rw [hbb, ← r2e] at hW2
      by_cases z2 : B2.view (first + b) = zer 64
      · have hW2' : ForI (rdOf B2 first) n (fun q => q = b) (layM M l (block / 16) (block % 16) 0) r1 r2 := hW2.pends (fun q => ⟨fun hq => hq.1, fun hq => ⟨hq, by rw [hq]; exact z2⟩⟩)
        have hW1 := hW2'.unlink2 hbb.symm hl hg h2 h1 z2
        rw [ha, ← r1e] at hW1
        by_cases z1 : B1.view (first + a) = zer 64
        · have hW1' : ForI (rdOf B1 first) n (fun q => q = a) (layM M l (block / 16) (block % 16) 0) r1 (fun l' g' => if l' = l ∧ g' = block / 16 then 0 else r2 l' g') := hW1.pends (fun q => ⟨fun hq => hq.1, fun hq => ⟨hq, by rw [hq]; exact z1⟩⟩)
          have hW0 := hW1'.unlink1 ha.symm hl h1 z1
          rw [← r0e] at hW0
          refine (run 0 ⟨by decide, fun i hi _ => nx i hi, fun i hi _ => my i hi, fun i hi hs => ?_, .inl rfl⟩).mono ?_
          · rw [hwf]
            rcases (show i = 1 ∨ i = 2 by omega) with rfl | rfl
            · show B1.view (first + r1 l) = _; rw [ha]; exact z1
            · show B2.view (first + r2 l (block / 16)) = _; rw [hbb]; exact z2
          · rintro e w' ⟨rfl, hH, hkp⟩
            rw [hwf] at hH
            exact ⟨rfl, ⟨B0, _, _, hH, n0, c0, s0, hW0⟩, hkp⟩
        · refine (run 1 ⟨by decide, fun i hi _ => nx i hi, fun i hi _ => my i hi, fun i hi hs => ?_, .inr ?_⟩).mono ?_
          · rw [hwf]
            rcases (show i = 2 by omega) with rfl
            show B2.view (first + r2 l (block / 16)) = _; rw [hbb]; exact z2
          · rw [hwf]
            show B1.view (first + r1 l) ≠ _; rw [ha]; exact z1
          · rintro e w' ⟨rfl, hH, hkp⟩
            rw [hwf] at hH
            exact ⟨rfl, ⟨B1, _, _, hH, n1, by omega, s1, hW1.pends (fun q => ⟨fun hq => z1 (by have := hq.2; rw [hq.1] at this; exact this), fun hq => hq.elim⟩)⟩, hkp⟩
      · refine (run 2 ⟨by decide, fun i hi _ => nx i hi, fun i hi _ => my i hi, fun i hi hs => by omega, .inr ?_⟩).mono ?_
        · rw [hwf]
          show B2.view (first + r2 l (block / 16)) ≠ _; rw [hbb]; exact z2
        · rintro e w' ⟨rfl, hH, hkp⟩
          rw [hwf] at hH
          exact ⟨rfl, ⟨B2, _, _, hH, n2, by omega, s2, hW2.pends (fun q => ⟨fun hq => z2 (by have := hq.2; rw [hq.1] at this; exact this), fun hq => hq.elim⟩)⟩, hkp⟩
end
end Go.Proofs.YtjikpodghmfjcaaGreatDoor
set_option linter.unnecessarySimpa false
namespace Go.Proofs.YtjikpodghmfjcaaGreatDoor
open Go.RowKit Go.Maps
set_option maxRecDepth 100000 in
set_option maxHeartbeats 4000000 in
theorem other_none (tb : Nat) (N : Nat → Prop) (bb first n : Nat) (B : BookS) (hn : first + n < B.n) (but : List Int) (hbl : but.length ≤ 2) (a : Option Addr) (c : Nat)
    (hall : ∀ j : Nat, 1 ≤ j → j ≤ n → B.view (first + j) ≠ zer 64 ∨ (j : Int) ∈ but) (w : World) (h : HolI 119 w tb N bb first n B) (hin : IntsIn w a but) :
    Calls Tryz.prog 54 #[.pointer (some ⟨tb, 0, none⟩), .slice a but.length c] w fun e w' => e = .returned (.tuple #[.int .i64 0, .iface 85 (.int .i64 22)]) ∧ Below w.heap.size w w' := by
  have HT := Lib.hid h
  have HIN := Lib.hid hin
  have hok := h.2.1.isOk
  have hn2 := hok.n.2
  have HV : Hid (∀ i, i ≤ n → PgOk (B.view (first + i))) := Lib.hid (fun i hi => BookS.view_ok hok _ (by omega))
  have hrp := Lib.hid (fun wx (hb : Below w.heap.size w wx) (i : Nat) (hi : i ≤ n) => rpage_any tb N bb first n B i (by omega) wx (HT.out.below hb))
  have HALL := Lib.hid hall
  clear h hok hin hall
  go_enter Tryz.func54, Tryz.ntmps54
  go_wp2_with fail
  go_loopw [6] (fun iv wr => ∃ i : Nat, iv = .int .i64 ((i : Int) + 1) ∧ i ≤ n ∧ Hid (Below w.heap.size w wr)) (fun iv _ => n + 1 - (intOf iv).toNat)
  case atStart => exact ⟨0, rfl, by omega, Lib.hid (Below.refl _ _)⟩
  case round =>
    obtain ⟨i, rfl, hi, HB⟩ := hrel
    obtain ⟨z0, z1, z2⟩ := blk3 (HT.out.below HB.out).1
    have hi2 : (n : Int) < 2048 := by omega
    by_cases hin1 : i < n
    case neg =>
      have hi1 : ¬ ((i : Int) + 1 ≤ n) := by omega
      go_wp2_with fail
      go_ret2
      exact ⟨rfl, HB.out⟩
    have hi1 : (i : Int) + 1 ≤ n := by omega
    go_wp2_with fail
    have hp := hrp.out wr HB.out (i + 1) (by omega)
    rw [show ((i + 1 : Nat) : Int) = (i : Int) + 1 by omega] at hp
    have HPK := Lib.hid (HV.out (i + 1) (by omega))
    obtain ⟨pg, hpg⟩ : ∃ pg, B.view (first + (i + 1)) = pg := ⟨_, rfl⟩
    rw [hpg] at hp HPK
    have HPG := Lib.hid hpg
    clear hpg
    refine hp.mono ?_
    clear hp
    rintro e w2 ⟨rfl, hb2⟩
    have H2 : Hid (Below w.heap.size w w2) := Lib.hid (HB.out.trans (hb2.mono HB.out.size))
    have hp64 := HPK.out.1
    clear hb2 HB z0 z1 z2
    try dsimp only
    repeat ((fail_if_success (with_reducible refine stop_at 26 rfl ?_)); (first | (refine page_store rfl (.tmp 7) (.tmp 24) rfl w2.heap.size pg (zer 64) rfl rfl (heap_alloc_new w2 _) hp64 rfl ?_) | go_values | go_skip | go_guarded | go_step | go_upon))
    have hbx : ∀ o : Obj, Below w2.heap.size w2 ((w2.alloc o).setRow w2.heap.size (v8a pg)) := fun o => below_setRow ((Below.refl _ _).alloc (Nat.le_refl _) _) (Nat.le_refl _) _
    refine gen_world (fun wx => Hid (wx.heap[w2.heap.size]? = some (.cells (v8a pg) 32) ∧ Below w.heap.size w wx)) (Lib.hid ⟨setRow_heap _ _ _ _ _ (0, 0) (heap_alloc_new w2 _), H2.out.trans ((hbx _).mono H2.out.size)⟩) ?_
    clear hbx H2
    generalize w2.heap.size = b7
    intro w3 H3
    have hpe := built_pg0
    obtain ⟨t0, ht0⟩ : ∃ t0, decide (pg ≠ zer 64) = t0 := ⟨_, rfl⟩
    have HT0 := Lib.hid ht0
    go_wp2_with (first | (refine page_load rfl (.tmp 7) rfl b7 pg rfl H3.out.1 hp64 ?_) | (refine wpList_build_to rfl 32 _ rfl (v8a (zer 64)) hpe ?_) | (refine page_neq rfl (.tmp 29) (.tmp 30) 32 rfl pg (zer 64) rfl rfl hp64 rfl ?_; rw [ht0]))
    clear ht0
    go_loopw [9, 34] (fun tv jv wr' => ∃ j : Nat, jv = .int .i64 (j : Int) ∧ j ≤ but.length ∧ Hid (tv = .bool (t0 || (but.take j).any (fun k => decide (k = (i : Int) + 1)))) ∧ (∃ t, tv = .bool t) ∧ wr' = w3) (fun _ jv _ => 3 - (intOf jv).toNat)
    case atStart => exact ⟨0, rfl, by omega, Lib.hid (by simp), ⟨_, rfl⟩, rfl⟩
    case round =>
      obtain ⟨j, rfl, hj, HTV, ⟨t, rfl⟩, rfl⟩ := hrel
      by_cases hlt : j < but.length
      · have hj1 : (j : Int) < but.length := by omega
        obtain ⟨b, off, rfl, hbs, hc, cur, hcur⟩ := (HIN.out.below H3.out.2) j hlt
        have HS := Lib.hid (any_snoc but (fun k => decide (k = (i : Int) + 1)) j hlt)
        obtain ⟨x, hx⟩ : ∃ x, but[j] = x := ⟨_, rfl⟩
        rw [hx] at hc HS
        by_cases q : x = (i : Int) + 1
        · subst q
          cases t <;> go_wp2_with fail
          all_goals exact ⟨⟨j + 1, by push_cast; rfl, by omega, Lib.hid (by have h := HTV.out; simp only [Value.bool.injEq] at h; rw [HS.out, ← Bool.or_assoc, ← h]; simp), ⟨_, rfl⟩, (by first | trivial | rfl)⟩, by simp [intOf]; omega⟩
        · cases t <;> go_wp2_with fail
          all_goals exact ⟨⟨j + 1, by push_cast; rfl, by omega, Lib.hid (by have h := HTV.out; simp only [Value.bool.injEq] at h; rw [HS.out, ← Bool.or_assoc, ← h]; simp [q]), ⟨_, rfl⟩, (by first | trivial | rfl)⟩, by simp [intOf]; omega⟩
      · have hj1 : ¬ ((j : Int) < but.length) := by omega
        have hjl : j = but.length := by omega
        have ht : t = (t0 || but.any (fun k => decide (k = (i : Int) + 1))) := by
          have h := HTV.out
          simp only [Value.bool.injEq] at h
          rw [h, hjl, List.take_length]
        have hf : t = true := by
          rcases HALL.out (i + 1) (by omega) (by omega) with h | h
          · rw [HPG.out] at h
            have e1 : t0 = true := by rw [← HT0.out]; simp [h]
            rw [ht, e1]; rfl
          · have e2 : but.any (fun k => decide (k = (i : Int) + 1)) = true := by
              rw [List.any_eq_true]
              exact ⟨_, h, by simp⟩
            rw [ht, e2]; simp
        clear ht hjl
        subst hf
        go_wp2_with fail
        exact ⟨⟨i + 1, by push_cast; rfl, by omega, Lib.hid H3.out.2⟩, by simp [intOf]; omega⟩
/-- The rounds of a set that comes to its end for want of a node. -/
structure SetT (B : BookS) (first n m s : Nat) (nd pl : Nat → Nat) (Bs : Nat → BookS) : Prop where
  ms : m ≤ s
  s2 : s < 2
  le : ∀ k, k ≤ s → nd k ≤ n
  pos : ∀ k, m ≤ k → k < s → 1 ≤ nd (k + 1) ∧ nd (k + 1) ≤ n
  zero : ∀ k, m ≤ k → k < s → (Bs k).view (first + nd (k + 1)) = zer 64
  new : ∀ k, m ≤ k → k < s → (nd (k + 1) : Int) ∉ ahF nd m k
  all : ∀ k, m ≤ k → k < s → ∀ j : Nat, 1 ≤ j → j < nd (k + 1) → (Bs k).view (first + j) ≠ zer 64 ∨ (j : Int) ∈ ahF nd m k
  may : ∀ k, m ≤ k → k < s → WrOk (Bs k) (first + nd k) (putNF ((Bs k).view (first + nd k)) (pl k) (nd (k + 1)))
  next : ∀ k, m ≤ k → k < s → Bs (k + 1) = (Bs k).wrote (first + nd k) (putNF ((Bs k).view (first + nd k)) (pl k) (nd (k + 1)))
  none : ∀ j : Nat, 1 ≤ j → j ≤ n → (Bs s).view (first + j) ≠ zer 64 ∨ (j : Int) ∈ ahF nd m s
theorem SetT.ns {B : BookS} {first n m s : Nat} {nd pl : Nat → Nat} {Bs : Nat → BookS} (h : SetT B first n m s nd pl Bs) (k : Nat) (hk : k ≤ s) (hm : m ≤ k) : (Bs k).n = (Bs m).n := by
  have := h.s2
  rcases (show k = m ∨ (m = 0 ∧ k = 1) by omega) with rfl | ⟨rfl, rfl⟩
  · rfl
  · rw [h.next 0 (Nat.le_refl _) (by omega), BookS.wrote_n]
set_option maxRecDepth 100000 in
set_option maxHeartbeats 8000000 in
theorem rset_fail (tb : Nat) (N : Nat → Prop) (bb first n : Nat) (B : BookS) (lun block m : Nat) (hl : lun < 4) (hbl : block < 256) (hn : first + n < B.n) (nd pl : Nat → Nat) (hw : WayS B first n lun block m nd pl) (Bs : Nat → BookS) (x : Int) (hx : 1 ≤ x ∧ x < 16777216)
    (s : Nat) (hs : SetT B first n m s nd pl Bs) (hBm : Bs m = B) (w : World) (h : HolI 119 w tb N bb first n B) :
    Calls Tryz.prog 21 #[.pointer (some ⟨tb, 0, none⟩), .int .i64 (lun : Int), .int .i64 (block : Int), .int .i64 x] w fun e w' => (∃ v, e = .returned v ∧ ErrV w' v 22) ∧ HolI 119 w' tb N bb first n (Bs s) ∧ Keeps N w w' := by
  have hS := sound_ok tb lun block ⟨by omega, by omega⟩ ⟨by omega, by omega⟩ w
  have hY := way_any tb N bb first n B lun block m hl hbl hn nd pl hw w h
  have HT := Lib.hid h
  have hn2 := h.2.1.isOk.n.2
  have HS := Lib.hid hs
  have hm2 := hw.hm
  have HLE := Lib.hid (fun k (hk : k ≤ s) => hs.le k hk)
  have HNS : Hid (∀ k, k ≤ s → m ≤ k → (Bs k).n = B.n) := Lib.hid (fun k hk hm => by rw [hs.ns k hk hm, hBm])
  have HPL := Lib.hid (hw.pl_lt hl)
  have HP1 := Lib.hid hw.pl1
  have HP2 := Lib.hid hw.pl2
  have HBM := Lib.hid hBm
  obtain ⟨i0, hi0', hz0, hz1, hz2⟩ := info_parts info_pair
  have HI := Lib.hid (And.intro hi0' (And.intro hz0 (And.intro hz1 hz2)))
  obtain ⟨j0, hi0', hz0, hz1, hz2⟩ := info_parts info_int
  have HJ := Lib.hid (And.intro hi0' (And.intro hz0 (And.intro hz1 hz2)))
  obtain ⟨hms, hs2⟩ : m ≤ s ∧ s < 2 := ⟨hs.ms, hs.s2⟩
  clear h hw hs hBm hi0' hz0 hz1 hz2
  have d0 : decide (x < 0) = false := by simp; omega
  have d1 : decide (16777216 ≤ x) = false := by simp; omega
  have d2 : (x == 0) = false := by simp; omega
  clear hx
  go_enter Tryz.func21, Tryz.ntmps21
  go_wp2_with fail
  refine hS.mono ?_
  clear hS
  rintro e w2 ⟨rfl, rfl⟩
  try dsimp only
  go_wp2_with fail
  refine hY.mono ?_
  clear hY
  rintro e w2 ⟨⟨g, c, rfl, hg, hY⟩, hb⟩
  have HY : Hid (SetI w tb N bb first n B nd pl m (.slice (some ⟨g, 0, none⟩) (m + 1) c) (.slice none 0 0) [] w2) := Lib.hid (by
    have hlt := lt_of_blk HT.out.1
    refine ⟨HT.out.keep hb (fun i hi => ?_), hY, World.ownsRow_nil _ _ _ _, Keeps.of_below hb, fun q hq hn => ?_⟩
    · rcases hi with hi | hi | hi
      · exact ⟨Nat.lt_of_lt_of_le (HT.out.N_lt i hi) hb.size, .inl hi⟩
      · simp only [Value.ownBlock, Option.some.injEq] at hi; subst hi; exact ⟨(hY.lt g rfl).2, .inr hg⟩
      · simp [Value.ownBlock] at hi
    · rcases hq with hq | hq
      · simp only [Value.ownBlock, Option.some.injEq] at hq; subst hq; have := HT.out.N_lt g hn; omega
      · simp [Value.ownBlock] at hq)
  clear hY hb hg
  try dsimp only
  go_wp2_with fail
  go_loopw [10, 12] (fun lv av wr => ∃ k al, m ≤ k ∧ k ≤ s ∧ (∃ g c : Nat, lv = .slice (some ⟨g, 0, none⟩) (k + 1) c) ∧ (∃ a c, av = .slice a (List.length al) c) ∧ Hid (al = ahF nd m k) ∧ Hid (SetI w tb N bb first n (Bs k) nd pl k lv av al wr)) (fun lv _ _ => 4 - lenV lv)
  case atStart => exact ⟨m, [], Nat.le_refl _, hms, ⟨g, c, rfl⟩, ⟨none, 0, rfl⟩, Lib.hid (ahF_self nd m).symm, Lib.hid (by rw [HBM.out]; exact HY.out)⟩
  case round =>
    clear HY
    obtain ⟨k, al, hmk, hk2, ⟨g, c, rfl⟩, ⟨a, ca, rfl⟩, HAL, HK⟩ := hrel
    by_cases hk : k = s
    · subst hk
      have hali : al.length ≤ 2 := by rw [HAL.out, ahF_length]; omega
      have hO := other_none tb (NSet N (.slice (some ⟨g, 0, none⟩) (k + 1) c) (.slice a al.length ca)) bb first n (Bs k) (by rw [HNS.out k (Nat.le_refl _) hmk]; exact hn) al (by omega) a ca (by rw [HAL.out]; exact HS.out.none) wr HK.out.1 (IntsIn.of_own HK.out.2.2.1)
      have hk3 : (k : Int) + 1 ≤ 2 := by omega
      go_wp2_with fail
      refine hO.mono ?_
      clear hO
      rintro e w3 ⟨rfl, hb3⟩
      have H3 := Lib.hid (HK.out.below hb3)
      clear hb3 HK
      try dsimp only
      go_wp2_with fail
      refine (woe_err _ 0 (.iface 85 (.int .i64 22)) 22 w3 rfl).mono ?_
      rintro e w4 ⟨⟨v', rfl, he⟩, hb4⟩
      have H4 := Lib.hid (H3.out.below hb4)
      clear hb4 H3
      try dsimp only
      go_wp2_with fail
      go_ret
      exact ⟨⟨_, rfl, ⟨_, he⟩⟩, H4.out.1.keep (Below.refl _ _) (fun q hq => ⟨H4.out.1.N_lt q (.inl hq), .inl (.inl hq)⟩), H4.out.2.2.2.1⟩
    · have hali : al.length ≤ 2 := by rw [HAL.out, ahF_length]; omega
      rcases (show k = 0 by omega) with rfl
      have HPN : Hid (pl (0 + 1) = block / 16 % 16) := Lib.hid (by simpa using HP1.out)
      have HNXT := Lib.hid (HS.out.next 0 hmk (by omega))
      have hpos := HS.out.pos 0 hmk (by omega)
      have hO := other_any tb (NSet N (.slice (some ⟨g, 0, none⟩) (0 + 1) c) (.slice a al.length ca)) bb first n (Bs 0) (by rw [HNS.out 0 (by omega) hmk]; exact hn) (nd (0 + 1)) hpos al (by omega) a ca (HS.out.zero 0 hmk (by omega)) (by rw [HAL.out]; exact HS.out.new 0 hmk (by omega)) (by rw [HAL.out]; exact HS.out.all 0 hmk (by omega)) wr HK.out.1 (IntsIn.of_own HK.out.2.2.1)
      have hW := Lib.hid (fun (va : Value) wx (hh : HolI 119 wx tb (NSet N (.slice (some ⟨g, 0, none⟩) (0 + 1) c) va) bb first n (Bs 0)) => fwrite_any tb (NSet N (.slice (some ⟨g, 0, none⟩) (0 + 1) c) va) bb first n (Bs 0) (nd 0) (pl 0) (by rw [HNS.out 0 (by omega) hmk]; have := HLE.out 0 (by omega); omega) (HPL.out 0 (by omega)) (nd (0 + 1) : Int) ⟨by omega, by omega⟩ (HS.out.may 0 hmk (by omega)) wx hh)
      rw [← HNXT.out] at hW
      have HALN : Hid (ahF nd m (0 + 1) = al ++ [(nd (0 + 1) : Int)]) := Lib.hid (by rw [ahF_succ nd m 0 hmk, HAL.out])
      have HFL : Hid (fl2 nd pl (0 + 1 + 1) = fl2 nd pl (0 + 1) ++ [.int .i64 (nd (0 + 1) : Int), .int .i64 (pl (0 + 1) : Int)]) := Lib.hid rfl
      simp only [Nat.zero_add, Nat.reduceAdd] at hO hW HALN HFL hpos HNXT
      obtain ⟨ndk, hnd⟩ : ∃ x, nd 0 = x := ⟨_, rfl⟩
      obtain ⟨plk, hpl⟩ : ∃ x, pl 0 = x := ⟨_, rfl⟩
      obtain ⟨nd1, hnd1⟩ : ∃ x, nd (0 + 1) = x := ⟨_, rfl⟩
      simp only [Nat.zero_add, Nat.reduceAdd] at hnd1
      rw [hnd, hpl] at hW
      have HND := Lib.hid hnd
      have HPLK := Lib.hid hpl
      have HN1 := Lib.hid hnd1
      rw [hnd1] at hW hO HALN HFL hpos
      clear hnd hpl hnd1 HNXT
      obtain ⟨hp1, hp2⟩ := hpos
      have e4 : (nd1 : Int) ≤ 2048 := by omega
      have e5 : (1 : Int) ≤ nd1 := by omega
      go_wp2_with fail
      refine hO.mono ?_
      clear hO
      rintro e w3 ⟨rfl, hb3⟩
      have H3 := Lib.hid (HK.out.below hb3)
      clear hb3 HK
      try dsimp only
      repeat ((fail_if_success (with_reducible refine stop_at 66 rfl ?_)); (first | go_values | go_skip | go_guarded | go_step | go_upon))
      have hb4 : ∀ o : Obj, Below w3.heap.size w3 (w3.alloc o) := fun o => (Below.refl _ _).alloc (Nat.le_refl _) _
      refine gen_world (fun wx => Hid (SrcIs wx (.slice (some ⟨w3.heap.size, 0, none⟩) 1 1) 1 1 [.int .i64 (nd1 : Int)] ∧ SetI w tb N bb first n (Bs 0) nd pl 0 (.slice (some ⟨g, 0, none⟩) (0 + 1) c) (.slice a al.length ca) al wx)) (Lib.hid ⟨one_srcN w3 [.int .i64 (nd1 : Int)] 3 1 rfl (by intro u hu; simp at hu; subst hu; rfl), H3.out.below (hb4 _)⟩) ?_
      clear hb4 H3
      generalize w3.heap.size = b65
      intro w4 H4
      refine wpList_append_at rfl (.tmp 63) (.tmp 65) 27 rfl 3 j0 _ 1 8 Tryz.underlying27 HJ.out.1 HJ.out.2.1 HJ.out.2.2.1 HJ.out.2.2.2 rfl (by decide) (.slice a al.length ca) al.length (al.map (Value.int .i64)) rfl H4.out.2.2.2.1 (.slice (some ⟨b65, 0, none⟩) 1 1) 1 [.int .i64 (nd1 : Int)] rfl H4.out.1 (by unfold maxLen; omega) (by omega) ?_
      intro v5 w5 hown hgrow hwh
      obtain ⟨a5, c5, rfl⟩ := own_slice hown
      have H5 : Hid (SetI w tb N bb first n (Bs 0) nd pl 0 (.slice (some ⟨g, 0, none⟩) (0 + 1) c) (.slice a5 (al.length + 1) c5) (al ++ [(nd1 : Int)]) w5) := Lib.hid (H4.out.2.grewA (Below.refl _ _) hgrow (by simpa using hown) hwh)
      clear hown hgrow hwh H4
      simp only [Act.put, List.setIfInBounds_toArray, List.set_cons_zero, List.set_cons_succ]
      have HR : Hid (w5.rangeAt g (0 * 2) [.int .i64 (ndk : Int), .int .i64 (plk : Int)]) := Lib.hid (by
        have h := H5.out.2.1.range 0 (by omega)
        rw [HND.out, HPLK.out] at h
        exact h)
      repeat ((fail_if_success (with_reducible refine stop_at 74 rfl ?_)); (first | (first | (refine pair_load rfl (.tmp 71) rfl g (0 * 2) ndk plk rfl HR.out ?_) | (refine pair_store rfl (.tmp 15) (.tmp 72) rfl w5.heap.size ndk plk 0 0 rfl rfl (heap_alloc_new w5 _) ?_)) | go_values | go_skip | go_guarded | go_step | go_upon))
      have hbx : ∀ o : Obj, Below w5.heap.size w5 ((w5.alloc o).setRow w5.heap.size #[.int .i64 (ndk : Int), .int .i64 (plk : Int)]) := fun o => below_setRow ((Below.refl _ _).alloc (Nat.le_refl _) _) (Nat.le_refl _) _
      refine gen_world (fun wx => Hid (wx.rangeAt w5.heap.size 0 [.int .i64 (ndk : Int), .int .i64 (plk : Int)] ∧ SetI w tb N bb first n (Bs 0) nd pl 0 (.slice (some ⟨g, 0, none⟩) (0 + 1) c) (.slice a5 (al.length + 1) c5) (al ++ [(nd1 : Int)]) wx)) (Lib.hid ⟨pair_range (setRow_heap _ _ _ _ _ (0, 0) (heap_alloc_new w5 _)), H5.out.below (hbx _)⟩) ?_
      clear hbx H5 HR
      generalize w5.heap.size = b15
      intro w6 H6
      go_wp2_with (refine pair_load rfl (.tmp 15) rfl b15 0 ndk plk rfl H6.out.1 ?_)
      refine (hW.out _ w6 H6.out.2.1).mono ?_
      clear hW
      rintro e w7 ⟨rfl, hH, hk7⟩
      have H7 := Lib.hid (H6.out.2.wrote hH hk7)
      clear hH hk7 H6
      try dsimp only
      repeat ((fail_if_success (with_reducible refine stop_at 92 rfl ?_)); (first | go_values | go_skip | go_guarded | go_step | go_upon))
      rw [(pair_and block hbl).1]
      refine wpList_buildOne rfl 109 114 (.tmp 91) rfl i0 _ Tryz.underlying109 HI.out.1 HI.out.2.1 2 HI.out.2.2.1 (by decide) (by decide) (.agg #[.int .i64 (nd1 : Int), .int .i64 ((block / 16 % 16 : Nat) : Int)]) rfl #[.int .i64 (nd1 : Int), .int .i64 ((block / 16 % 16 : Nat) : Int)] rfl rfl ?_
      have hb7 : ∀ o : Obj, Below w7.heap.size w7 (w7.alloc o) := fun o => (Below.refl _ _).alloc (Nat.le_refl _) _
      refine gen_world (fun wx => Hid (SrcIs wx (.slice (some ⟨w7.heap.size, 0, none⟩) 1 1) 1 2 [.int .i64 (nd1 : Int), .int .i64 ((block / 16 % 16 : Nat) : Int)] ∧ SetI w tb N bb first n (Bs (0 + 1)) nd pl 0 (.slice (some ⟨g, 0, none⟩) (0 + 1) c) (.slice a5 (al.length + 1) c5) (al ++ [(nd1 : Int)]) wx)) (Lib.hid ⟨one_srcN w7 [.int .i64 (nd1 : Int), .int .i64 ((block / 16 % 16 : Nat) : Int)] 114 2 rfl (by intro u hu; simp at hu; rcases hu with rfl | rfl <;> rfl), H7.out.below (hb7 _)⟩) ?_
      clear hb7 H7
      generalize w7.heap.size = b92
      intro w8 H8
      refine wpList_append_at rfl (.tmp 85) (.tmp 92) 109 rfl 114 i0 _ 2 16 Tryz.underlying109 HI.out.1 HI.out.2.1 HI.out.2.2.1 HI.out.2.2.2 rfl (by decide) (.slice (some ⟨g, 0, none⟩) (0 + 1) c) (0 + 1) (fl2 nd pl (0 + 1)) rfl H8.out.2.2.1 (.slice (some ⟨b92, 0, none⟩) 1 1) 1 [.int .i64 (nd1 : Int), .int .i64 ((block / 16 % 16 : Nat) : Int)] rfl H8.out.1 (by unfold maxLen; omega) (by omega) ?_
      intro v9 w9 hown hgrow hwh
      have hway : WayI w9 v9 nd pl (0 + 1 + 1) := by
        unfold WayI
        rw [HFL.out, HPN.out]
        exact hown
      have H9 := Lib.hid (H8.out.2.grewL (Below.refl _ _) hgrow hway hwh)
      obtain ⟨g9, c9, rfl, hg9⟩ := hway.at (by omega)
      clear hown hgrow hwh hway H8
      simp only [Act.put, List.setIfInBounds_toArray, List.set_cons_zero, List.set_cons_succ]
      go_wp2_with fail
      have hlen : (al ++ [(nd1 : Int)]).length = al.length + 1 := by simp
      refine ⟨⟨0 + 1, al ++ [(nd1 : Int)], by omega, by omega, ⟨g9, c9, ?_⟩, ⟨a5, c5, ?_⟩, Lib.hid HALN.out.symm, ?_⟩, ?_⟩
      · with_reducible rfl
      · rw [hlen]
      · exact H9
      · show 4 - (0 + 1 + 1) < 4 - (0 + 1)
        omega
section
variable {B : BookS} {first n : Nat} {M : Nat → Nat → Nat → Int} {r1 : Nat → Nat} {r2 : Nat → Nat → Nat}
/-- Set of a number where there is no room. -/
theorem rset_full (h : ForI (rdOf B first) n (fun _ => False) M r1 r2) (tb : Nat) (N : Nat → Prop) (bb : Nat) (hn : first + n < B.n) (hn2 : n ≤ 4095) (hc : B.cnt ≤ 50) {l block : Nat} (hl : l < 4) (hb : block < 256) (x : Int) (hx : 1 ≤ x ∧ x < 16777216)
    (hroom : n < lkF r1 r2 + (if r1 l = 0 then 1 else 0) + (if r2 l (block / 16) = 0 then 1 else 0)) (w : World) (hh : HolI 119 w tb N bb first n B) :
    Calls Tryz.prog 21 #[.pointer (some ⟨tb, 0, none⟩), .int .i64 (l : Int), .int .i64 (block : Int), .int .i64 x] w fun e w' => (∃ v, e = .returned v ∧ ErrV w' v 22) ∧ (∃ B', HolI 119 w' tb N bb first n B' ∧ B'.shut = B.shut) ∧ Keeps N w w' := by
  have hg : block / 16 < 16 := by omega
  have hle := nodesF_le B first n
  rw [h.nodes] at hle
  by_cases h1 : r1 l = 0
  · have h2 := h.mid0 l _ hl hg h1
    rw [if_pos h1, if_pos h2] at hroom
    by_cases hlt : lkF r1 r2 < n
    · obtain ⟨p, hp1, hp2, hp3, _, hp5⟩ := h.free1 hlt
      have hz : B.view (first + p) = zer 64 := hp3
      have hall := h.full1 (by omega) p ⟨hp1, hp2⟩ hz
      obtain ⟨B1, hB1⟩ : ∃ B1, B.wrote (first + 0) (putNF (B.view (first + 0)) l (p : Int)) = B1 := ⟨_, rfl⟩
      have hs : SetT B first n 0 1 (ndOf p 0) (plOf l (block / 16) (block % 16)) (fun k => if k = 0 then B else B1) := by
        refine ⟨by decide, by decide, fun k hk => ?_, fun k _ hk => ?_, fun k _ hk => ?_, fun k _ hk => ?_, fun k _ hk j a b => ?_, fun k _ hk => ?_, fun k _ hk => ?_, fun j a b => ?_⟩
        · rcases (show k = 0 ∨ k = 1 by omega) with rfl | rfl
          · exact Nat.zero_le _
          · exact hp2
        all_goals try (rcases (show k = 0 by omega) with rfl)
        · exact ⟨hp1, hp2⟩
        · exact hz
        · rw [ahF_self]; simp
        · left
          rcases hp5 j a b with q | q
          · exact q
          · exact q.elim
        · exact wrOk_few hc (by decide) _ _
        · exact hB1.symm
        · by_cases e : j = p
          · right
            rw [e, ahF_succ _ 0 0 (by decide)]
            exact List.mem_append.2 (.inr (List.mem_singleton.2 rfl))
          · left
            show B1.view (first + j) ≠ _
            rw [← hB1, BookS.wrote_view, if_neg (by omega)]
            exact hall j a b e
      refine (rset_fail tb N bb first n B l block 0 hl hb hn _ _ (way0 h hl hb h1 p 0) _ x hx 1 hs rfl w hh).mono ?_
      rintro e w' ⟨hv, hH, hk⟩
      exact ⟨hv, ⟨B1, hH, by rw [← hB1, BookS.wrote_shut]⟩, hk⟩
    · have hall := h.full (by omega)
      have hs : SetT B first n 0 0 (ndOf 0 0) (plOf l (block / 16) (block % 16)) (fun _ => B) :=
        ⟨by decide, by decide, fun k hk => by rcases (show k = 0 by omega) with rfl; exact Nat.zero_le _, fun k _ hk => by omega, fun k _ hk => by omega, fun k _ hk => by omega, fun k _ hk => by omega, fun k _ hk => by omega, fun k _ hk => by omega, fun j a b => .inl (hall j a b)⟩
      refine (rset_fail tb N bb first n B l block 0 hl hb hn _ _ (way0 h hl hb h1 0 0) _ x hx 0 hs rfl w hh).mono ?_
      rintro e w' ⟨hv, hH, hk⟩
      exact ⟨hv, ⟨B, hH, rfl⟩, hk⟩
  · by_cases h2 : r2 l (block / 16) = 0
    · rw [if_neg h1, if_pos h2] at hroom
      have hall := h.full (by omega)
      have hs : SetT B first n 1 1 (ndOf (r1 l) 0) (plOf l (block / 16) (block % 16)) (fun _ => B) :=
        ⟨by decide, by decide, fun k hk => by
          rcases (show k = 0 ∨ k = 1 by omega) with rfl | rfl
          · exact Nat.zero_le _
          · exact h.le1 l hl, fun k _ hk => by omega, fun k _ hk => by omega, fun k _ hk => by omega, fun k _ hk => by omega, fun k _ hk => by omega, fun k _ hk => by omega, fun j a b => .inl (hall j a b)⟩
      refine (rset_fail tb N bb first n B l block 1 hl hb hn _ _ (way1 h hl hb h1 h2 0) _ x hx 1 hs rfl w hh).mono ?_
      rintro e w' ⟨hv, hH, hk⟩
      exact ⟨hv, ⟨B, hH, rfl⟩, hk⟩
    · rw [if_neg h1, if_neg h2] at hroom
      omega
end
end Go.Proofs.YtjikpodghmfjcaaGreatDoor
