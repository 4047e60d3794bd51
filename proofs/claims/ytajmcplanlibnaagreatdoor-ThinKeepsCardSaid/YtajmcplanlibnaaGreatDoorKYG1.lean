/- A forest: plain. The number at a place of a page, where one has been put. -/
import Derived.Test.YtajmcplanlibnaaGreatDoorKYM6
import Derived.Laws.Bits64b
import Derived.Test.YtajmcplanlibnaaGreatDoorKYQ1
set_option linter.unusedSimpArgs false
set_option linter.unusedVariables false
set_option linter.unnecessarySimpa false
namespace Go.Proofs.YtajmcplanlibnaaGreatDoor
open Go.RowKit Go.Maps
theorem wrap_i64_nat (x : Nat) (h : x < 9223372036854775808) : IntKind.i64.wrap (x : Int) = (x : Int) := by
  have h1 : (x : Int) % 18446744073709551616 = x := by omega
  show (if true && decide ((x : Int) % (2 ^ 64 : Int) ≥ (2 ^ (64 - 1) : Int)) then (x : Int) % (2 ^ 64 : Int) - (2 ^ 64 : Int) else (x : Int) % (2 ^ 64 : Int)) = x
  rw [show (2 ^ 64 : Int) = 18446744073709551616 by decide, h1, show (2 ^ (64 - 1) : Int) = 9223372036854775808 by decide]
  rw [if_neg]
  rw [Bool.true_and, decide_eq_true_eq]
  omega
theorem or_i64_nat (a b : Nat) (ha : a < 9223372036854775808) (hb : b < 9223372036854775808) : bits .or .i64 (a : Int) (b : Int) = ((a ||| b : Nat) : Int) := by
  have hx : a ||| b < 2 ^ 63 := Nat.or_lt_two_pow (by omega) (by omega)
  have h1 : (BitVec.ofInt 64 (a : Int)).toNat = a := by
    rw [BitVec.ofInt_natCast, BitVec.toNat_ofNat]; exact Nat.mod_eq_of_lt (by omega)
  have h2 : (BitVec.ofInt 64 (b : Int)).toNat = b := by
    rw [BitVec.ofInt_natCast, BitVec.toNat_ofNat]; exact Nat.mod_eq_of_lt (by omega)
  show IntKind.i64.wrap ((BitVec.ofInt 64 (a : Int) ||| BitVec.ofInt 64 (b : Int)).toNat : Int) = _
  rw [BitVec.toNat_or, h1, h2]
  exact wrap_i64_nat _ (by omega)
theorem or_parts (a b k : Nat) (ha : a < 2 ^ k) (hk : 2 ^ k < 9223372036854775808) (hb : b * 2 ^ k < 9223372036854775808) : bits .or .i64 (a : Int) ((b * 2 ^ k : Nat) : Int) = ((a + b * 2 ^ k : Nat) : Int) := by
  rw [or_i64_nat a (b * 2 ^ k) (by omega) hb]
  congr 1
  have h := Nat.two_pow_add_eq_or_of_lt ha b
  rw [Nat.or_comm, Nat.mul_comm b, ← h, Nat.add_comm]
theorem atF_eq (p : List Int) (hp : PgOk p) (i : Nat) : atF p i = p.getD (4 * i) 0 + p.getD (4 * i + 1) 0 * 256 + p.getD (4 * i + 2) 0 * 65536 := by
  obtain ⟨u0, v0⟩ := hp.2.at (4 * i)
  obtain ⟨u1, v1⟩ := hp.2.at (4 * i + 1)
  obtain ⟨u2, v2⟩ := hp.2.at (4 * i + 2)
  unfold atF
  generalize p.getD (4 * i) 0 = a at *
  generalize p.getD (4 * i + 1) 0 = b at *
  generalize p.getD (4 * i + 2) 0 = c at *
  obtain ⟨a', rfl⟩ := Int.eq_ofNat_of_zero_le u0
  obtain ⟨b', rfl⟩ := Int.eq_ofNat_of_zero_le u1
  obtain ⟨c', rfl⟩ := Int.eq_ofNat_of_zero_le u2
  have h1 := or_parts a' b' 8 (by omega) (by decide) (by omega)
  have h2 := or_parts (a' + b' * 256) c' 16 (by omega) (by decide) (by omega)
  rw [show ((b' : Int) * 256) = ((b' * 2 ^ 8 : Nat) : Int) by show _ = ((b' * 256 : Nat) : Int); omega, h1, show ((c' : Int) * 65536) = ((c' * 2 ^ 16 : Nat) : Int) by show _ = ((c' * 65536 : Nat) : Int); omega]
  rw [show (a' + b' * 2 ^ 8 : Nat) = a' + b' * 256 from rfl, h2]
  show ((a' + b' * 256 + c' * 65536 : Nat) : Int) = _
  omega
theorem atF_put (p : List Int) (hp : PgOk p) (k : Nat) (hk : k < 16) (x : Int) (hx : 0 ≤ x ∧ x < 16777216) (j : Nat) (hj : j < 16) : atF (putNF p k x) j = if j = k then x else atF p j := by
  rw [atF_eq _ (putNF_ok hp k x hx), atF_eq _ hp]
  have hl := hp.1
  have hs : ∀ (l : List Int) (a : Nat) (v : Int) (i : Nat), a < l.length → (l.set a v).getD i 0 = if i = a then v else l.getD i 0 := fun l a v i ha => by
    by_cases e : i = a
    · subst e
      simp [List.getD, List.getElem?_set_self ha]
    · rw [if_neg e]
      simp [List.getD, List.getElem?_set_ne (fun e' => e e'.symm)]
  have hput : ∀ i, (putNF p k x).getD i 0 = if i = 4 * k + 2 then x / 65536 else if i = 4 * k + 1 then x / 256 % 256 else if i = 4 * k then x % 256 else p.getD i 0 := fun i => by
    unfold putNF
    rw [hs _ _ _ _ (by rw [List.length_set, List.length_set]; omega), hs _ _ _ _ (by rw [List.length_set]; omega), hs _ _ _ _ (by omega)]
  rw [hput, hput, hput]
  by_cases e : j = k
  · subst e
    rw [if_neg (by omega), if_neg (by omega), if_pos rfl, if_neg (by omega), if_pos rfl, if_pos rfl, if_pos rfl]
    omega
  · rw [if_neg (by omega), if_neg (by omega), if_neg (by omega), if_neg (by omega), if_neg (by omega), if_neg (by omega), if_neg (by omega), if_neg (by omega), if_neg (by omega), if_neg e]
theorem putNF_get (p : List Int) (hp : p.length = 64) (k : Nat) (hk : k < 16) (x : Int) (i : Nat) : (putNF p k x).getD i 0 = if i = 4 * k + 2 then x / 65536 else if i = 4 * k + 1 then x / 256 % 256 else if i = 4 * k then x % 256 else p.getD i 0 := by
  have hs : ∀ (l : List Int) (a : Nat) (v : Int) (i : Nat), a < l.length → (l.set a v).getD i 0 = if i = a then v else l.getD i 0 := fun l a v i ha => by
    by_cases e : i = a
    · subst e
      simp [List.getD, List.getElem?_set_self ha]
    · rw [if_neg e]
      simp [List.getD, List.getElem?_set_ne (fun e' => e e'.symm)]
  unfold putNF
  rw [hs _ _ _ _ (by rw [List.length_set, List.length_set]; omega), hs _ _ _ _ (by rw [List.length_set]; omega), hs _ _ _ _ (by omega)]
def NdOk (p : List Int) : Prop := PgOk p ∧ ∀ i, i < 16 → p.getD (4 * i + 3) 0 = 0
theorem NdOk.put {p : List Int} (hp : NdOk p) (k : Nat) (hk : k < 16) (x : Int) (hx : 0 ≤ x ∧ x < 16777216) : NdOk (putNF p k x) :=
  ⟨putNF_ok hp.1 k x hx, fun i hi => by
    rw [putNF_get p hp.1.1 k hk, if_neg (by omega), if_neg (by omega), if_neg (by omega)]; exact hp.2 i hi⟩
theorem NdOk.zer : NdOk (zer 64) := ⟨zer_pg, fun i _ => zer_getD _ _⟩
theorem NdOk.none {p : List Int} (hp : NdOk p) (h : ∀ i, i < 16 → atF p i = 0) : p = Go.Proofs.YtajmcplanlibnaaGreatDoor.zer 64 := by
  apply List.ext_getElem (by rw [hp.1.1]; rfl)
  intro i h1 h2
  have hz : (Go.Proofs.YtajmcplanlibnaaGreatDoor.zer 64)[i] = 0 := by unfold Go.Proofs.YtajmcplanlibnaaGreatDoor.zer; exact List.getElem_replicate _
  have hi : i < 64 := by rw [hp.1.1] at h1; exact h1
  have hg : p[i] = p.getD i 0 := by simp [List.getD, List.getElem?_eq_getElem h1]
  rw [hz, hg]
  have ha := h (i / 4) (by omega)
  rw [atF_eq _ hp.1] at ha
  obtain ⟨u0, v0⟩ := hp.1.2.at (4 * (i / 4))
  obtain ⟨u1, v1⟩ := hp.1.2.at (4 * (i / 4) + 1)
  obtain ⟨u2, v2⟩ := hp.1.2.at (4 * (i / 4) + 2)
  rcases (show i = 4 * (i / 4) ∨ i = 4 * (i / 4) + 1 ∨ i = 4 * (i / 4) + 2 ∨ i = 4 * (i / 4) + 3 by omega) with e | e | e | e
  · rw [e]; omega
  · rw [e]; omega
  · rw [e]; omega
  · rw [e]; exact hp.2 (i / 4) (by omega)
open Go.RowKit Go.Maps
structure ForI (rd : Nat → List Int) (n : Nat) (A : Nat → Prop) (M : Nat → Nat → Nat → Int) (r1 : Nat → Nat) (r2 : Nat → Nat → Nat) : Prop where
  root : ∀ l, l < 4 → atF (rd 0) l = (r1 l : Int)
  mid : ∀ l g, l < 4 → g < 16 → r1 l ≠ 0 → atF (rd (r1 l)) g = (r2 l g : Int)
  mid0 : ∀ l g, l < 4 → g < 16 → r1 l = 0 → r2 l g = 0
  leaf : ∀ l g b, l < 4 → g < 16 → b < 16 → r2 l g ≠ 0 → atF (rd (r2 l g)) b = M l g b
  leaf0 : ∀ l g b, l < 4 → g < 16 → b < 16 → r2 l g = 0 → M l g b = 0
  le1 : ∀ l, l < 4 → r1 l ≤ n
  le2 : ∀ l g, l < 4 → g < 16 → r2 l g ≤ n
  inj1 : ∀ l l', l < 4 → l' < 4 → r1 l ≠ 0 → r1 l = r1 l' → l = l'
  inj2 : ∀ l g l' g', l < 4 → g < 16 → l' < 4 → g' < 16 → r2 l g ≠ 0 → r2 l g = r2 l' g' → l = l' ∧ g = g'
  apart : ∀ l l' g', l < 4 → l' < 4 → g' < 16 → r1 l ≠ 0 → r1 l ≠ r2 l' g'
  used : ∀ p, 1 ≤ p → p ≤ n → ((rd p ≠ zer 64 ∨ A p) ↔ ((∃ l, l < 4 ∧ r1 l = p) ∨ ∃ l g, l < 4 ∧ g < 16 ∧ r2 l g = p))
  pend : ∀ p, A p → 1 ≤ p ∧ rd p = zer 64
  ok : ∀ p, p ≤ n → NdOk (rd p)
theorem ForI.pg {rd : Nat → List Int} {n : Nat} {A : Nat → Prop} {M : Nat → Nat → Nat → Int} {r1 : Nat → Nat} {r2 : Nat → Nat → Nat} (h : ForI rd n A M r1 r2) (p : Nat) (hp : p ≤ n) : PgOk (rd p) := (h.ok p hp).1
theorem atF_zer (i : Nat) (hi : i < 16) : atF (zer 64) i = 0 := by
  have h : ∀ i : Fin 16, atF (zer 64) i = 0 := by decide +kernel
  exact h ⟨i, hi⟩
theorem put_ne {p : List Int} (hp : PgOk p) (k : Nat) (hk : k < 16) (x : Int) (hx : 1 ≤ x ∧ x < 16777216) : putNF p k x ≠ zer 64 := fun e => by
  have h := atF_put p hp k hk x ⟨by omega, hx.2⟩ k hk
  rw [if_pos rfl, e, atF_zer k hk] at h
  omega
section
variable {rd : Nat → List Int} {n : Nat} {A : Nat → Prop} {M : Nat → Nat → Nat → Int} {r1 : Nat → Nat} {r2 : Nat → Nat → Nat}
def rdPut (rd : Nat → List Int) (q k : Nat) (x : Int) : Nat → List Int := fun p => if p = q then putNF (rd q) k x else rd p
theorem ForI.link1 (h : ForI rd n A M r1 r2) {l p : Nat} (hl : l < 4) (h0 : r1 l = 0) (hp : 1 ≤ p ∧ p ≤ n) (hn : n ≤ 4095) (hz : rd p = zer 64) (hA : ¬ A p) :
    ForI (rdPut rd 0 l p) n (fun q => A q ∨ q = p) M (fun l' => if l' = l then p else r1 l') r2 := by
  have hfree : ∀ q, q = p → ¬ ((∃ l, l < 4 ∧ r1 l = q) ∨ ∃ l g, l < 4 ∧ g < 16 ∧ r2 l g = q) := fun q e hq => by
    subst e
    rcases (h.used q hp.1 hp.2).2 hq with h1 | h1
    · exact h1 hz
    · exact hA h1
  have hrd : ∀ q, q ≠ 0 → rdPut rd 0 l p q = rd q := fun q hq => by unfold rdPut; rw [if_neg hq]
  have hrd0 : rdPut rd 0 l p 0 = putNF (rd 0) l p := by unfold rdPut; rw [if_pos rfl]
  have hpx : (0 : Int) ≤ p ∧ (p : Int) < 16777216 := by omega
  refine ⟨fun l' hl' => ?_, fun l' g hl' hg h1 => ?_, fun l' g hl' hg h1 => ?_, fun l' g b hl' hg hb h1 => ?_, h.leaf0, fun l' hl' => ?_, h.le2, fun l1 l2 h1 h2 h3 h4 => ?_, h.inj2, fun l1 l2 g2 h1 h2 h3 h4 => ?_, fun q q1 q2 => ?_, fun q hq => ?_, fun q hq => ?_⟩
  · rw [hrd0, atF_put _ (h.pg 0 (by omega)) l (by omega) _ hpx l' (by omega)]
    by_cases e : l' = l
    · simp [e]
    · simp [e, h.root l' hl']
  · by_cases e : l' = l
    · subst e
      simp only [if_true] at h1 ⊢
      rw [hrd p h1, hz, atF_zer g hg, h.mid0 l' g hl' hg h0]; rfl
    · simp only [e, if_false] at h1 ⊢
      rw [hrd _ h1]; exact h.mid l' g hl' hg h1
  · by_cases e : l' = l
    · simp only [e, if_true] at h1; omega
    · simp only [e, if_false] at h1; exact h.mid0 l' g hl' hg h1
  · rw [hrd _ h1]; exact h.leaf l' g b hl' hg hb h1
  · by_cases e : l' = l
    · simp [e, hp.2]
    · simp [e, h.le1 l' hl']
  · by_cases e1 : l1 = l
    · by_cases e2 : l2 = l
      · omega
      · simp only [e1, e2, if_true, if_false] at h4
        exact absurd (.inl ⟨l2, h2, h4.symm⟩) (hfree p rfl)
    · by_cases e2 : l2 = l
      · simp only [e1, e2, if_true, if_false] at h4
        exact absurd (.inl ⟨l1, h1, h4⟩) (hfree p rfl)
      · simp only [e1, e2, if_false] at h3 h4
        exact h.inj1 l1 l2 h1 h2 h3 h4
  · by_cases e1 : l1 = l
    · simp only [e1, if_true]
      exact fun e => hfree p rfl (.inr ⟨l2, g2, h2, h3, e.symm⟩)
    · simp only [e1, if_false] at h4 ⊢
      exact h.apart l1 l2 g2 h1 h2 h3 h4
  · rw [hrd q (by omega)]
    constructor
    · rintro (h1 | h1 | h1)
      · rcases (h.used q q1 q2).1 (.inl h1) with ⟨l', a, b⟩ | h2
        · exact .inl ⟨l', a, by rw [if_neg (fun e => by rw [e, h0] at b; omega)]; exact b⟩
        · exact .inr h2
      · rcases (h.used q q1 q2).1 (.inr h1) with ⟨l', a, b⟩ | h2
        · exact .inl ⟨l', a, by rw [if_neg (fun e => by rw [e, h0] at b; omega)]; exact b⟩
        · exact .inr h2
      · exact .inl ⟨l, hl, by rw [if_pos rfl, h1]⟩
    · rintro (⟨l', a, b⟩ | h2)
      · by_cases e : l' = l
        · rw [if_pos e] at b; exact .inr (.inr b.symm)
        · rw [if_neg e] at b
          rcases (h.used q q1 q2).2 (.inl ⟨l', a, b⟩) with h3 | h3
          · exact .inl h3
          · exact .inr (.inl h3)
      · rcases (h.used q q1 q2).2 (.inr h2) with h3 | h3
        · exact .inl h3
        · exact .inr (.inl h3)
  · rcases hq with hq | hq
    · have := h.pend q hq
      rw [hrd q (by omega)]; exact this
    · rw [hq, hrd p (by omega)]; exact ⟨hp.1, hz⟩
  · by_cases e : q = 0
    · rw [e, hrd0]; exact (h.ok 0 (by omega)).put l (by omega) p hpx
    · rw [hrd q e]; exact h.ok q hq
theorem ForI.link2 (h : ForI rd n A M r1 r2) {l g p : Nat} (hl : l < 4) (hg : g < 16) (h1 : r1 l ≠ 0) (h0 : r2 l g = 0) (hp : 1 ≤ p ∧ p ≤ n) (hn : n ≤ 4095) (hz : rd p = zer 64) (hA : ¬ A p) :
    ForI (rdPut rd (r1 l) g p) n (fun q => A q ∧ q ≠ r1 l ∨ q = p) M r1 (fun l' g' => if l' = l ∧ g' = g then p else r2 l' g') := by
  have hfree : ¬ ((∃ l, l < 4 ∧ r1 l = p) ∨ ∃ l g, l < 4 ∧ g < 16 ∧ r2 l g = p) := fun hq => by
    rcases (h.used p hp.1 hp.2).2 hq with h1 | h1
    · exact h1 hz
    · exact hA h1
  have hpl : p ≠ r1 l := fun e => hfree (.inl ⟨l, hl, e.symm⟩)
  have hrd : ∀ q, q ≠ r1 l → rdPut rd (r1 l) g p q = rd q := fun q hq => by unfold rdPut; rw [if_neg hq]
  have hrd0 : rdPut rd (r1 l) g p (r1 l) = putNF (rd (r1 l)) g p := by unfold rdPut; rw [if_pos rfl]
  have hpx : (0 : Int) ≤ p ∧ (p : Int) < 16777216 := by omega
  have hok := h.pg (r1 l) (h.le1 l hl)
  refine ⟨fun l' hl' => ?_, fun l' g' hl' hg' h2 => ?_, fun l' g' hl' hg' h2 => ?_, fun l' g' b hl' hg' hb h2 => ?_, fun l' g' b hl' hg' hb h2 => ?_, h.le1, fun l' g' hl' hg' => ?_, h.inj1, fun l1 g1 l2 g2 a1 a2 a3 a4 a5 a6 => ?_, fun l1 l2 g2 a1 a2 a3 a4 => ?_, fun q q1 q2 => ?_, fun q hq => ?_, fun q hq => ?_⟩
  · rw [hrd 0 (fun e => h1 e.symm)]; exact h.root l' hl'
  · by_cases e : l' = l
    · subst e
      rw [hrd0, atF_put _ hok g hg _ hpx g' hg']
      by_cases e2 : g' = g
      · simp [e2]
      · simp [e2, h.mid l' g' hl' hg' h2]
    · rw [hrd _ (fun e' => e (h.inj1 l' l hl' hl h2 e')), if_neg (fun e' => e e'.1)]
      exact h.mid l' g' hl' hg' h2
  · rw [if_neg (fun e' => h1 (by rw [← e'.1]; exact h2))]
    exact h.mid0 l' g' hl' hg' h2
  · by_cases e : l' = l ∧ g' = g
    · obtain ⟨rfl, rfl⟩ := e
      simp only [and_self, if_true]
      rw [hrd p hpl, hz, atF_zer b hb, h.leaf0 l' g' b hl' hg' hb h0]
    · rw [if_neg e] at h2 ⊢
      rw [hrd _ (fun e' => h.apart l l' g' hl hl' hg' h1 e'.symm)]
      exact h.leaf l' g' b hl' hg' hb h2
  · by_cases e : l' = l ∧ g' = g
    · rw [if_pos e] at h2; omega
    · rw [if_neg e] at h2; exact h.leaf0 l' g' b hl' hg' hb h2
  · by_cases e : l' = l ∧ g' = g
    · rw [if_pos e]; exact hp.2
    · rw [if_neg e]; exact h.le2 l' g' hl' hg'
  · by_cases e1 : l1 = l ∧ g1 = g
    · by_cases e2 : l2 = l ∧ g2 = g
      · omega
      · rw [if_pos e1, if_neg e2] at a6
        exact absurd (.inr ⟨l2, g2, a3, a4, a6.symm⟩) hfree
    · by_cases e2 : l2 = l ∧ g2 = g
      · rw [if_neg e1, if_pos e2] at a6
        exact absurd (.inr ⟨l1, g1, a1, a2, a6⟩) hfree
      · rw [if_neg e1] at a5 a6
        rw [if_neg e2] at a6
        exact h.inj2 l1 g1 l2 g2 a1 a2 a3 a4 a5 a6
  · by_cases e : l2 = l ∧ g2 = g
    · rw [if_pos e]
      exact fun e' => hfree (.inl ⟨l1, a1, e'⟩)
    · rw [if_neg e]; exact h.apart l1 l2 g2 a1 a2 a3 a4
  · by_cases e : q = r1 l
    · subst e
      refine ⟨fun _ => .inl ⟨l, hl, rfl⟩, fun _ => .inl ?_⟩
      rw [hrd0]
      exact put_ne hok g hg _ (by omega)
    · rw [hrd q e]
      constructor
      · rintro (b1 | ⟨b1, _⟩ | b1)
        · rcases (h.used q q1 q2).1 (.inl b1) with c | ⟨l', g', c1, c2, c3⟩
          · exact .inl c
          · exact .inr ⟨l', g', c1, c2, by rw [if_neg (fun e => by rw [e.1, e.2, h0] at c3; omega)]; exact c3⟩
        · rcases (h.used q q1 q2).1 (.inr b1) with c | ⟨l', g', c1, c2, c3⟩
          · exact .inl c
          · exact .inr ⟨l', g', c1, c2, by rw [if_neg (fun e => by rw [e.1, e.2, h0] at c3; omega)]; exact c3⟩
        · exact .inr ⟨l, g, hl, hg, by rw [if_pos ⟨rfl, rfl⟩, b1]⟩
      · rintro (c | ⟨l', g', c1, c2, c3⟩)
        · rcases (h.used q q1 q2).2 (.inl c) with d | d
          · exact .inl d
          · exact .inr (.inl ⟨d, e⟩)
        · by_cases e2 : l' = l ∧ g' = g
          · rw [if_pos e2] at c3; exact .inr (.inr c3.symm)
          · rw [if_neg e2] at c3
            rcases (h.used q q1 q2).2 (.inr ⟨l', g', c1, c2, c3⟩) with d | d
            · exact .inl d
            · exact .inr (.inl ⟨d, e⟩)
  · rcases hq with ⟨hq, hne⟩ | hq
    · have := h.pend q hq
      rw [hrd q hne]; exact this
    · rw [hq, hrd p hpl]; exact ⟨hp.1, hz⟩
  · by_cases e : q = r1 l
    · rw [e, hrd0]; exact (h.ok (r1 l) (h.le1 l hl)).put g hg _ hpx
    · rw [hrd q e]; exact h.ok q hq
theorem ForI.lay (h : ForI rd n A M r1 r2) {l g b : Nat} (hl : l < 4) (hg : g < 16) (hb : b < 16) (h1 : r2 l g ≠ 0) (x : Int) (hx : 1 ≤ x ∧ x < 16777216) (hr : r1 l ≠ 0) :
    ForI (rdPut rd (r2 l g) b x) n (fun q => A q ∧ q ≠ r2 l g) (fun l' g' b' => if l' = l ∧ g' = g ∧ b' = b then x else M l' g' b') r1 r2 := by
  have hrd : ∀ q, q ≠ r2 l g → rdPut rd (r2 l g) b x q = rd q := fun q hq => by unfold rdPut; rw [if_neg hq]
  have hrd0 : rdPut rd (r2 l g) b x (r2 l g) = putNF (rd (r2 l g)) b x := by unfold rdPut; rw [if_pos rfl]
  have hok := h.pg (r2 l g) (h.le2 l g hl hg)
  refine ⟨fun l' hl' => ?_, fun l' g' hl' hg' h2 => ?_, h.mid0, fun l' g' b' hl' hg' hb' h2 => ?_, fun l' g' b' hl' hg' hb' h2 => ?_, h.le1, h.le2, h.inj1, h.inj2, h.apart, fun q q1 q2 => ?_, fun q hq => ?_, fun q hq => ?_⟩
  · rw [hrd 0 (fun e => h1 e.symm)]; exact h.root l' hl'
  · rw [hrd _ (h.apart l' l g hl' hl hg h2)]; exact h.mid l' g' hl' hg' h2
  · by_cases e : l' = l ∧ g' = g
    · obtain ⟨rfl, rfl⟩ := e
      rw [hrd0, atF_put _ hok b hb x ⟨by omega, hx.2⟩ b' hb']
      by_cases e2 : b' = b
      · simp [e2]
      · simp [e2, h.leaf l' g' b' hl' hg' hb' h2]
    · rw [hrd _ (fun e' => e (h.inj2 l' g' l g hl' hg' hl hg h2 e')), if_neg (fun e' => e ⟨e'.1, e'.2.1⟩)]
      exact h.leaf l' g' b' hl' hg' hb' h2
  · rw [if_neg (fun e' => h1 (by rw [← e'.1, ← e'.2.1]; exact h2))]
    exact h.leaf0 l' g' b' hl' hg' hb' h2
  · by_cases e : q = r2 l g
    · subst e
      refine ⟨fun _ => .inr ⟨l, g, hl, hg, rfl⟩, fun _ => .inl ?_⟩
      rw [hrd0]
      exact put_ne hok b hb x hx
    · rw [hrd q e]
      constructor
      · rintro (c | ⟨c, _⟩)
        · exact (h.used q q1 q2).1 (.inl c)
        · exact (h.used q q1 q2).1 (.inr c)
      · intro c
        rcases (h.used q q1 q2).2 c with d | d
        · exact .inl d
        · exact .inr ⟨d, e⟩
  · have := h.pend q hq.1
    rw [hrd q hq.2]; exact this
  · by_cases e : q = r2 l g
    · rw [e, hrd0]; exact (h.ok (r2 l g) (h.le2 l g hl hg)).put b hb x ⟨by omega, hx.2⟩
    · rw [hrd q e]; exact h.ok q hq
end
theorem ForI.start (n : Nat) : ForI (fun _ => zer 64) n (fun _ => False) (fun _ _ _ => 0) (fun _ => 0) (fun _ _ => 0) where
  root := fun l hl => atF_zer l (by omega)
  mid := fun l g hl hg h => absurd rfl h
  mid0 := fun _ _ _ _ _ => rfl
  leaf := fun l g b hl hg hb h => absurd rfl h
  leaf0 := fun _ _ _ _ _ _ _ => rfl
  le1 := fun _ _ => Nat.zero_le _
  le2 := fun _ _ _ _ => Nat.zero_le _
  inj1 := fun _ _ _ _ h => absurd rfl h
  inj2 := fun _ _ _ _ _ _ _ _ h => absurd rfl h
  apart := fun _ _ _ _ _ _ h => absurd rfl h
  used := fun p h1 h2 => ⟨fun h => by rcases h with h | h; exact absurd rfl h; exact h.elim, fun h => by
    rcases h with ⟨l, _, h⟩ | ⟨l, g, _, _, h⟩ <;> omega⟩
  pend := fun _ h => h.elim
  ok := fun _ _ => NdOk.zer
open Go.RowKit Go.Maps
def rdOf (B : BookS) (first : Nat) : Nat → List Int := fun p => B.view (first + p)
def ndOf (a b : Nat) : Nat → Nat
  | 0 => 0
  | 1 => a
  | _ => b
def plOf (l g b : Nat) : Nat → Nat
  | 0 => l
  | 1 => g
  | _ => b
section
variable {B : BookS} {first n : Nat} {A : Nat → Prop} {M : Nat → Nat → Nat → Int} {r1 : Nat → Nat} {r2 : Nat → Nat → Nat}
theorem way0 (h : ForI (rdOf B first) n A M r1 r2) {l block : Nat} (hl : l < 4) (hb : block < 256) (h1 : r1 l = 0) (a b : Nat) : WayS B first n l block 0 (ndOf a b) (plOf l (block / 16) (block % 16)) where
  hm := by decide
  nd0 := rfl
  pl0 := rfl
  pl1 := by show block / 16 = block / 16 % 16; omega
  pl2 := rfl
  le := fun k hk => by rw [show k = 0 by omega]; exact Nat.zero_le _
  on := fun k hk => by omega
  last := fun _ => by
    have := h.root l hl
    rw [h1] at this
    exact this
theorem way1 (h : ForI (rdOf B first) n A M r1 r2) {l block : Nat} (hl : l < 4) (hb : block < 256) (h1 : r1 l ≠ 0) (h2 : r2 l (block / 16) = 0) (b : Nat) : WayS B first n l block 1 (ndOf (r1 l) b) (plOf l (block / 16) (block % 16)) where
  hm := by decide
  nd0 := rfl
  pl0 := rfl
  pl1 := by show block / 16 = block / 16 % 16; omega
  pl2 := rfl
  le := fun k hk => by
    rcases (show k = 0 ∨ k = 1 by omega) with rfl | rfl
    · exact Nat.zero_le _
    · exact h.le1 l hl
  on := fun k hk => by
    rw [show k = 0 by omega]
    exact ⟨h.root l hl, h1⟩
  last := fun _ => by
    have := h.mid l (block / 16) hl (by omega) h1
    rw [h2] at this
    exact this
theorem way2 (h : ForI (rdOf B first) n A M r1 r2) {l block : Nat} (hl : l < 4) (hb : block < 256) (h1 : r1 l ≠ 0) (h2 : r2 l (block / 16) ≠ 0) : WayS B first n l block 2 (ndOf (r1 l) (r2 l (block / 16))) (plOf l (block / 16) (block % 16)) where
  hm := by decide
  nd0 := rfl
  pl0 := rfl
  pl1 := by show block / 16 = block / 16 % 16; omega
  pl2 := rfl
  le := fun k hk => by
    rcases (show k = 0 ∨ k = 1 ∨ k = 2 by omega) with rfl | rfl | rfl
    · exact Nat.zero_le _
    · exact h.le1 l hl
    · exact h.le2 l _ hl (by omega)
  on := fun k hk => by
    rcases (show k = 0 ∨ k = 1 by omega) with rfl | rfl
    · exact ⟨h.root l hl, h1⟩
    · exact ⟨h.mid l (block / 16) hl (by omega) h1, h2⟩
  last := fun h => by omega
theorem rget_for (h : ForI (rdOf B first) n A M r1 r2) (tb : Nat) (N : Nat → Prop) (bb : Nat) (hn : first + n < B.n) {l block : Nat} (hl : l < 4) (hb : block < 256) (w : World) (hh : HolI 201 w tb N bb first n B) :
    Calls Tryz.prog 92 #[.pointer (some ⟨tb, 0, none⟩), .int .i64 (l : Int), .int .i64 (block : Int)] w fun e w' => e = .returned (.tuple #[.int .i64 (M l (block / 16) (block % 16)), .nilIface]) ∧ Below w.heap.size w w' := by
  by_cases h1 : r1 l = 0
  · rw [h.leaf0 l (block / 16) (block % 16) hl (by omega) (by omega) (h.mid0 l _ hl (by omega) h1)]
    exact rget_zero tb N bb first n B l block 0 hl hb hn _ _ (by decide) (way0 h hl hb h1 0 0) w hh
  · by_cases h2 : r2 l (block / 16) = 0
    · rw [h.leaf0 l (block / 16) (block % 16) hl (by omega) (by omega) h2]
      exact rget_zero tb N bb first n B l block 1 hl hb hn _ _ (by decide) (way1 h hl hb h1 h2 0) w hh
    · have e : atF (B.view (first + ndOf (r1 l) (r2 l (block / 16)) 2)) (plOf l (block / 16) (block % 16) 2) = M l (block / 16) (block % 16) := h.leaf l (block / 16) (block % 16) hl (by omega) (by omega) h2
      rw [← e]
      exact rget_some tb N bb first n B l block hl hb hn _ _ (way2 h hl hb h1 h2) w hh
end
open Go.RowKit Go.Maps
theorem wrOk_few {B : BookS} {k : Nat} (h : B.cnt ≤ k) (hk : k < 60) (i : Nat) (p : List Int) : WrOk B i p := .inr (.inr (by show B.cnt ≠ 60; omega))
theorem Xzf (B : BookS) (first q k : Nat) (x : Int) : rdOf (B.wrote (first + q) (putNF (B.view (first + q)) k x)) first = rdPut (rdOf B first) q k x := by
  funext p
  unfold rdOf rdPut
  rw [BookS.wrote_view]
  by_cases h : p = q
  · rw [if_pos (by omega), if_pos h]
  · rw [if_neg (by omega), if_neg h]
theorem ForI.unpend {rd : Nat → List Int} {n : Nat} {A : Nat → Prop} {M : Nat → Nat → Nat → Int} {r1 : Nat → Nat} {r2 : Nat → Nat → Nat} (h : ForI rd n A M r1 r2) (hA : ∀ p, ¬ A p) : ForI rd n (fun _ => False) M r1 r2 :=
  ⟨h.root, h.mid, h.mid0, h.leaf, h.leaf0, h.le1, h.le2, h.inj1, h.inj2, h.apart, fun p a b => (Iff.intro (fun h => h.elim .inl (fun h => h.elim)) (fun h' => h'.elim .inl (fun h => absurd h (hA p)))).trans (h.used p a b), fun p hp => hp.elim, h.ok⟩
def FirstF (rd : Nat → List Int) (n : Nat) (but : Nat → Prop) (p : Nat) : Prop := 1 ≤ p ∧ p ≤ n ∧ rd p = zer 64 ∧ ¬ but p ∧ ∀ j, 1 ≤ j → j < p → rd j ≠ zer 64 ∨ but j
section
variable {B : BookS} {first n : Nat} {M : Nat → Nat → Nat → Int} {r1 : Nat → Nat} {r2 : Nat → Nat → Nat}
def layM (M : Nat → Nat → Nat → Int) (l g b : Nat) (x : Int) : Nat → Nat → Nat → Int := fun l' g' b' => if l' = l ∧ g' = g ∧ b' = b then x else M l' g' b'
def SetR (B B' : BookS) (first n : Nat) (M : Nat → Nat → Nat → Int) (l block : Nat) (x : Int) (r1 : Nat → Nat) (r2 : Nat → Nat → Nat) : Prop :=
  B'.n = B.n ∧ B'.cnt ≤ B.cnt + 3 ∧ B'.shut = B.shut ∧ ForI (rdOf B' first) n (fun _ => False) (layM M l (block / 16) (block % 16) x) r1 r2 ∧ ∀ i, i < first → B'.view i = B.view i
theorem rset_for2 (h : ForI (rdOf B first) n (fun _ => False) M r1 r2) (tb : Nat) (N : Nat → Prop) (bb : Nat) (hn : first + n < B.n) (hc : B.cnt ≤ 50) {l block : Nat} (hl : l < 4) (hb : block < 256) (x : Int) (hx : 1 ≤ x ∧ x < 16777216) (h1 : r1 l ≠ 0) (h2 : r2 l (block / 16) ≠ 0) (w : World) (hh : HolI 201 w tb N bb first n B) :
    Calls Tryz.prog 40 #[.pointer (some ⟨tb, 0, none⟩), .int .i64 (l : Int), .int .i64 (block : Int), .int .i64 x] w fun e w' => e = .returned .nilIface ∧ (∃ B', HolI 201 w' tb N bb first n B' ∧ SetR B B' first n M l block x r1 r2) ∧ Keeps N w w' := by
  have hle := h.le2 l (block / 16) hl (by omega)
  have hs : SetS first n 2 (ndOf (r1 l) (r2 l (block / 16))) (plOf l (block / 16) (block % 16)) (fun _ => B) x :=
    ⟨fun k _ hk => by omega, fun k _ hk => by omega, fun k _ hk => by omega, fun k _ hk => by omega, fun k _ hk => by omega, fun k _ hk => by omega, wrOk_few hc (by decide) _ _⟩
  refine (rset_any tb N bb first n B l block 2 hl hb hn _ _ (way2 h hl hb h1 h2) (fun _ => B) x hx hs rfl w hh).mono ?_
  rintro e w' ⟨rfl, hH, hk⟩
  refine ⟨rfl, ⟨_, hH, BookS.wrote_n _ _ _, ?_, BookS.wrote_shut _ _ _, ?_, fun i hi => ?_⟩, hk⟩
  · have := BookS.wrote_cnt B (first + r2 l (block / 16)) (putNF (B.view (first + r2 l (block / 16))) (block % 16) x) (by omega)
    show (B.wrote (first + r2 l (block / 16)) (putNF (B.view (first + r2 l (block / 16))) (block % 16) x)).cnt ≤ _
    omega
  · show ForI (rdOf (B.wrote (first + r2 l (block / 16)) (putNF (B.view (first + r2 l (block / 16))) (block % 16) x)) first) n _ _ r1 r2
    rw [Xzf]
    exact (h.lay hl (show block / 16 < 16 by omega) (show block % 16 < 16 by omega) h2 x hx h1).unpend (fun p hp => hp.1)
  · show (B.wrote (first + r2 l (block / 16)) (putNF (B.view (first + r2 l (block / 16))) (block % 16) x)).view i = _
    rw [BookS.wrote_view, if_neg (by omega)]
theorem rset_for1 (h : ForI (rdOf B first) n (fun _ => False) M r1 r2) (tb : Nat) (N : Nat → Prop) (bb : Nat) (hn : first + n < B.n) (hn2 : n ≤ 4095) (hc : B.cnt ≤ 50) {l block : Nat} (hl : l < 4) (hb : block < 256) (x : Int) (hx : 1 ≤ x ∧ x < 16777216) (h1 : r1 l ≠ 0) (h2 : r2 l (block / 16) = 0) (p : Nat) (hp : FirstF (rdOf B first) n (fun _ => False) p) (w : World) (hh : HolI 201 w tb N bb first n B) :
    Calls Tryz.prog 40 #[.pointer (some ⟨tb, 0, none⟩), .int .i64 (l : Int), .int .i64 (block : Int), .int .i64 x] w fun e w' => e = .returned .nilIface ∧ (∃ B', HolI 201 w' tb N bb first n B' ∧ SetR B B' first n M l block x r1 (fun l' g' => if l' = l ∧ g' = block / 16 then p else r2 l' g')) ∧ Keeps N w w' := by
  obtain ⟨p1, p2, p3, _, p4⟩ := hp
  have hg : block / 16 < 16 := by omega
  have hle := h.le1 l hl
  have hL := h.link2 hl hg h1 h2 ⟨p1, p2⟩ hn2 p3 (fun h => h)
  rw [← Xzf] at hL
  have hn' : (B.wrote (first + r1 l) (putNF (B.view (first + r1 l)) (block / 16) (p : Int))).n = B.n := BookS.wrote_n _ _ _
  have hc' := BookS.wrote_cnt B (first + r1 l) (putNF (B.view (first + r1 l)) (block / 16) (p : Int)) (by omega)
  have hbs := BookS.wrote_shut B (first + r1 l) (putNF (B.view (first + r1 l)) (block / 16) (p : Int))
  generalize hB2 : B.wrote (first + r1 l) (putNF (B.view (first + r1 l)) (block / 16) (p : Int)) = B2 at hL hn' hc' hbs
  have hs : SetS first n 1 (ndOf (r1 l) p) (plOf l (block / 16) (block % 16)) (fun k => if k = 2 then B2 else B) x := by
    refine ⟨fun k a b => ?_, fun k a b => ?_, fun k a b => ?_, fun k a b j j1 j2 => ?_, fun k a b => ?_, fun k a b => ?_, ?_⟩
    · rw [show k = 1 by omega]; exact ⟨p1, p2⟩
    · rw [show k = 1 by omega]; exact p3
    · rw [show k = 1 by omega, ahF_self]; simp
    · rw [show k = 1 by omega] at j2 ⊢
      rcases p4 j j1 j2 with q | q
      · exact .inl q
      · exact q.elim
    · rw [show k = 1 by omega]; exact wrOk_few hc (by decide) _ _
    · rw [show k = 1 by omega]; exact hB2.symm
    · exact wrOk_few (k := 51) (show B2.cnt ≤ 51 by omega) (by decide) _ _
  refine (rset_any tb N bb first n B l block 1 hl hb hn _ _ (way1 h hl hb h1 h2 p) _ x hx hs rfl w hh).mono ?_
  rintro e w' ⟨rfl, hH, hk⟩
  have hlay := hL.lay hl hg (show block % 16 < 16 by omega) (show (if l = l ∧ block / 16 = block / 16 then p else r2 l (block / 16)) ≠ 0 by rw [if_pos ⟨rfl, rfl⟩]; omega) x hx h1
  rw [if_pos (show l = l ∧ block / 16 = block / 16 from ⟨rfl, rfl⟩)] at hlay
  have hfin : (if (2 : Nat) = 2 then B2 else B) = B2 := rfl
  refine ⟨rfl, ⟨B2.wrote (first + p) (putNF (B2.view (first + p)) (block % 16) x), hH, by rw [BookS.wrote_n]; exact hn', ?_, by rw [BookS.wrote_shut]; exact hbs, ?_, fun i hi => by rw [BookS.wrote_view, if_neg (by omega), ← hB2, BookS.wrote_view, if_neg (by omega)]⟩, hk⟩
  · have := BookS.wrote_cnt B2 (first + p) (putNF (B2.view (first + p)) (block % 16) x) (by omega)
    omega
  · rw [Xzf]
    exact hlay.unpend (fun q hq => by
      rcases hq.1 with h6 | h6
      · exact h6.1
      · exact hq.2 h6)
theorem rset_for0 (h : ForI (rdOf B first) n (fun _ => False) M r1 r2) (tb : Nat) (N : Nat → Prop) (bb : Nat) (hn : first + n < B.n) (hn2 : n ≤ 4095) (hc : B.cnt ≤ 50) {l block : Nat} (hl : l < 4) (hb : block < 256) (x : Int) (hx : 1 ≤ x ∧ x < 16777216) (h1 : r1 l = 0) (p p' : Nat) (hp : FirstF (rdOf B first) n (fun _ => False) p) (hp' : FirstF (rdOf B first) n (fun q => q = p) p') (w : World) (hh : HolI 201 w tb N bb first n B) :
    Calls Tryz.prog 40 #[.pointer (some ⟨tb, 0, none⟩), .int .i64 (l : Int), .int .i64 (block : Int), .int .i64 x] w fun e w' => e = .returned .nilIface ∧ (∃ B', HolI 201 w' tb N bb first n B' ∧ SetR B B' first n M l block x (fun l' => if l' = l then p else r1 l') (fun l' g' => if l' = l ∧ g' = block / 16 then p' else r2 l' g')) ∧ Keeps N w w' := by
  obtain ⟨p1, p2, p3, _, p4⟩ := hp
  obtain ⟨q1, q2, q3, q5, q4⟩ := hp'
  have hg : block / 16 < 16 := by omega
  have h2 : r2 l (block / 16) = 0 := h.mid0 l _ hl hg h1
  have hL1 := h.link1 hl h1 ⟨p1, p2⟩ hn2 p3 (fun h => h)
  rw [← Xzf] at hL1
  have hn1 : (B.wrote (first + 0) (putNF (B.view (first + 0)) l (p : Int))).n = B.n := BookS.wrote_n _ _ _
  have hc1 := BookS.wrote_cnt B (first + 0) (putNF (B.view (first + 0)) l (p : Int)) (by omega)
  have hbs1 := BookS.wrote_shut B (first + 0) (putNF (B.view (first + 0)) l (p : Int))
  have hv1 : ∀ j, 1 ≤ j → rdOf (B.wrote (first + 0) (putNF (B.view (first + 0)) l (p : Int))) first j = rdOf B first j := fun j hj => by
    unfold rdOf
    rw [BookS.wrote_view, if_neg (by omega)]
  generalize hB1 : B.wrote (first + 0) (putNF (B.view (first + 0)) l (p : Int)) = B1 at hL1 hn1 hc1 hbs1 hv1
  have hL2 := hL1.link2 hl hg (show (if l = l then p else r1 l) ≠ 0 by rw [if_pos rfl]; omega) h2 ⟨q1, q2⟩ hn2 (by rw [hv1 p' q1]; exact q3) (fun h => by rcases h with h | h; exact h; exact q5 h)
  rw [if_pos (show l = l from rfl)] at hL2
  rw [← Xzf] at hL2
  have hn2' : (B1.wrote (first + p) (putNF (B1.view (first + p)) (block / 16) (p' : Int))).n = B1.n := BookS.wrote_n _ _ _
  have hc2 := BookS.wrote_cnt B1 (first + p) (putNF (B1.view (first + p)) (block / 16) (p' : Int)) (by omega)
  have hbs2 := BookS.wrote_shut B1 (first + p) (putNF (B1.view (first + p)) (block / 16) (p' : Int))
  generalize hB2 : B1.wrote (first + p) (putNF (B1.view (first + p)) (block / 16) (p' : Int)) = B2 at hL2 hn2' hc2 hbs2
  have hs : SetS first n 0 (ndOf p p') (plOf l (block / 16) (block % 16)) (fun k => if k = 2 then B2 else if k = 1 then B1 else B) x := by
    refine ⟨fun k a b => ?_, fun k a b => ?_, fun k a b => ?_, fun k a b j j1 j2 => ?_, fun k a b => ?_, fun k a b => ?_, ?_⟩
    · rcases (show k = 0 ∨ k = 1 by omega) with rfl | rfl
      · exact ⟨p1, p2⟩
      · exact ⟨q1, q2⟩
    · rcases (show k = 0 ∨ k = 1 by omega) with rfl | rfl
      · exact p3
      · have := hv1 p' q1
        show rdOf B1 first p' = zer 64
        rw [this]; exact q3
    · rcases (show k = 0 ∨ k = 1 by omega) with rfl | rfl
      · rw [ahF_self]; simp
      · rw [ahF_succ _ 0 0 (Nat.le_refl _), ahF_self]
        show (p' : Int) ∉ [(p : Int)]
        simp only [List.mem_singleton]
        omega
    · rcases (show k = 0 ∨ k = 1 by omega) with rfl | rfl
      · rcases p4 j j1 j2 with q | q
        · exact .inl q
        · exact q.elim
      · rcases q4 j j1 j2 with q | q
        · left
          show rdOf B1 first j ≠ zer 64
          rw [hv1 j j1]; exact q
        · right
          rw [ahF_succ _ 0 0 (Nat.le_refl _), ahF_self, q]
          show (p : Int) ∈ [(p : Int)]
          simp
    · rcases (show k = 0 ∨ k = 1 by omega) with rfl | rfl
      · exact wrOk_few hc (by decide) _ _
      · exact wrOk_few (k := 51) (show B1.cnt ≤ 51 by omega) (by decide) _ _
    · rcases (show k = 0 ∨ k = 1 by omega) with rfl | rfl
      · exact hB1.symm
      · exact hB2.symm
    · exact wrOk_few (k := 52) (show B2.cnt ≤ 52 by omega) (by decide) _ _
  refine (rset_any tb N bb first n B l block 0 hl hb hn _ _ (way0 h hl hb h1 p p') _ x hx hs rfl w hh).mono ?_
  rintro e w' ⟨rfl, hH, hk⟩
  have hlay := hL2.lay hl hg (show block % 16 < 16 by omega) (show (if l = l ∧ block / 16 = block / 16 then p' else r2 l (block / 16)) ≠ 0 by rw [if_pos ⟨rfl, rfl⟩]; omega) x hx (show (if l = l then p else r1 l) ≠ 0 by rw [if_pos rfl]; omega)
  rw [if_pos (show l = l ∧ block / 16 = block / 16 from ⟨rfl, rfl⟩)] at hlay
  refine ⟨rfl, ⟨B2.wrote (first + p') (putNF (B2.view (first + p')) (block % 16) x), hH, by rw [BookS.wrote_n, hn2', hn1], ?_, by rw [BookS.wrote_shut, hbs2, hbs1], ?_, fun i hi => by rw [BookS.wrote_view, if_neg (by omega), ← hB2, BookS.wrote_view, if_neg (by omega), ← hB1, BookS.wrote_view, if_neg (by omega)]⟩, hk⟩
  · have := BookS.wrote_cnt B2 (first + p') (putNF (B2.view (first + p')) (block % 16) x) (by omega)
    omega
  · rw [Xzf]
    exact hlay.unpend (fun q hq => by
      rcases hq with ⟨h6 | h6, h7⟩
      · rcases h6 with ⟨h8 | h8, h9⟩
        · exact h8
        · exact h9 h8
      · exact h7 h6)
end
open Go.RowKit Go.Maps
theorem nodup_le : ∀ (l m : List Nat), l.Nodup → (∀ x ∈ l, x ∈ m) → l.length ≤ m.length
  | [], m, _, _ => Nat.zero_le _
  | x :: l, m, hn, hs => by
    have hx : x ∈ m := hs x (by simp)
    have h1 := List.length_erase_of_mem hx
    have hp := List.length_pos_of_mem hx
    obtain ⟨hnx, hnl⟩ := List.nodup_cons.1 hn
    have ih := nodup_le l (m.erase x) hnl (fun y hy => by
      have hyx : y ≠ x := fun e => hnx (e ▸ hy)
      exact (List.mem_erase_of_ne hyx).2 (hs y (by simp [hy])))
    simp only [List.length_cons]
    omega
theorem least (P : Nat → Prop) : ∀ n, (∃ p, 1 ≤ p ∧ p ≤ n ∧ P p) → ∃ p, 1 ≤ p ∧ p ≤ n ∧ P p ∧ ∀ j, 1 ≤ j → j < p → ¬ P j
  | 0, ⟨p, h1, h2, _⟩ => by omega
  | n + 1, ⟨p, h1, h2, h3⟩ => by
    by_cases h : ∃ p, 1 ≤ p ∧ p ≤ n ∧ P p
    · obtain ⟨q, a, b, c, d⟩ := least P n h
      exact ⟨q, a, by omega, c, d⟩
    · have hp : p = n + 1 := by
        rcases Nat.lt_or_ge p (n + 1) with q | q
        · exact absurd ⟨p, h1, by omega, h3⟩ h
        · omega
      exact ⟨p, h1, h2, h3, fun j a b c => h ⟨j, a, by omega, c⟩⟩
open Go.RowKit Go.Maps
section
variable {rd : Nat → List Int} {n : Nat} {A : Nat → Prop} {M : Nat → Nat → Nat → Int} {r1 : Nat → Nat} {r2 : Nat → Nat → Nat}
theorem ForI.some2 (h : ForI rd n (fun _ => False) M r1 r2) {l g : Nat} (hl : l < 4) (hg : g < 16) : r2 l g ≠ 0 ↔ ∃ b, b < 16 ∧ M l g b ≠ 0 := by
  constructor
  · intro h2
    have hle := h.le2 l g hl hg
    rcases (h.used (r2 l g) (by omega) hle).2 (.inr ⟨l, g, hl, hg, rfl⟩) with c | c
    · apply Classical.byContradiction
      intro hn
      exact c ((h.ok _ hle).none (fun b hb => by
        rw [h.leaf l g b hl hg hb h2]
        exact Classical.byContradiction (fun hh => hn ⟨b, hb, hh⟩)))
    · exact c.elim
  · rintro ⟨b, hb, hM⟩ h2
    exact hM (h.leaf0 l g b hl hg hb h2)
theorem ForI.some1 (h : ForI rd n (fun _ => False) M r1 r2) {l : Nat} (hl : l < 4) : r1 l ≠ 0 ↔ ∃ g, g < 16 ∧ r2 l g ≠ 0 := by
  constructor
  · intro h2
    have hle := h.le1 l hl
    rcases (h.used (r1 l) (by omega) hle).2 (.inl ⟨l, hl, rfl⟩) with c | c
    · apply Classical.byContradiction
      intro hn
      exact c ((h.ok _ hle).none (fun g hg => by
        rw [h.mid l g hl hg h2]
        have : r2 l g = 0 := Classical.byContradiction (fun hh => hn ⟨g, hg, hh⟩)
        rw [this]; rfl))
    · exact c.elim
  · rintro ⟨g, hg, hM⟩ h2
    exact hM (h.mid0 l g hl hg h2)
end
open Go.RowKit Go.Maps
def lin1 (r1 : Nat → Nat) : List Nat := (List.range 4).filter fun l => decide (r1 l ≠ 0)
def lin2 (r2 : Nat → Nat → Nat) : List Nat := (List.range 64).filter fun i => decide (r2 (i / 16) (i % 16) ≠ 0)
def lkF (r1 : Nat → Nat) (r2 : Nat → Nat → Nat) : Nat := (lin1 r1).length + (lin2 r2).length
def tkn (B : BookS) (first n : Nat) : List Nat := ((List.range n).map (· + 1)).filter fun p => decide (B.view (first + p) ≠ zer 64)
theorem tkn_length (B : BookS) (first : Nat) : ∀ n, (tkn B first n).length = Qze B first n
  | 0 => rfl
  | n + 1 => by
    have ih := tkn_length B first n
    unfold tkn at ih ⊢
    rw [List.range_succ, List.map_append, List.filter_append, List.length_append, ih]
    show _ + (List.filter _ [n + 1]).length = Qze B first n + _
    by_cases h : B.view (first + (n + 1)) ≠ zer 64
    · simp [h]
    · simp [h]
theorem Qzh {f : Nat → Nat} : ∀ {l : List Nat}, l.Nodup → (∀ x ∈ l, ∀ y ∈ l, f x = f y → x = y) → (l.map f).Nodup
  | [], _, _ => List.nodup_nil
  | a :: l, hn, hi => by
    obtain ⟨h1, h2⟩ := List.nodup_cons.1 hn
    rw [List.map_cons, List.nodup_cons]
    refine ⟨fun hm => ?_, Qzh h2 (fun x hx y hy => hi x (by simp [hx]) y (by simp [hy]))⟩
    obtain ⟨y, hy, e⟩ := List.mem_map.1 hm
    have := hi y (by simp [hy]) a (by simp) e
    exact h1 (this ▸ hy)
section
variable {B : BookS} {first n : Nat} {M : Nat → Nat → Nat → Int} {r1 : Nat → Nat} {r2 : Nat → Nat → Nat}
theorem ForI.nodes (h : ForI (rdOf B first) n (fun _ => False) M r1 r2) : Qze B first n = lkF r1 r2 := by
  rw [← tkn_length]
  have hn1 : (tkn B first n).Nodup := (Qzh (List.nodup_range (n := n)) (fun x _ y _ e => by omega)).filter _
  have m1 : ∀ l ∈ lin1 r1, l < 4 ∧ r1 l ≠ 0 := fun l hl => by
    have := List.mem_filter.1 hl
    exact ⟨List.mem_range.1 this.1, of_decide_eq_true this.2⟩
  have m2 : ∀ i ∈ lin2 r2, i < 64 ∧ r2 (i / 16) (i % 16) ≠ 0 := fun l hl => by
    have := List.mem_filter.1 hl
    exact ⟨List.mem_range.1 this.1, of_decide_eq_true this.2⟩
  have hn2 : ((lin1 r1).map r1 ++ (lin2 r2).map fun i => r2 (i / 16) (i % 16)).Nodup := by
    refine List.nodup_append.2 ⟨Qzh ((List.nodup_range (n := 4)).filter _) (fun x hx y hy e => h.inj1 x y (m1 x hx).1 (m1 y hy).1 (m1 x hx).2 e), Qzh ((List.nodup_range (n := 64)).filter _) (fun x hx y hy e => ?_), fun a ha b hb e => ?_⟩
    · have := h.inj2 (x / 16) (x % 16) (y / 16) (y % 16) (by have := (m2 x hx).1; omega) (by omega) (by have := (m2 y hy).1; omega) (by omega) (m2 x hx).2 e
      omega
    · obtain ⟨l, hl, rfl⟩ := List.mem_map.1 ha
      obtain ⟨i, hi, rfl⟩ := List.mem_map.1 hb
      exact h.apart l (i / 16) (i % 16) (m1 l hl).1 (by have := (m2 i hi).1; omega) (by omega) (m1 l hl).2 e
  have hiff : ∀ p, p ∈ tkn B first n ↔ p ∈ (lin1 r1).map r1 ++ (lin2 r2).map fun i => r2 (i / 16) (i % 16) := fun p => by
    constructor
    · intro hp
      have hf := List.mem_filter.1 hp
      obtain ⟨q, hq, rfl⟩ := List.mem_map.1 hf.1
      have hq' := List.mem_range.1 hq
      rcases (h.used (q + 1) (by omega) (by omega)).1 (.inl (of_decide_eq_true hf.2)) with ⟨l, a, b⟩ | ⟨l, g, a, b, c⟩
      · refine List.mem_append.2 (.inl (List.mem_map.2 ⟨l, List.mem_filter.2 ⟨List.mem_range.2 a, decide_eq_true (by omega)⟩, b⟩))
      · refine List.mem_append.2 (.inr (List.mem_map.2 ⟨16 * l + g, List.mem_filter.2 ⟨List.mem_range.2 (by omega), decide_eq_true ?_⟩, ?_⟩))
        · rw [show (16 * l + g) / 16 = l by omega, show (16 * l + g) % 16 = g by omega]; omega
        · show r2 ((16 * l + g) / 16) ((16 * l + g) % 16) = _
          rw [show (16 * l + g) / 16 = l by omega, show (16 * l + g) % 16 = g by omega]; exact c
    · intro hp
      have key : 1 ≤ p ∧ p ≤ n ∧ ((∃ l, l < 4 ∧ r1 l = p) ∨ ∃ l g, l < 4 ∧ g < 16 ∧ r2 l g = p) := by
        rcases List.mem_append.1 hp with hp | hp
        · obtain ⟨l, hl, rfl⟩ := List.mem_map.1 hp
          have := m1 l hl
          exact ⟨by omega, h.le1 l this.1, .inl ⟨l, this.1, rfl⟩⟩
        · obtain ⟨i, hi, rfl⟩ := List.mem_map.1 hp
          have := m2 i hi
          exact ⟨by omega, h.le2 _ _ (by omega) (by omega), .inr ⟨i / 16, i % 16, by omega, by omega, rfl⟩⟩
      rcases (h.used p key.1 key.2.1).2 key.2.2 with c | c
      · exact List.mem_filter.2 ⟨List.mem_map.2 ⟨p - 1, List.mem_range.2 (by omega), by omega⟩, decide_eq_true c⟩
      · exact c.elim
  have e1 := nodup_le _ _ hn1 (fun x hx => (hiff x).1 hx)
  have e2 := nodup_le _ _ hn2 (fun x hx => (hiff x).2 hx)
  unfold lkF
  simp only [List.length_append, List.length_map] at e1 e2
  omega
theorem nodesF_all (B : BookS) (first : Nat) : ∀ n, (∀ j, 1 ≤ j → j ≤ n → B.view (first + j) ≠ zer 64) → Qze B first n = n
  | 0, _ => rfl
  | n + 1, h => by
    unfold Qze
    rw [nodesF_all B first n (fun j a b => h j a (by omega)), if_pos (h (n + 1) (by omega) (by omega))]
theorem nodesF_but (B : BookS) (first p : Nat) : ∀ n, (∀ j, 1 ≤ j → j ≤ n → j ≠ p → B.view (first + j) ≠ zer 64) → n ≤ Qze B first n + 1
  | 0, _ => by omega
  | n + 1, h => by
    unfold Qze
    by_cases e : n + 1 = p
    · rw [nodesF_all B first n (fun j a b => h j a (by omega) (by omega))]; omega
    · have := nodesF_but B first p n (fun j a b => h j a (by omega))
      rw [if_pos (h (n + 1) (by omega) (by omega) e)]; omega
theorem FirstF.least {rd : Nat → List Int} {n : Nat} {but : Nat → Prop} (h : ∃ p, 1 ≤ p ∧ p ≤ n ∧ rd p = zer 64 ∧ ¬ but p) : ∃ p, FirstF rd n but p := by
  obtain ⟨p, a, b, c, d⟩ := Go.Proofs.YtajmcplanlibnaaGreatDoor.least (fun p => rd p = zer 64 ∧ ¬ but p) n h
  refine ⟨p, a, b, c.1, c.2, fun j h1 h2 => ?_⟩
  have := d j h1 h2
  by_cases e : rd j = zer 64
  · exact .inr (Classical.byContradiction fun hb => this ⟨e, hb⟩)
  · exact .inl e
theorem ForI.free1 (h : ForI (rdOf B first) n (fun _ => False) M r1 r2) (hlt : lkF r1 r2 < n) : ∃ p, FirstF (rdOf B first) n (fun _ => False) p := by
  refine FirstF.least (Classical.byContradiction fun hn => ?_)
  have := nodesF_all B first n (fun j a b e => hn ⟨j, a, b, e, fun h => h⟩)
  rw [h.nodes] at this
  omega
theorem ForI.free2 (h : ForI (rdOf B first) n (fun _ => False) M r1 r2) (hlt : lkF r1 r2 + 1 < n) (p : Nat) : ∃ p', FirstF (rdOf B first) n (fun q => q = p) p' := by
  refine FirstF.least (Classical.byContradiction fun hn => ?_)
  have := nodesF_but B first p n (fun j a b c e => hn ⟨j, a, b, e, c⟩)
  rw [h.nodes] at this
  omega
theorem rset_fits (h : ForI (rdOf B first) n (fun _ => False) M r1 r2) (tb : Nat) (N : Nat → Prop) (bb : Nat) (hn : first + n < B.n) (hn2 : n ≤ 4095) (hc : B.cnt ≤ 50) {l block : Nat} (hl : l < 4) (hb : block < 256) (x : Int) (hx : 1 ≤ x ∧ x < 16777216)
    (hroom : lkF r1 r2 + (if r1 l = 0 then 1 else 0) + (if r2 l (block / 16) = 0 then 1 else 0) ≤ n) (w : World) (hh : HolI 201 w tb N bb first n B) :
    Calls Tryz.prog 40 #[.pointer (some ⟨tb, 0, none⟩), .int .i64 (l : Int), .int .i64 (block : Int), .int .i64 x] w fun e w' => e = .returned .nilIface ∧ (∃ B' r1' r2', HolI 201 w' tb N bb first n B' ∧ SetR B B' first n M l block x r1' r2') ∧ Keeps N w w' := by
  have hg : block / 16 < 16 := by omega
  by_cases h1 : r1 l = 0
  · have h2 := h.mid0 l _ hl hg h1
    rw [if_pos h1, if_pos h2] at hroom
    obtain ⟨p, hp⟩ := h.free1 (by omega)
    obtain ⟨p', hp'⟩ := h.free2 (by omega) p
    refine (rset_for0 h tb N bb hn hn2 hc hl hb x hx h1 p p' hp hp' w hh).mono ?_
    rintro e w' ⟨rfl, ⟨B', a, b⟩, hk⟩
    exact ⟨rfl, ⟨B', _, _, a, b⟩, hk⟩
  · by_cases h2 : r2 l (block / 16) = 0
    · rw [if_neg h1, if_pos h2] at hroom
      obtain ⟨p, hp⟩ := h.free1 (by omega)
      refine (rset_for1 h tb N bb hn hn2 hc hl hb x hx h1 h2 p hp w hh).mono ?_
      rintro e w' ⟨rfl, ⟨B', a, b⟩, hk⟩
      exact ⟨rfl, ⟨B', _, _, a, b⟩, hk⟩
    · refine (rset_for2 h tb N bb hn hc hl hb x hx h1 h2 w hh).mono ?_
      rintro e w' ⟨rfl, ⟨B', a, b⟩, hk⟩
      exact ⟨rfl, ⟨B', _, _, a, b⟩, hk⟩
end
end Go.Proofs.YtajmcplanlibnaaGreatDoor
