/- Text in plain: what is written of pairs that may be is parsed as it was. -/
import Derived.Test.YtnicmfboomibjaaDoorK10p
import Derived.Test.YtnicmfboomibjaaDoorPairs
namespace Go.Proofs.YtnicmfboomibjaaDoor
set_option linter.unusedSimpArgs false
set_option linter.unusedVariables false
open Go.RowKit Go.Lib
def textOne (p : Pr) : List UInt8 := p.1.data.toList ++ 61 :: (p.2.data.toList ++ [0])
def textF (ps : List Pr) : List UInt8 := ps.flatMap textOne
theorem textOne_len (p : Pr) : (textOne p).length = p.1.size + p.2.size + 2 := by
  unfold textOne
  simp only [List.length_append, List.length_cons, List.length_nil, Array.length_toList]
  show p.1.data.size + _ = p.1.data.size + p.2.data.size + 2
  omega
theorem textF_snoc (a : List Pr) (p : Pr) : textF (a ++ [p]) = textF a ++ textOne p := by simp [textF]
def sizeF (ps : List Pr) : Nat := (ps.map fun p => 1 + p.1.size + p.2.size).sum
theorem textF_len (ps : List Pr) : (textF ps).length = sizeF ps + ps.length := by
  induction ps with
  | nil => rfl
  | cons p l ih =>
    have e : textF (p :: l) = textOne p ++ textF l := rfl
    rw [e, List.length_append, textOne_len, ih]
    simp only [sizeF, List.map_cons, List.sum_cons, List.length_cons]
    omega
theorem sizeF_len (ps : List Pr) : ps.length ≤ sizeF ps := by
  induction ps with
  | nil => simp [sizeF]
  | cons p l ih => simp only [sizeF, List.map_cons, List.sum_cons, List.length_cons] at ih ⊢; omega
theorem sizeF_snoc (a : List Pr) (p : Pr) : sizeF (a ++ [p]) = sizeF a + (1 + p.1.size + p.2.size) := by simp [sizeF]
theorem sizeF_append (a b : List Pr) : sizeF (a ++ b) = sizeF a + sizeF b := by simp [sizeF]
theorem sizeF_take (ps : List Pr) (k : Nat) : sizeF (ps.take k) ≤ sizeF ps := by
  have h := sizeF_append (ps.take k) (ps.drop k)
  rw [List.take_append_drop] at h
  omega
theorem parse_ahead : ∀ (n : Nat) (acc : List Pr) (l : List UInt8) (ps : List Pr), parseGo n acc l = some ps → ∃ t, ps = acc ++ t ∧ (t = [] → l = [])
  | 0, acc, l, ps, h => by
    unfold parseGo at h; split at h
    · rename_i h0; cases h; exact ⟨[], by simp, fun _ => h0⟩
    · cases h
  | n + 1, acc, l, ps, h => by
    unfold parseGo at h; split at h
    · rename_i h0; cases h; exact ⟨[], by simp, fun _ => h0⟩
    · split at h
      · cases h
      · obtain ⟨t, rfl, _⟩ := parse_ahead n _ _ ps h
        exact ⟨_, by rw [List.append_assoc], fun e => by simp at e⟩
theorem upto_more (c : UInt8) : ∀ (l r : List UInt8), (upto c l).length < l.length → upto c (l ++ r) = upto c l
  | [], r, h => by simp at h
  | b :: l, r, h => by
    by_cases hb : b = c
    · simp [upto, hb]
    · have e : upto c (b :: l) = b :: upto c l := by simp [upto, hb]
      rw [e] at h ⊢
      rw [List.cons_append]
      have e2 : upto c (b :: (l ++ r)) = b :: upto c (l ++ r) := by simp [upto, hb]
      rw [e2, upto_more c l r (by simpa using h)]
/-- What is parsed alone is parsed ahead of more. -/
theorem parse_more (p : Pr) (f g : Nat) (acc : List Pr) (L rest : List UInt8) (h : parseGo (g + 1) [] L = some [p]) (hne : L ≠ []) (hn : acc.any (fun q => q.1.toList == p.1.toList) = false) : parseGo (f + 1) acc (L ++ rest) = parseGo f (acc ++ [p]) rest := by
  rw [parseGo, if_neg hne] at h
  split at h
  · cases h
  · rename_i hc
    simp only [Bool.or_eq_true, not_or, Bool.not_eq_true, List.any_nil] at hc
    obtain ⟨⟨⟨⟨c0, c1⟩, c2⟩, _⟩, c4⟩ := hc
    obtain ⟨t, ht, hd⟩ := parse_ahead _ _ _ _ h
    have ht2 := congrArg List.length ht
    simp only [List.length_append, List.length_cons, List.length_nil] at ht2
    have t0 : t = [] := List.eq_nil_of_length_eq_zero (by omega)
    subst t0
    have hdr := hd rfl
    simp only [List.nil_append, List.append_nil, List.cons.injEq, and_true] at ht
    have hlt : (upto 0 L).length < L.length := by
      have := upto_le 0 L
      have := of_decide_eq_false c0
      omega
    have hlen : L.length = (upto 0 L).length + 1 := by
      have := congrArg List.length hdr
      simp only [List.length_drop, List.length_nil] at this
      omega
    have hup := upto_more 0 L rest hlt
    have hne2 : L ++ rest ≠ [] := by intro e; simp at e; exact hne e.1
    rw [parseGo, if_neg hne2, hup]
    have d0 : decide ((upto 0 L).length = (L ++ rest).length) = false := by simp; omega
    have hk : (bstr (upto 61 (upto 0 L))).toList = p.1.toList := by rw [ht]
    rw [d0, c1, c2, c4, hk, hn]
    have hdrop : (L ++ rest).drop ((upto 0 L).length + 1) = rest := by rw [← hlen]; simp
    rw [hdrop, ← ht]
    rfl
def goodB (p : Pr) : Bool := match parseGo (textOne p).length [] (textOne p) with | some [q] => decide (q = p) | _ => false
theorem goodB_iff (p : Pr) (h : goodB p = true) : parseGo (textOne p).length [] (textOne p) = some [p] := by
  unfold goodB at h
  split at h
  · rename_i q hq; rw [hq, of_decide_eq_true h]
  · cases h
theorem parse_back : ∀ (ps acc : List Pr) (f : Nat), (textF ps).length ≤ f → (∀ i (h : i < ps.length), goodB ps[i] = true ∧ (acc ++ ps.take i).any (fun q => q.1.toList == ps[i].1.toList) = false) → parseGo f acc (textF ps) = some (acc ++ ps)
  | [], acc, f, _, _ => by cases f <;> simp [textF, parseGo]
  | p :: l, acc, f, hf, h => by
    have e : textF (p :: l) = textOne p ++ textF l := rfl
    obtain ⟨h0, h1⟩ := h 0 (by simp)
    simp only [List.getElem_cons_zero, List.take_zero, List.append_nil] at h0 h1
    have hl := textOne_len p
    rw [e, List.length_append] at hf
    obtain ⟨f', rfl⟩ : ∃ f', f = f' + 1 := ⟨f - 1, by omega⟩
    have hg := goodB_iff p h0
    rw [hl, show p.1.size + p.2.size + 2 = (p.1.size + p.2.size + 1) + 1 by omega] at hg
    rw [e, parse_more p f' _ acc (textOne p) (textF l) hg (by intro e; rw [e] at hl; simp at hl) h1]
    rw [parse_back l (acc ++ [p]) f' (by omega) (fun i hi => by
      obtain ⟨g1, g2⟩ := h (i + 1) (by simpa using hi)
      simp only [List.getElem_cons_succ, List.take_succ_cons] at g1 g2
      exact ⟨g1, by rw [List.append_assoc]; exact g2⟩)]
    simp
end Go.Proofs.YtnicmfboomibjaaDoor
