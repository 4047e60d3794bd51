/- Choose in plain: the first piece between commas that is among others. -/
import Derived.Test.YtnicmfboomibjaaDoorK8
import Derived.Lib.SplitLaws
namespace Go.Proofs.YtnicmfboomibjaaDoor
set_option linter.unusedSimpArgs false
set_option linter.unusedVariables false
open Go.RowKit Go.Lib
def pieces : List UInt8 → List (List UInt8)
  | [] => [[]]
  | b :: r => if b = 44 then [] :: pieces r else match pieces r with | [] => [[b]] | p :: ps => (b :: p) :: ps
theorem splitK_pieces : ∀ l : List UInt8, splitK [44] 0 (count l [44]) l = pieces l
  | [] => by rw [count_miss (by simp [index])]; rfl
  | b :: r => by
    have ih := splitK_pieces r
    by_cases h : b = 44
    · subst h
      have hix : index (44 :: r) [44] = ((0 : Nat) : Int) := by rw [index]; simp [List.isPrefixOf]
      rw [count_cons_eq, Nat.add_comm, splitK, hix]
      simp only [pieces, if_pos]
      simp only [List.length_singleton, List.drop_succ_cons, Int.toNat_natCast, List.drop_zero, ih]
      simp
    · have hp : ([44] : List UInt8).isPrefixOf (b :: r) = false := by simp [List.isPrefixOf, Ne.symm h]
      have hix : index (b :: r) [44] = if index r [44] == -1 then -1 else index r [44] + 1 := by rw [index, hp]; simp
      rw [count_cons_ne b 44 r h, pieces, if_neg h, ← ih]
      generalize count r [44] = k
      cases k with
      | zero => rfl
      | succ k =>
        rw [splitK, splitK, hix]
        by_cases hm : index r [44] = -1
        · simp [hm]
        · have hge := index_ge r [44]
          obtain ⟨j, hj⟩ : ∃ j : Nat, index r [44] = j := ⟨(index r [44]).toNat, by omega⟩
          have hj1 : ((j : Int) + 1).toNat = j + 1 := by omega
          have c1 : ((j : Int) == -1) = false := by simp
          have c2 : ((j : Int) + 1 == -1) = false := by simp; omega
          rw [hj, c1]
          simp only [Bool.false_eq_true, if_false, c2, hj1]
          simp
theorem pieces_ne (l : List UInt8) : pieces l ≠ [] := by
  cases l with
  | nil => simp [pieces]
  | cons b r => unfold pieces; split; simp; split <;> simp
theorem chGo_pieces (os : List ByteArray) : ∀ (l cur : List UInt8), chGo os cur l = (match pieces l with | [] => none | p :: ps => ((cur ++ p) :: ps).find? (fun x => amongF os (bstr x)))
  | [], cur => by simp [chGo, pieces, List.find?]; cases amongF os (bstr cur) <;> rfl
  | b :: r, cur => by
    rw [chGo, pieces]
    by_cases h : b = 44
    · rw [if_pos h, if_pos h]
      have ih := chGo_pieces os r []
      cases hp : pieces r with
      | nil => exact absurd hp (pieces_ne r)
      | cons p ps =>
        rw [hp] at ih
        simp only [List.append_nil, List.nil_append] at ih ⊢
        rw [List.find?_cons, ih]
        cases amongF os (bstr cur) <;> rfl
    · rw [if_neg h, if_neg h, chGo_pieces os r (cur ++ [b])]
      cases hp : pieces r with
      | nil => exact absurd hp (pieces_ne r)
      | cons p ps => simp
theorem chGo_split (os : List ByteArray) (s : ByteArray) : chGo os [] s.data.toList = ((splitB ⟨#[44]⟩ 0 (countB s ⟨#[44]⟩) s).find? (amongF os)).map (·.data.toList) := by
  have h1 := splitB_data ⟨#[44]⟩ 0 (countB s ⟨#[44]⟩) s
  have h2 : splitK [44] 0 (countB s ⟨#[44]⟩) s.data.toList = pieces s.data.toList := splitK_pieces _
  have h3 : (splitB ⟨#[44]⟩ 0 (countB s ⟨#[44]⟩) s).map (·.data.toList) = pieces s.data.toList := h1.trans h2
  rw [chGo_pieces]
  have h4 : (match pieces s.data.toList with | [] => none | p :: ps => (([] ++ p) :: ps).find? (fun x => amongF os (bstr x))) = (pieces s.data.toList).find? (fun x => amongF os (bstr x)) := by
    cases pieces s.data.toList <;> rfl
  rw [h4, ← h3, List.find?_map]
  rfl
end Go.Proofs.YtnicmfboomibjaaDoor
