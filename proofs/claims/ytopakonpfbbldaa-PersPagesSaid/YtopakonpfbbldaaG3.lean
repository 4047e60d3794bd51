/- Bytes are copied to a page of zeros. No condition. -/
import Derived.Test.YtopakonpfbbldaaG1
import Derived.Test.YtopakonpfbbldaaFnsH
import Derived.Laws.CopyOwn
namespace Go.Proofs.Ytopakonpfbbldaa
set_option linter.unusedSimpArgs false
set_option linter.unusedVariables false
open Go.RowKit

def BytesIn (w : World) (a : Option Addr) (bs : List Int) : Prop := ∀ i (hi : i < bs.length), ∃ b off, a = some ⟨b, off, none⟩ ∧ b < w.heap.size ∧ w.cell? ⟨b, off + i, none⟩ = some (.int .u8 bs[i])
theorem BytesIn.below {w w' : World} {a : Option Addr} {bs : List Int} (h : BytesIn w a bs) (hb : Below w.heap.size w w') : BytesIn w' a bs := fun i hi =>
  let ⟨b, off, ha, hs, c1⟩ := h i hi
  ⟨b, off, ha, Nat.lt_of_lt_of_le hs hb.size, (hb.cell (p := ⟨b, off + i, none⟩) hs).trans c1⟩
def page2 (bs : List Int) : List Int := bs.take 64 ++ List.replicate (64 - (bs.take 64).length) 0
theorem page2_length (bs : List Int) : (page2 bs).length = 64 := by simp [page2]; omega
theorem page2_bytes (bs : List Int) (h : Bytes bs) : Bytes (page2 bs) := fun x hx => by
  simp only [page2, List.mem_append, List.mem_replicate] at hx
  rcases hx with e | ⟨_, rfl⟩
  · exact h x (List.mem_of_mem_take e)
  · decide
theorem wpList_copy_page {w : World} {ops : Array Oper} {rest : List Oper} {o : Oper} {a : Act} {Q : Exit → Act → World → Prop} (hgd : o.guard = none) (d s : Operand)
    (ho : o.op = .call { callee := .builtin .copy, args := #[d, s], argTypes := #[51, 51] }) (g : Nat) (pa : Option Addr) (bs : List Int) (pc : Nat)
    (hd : a.eval d = .slice (some ⟨g, 0, none⟩) 64 64) (hs : a.eval s = .slice pa bs.length pc) (hg : w.heap[g]? = some (.cells ((List.replicate 64 0).map (Value.int .u8)).toArray 53)) (hb : BytesIn w pa bs)
    (h : ∀ v w', w'.heap[g]? = some (.cells ((page2 bs).map (Value.int .u8)).toArray 53) → (w' = w ∨ ∃ c, w' = w.setRow g c) → wpList Try.prog ops Q rest (a.put o.dst v) w') : wpList Try.prog ops Q (o :: rest) a w := by
  have hsz : (Try.prog.info? 5).map (·.size) = some 1 := by kernel_rfl
  cases bs with
  | nil =>
    exact wpList_copy_nothing hgd d s _ _ ho 5 Try.underlying51 hsz _ _ _ _ _ _ hd hs (by simp) (h _ w (by rw [hg]; simp [page2]) (.inl rfl))
  | cons x l =>
    obtain ⟨b, off, rfl, _, _⟩ := hb 0 (by simp)
    refine wpList_copy_own hgd d s _ _ ho 5 Try.underlying51 hsz g 0 64 64 ⟨b, off, none⟩ (x :: l).length pc hd hs _ 53 hg (((x :: l).take 64).map (Value.int .u8)) (by rw [List.length_map, List.length_take]; exact Nat.min_comm _ _) ?_ ?_ ?_ ?_
    · intro j u hu
      have hj : j < ((x :: l).take 64).length := by
        have := (List.getElem?_eq_some_iff.1 hu).1
        simpa using this
      have hj2 : j < (x :: l).length := by rw [List.length_take] at hj; omega
      obtain ⟨b', off', e, _, hc⟩ := hb j hj2
      simp only [Option.some.injEq, Addr.mk.injEq, and_true] at e
      obtain ⟨rfl, rfl⟩ := e
      rw [show (⟨b, off, none⟩ : Addr).add j = ⟨b, off + j, none⟩ by unfold Addr.add; split <;> simp_all, hc, ← hu]
      rw [List.getElem?_map, List.getElem?_take_of_lt (by rw [List.length_take] at hj; omega), List.getElem?_eq_getElem hj2]
      rfl
    · simp; omega
    · intro v hv
      simp only [List.mem_map] at hv
      obtain ⟨y, _, rfl⟩ := hv
      rfl
    · refine h _ _ ?_ (.inr ⟨_, rfl⟩)
      rw [setRow_heap w g _ _ 53 (0, 0) hg]
      congr 2
      unfold page2
      generalize (x :: l).take 64 = q
      show (List.take 0 ((List.replicate 64 (0 : Int)).map (Value.int .u8)) ++ (q.map (Value.int .u8) ++ List.drop (0 + (q.map (Value.int .u8)).length) ((List.replicate 64 (0 : Int)).map (Value.int .u8)))).toArray = _
      rw [List.map_append, List.map_replicate, List.map_replicate, List.take_zero, List.nil_append, List.length_map, Nat.zero_add, List.drop_replicate]
end Go.Proofs.Ytopakonpfbbldaa
