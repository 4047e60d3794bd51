/- What New and chosen answer; what the library needs of a world; what is kept beside one block. -/
import Derived.Test.YtnicmfboomibjaaDoorN1p
import Derived.Test.YtnicmfboomibjaaDoorK9
import Derived.Test.YtnicmfboomibjaaDoorK6
import Derived.Test.YtnicmfboomibjaaDoorK3
import Derived.Lib.LaidTab
namespace Go.Proofs.YtnicmfboomibjaaDoor
set_option linter.unusedSimpArgs false
set_option linter.unusedVariables false
open Go.RowKit
def EnvN (w : World) : Prop := Env w ∧ Lib.TabIs Tryd.prog w "internal/strconv.uint64pow10" .u64 Lib.pow10Tab ∧ 5 < w.heap.size
theorem EnvN.kept {w w' : World} {row : Option Nat} (h : EnvN w) (hg : w.grownBy w' row) (hr : ∀ k, row = some k → 5 < k) : EnvN w' := by
  obtain ⟨⟨⟨m, h0⟩, ⟨t1, p1, h1⟩, ⟨t2, p2, h2⟩⟩, ht, hs⟩ := h
  have hn : ∀ k, k ≤ 5 → some k ≠ row := fun k hk e => by have := hr k e.symm; omega
  refine ⟨⟨⟨m, hg.cell h0 (hn 0 (by omega))⟩, ⟨t1, p1, hg.cell h1 (hn 1 (by omega))⟩, ⟨t2, p2, hg.cell h2 (hn 2 (by omega))⟩⟩, ?_, Nat.lt_of_lt_of_le hs hg.size⟩
  have hgn : Tryd.prog.globalNamed "internal/strconv.uint64pow10" = some 5 := by kernel_rfl
  unfold Lib.TabIs World.var? at ht ⊢
  rw [hgn] at ht ⊢
  simp only [Option.bind_some] at ht ⊢
  rw [hg.block 5 hs (hn 5 (by omega))]
  exact ht
theorem EnvN.below {w w' : World} {B : Nat} (h : EnvN w) (hb : Below B w w') (hB : w.heap.size ≤ B) : EnvN w' := h.kept (row := none) ⟨hb.os, hb.tape, hb.output, hb.size, fun k hk _ => hb.block k (by omega)⟩ (fun k hk => by cases hk)
theorem grown_tr {w w' w'' : World} {row : Option Nat} (h : w.grownBy w' row) (k : w'.grownBy w'' row) : w.grownBy w'' row :=
  ⟨k.os.trans h.os, k.tape.trans h.tape, k.output.trans h.output, Nat.le_trans h.size k.size, fun i hi hne => (k.block i (Nat.lt_of_lt_of_le hi h.size) hne).trans (h.block i hi hne)⟩
theorem grown_be {w w' : World} (h : Below w.heap.size w w') (row : Option Nat) : w.grownBy w' row := ⟨h.os, h.tape, h.output, h.size, fun k hk _ => h.block k hk⟩
theorem Below.beside {B lb : Nat} {a w w' : World} (h : Below B a w) (hg : w.grownBy w' (some lb)) (hB : B ≤ w.heap.size) (hlb : B ≤ lb) : Below B a w' := h.grown hg hB (fun k hk => by cases hk; exact hlb)
theorem PairsIn.beside {w w' : World} {lb : Nat} {a : Option Addr} {ps : List Pr} (h : PairsIn w a ps) (hg : w.grownBy w' (some lb)) (hne : ∀ x, a = some x → 0 < ps.length → x.block ≠ lb) : PairsIn w' a ps := fun i hi => by
  obtain ⟨b, off, ha, hs, c1, c2⟩ := h i hi
  have hb := hne _ ha (by omega)
  have hb' : (some b : Option Nat) ≠ some lb := fun e => hb (by cases e; rfl)
  exact ⟨b, off, ha, Nat.lt_of_lt_of_le hs hg.size, hg.cell c1 hb', hg.cell c2 hb'⟩
set_option maxRecDepth 100000 in
set_option maxHeartbeats 2000000 in
theorem chosen_any (s : ByteArray) (a : Option Addr) (os : List ByteArray) (c : Nat) (w : World) (hs : s.size ≤ 100000) (hl : os.length ≤ 1000000) (ho : StrsIn w a os) (hE : EnvN w) :
    Calls Tryd.prog 44 #[.string s, .slice a os.length c] w fun e w' => e = .returned (.tuple #[.string (chosenF s os), .int .i64 0]) ∧ Below w.heap.size w w' := by
  obtain ⟨⟨⟨m, hm⟩, _⟩, _⟩ := hE
  have HC := Lib.hid (choose_any s a os c m w hs hl ho hm)
  have HF : Hid (chosenF s os = match chGo os [] s.data.toList with | some l => bstr l | none => ⟨#[82, 101, 106, 101, 99, 116]⟩) := Lib.hid rfl
  clear ho hm
  generalize chGo os [] s.data.toList = o at HC HF
  go_enter Tryd.func44, Tryd.ntmps44
  go_wp2_with fail
  refine HC.out.mono ?_
  rintro e w1 ⟨rfl, hb1⟩
  have HB1 := Lib.hid hb1
  clear hb1
  cases o
  all_goals
    dsimp only [chRes]
    go_wp2_with fail
    go_ret2
    exact ⟨by rw [HF.out]; rfl, HB1.out⟩
set_option maxRecDepth 100000 in
set_option maxHeartbeats 2000000 in
theorem new_any (w : World) : Calls Tryd.prog 24 #[] w fun e w' => e = .returned (.pointer (some ⟨w.heap.size, 0, none⟩)) ∧ w'.heap[w.heap.size]? = some (.cells (logCells newS) 55) ∧ Below w.heap.size w w' := by
  go_enter Tryd.func24, Tryd.ntmps24
  go_wp2_with fail
  go_ret
  refine ⟨rfl, ?_, ?_⟩
  · exact heap_alloc_new w _
  · repeat (first | with_reducible assumption | (with_reducible refine Below.setCell ?_ (by first | omega | (simp; done) | (simp; omega)) _) | (with_reducible refine Below.alloc ?_ (by first | omega | (simp; done) | (simp; omega)) _) | (with_reducible refine Below.drew ?_) | (with_reducible refine below_dN ?_ _) | with_reducible exact Below.refl _ _ | (with_reducible refine Below.trans ?_ (Below.mono (by assumption) (by first | omega | (simp; done) | (simp; omega)))))
end Go.Proofs.YtnicmfboomibjaaDoor
