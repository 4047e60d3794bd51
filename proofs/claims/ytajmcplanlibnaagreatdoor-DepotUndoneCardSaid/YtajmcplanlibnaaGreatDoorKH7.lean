/- The sum of texts: by what was written. -/
import Derived.Test.YtajmcplanlibnaaGreatDoorKH6
set_option linter.unusedSimpArgs false
set_option linter.unusedVariables false
set_option linter.unnecessarySimpa false
namespace Go.Proofs.YtajmcplanlibnaaGreatDoor
open Go.RowKit
def hst (d : List Int) : List Int × List Int := absorb d.length ivs d
theorem hst_ok (d : List Int) (h : U8s d) : (hst d).1.length = 8 ∧ U32s (hst d).1 ∧ (hst d).2.length < 64 ∧ U8s (hst d).2 := absorb_ok _ _ _ (Nat.le_refl _) ivs_ok.1 ivs_ok.2 h
theorem hst_app (d b : List Int) : absorb ((hst d).2 ++ b).length (hst d).1 ((hst d).2 ++ b) = hst (d ++ b) := by
  have h := absorb_app d.length ivs d b (Nat.le_refl _)
  have hl := absorb_len d.length ivs d
  have e : (d ++ b).length = d.length + b.length := List.length_append
  unfold hst
  rw [e, h]
  exact absorb_fuel _ _ _ _ (Nat.le_refl _) (by simp; omega)
/-- The sum of a text. -/
def shaF (d : List Int) : List Int := sumF (hst d).1 (hst d).2 d.length
theorem shaF_length (d : List Int) : (shaF d).length = 32 := by unfold shaF sumF; exact outF_length _ _
theorem outF_u8 (hs : List Int) (h : U32s hs) : ∀ i, U8s (outF hs i)
  | 0 => fun x hx => by
    have : x = 0 := by simp [outF, zer] at hx; exact hx
    subst this; decide
  | i + 1 => by
    have ih := outF_u8 hs h i
    have hx := h.at i
    obtain ⟨h0, h1⟩ := hx
    intro y hy
    unfold outF at hy
    rcases List.mem_or_eq_of_mem_set hy with hy | rfl
    · rcases List.mem_or_eq_of_mem_set hy with hy | rfl
      · rcases List.mem_or_eq_of_mem_set hy with hy | rfl
        · rcases List.mem_or_eq_of_mem_set hy with hy | rfl
          · exact ih y hy
          · omega
        · omega
      · omega
    · omega
theorem shaF_u8 (d : List Int) (h : U8s d) : U8s (shaF d) := by
  obtain ⟨h1, h2, h3, h4⟩ := hst_ok d h
  unfold shaF sumF
  exact outF_u8 _ (absorb_ok _ _ _ (Nat.le_refl _) h1 h2 (tailF_u8 _ _ h4)).2.1 8
/-- A sum under way, by what was written. -/
def HashD (w : World) (hb : Nat) (N : Nat → Prop) (d : List Int) : Prop := HashR w hb N (hst d).1 (hst d).2 d.length ∧ U8s d ∧ d.length ≤ 100000000
theorem HashD.keep {w w' : World} {hb : Nat} {N N' : Nat → Prop} {d : List Int} (H : HashD w hb N d) (hb' : Below w.heap.size w w') (hn : ∀ i, N' i → i < w'.heap.size ∧ (N i ∨ w.heap.size ≤ i)) : HashD w' hb N' d := ⟨H.1.keep hb' hn, H.2⟩
theorem hashNew_D (w : World) (N : Nat → Prop) (hN : ∀ i, N i → i < w.heap.size) : Calls Tryz.prog 145 #[] w fun e w' => e = .returned (.pointer (some ⟨w.heap.size, 0, none⟩)) ∧ HashD w' w.heap.size N [] ∧ Below w.heap.size w w' :=
  (shaNew_any w N hN).mono fun e w' ⟨h1, h2, h3⟩ => ⟨h1, ⟨h2, (fun x hx => by cases hx), by simp⟩, h3⟩
theorem hashWrite_D (hb : Nat) (N : Nat → Prop) (d : List Int) (a : Option Addr) (b : List Int) (c : Nat) (w : World) (H : HashD w hb N d) (hbi : ByIn w a b) (hbl : b.length ≤ 1000000) (hdl : d.length ≤ 90000000) (hb8 : U8s b) (hac : a = none → c = 0) (hne : ∀ x, a = some x → 0 < b.length → x.block ≠ hb) :
    Calls Tryz.prog 146 #[.pointer (some ⟨hb, 0, none⟩), .slice a b.length c] w fun e w' => e = .returned (.tuple #[]) ∧ HashD w' hb N (d ++ b) ∧ Keeps N w w' := by
  obtain ⟨h1, h2, h3⟩ := H
  have hr := (hst_ok d h2).2.2.1
  refine (hashWrite_any hb N _ _ _ a b c w h1 hbi ⟨by omega, by omega⟩ hbl (by omega) hb8 hac hne).mono ?_
  rintro e w' ⟨e1, e2, e3⟩
  rw [hst_app] at e2
  refine ⟨e1, ⟨?_, fun x hx => ?_, by simp; omega⟩, e3⟩
  · rw [List.length_append, Int.natCast_add]; exact e2
  · rcases List.mem_append.1 hx with hx | hx
    · exact h2 x hx
    · exact hb8 x hx
theorem hashSum_D (hb : Nat) (N : Nat → Prop) (d : List Int) (w : World) (H : HashD w hb N d) :
    Calls Tryz.prog 147 #[.pointer (some ⟨hb, 0, none⟩)] w fun e w' => e = .returned (.agg (v8a (shaF d))) ∧ Below w.heap.size w w' :=
  hashSum_any hb N _ _ _ w H.1 ⟨by omega, by have := H.2.2; omega⟩ (hst_ok d H.2.1).2.2.1
set_option maxRecDepth 100000 in
set_option maxHeartbeats 1000000 in
theorem shaSum_any (a : Option Addr) (b : List Int) (c : Nat) (w : World) (hbi : ByIn w a b) (hbl : b.length ≤ 1000000) (hb8 : U8s b) (hac : a = none → c = 0) :
    Calls Tryz.prog 184 #[.slice a b.length c] w fun e w' => e = .returned (.agg (v8a (shaF b))) ∧ Below w.heap.size w w' := by
  have HB := Lib.hid hbi
  have HA := Lib.hid hac
  have H8 := Lib.hid hb8
  clear hbi hac hb8
  go_enter Tryz.func184, Tryz.ntmps184
  go_wp2_with fail
  have HW : Hid ((w.alloc (.cells (v8a (zer 32)) 67)).heap[w.heap.size]? = some (.cells (v8a (zer 32)) 67) ∧ Below w.heap.size w (w.alloc (.cells (v8a (zer 32)) 67)) ∧ w.heap.size < (w.alloc (.cells (v8a (zer 32)) 67)).heap.size) := Lib.hid ⟨heap_alloc_new w _, (Below.refl _ _).alloc (Nat.le_refl _) _, by simp⟩
  have HNW := fun (wx : World) => hashNew_D wx (fun i => i < wx.heap.size) (fun i hi => hi)
  refine (HNW _).mono ?_
  clear HNW
  rintro e w2 ⟨rfl, hD, hb⟩
  simp only [World.size_alloc] at hD hb ⊢
  have HW2 : Hid (w2.heap[w.heap.size]? = some (.cells (v8a (zer 32)) 67) ∧ Below w.heap.size w w2) := Lib.hid ⟨(hb.block _ (by omega)).trans HW.out.1, HW.out.2.1.trans (hb.mono (by omega))⟩
  have HD := Lib.hid hD
  have HB2 := Lib.hid (HB.out.below HW2.out.2)
  have HNE : Hid (∀ x, a = some x → 0 < b.length → x.block < w.heap.size) := Lib.hid (fun x hx hp => by
    obtain ⟨b', off, e, hs, _⟩ := HB.out 0 hp
    rw [hx] at e; cases e; exact hs)
  clear hD hb HW
  try dsimp only
  go_wp2_with fail
  refine (hashWrite_D (w.heap.size + 1) _ [] a b c w2 HD.out HB2.out hbl (by simp) H8.out HA.out (fun x hx hp e => by have := HNE.out x hx hp; omega)).mono ?_
  rintro e w3 ⟨rfl, hD, hK⟩
  have HD3 := Lib.hid hD
  have HW3 : Hid (w3.heap[w.heap.size]? = some (.cells (v8a (zer 32)) 67) ∧ Below w.heap.size w w3) := Lib.hid ⟨hK.blk (by omega) HW2.out.1, HW2.out.2.trans (hK.below HW2.out.2.size (fun i hi => by omega))⟩
  clear hD hK
  try dsimp only
  go_wp2_with fail
  refine (hashSum_D (w.heap.size + 1) _ ([] ++ b) w3 HD3.out).mono ?_
  rintro e w4 ⟨rfl, hb4⟩
  rw [List.nil_append]
  have HW4 : Hid (w4.heap[w.heap.size]? = some (.cells (v8a (zer 32)) 67) ∧ Below w.heap.size w w4) := Lib.hid ⟨(hb4.block _ (lt_of_blk HW3.out.1)).trans HW3.out.1, HW3.out.2.trans (hb4.mono HW3.out.2.size)⟩
  have HSL := Lib.hid (shaF_length b)
  clear hb4
  generalize hsm : shaF b = sm at HSL ⊢
  have HSM := Lib.hid hsm
  clear hsm
  have hsz : (v8a sm).size = 32 := by simp [v8a, v8, HSL.out]
  try dsimp only
  go_wp2_with (refine wpList_store_row rfl 67 (.tmp 2) (.tmp 9) rfl w.heap.size (v8a sm) rfl rfl 67 (v8a (zer 32)) HW4.out.1 ?s2 ?s3 ?s4 ?_)
  case s2 => rw [hsz]; kernel_rfl
  case s3 => rw [hsz]; simp [v8a, v8, zer]
  case s4 => simp [v8a, v8, Value.oneCell']
  have hfin := setRow_heap w4 w.heap.size _ (v8a sm) 67 (0, 0) HW4.out.1
  have hbf : Below w.heap.size w (w4.setRow w.heap.size (v8a sm)) := below_setRow HW4.out.2 (by omega) _
  generalize w4.setRow w.heap.size (v8a sm) = wf at hfin hbf ⊢
  try simp only [Act.put, List.setIfInBounds_toArray, List.set_cons_zero, List.set_cons_succ]
  refine bodyPost_ret (results_cell_row Tryz.results184 _ _ w.heap.size 67 (v8a sm) (0, 0) _ rfl hfin Tryz.underlying67 rfl (by rw [hsz]; kernel_rfl)) rfl ⟨?_, hbf⟩
  rw [HSM.out]
end Go.Proofs.YtajmcplanlibnaaGreatDoor
