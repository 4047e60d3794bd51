/- stands of the login's laws answers true. -/
import Derived.Test.YtnicmfboomibjaaDoorN7
namespace Go.Proofs.YtnicmfboomibjaaDoor
set_option linter.unusedSimpArgs false
set_option linter.unusedVariables false
open Go.RowKit
def sA (n : Int) : LogS := ⟨1, ⟨n, false, false, 256, 512, 256, true, true⟩, true, false⟩
theorem st_one : stepF newS 129 [(⟨#[73, 110, 105, 116, 105, 97, 116, 111, 114, 78, 97, 109, 101]⟩, ⟨#[105, 113, 110, 46, 51]⟩)] = (129, [], 0, sA 3) := by kernel_rfl
theorem st_two : stepF (sA 3) 135 [(⟨#[72, 101, 97, 100, 101, 114, 68, 105, 103, 101, 115, 116]⟩, ⟨#[67, 82, 67, 51, 50, 67, 44, 78, 111, 110, 101]⟩)] = (135, [(⟨#[72, 101, 97, 100, 101, 114, 68, 105, 103, 101, 115, 116]⟩, ⟨#[67, 82, 67, 51, 50, 67]⟩)], 0, ⟨3, ⟨3, true, false, 256, 512, 256, true, true⟩, true, false⟩) := by kernel_rfl
theorem pairs_one (w : World) (a b : ByteArray) : PairsIn (w.alloc (.cells #[.string a, .string b] 39)) (some ⟨w.heap.size, 0, none⟩) [(a, b)] := fun i hi => by
  refine ⟨w.heap.size, 0, rfl, by simp, ?_, ?_⟩
  all_goals
    match i, hi with
    | 0, _ => simp only [World.cell?, heap_alloc_new]; rfl
/-- A step on one pair that was just laid. -/
theorem step_one (lb : Nat) (s : LogS) (f : Nat) (hf : f < 256) (K V : ByteArray) (w : World) (N : Nat) (hN : N = w.heap.size) (hE : EnvN w) (h5 : 5 < lb) (hl : w.heap[lb]? = some (.cells (logCells s) 55)) (hV : V.size ≤ 100000) :
    Calls Tryd.prog 25 #[.pointer (some ⟨lb, 0, none⟩), .int .u8 f, .slice (some ⟨N, 0, none⟩) 1 1] (w.alloc (.cells #[.string K, .string V] 39)) fun e w' => StepPost lb (stepF s f [(K, V)]) w e w' := by
  subst hN
  have hb : Below w.heap.size w (w.alloc (.cells #[.string K, .string V] 39)) := (Below.refl _ _).alloc (Nat.le_refl _) _
  have hlb := lt_of_blk hl
  refine (step_any lb s f hf _ [(K, V)] 1 _ (hE.below hb (Nat.le_refl _)) h5 ((hb.block lb hlb).trans hl) (pairs_one w K V) (fun x hx _ => by cases hx; exact fun e => by dsimp only at e; omega) (by simp) (by simp; exact hV)).mono ?_
  rintro e w' ⟨a, c, h1, h2, h3, h4⟩
  exact ⟨a, c, h1, h2, ⟨fun x hx => Nat.le_trans (by simp) (h3.1 x hx), h3.2⟩, h4.1, grown_tr (grown_be hb _) h4.2⟩
set_option maxRecDepth 100000 in
set_option maxHeartbeats 4000000 in
theorem stands16_any (w : World) (hE : EnvN w) : Calls Tryd.prog 22 #[] w fun e w' => e = .returned (.bool true) ∧ Below w.heap.size w w' := by
  have HE := Lib.hid hE
  have h5 : 5 < w.heap.size := hE.2.2
  clear hE
  go_enter Tryd.func22, Tryd.ntmps22
  go_wp2_with fail
  refine (new_any w).mono ?_
  rintro e w1 ⟨rfl, hl1, hb1⟩
  have hz1 := lt_of_blk hl1
  have HS1 := Lib.hid (step_one w.heap.size newS 129 (by decide) ⟨#[73, 110, 105, 116, 105, 97, 116, 111, 114, 78, 97, 109, 101]⟩ ⟨#[105, 113, 110, 46, 51]⟩ w1 w1.heap.size rfl (HE.out.below hb1 (Nat.le_refl _)) h5 hl1 (by decide))
  have HB1 := Lib.hid hb1
  rw [st_one] at HS1
  clear hl1 hb1
  dsimp only
  go_wp2_with fail
  refine HS1.out.mono ?_
  rintro e w2 ⟨a2, c2, rfl, hp2, hx2, hl2⟩
  have HB2 := Lib.hid (Below.beside HB1.out hl2.2 HB1.out.size (Nat.le_refl _))
  have HS2 := Lib.hid (step_one w.heap.size (sA 3) 135 (by decide) ⟨#[72, 101, 97, 100, 101, 114, 68, 105, 103, 101, 115, 116]⟩ ⟨#[67, 82, 67, 51, 50, 67, 44, 78, 111, 110, 101]⟩ w2 w2.heap.size rfl (HE.out.below HB2.out (Nat.le_refl _)) h5 hl2.1 (by decide))
  rw [st_two] at HS2
  clear hl2 hp2 hx2 HS1
  dsimp only [List.length_nil]
  go_wp2_with fail
  refine HS2.out.mono ?_
  rintro e w3 ⟨a3, c3, rfl, hp3, hx3, hl3⟩
  have HB3 := Lib.hid (Below.beside HB2.out hl3.2 HB2.out.size (Nat.le_refl _))
  obtain ⟨b3, o3, rfl, hb3, m1, m2⟩ := hp3 0 (by simp)
  simp only [List.getElem_cons_zero, Nat.zero_mul, Nat.add_zero] at m1 m2
  obtain ⟨k0, k1, k2, _⟩ := (blk11 hl3.1).1
  clear hl3 hp3 hx3 HS2
  dsimp only [List.length_cons, List.length_nil]
  go_wp2_with fail
  go_ret
  exact ⟨rfl, HB3.out⟩
end Go.Proofs.YtnicmfboomibjaaDoor
