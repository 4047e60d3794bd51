/- The sum of texts: the sum of all bytes so far. -/
import Derived.Test.YtajmcplanlibnaaGreatDoorKH5
set_option linter.unusedSimpArgs false
set_option linter.unusedVariables false
set_option linter.unnecessarySimpa false
namespace Go.Proofs.YtajmcplanlibnaaGreatDoor
open Go.RowKit
theorem own_src8 {w : World} {base e : Nat} {v : Value} {l : List Int} (h : w.ownsRow base e 1 v l.length (v8 l)) : SrcIs w v l.length 1 (v8 l) := by
  rcases h.2 with ⟨rfl, hn⟩ | ⟨g, c, cur, hv, _, hg, _, _, hs, ht⟩
  · have : l = [] := List.eq_nil_of_length_eq_zero hn
    subst this
    exact .inl ⟨rfl, rfl, rfl⟩
  · subst hv
    exact .inr ⟨⟨g, 0, none⟩, c, rfl, v8_length l, h.cells rfl, v8_one l⟩
def padN (k : Nat) : Nat := (119 - k) % 64
def be64 (x : Int) (i : Nat) : Int := x / 2 ^ (8 * (7 - i)) % 256
def tailF (r : List Int) (n : Int) : List Int := r ++ [128] ++ List.replicate (padN r.length) 0 ++ (List.range 8).map (be64 (n * 8))
theorem be64_u8 (x : Int) (i : Nat) : 0 ≤ be64 x i ∧ be64 x i < 256 := by unfold be64; omega
def zer (n : Nat) : List Int := List.replicate n 0
def v8a (l : List Int) : Array Value := (v8 l).toArray
def tlz (r : List Int) (j : Nat) : List Int := r ++ [128] ++ zer j
def tlb (r : List Int) (j : Nat) (n : Int) (i : Nat) : List Int := tlz r j ++ (List.range i).map (be64 (n * 8))
theorem tlz_next (r : List Int) (j : Nat) : tlz r (j + 1) = tlz r j ++ [0] := by simp [tlz, zer, List.replicate_succ']
theorem tlb_next (r : List Int) (j : Nat) (n : Int) (i : Nat) : tlb r j n (i + 1) = tlb r j n i ++ [n * 8 / 2 ^ (8 * (7 - i)) % 256] := by unfold tlb; rw [List.range_succ]; simp [be64]
theorem tlz_length (r : List Int) (j : Nat) : (tlz r j).length = r.length + 1 + j := by simp [tlz, zer]; omega
theorem tlb_length (r : List Int) (j : Nat) (n : Int) (i : Nat) : (tlb r j n i).length = r.length + 1 + j + i := by simp [tlb, tlz_length]
theorem tailF_u8 (r : List Int) (n : Int) (h : U8s r) : U8s (tailF r n) := by
  intro x hx
  unfold tailF at hx
  simp only [List.mem_append, List.mem_singleton, List.mem_replicate, List.mem_map, List.mem_range] at hx
  rcases hx with ((hx | rfl) | ⟨_, rfl⟩) | ⟨i, _, rfl⟩
  · exact h x hx
  · decide
  · decide
  · exact be64_u8 _ _
def slLen : Value → Nat
  | .slice _ n _ => n
  | _ => 0
def SumW (w : World) (h : List Int) (tl : List Int) (tv : Value) (wx : World) : Prop :=
  wx.heap[w.heap.size]? = some (.cells (v8a (zer 32)) 67) ∧ wx.heap[w.heap.size + 1]? = some (.cells (v8a (zer 32)) 67) ∧ wx.heap[w.heap.size + 1 + 1]? = some (.cells (hashCells h (.slice none 0 0) 0) 307) ∧
  wx.ownsRow w.heap.size 5 1 tv tl.length (v8 tl) ∧ Below w.heap.size w wx ∧ w.heap.size + 1 + 1 < wx.heap.size
theorem SumW.grow {w wx wy : World} {h tl tl' : List Int} {tv tv' : Value} (H : SumW w h tl tv wx) (hg : wx.grownBy wy tv.ownBlock) (ho : wy.ownsRow w.heap.size 5 1 tv' tl'.length (v8 tl')) : SumW w h tl' tv' wy := by
  obtain ⟨h0, h1, h2, h3, h4, h5⟩ := H
  refine ⟨(hg.block _ (lt_of_blk h0) (fun e => blk_own_ne h0 h3 (by decide) e.symm rfl)).trans h0, (hg.block _ (lt_of_blk h1) (fun e => blk_own_ne h1 h3 (by decide) e.symm rfl)).trans h1,
    (hg.block _ (lt_of_blk h2) (fun e => blk_own_ne h2 h3 (by decide) e.symm rfl)).trans h2, ho, h4.grown hg h4.size (fun k hk => (h3.lt k hk).1), Nat.lt_of_lt_of_le h5 hg.size⟩
theorem SumW.below {w wx wy : World} {h tl : List Int} {tv : Value} (H : SumW w h tl tv wx) (hb : Below wx.heap.size wx wy) : SumW w h tl tv wy := by
  obtain ⟨h0, h1, h2, h3, h4, h5⟩ := H
  exact ⟨(hb.block _ (lt_of_blk h0)).trans h0, (hb.block _ (lt_of_blk h1)).trans h1, (hb.block _ (lt_of_blk h2)).trans h2, own_same h3 (fun k hk => hb.block k (h3.lt k hk).2), h4.trans (hb.mono h4.size), Nat.lt_of_lt_of_le h5 hb.size⟩
theorem one_src8 (w : World) (x : Int) (e : Nat) (N : Nat) (hN : N = w.heap.size) : SrcIs (w.alloc (.cells #[.int .u8 x] e)) (.slice (some ⟨N, 0, none⟩) 1 1) 1 1 (v8 [x]) := by
  subst hN
  refine .inr ⟨⟨w.heap.size, 0, none⟩, 1, rfl, rfl, fun j u hu => ?_, v8_one _⟩
  match j with
  | 0 =>
    simp [v8] at hu
    subst hu
    have h := cell_of_row (w.alloc (.cells #[.int .u8 x] e)) w.heap.size 0 #[.int .u8 x] e (0, 0) (heap_alloc_new w _)
    simpa [Addr.add] using h
  | j + 1 => simp [v8] at hu
/-- The bytes of eight words, the highest first. -/
def outF (hs : List Int) : Nat → List Int
  | 0 => zer 32
  | i + 1 => ((((outF hs i).set (4 * i) (hs.getD i 0 / 16777216)).set (4 * i + 1) (hs.getD i 0 / 65536 % 256)).set (4 * i + 2) (hs.getD i 0 / 256 % 256)).set (4 * i + 3) (hs.getD i 0 % 256)
theorem outF_length (hs : List Int) : ∀ i, (outF hs i).length = 32
  | 0 => by simp [outF, zer]
  | i + 1 => by simp [outF, outF_length hs i]
def sumF (h r : List Int) (n : Int) : List Int := outF (absorb (tailF r n).length h (tailF r n)).1 8
def SumX (w : World) (o : List Int) (wx : World) : Prop :=
  wx.heap[w.heap.size]? = some (.cells (v8a (zer 32)) 67) ∧ wx.heap[w.heap.size + 1]? = some (.cells (v8a o) 67) ∧ Below w.heap.size w wx
theorem v8a_cell {w : World} {B T : Nat} {l : List Int} (h : w.heap[B]? = some (.cells (v8a l) T)) (i : Nat) (hi : i < l.length) : w.cell? ⟨B, i, none⟩ = some (.int .u8 (l.getD i 0)) ∧ w.frozen? ⟨B, i, none⟩ = false := by
  simp [World.cell?, World.frozen?, h, v8a, v8, hi]
theorem v8a_set {w : World} {B T : Nat} {l : List Int} (h : w.heap[B]? = some (.cells (v8a l) T)) (i : Nat) (x : Int) : (w.setCell ⟨B, i, none⟩ (.int .u8 x)).heap[B]? = some (.cells (v8a (l.set i x)) T) := by
  rw [set_blk h]; simp [v8a, v8]
theorem index8_0 (g0 g1 g2 g3 g4 g5 g6 g7 : Int) (wx : World) : (Instr.index 305 (.agg #[.int .u32 g0, .int .u32 g1, .int .u32 g2, .int .u32 g3, .int .u32 g4, .int .u32 g5, .int .u32 g6, .int .u32 g7]) (.int .i64 0)).run Tryz.prog wx = .ok (.int .u32 g0) wx := by kernel_rfl
theorem index8_1 (g0 g1 g2 g3 g4 g5 g6 g7 : Int) (wx : World) : (Instr.index 305 (.agg #[.int .u32 g0, .int .u32 g1, .int .u32 g2, .int .u32 g3, .int .u32 g4, .int .u32 g5, .int .u32 g6, .int .u32 g7]) (.int .i64 1)).run Tryz.prog wx = .ok (.int .u32 g1) wx := by kernel_rfl
theorem index8_2 (g0 g1 g2 g3 g4 g5 g6 g7 : Int) (wx : World) : (Instr.index 305 (.agg #[.int .u32 g0, .int .u32 g1, .int .u32 g2, .int .u32 g3, .int .u32 g4, .int .u32 g5, .int .u32 g6, .int .u32 g7]) (.int .i64 2)).run Tryz.prog wx = .ok (.int .u32 g2) wx := by kernel_rfl
theorem index8_3 (g0 g1 g2 g3 g4 g5 g6 g7 : Int) (wx : World) : (Instr.index 305 (.agg #[.int .u32 g0, .int .u32 g1, .int .u32 g2, .int .u32 g3, .int .u32 g4, .int .u32 g5, .int .u32 g6, .int .u32 g7]) (.int .i64 3)).run Tryz.prog wx = .ok (.int .u32 g3) wx := by kernel_rfl
theorem index8_4 (g0 g1 g2 g3 g4 g5 g6 g7 : Int) (wx : World) : (Instr.index 305 (.agg #[.int .u32 g0, .int .u32 g1, .int .u32 g2, .int .u32 g3, .int .u32 g4, .int .u32 g5, .int .u32 g6, .int .u32 g7]) (.int .i64 4)).run Tryz.prog wx = .ok (.int .u32 g4) wx := by kernel_rfl
theorem index8_5 (g0 g1 g2 g3 g4 g5 g6 g7 : Int) (wx : World) : (Instr.index 305 (.agg #[.int .u32 g0, .int .u32 g1, .int .u32 g2, .int .u32 g3, .int .u32 g4, .int .u32 g5, .int .u32 g6, .int .u32 g7]) (.int .i64 5)).run Tryz.prog wx = .ok (.int .u32 g5) wx := by kernel_rfl
theorem index8_6 (g0 g1 g2 g3 g4 g5 g6 g7 : Int) (wx : World) : (Instr.index 305 (.agg #[.int .u32 g0, .int .u32 g1, .int .u32 g2, .int .u32 g3, .int .u32 g4, .int .u32 g5, .int .u32 g6, .int .u32 g7]) (.int .i64 6)).run Tryz.prog wx = .ok (.int .u32 g6) wx := by kernel_rfl
theorem index8_7 (g0 g1 g2 g3 g4 g5 g6 g7 : Int) (wx : World) : (Instr.index 305 (.agg #[.int .u32 g0, .int .u32 g1, .int .u32 g2, .int .u32 g3, .int .u32 g4, .int .u32 g5, .int .u32 g6, .int .u32 g7]) (.int .i64 7)).run Tryz.prog wx = .ok (.int .u32 g7) wx := by kernel_rfl
theorem index_eight (g0 g1 g2 g3 g4 g5 g6 g7 : Int) (i : Nat) (h : i < 8) : ∀ wx : World, (Instr.index 305 (.agg #[.int .u32 g0, .int .u32 g1, .int .u32 g2, .int .u32 g3, .int .u32 g4, .int .u32 g5, .int .u32 g6, .int .u32 g7]) (.int .i64 (i : Int))).run Tryz.prog wx = .ok (.int .u32 ([g0, g1, g2, g3, g4, g5, g6, g7].getD i 0)) wx := by
  intro wx
  have hh : i = 0 ∨ i = 1 ∨ i = 2 ∨ i = 3 ∨ i = 4 ∨ i = 5 ∨ i = 6 ∨ i = 7 := by omega
  rcases hh with rfl | rfl | rfl | rfl | rfl | rfl | rfl | rfl
  · exact index8_0 g0 g1 g2 g3 g4 g5 g6 g7 wx
  · exact index8_1 g0 g1 g2 g3 g4 g5 g6 g7 wx
  · exact index8_2 g0 g1 g2 g3 g4 g5 g6 g7 wx
  · exact index8_3 g0 g1 g2 g3 g4 g5 g6 g7 wx
  · exact index8_4 g0 g1 g2 g3 g4 g5 g6 g7 wx
  · exact index8_5 g0 g1 g2 g3 g4 g5 g6 g7 wx
  · exact index8_6 g0 g1 g2 g3 g4 g5 g6 g7 wx
  · exact index8_7 g0 g1 g2 g3 g4 g5 g6 g7 wx
set_option maxRecDepth 100000 in
set_option maxHeartbeats 4000000 in
theorem hashSum_any (hb : Nat) (N : Nat → Prop) (h r : List Int) (n : Int) (w : World) (hH : HashR w hb N h r n) (hn0 : 0 ≤ n ∧ n ≤ 1000000000) (hrl : r.length < 64) :
    Calls Tryz.prog 147 #[.pointer (some ⟨hb, 0, none⟩)] w fun e w' => e = .returned (.agg (v8a (sumF h r n))) ∧ Below w.heap.size w w' := by
  obtain ⟨rv, q1, q2, q3, q4, q5, q6, q7, q8⟩ := hH
  obtain ⟨ar, cr, rfl⟩ := own_slice q2
  have HB := Lib.hid q1
  have HO := Lib.hid q2
  have HQ := Lib.hid (And.intro q3 (And.intro q4 (And.intro q5 (And.intro q6 (And.intro q7 q8)))))
  obtain ⟨hn0, hn1⟩ := hn0
  have hhb := lt_of_blk q1
  obtain ⟨h0, h1, h2, h3, h4, h5, h6, h7, rfl⟩ := eight h q6
  obtain ⟨d0, d1, d2, d3, d4, d5, d6, d7, d8, d9⟩ := (blk10 q1).1
  clear q1 q2 q3 q4 q5 q6 q7 q8
  obtain ⟨i0, hi0', hz0, hz1, hz2⟩ := info_parts info_u8
  go_enter Tryz.func147, Tryz.ntmps147
  repeat (fail_if_success (with_reducible refine stop_pos "sha.go:79" rfl ?_)
          first | go_values | go_skip | go_guarded | go_step | go_upon)
  refine gen_world (fun wx => Hid (SumW w [h0, h1, h2, h3, h4, h5, h6, h7] [] (.slice none 0 0) wx)) ?_ ?_
  · obtain ⟨b0, b1, b2⟩ := heap3 w (.cells (v8a (zer 32)) 67) (.cells (v8a (zer 32)) 67) (.cells (hashCells [h0, h1, h2, h3, h4, h5, h6, h7] (.slice none 0 0) 0) 307)
    exact Lib.hid ⟨b0, b1, b2, World.ownsRow_nil _ _ _ _, by repeat (first | with_reducible assumption | (with_reducible refine Below.setCell ?_ (by first | omega | (simp; done) | (simp; omega)) _) | (with_reducible refine Below.alloc ?_ (by first | omega | (simp; done) | (simp; omega)) _) | (with_reducible refine Below.drew ?_) | (with_reducible refine below_dN ?_ _) | with_reducible exact Below.refl _ _ | (with_reducible refine Below.trans ?_ (Below.mono (by assumption) (by first | omega | (simp; done) | (simp; omega))))), by simp⟩
  intro w1 H1
  have HB1 := Lib.hid ((H1.out.2.2.2.2.1.block hb hhb).trans HB.out)
  have HO1 : Hid (w1.ownsRow 0 5 1 (.slice ar r.length cr) r.length (v8 r)) := Lib.hid (own_same HO.out (fun k hk => H1.out.2.2.2.2.1.block k (HO.out.lt k hk).2))
  clear d0 d1 d2 d3 d4 d5 d6 d7 d8 d9
  obtain ⟨_, _, _, _, _, _, _, _, d8, d9⟩ := (blk10 HB1.out).1
  go_wp2_with (at_builtin; refine step_append_list rfl _ _ 118 rfl w.heap.size 5 i0 (.int .u8 0) 1 1 Tryz.underlying118 hi0' hz0 hz1 hz2 rfl (by decide) (.slice none 0 0) 0 [] rfl (World.ownsRow_nil _ _ _ _) (.slice ar r.length cr) r.length (v8 r) rfl (own_src8 HO1.out) ?c1 ?c2 ?c3 ?_)
  case c1 => unfold maxLen; omega
  case c2 => omega
  case c3 => have := H1.out.2.2.2.2.2; omega
  intro v2 w2 hown hgrow
  have H2 := Lib.hid (H1.out.grow (tl' := r) (tv' := v2) hgrow (by simpa using hown))
  obtain ⟨a2, c2, rfl⟩ := own_slice hown
  clear hown hgrow H1
  have H3 : Hid (SumW w [h0, h1, h2, h3, h4, h5, h6, h7] r (.slice a2 r.length c2) (w2.alloc (.cells #[.int .u8 128] 5))) := Lib.hid (H2.out.below ((Below.refl _ _).alloc (Nat.le_refl _) _))
  go_wp2_with (at_builtin; refine step_append_list rfl _ _ 118 rfl w.heap.size 5 i0 (.int .u8 0) 1 1 Tryz.underlying118 hi0' hz0 hz1 hz2 rfl (by decide) (.slice a2 r.length c2) r.length (v8 r) rfl H3.out.2.2.2.1 (.slice (some ⟨w2.heap.size, 0, none⟩) 1 1) 1 (v8 [128]) rfl (one_src8 w2 128 5 _ rfl) ?c1 ?c2 ?c3 ?_)
  case c1 => unfold maxLen; omega
  case c2 => omega
  case c3 => have := H3.out.2.2.2.2.2; simp at this ⊢; omega
  intro v4 w4 hown hgrow
  have H4 := Lib.hid (H3.out.grow (tl' := tlz r 0) (tv' := v4) hgrow (by simpa [v8, tlz, zer] using hown))
  obtain ⟨a4, c4, rfl⟩ := own_slice hown
  clear hown hgrow H2 H3
  go_wp2_with fail
  go_loopw [5] (fun tv wr => ∃ (j L : Nat) (a4 : Option Addr) (c4 : Nat), tv = .slice a4 L c4 ∧ 1 ≤ L ∧ L ≤ 200 ∧ Hid (L = r.length + 1 + j ∧ j ≤ padN r.length) ∧ Hid (SumW w [h0, h1, h2, h3, h4, h5, h6, h7] (tlz r j) (.slice a4 L c4) wr)) (fun tv _ => 300 - slLen tv)
  case atStart => exact ⟨0, r.length + 1, a4, c4, rfl, by omega, by omega, Lib.hid ⟨by omega, by omega⟩, H4⟩
  case round =>
    clear H4
    obtain ⟨j, L, a5, c5, rfl, hL1, hL2, HL, H5⟩ := hrel
    by_cases hd : L % 64 = 56
    · have hq : ((L : Int) % 64 != 56) = false := by simp; omega
      have HLJ : Hid (j = padN r.length) := Lib.hid (by
        have h1 := HL.out
        unfold padN at h1 ⊢
        omega)
      have HLL : Hid ((tlz r j).length = L) := Lib.hid (by have := HL.out.1; rw [tlz_length]; omega)
      go_wp2_with fail
      go_loopw [5, 6] (fun tv iv wr => ∃ (i : Nat) (a4 : Option Addr) (c4 : Nat), tv = .slice a4 (L + i) c4 ∧ iv = .int .i64 (7 - (i : Int)) ∧ i ≤ 8 ∧ Hid (SumW w [h0, h1, h2, h3, h4, h5, h6, h7] (tlb r j n i) (.slice a4 (L + i) c4) wr)) (fun tv iv _ => (intOf iv + 1).toNat)
      case atStart => exact ⟨0, a5, c5, rfl, rfl, by omega, by rw [show tlb r j n 0 = tlz r j by simp [tlb]]; exact H5⟩
      case round =>
        clear H5
        obtain ⟨i, a6, c6, rfl, rfl, hi, H6⟩ := hrel
        by_cases hlt : i < 8
        · have hi0 : (i : Int) < 8 := by omega
          have hi1 : (0 : Int) ≤ 7 - (i : Int) := by omega
          have HB6 := Lib.hid ((H6.out.2.2.2.2.1.block hb hhb).trans HB.out)
          obtain ⟨_, _, _, _, _, _, _, _, d8, d9⟩ := (blk10 HB6.out).1
          have HLi : Hid ((tlb r j n i).length = L + i) := Lib.hid (by have := HL.out.1; rw [tlb_length]; omega)
          have H7 : Hid (SumW w [h0, h1, h2, h3, h4, h5, h6, h7] (tlb r j n i) (.slice a6 (L + i) c6) (wr.alloc (.cells #[.int .u8 (n * 8 / 2 ^ (8 * (7 - i)) % 256)] 5))) := Lib.hid (H6.out.below ((Below.refl _ _).alloc (Nat.le_refl _) _))
          go_wp2_with (at_builtin; refine step_append_list rfl _ _ 118 rfl w.heap.size 5 i0 (.int .u8 0) 1 1 Tryz.underlying118 hi0' hz0 hz1 hz2 rfl (by decide) (.slice a6 (L + i) c6) (L + i) (v8 (tlb r j n i)) rfl ?c0 (.slice (some ⟨wr.heap.size, 0, none⟩) 1 1) 1 (v8 [n * 8 / 2 ^ (8 * (7 - i)) % 256]) rfl (one_src8 wr _ 5 _ rfl) ?c1 ?c2 ?c3 ?_)
          case c0 => have h := H7.out.2.2.2.1; rw [HLi.out] at h; exact h
          case c1 => unfold maxLen; omega
          case c2 => omega
          case c3 => have := H7.out.2.2.2.2.2; simp at this ⊢; omega
          intro v8' w8 hown hgrow
          obtain ⟨a8, c8, rfl⟩ := own_slice hown
          have H8 := Lib.hid (H7.out.grow (tl' := tlb r j n (i + 1)) (tv' := .slice a8 (L + (i + 1)) c8) hgrow (by
            have e := tlb_next r j n i
            have e2 : (tlb r j n (i + 1)).length = L + (i + 1) := by rw [e, List.length_append, HLi.out]; rfl
            rw [e2, e, v8_append]; exact hown))
          clear hown hgrow H7 H6
          go_wp2_with fail
          exact ⟨⟨i + 1, a8, c8, rfl, by congr 1; omega, by omega, H8⟩, by simp [intOf]; omega⟩
        · obtain rfl : i = 8 := by omega
          go_wp2_with fail
          have HT : Hid (tlb r j n 8 = tailF r n) := Lib.hid (by have := HLJ.out; subst this; rfl)
          have HLT : Hid ((tailF r n).length = L + 8) := Lib.hid (by rw [← HT.out, tlb_length]; have := HL.out.1; omega)
          rw [HT.out] at H6
          have HT8 : Hid (U8s (tailF r n)) := Lib.hid (tailF_u8 r n HQ.out.2.2.2.2.2)
          have HWR := Lib.hid (hashWrite_any (w.heap.size + 1 + 1) (fun i => i < w.heap.size + 1 + 1) [h0, h1, h2, h3, h4, h5, h6, h7] [] 0 a6 (tailF r n) c6 wr ⟨.slice none 0 0, H6.out.2.2.1, World.ownsRow_nil _ _ _ _, fun k hk => by simp [Value.ownBlock] at hk, by omega, fun i hi => by have := H6.out.2.2.2.2.2; omega, rfl, HQ.out.2.2.2.2.1, fun x hx => by cases hx⟩ (ByIn.of_own (by have h := H6.out.2.2.2.1; rw [← HLT.out] at h; exact h)) ⟨by omega, by omega⟩ (by have := HLT.out; omega) (by simp) HT8.out (fun e => by
            have h := H6.out.2.2.2.1
            rcases h.2 with ⟨hv, _⟩ | ⟨g, c, cur, hv, _⟩
            · simp only [Value.slice.injEq] at hv; exact hv.2.2
            · rw [e] at hv; simp at hv) (fun x hx _ e => by
            have h := H6.out.2.2.2.1
            exact blk_own_ne H6.out.2.2.1 h (by decide) (by rw [hx]; rfl) e))
          rw [List.nil_append, HLT.out] at HWR
          have H00 := Lib.hid H6.out.1
          have H01 := Lib.hid H6.out.2.1
          have HBW := Lib.hid H6.out.2.2.2.2.1
          clear H6 HT
          refine HWR.out.mono ?_
          clear HWR
          rintro e w9 ⟨rfl, hR9, hK9⟩
          have HE9 : Hid (sumF [h0, h1, h2, h3, h4, h5, h6, h7] r n = outF (absorb (L + 8) [h0, h1, h2, h3, h4, h5, h6, h7] (tailF r n)).1 8) := Lib.hid (by unfold sumF; rw [HLT.out])
          generalize (absorb (L + 8) [h0, h1, h2, h3, h4, h5, h6, h7] (tailF r n)).1 = hs at hR9 HE9
          obtain ⟨rv9, t1, _, _, _, _, t2, t3, _⟩ := hR9
          obtain ⟨g0, g1, g2, g3, g4, g5, g6, g7, rfl⟩ := eight hs t2
          obtain ⟨e0, e1, e2, e3, e4, e5, e6, e7, _, _⟩ := (blk10 t1).1
          have HG := Lib.hid t3
          have H90 : Hid (SumX w (outF [g0, g1, g2, g3, g4, g5, g6, g7] 0) w9) := Lib.hid ⟨hK9.blk (by omega) H00.out, hK9.blk (by omega) H01.out, HBW.out.trans (hK9.below HBW.out.size (fun i hi => by omega))⟩
          clear t1 t2 t3 hK9
          dsimp only
          go_wp2_with fail
          clear e0 e1 e2 e3 e4 e5 e6 e7
          go_loopw [51] (fun iv wr => ∃ i : Nat, iv = .int .i64 i ∧ i ≤ 8 ∧ Hid (SumX w (outF [g0, g1, g2, g3, g4, g5, g6, g7] i) wr)) (fun iv _ => 8 - (intOf iv).toNat)
          case atStart => exact ⟨0, rfl, by omega, H90⟩
          case round =>
            clear H90
            obtain ⟨i, rfl, hi, HS⟩ := hrel
            by_cases hlt : i < 8
            · have hi0 : (0 : Int) ≤ i := by omega
              have hi1 : (i : Int) < 8 := by omega
              have hix := index_eight g0 g1 g2 g3 g4 g5 g6 g7 i hlt
              have gx := HG.out.at i
              have HN : Hid (outF [g0, g1, g2, g3, g4, g5, g6, g7] (i + 1) = ((((outF [g0, g1, g2, g3, g4, g5, g6, g7] i).set (4 * i) ([g0, g1, g2, g3, g4, g5, g6, g7].getD i 0 / 16777216)).set (4 * i + 1) ([g0, g1, g2, g3, g4, g5, g6, g7].getD i 0 / 65536 % 256)).set (4 * i + 2) ([g0, g1, g2, g3, g4, g5, g6, g7].getD i 0 / 256 % 256)).set (4 * i + 3) ([g0, g1, g2, g3, g4, g5, g6, g7].getD i 0 % 256)) := Lib.hid rfl
              generalize [g0, g1, g2, g3, g4, g5, g6, g7].getD i 0 = x at hix gx HN
              obtain ⟨gx0, gx1⟩ := gx
              have p0 := v8a_cell HS.out.2.1 (4 * i) (by rw [outF_length]; omega)
              have p1 := v8a_cell HS.out.2.1 (4 * i + 1) (by rw [outF_length]; omega)
              have p2 := v8a_cell HS.out.2.1 (4 * i + 2) (by rw [outF_length]; omega)
              have p3 := v8a_cell HS.out.2.1 (4 * i + 3) (by rw [outF_length]; omega)
              go_wp2_with fail
              refine ⟨⟨i + 1, by go_num, by omega, Lib.hid ⟨?_, ?_, ?_⟩⟩, by simp [intOf]; omega⟩
              · have hne : w.heap.size + 1 ≠ w.heap.size := by omega
                exact heap_set_ne hne (heap_set_ne hne (heap_set_ne hne (heap_set_ne hne HS.out.1)))
              · rw [HN.out]; exact v8a_set (v8a_set (v8a_set (v8a_set HS.out.2.1 _ _) _ _) _ _) _ _
              · have hbw := HS.out.2.2
                repeat (first | with_reducible assumption | (with_reducible refine Below.setCell ?_ (by first | omega | (simp; done) | (simp; omega)) _) | (with_reducible refine Below.alloc ?_ (by first | omega | (simp; done) | (simp; omega)) _) | (with_reducible refine Below.drew ?_) | (with_reducible refine below_dN ?_ _) | with_reducible exact Below.refl _ _ | (with_reducible refine Below.trans ?_ (Below.mono (by assumption) (by first | omega | (simp; done) | (simp; omega)))))
            · obtain rfl : i = 8 := by omega
              rw [← HE9.out] at HS
              have HSL : Hid ((sumF [h0, h1, h2, h3, h4, h5, h6, h7] r n).length = 32) := Lib.hid (by unfold sumF; rw [outF_length])
              generalize hsm : sumF [h0, h1, h2, h3, h4, h5, h6, h7] r n = sm at HS HSL
              have HSM := Lib.hid hsm
              clear hsm
              have hsz : (v8a sm).size = 32 := by simp [v8a, v8, HSL.out]
              go_wp2_with (first
                | (refine wpList_load_row rfl 67 (.tmp 3) rfl (w.heap.size + 1) rfl 67 (v8a sm) (0, 0) _ HS.out.2.1 Tryz.underlying67 rfl ?s1 ?_)
                | (refine wpList_store_row rfl 67 (.tmp 2) (.tmp 82) rfl w.heap.size (v8a sm) rfl rfl 67 (v8a (zer 32)) HS.out.1 ?s2 ?s3 ?s4 ?_))
              case s1 => rw [hsz]; kernel_rfl
              case s2 => rw [hsz]; kernel_rfl
              case s3 => rw [hsz]; simp [v8a, v8, zer]
              case s4 => simp [v8a, v8, Value.oneCell']
              have hfin := setRow_heap wr w.heap.size _ (v8a sm) 67 (0, 0) HS.out.1
              have hbf : Below w.heap.size w (wr.setRow w.heap.size (v8a sm)) := below_setRow HS.out.2.2 (by omega) _
              generalize wr.setRow w.heap.size (v8a sm) = wf at hfin hbf ⊢
              simp only [Act.put, List.setIfInBounds_toArray, List.set_cons_zero, List.set_cons_succ]
              refine bodyPost_ret (results_cell_row Tryz.results147 _ _ w.heap.size 67 (v8a sm) (0, 0) _ rfl hfin Tryz.underlying67 rfl (by rw [hsz]; kernel_rfl)) rfl ⟨?_, hbf⟩
              rw [HSM.out]
    · have hq : ((L : Int) % 64 != 56) = true := by simp; omega
      have HJ : Hid (j + 1 ≤ padN r.length) := Lib.hid (by have := HL.out; unfold padN at this ⊢; omega)
      have HLL : Hid ((tlz r j).length = L) := Lib.hid (by have := HL.out.1; rw [tlz_length]; omega)
      have H6 : Hid (SumW w [h0, h1, h2, h3, h4, h5, h6, h7] (tlz r j) (.slice a5 L c5) (wr.alloc (.cells #[.int .u8 0] 5))) := Lib.hid (H5.out.below ((Below.refl _ _).alloc (Nat.le_refl _) _))
      go_wp2_with (at_builtin; refine step_append_list rfl _ _ 118 rfl w.heap.size 5 i0 (.int .u8 0) 1 1 Tryz.underlying118 hi0' hz0 hz1 hz2 rfl (by decide) (.slice a5 L c5) L (v8 (tlz r j)) rfl ?c0 (.slice (some ⟨wr.heap.size, 0, none⟩) 1 1) 1 (v8 [0]) rfl (one_src8 wr 0 5 _ rfl) ?c1 ?c2 ?c3 ?_)
      case c0 => have h := H6.out.2.2.2.1; rw [HLL.out] at h; exact h
      case c1 => unfold maxLen; omega
      case c2 => omega
      case c3 => have := H6.out.2.2.2.2.2; simp at this ⊢; omega
      intro v7 w7 hown hgrow
      obtain ⟨a7, c7, rfl⟩ := own_slice hown
      have H7 := Lib.hid (H6.out.grow (tl' := tlz r (j + 1)) (tv' := .slice a7 (L + 1) c7) hgrow (by
        have e := tlz_next r j
        have e2 : (tlz r (j + 1)).length = L + 1 := by rw [e, List.length_append, HLL.out]; rfl
        rw [e2, e, v8_append]; exact hown))
      clear hown hgrow H6 H5
      go_wp2_with fail
      exact ⟨⟨j + 1, L + 1, a7, c7, rfl, by omega, by have h1 := HL.out; have h2 := HJ.out; unfold padN at h1 h2; omega, Lib.hid ⟨by have := HL.out; omega, HJ.out⟩, H7⟩, by simp [slLen]; omega⟩
end Go.Proofs.YtajmcplanlibnaaGreatDoor
