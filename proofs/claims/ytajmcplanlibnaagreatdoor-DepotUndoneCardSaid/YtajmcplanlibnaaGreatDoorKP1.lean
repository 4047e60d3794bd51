/- A title. -/
import Derived.Test.YtajmcplanlibnaaGreatDoorKD4
set_option linter.unusedSimpArgs false
set_option linter.unusedVariables false
set_option linter.unnecessarySimpa false
namespace Go.Proofs.YtajmcplanlibnaaGreatDoor
open Go.RowKit Go.Maps
def byteAt (x : Int) (i : Nat) : Int := x / 2 ^ (8 * i) % 256
def t1F (g n : Int) : Nat → List Int
  | 0 => (zer 64).set 0 66
  | i + 1 => ((t1F g n i).set (1 + i) (byteAt g i)).set (9 + i) (byteAt n i)
theorem t1F_length (g n : Int) : ∀ i, (t1F g n i).length = 64
  | 0 => by simp [t1F, zer]
  | i + 1 => by simp [t1F, t1F_length g n i]
theorem v8_cell {w : World} {B T : Nat} {l : List Int} (h : w.heap[B]? = some (.cells (v8a l) T)) (i : Nat) (hi : i < l.length) : w.cell? ⟨B, i, none⟩ = some (.int .u8 (l.getD i 0)) ∧ w.frozen? ⟨B, i, none⟩ = false := by
  simp [World.cell?, World.frozen?, h, v8a, v8, hi]
theorem v8_set {w : World} {B T : Nat} {l : List Int} (h : w.heap[B]? = some (.cells (v8a l) T)) (i : Nat) (x : Int) : (w.setCell ⟨B, i, none⟩ (.int .u8 x)).heap[B]? = some (.cells (v8a (l.set i x)) T) := by
  rw [set_blk h]; simp [v8a, v8]
def markC (pl : Nat) (n : Int) (last : List Int) : Array Value := .mk (.int .i64 (pl : Int) :: .int .u64 n :: v8 last)
theorem mark_cells {w : World} {B T : Nat} {pl : Nat} {n : Int} {last : List Int} (h : w.heap[B]? = some (.cells (markC pl n last) T)) : w.cell? ⟨B, 0, none⟩ = some (.int .i64 (pl : Int)) ∧ w.cell? ⟨B, 1, none⟩ = some (.int .u64 n) := by
  constructor
  · rw [cell_of_row w B 0 _ T (0, 0) h]; rfl
  · rw [cell_of_row w B 1 _ T (0, 0) h]; rfl
def t2F (g n : Int) (pl : Nat) : List Int := ((t1F g n 8).set 17 ((pl : Int) % 256)).set 18 ((pl : Int) / 256)
theorem t2F_length (g n : Int) (pl : Nat) : (t2F g n pl).length = 64 := by simp [t2F, t1F_length]
def t3F (g n : Int) (pl : Nat) (last : List Int) : List Int := (t2F g n pl).take 19 ++ (last ++ (t2F g n pl).drop (19 + last.length))
theorem t3F_length (g n : Int) (pl : Nat) (last : List Int) (h : last.length = 32) : (t3F g n pl last).length = 64 := by simp [t3F, t2F_length, h]
def titleF (g n : Int) (pl : Nat) (last : List Int) : List Int := (t3F g n pl last).take 51 ++ (shaF ((t3F g n pl last).take 51)).take 13
theorem u8_set {l : List Int} (h : U8s l) (i : Nat) (x : Int) (hx : 0 ≤ x ∧ x < 256) : U8s (l.set i x) := fun y hy => by
  rcases List.mem_or_eq_of_mem_set hy with hy | rfl
  · exact h y hy
  · exact hx
theorem byteAt_u8 (x : Int) (i : Nat) : 0 ≤ byteAt x i ∧ byteAt x i < 256 := by unfold byteAt; omega
theorem t1F_u8 (g n : Int) : ∀ i, U8s (t1F g n i)
  | 0 => u8_set (zer_u8 64) 0 66 (by decide)
  | i + 1 => u8_set (u8_set (t1F_u8 g n i) _ _ (byteAt_u8 g i)) _ _ (byteAt_u8 n i)
theorem t3F_u8 (g n : Int) (pl : Nat) (last : List Int) (hp : pl ≤ 65535) (h : U8s last) : U8s (t3F g n pl last) := by
  have h2 : U8s (t2F g n pl) := u8_set (u8_set (t1F_u8 g n 8) _ _ (by omega)) _ _ (by omega)
  intro x hx
  rcases List.mem_append.1 hx with hx | hx
  · exact h2 x (List.mem_of_mem_take hx)
  · rcases List.mem_append.1 hx with hx | hx
    · exact h x hx
    · exact h2 x (List.mem_of_mem_drop hx)
theorem titleF_ok (g n : Int) (pl : Nat) (last : List Int) (hp : pl ≤ 65535) (hl : last.length = 32) (h : U8s last) : PgOk (titleF g n pl last) := by
  have h3 := t3F_u8 g n pl last hp h
  refine ⟨by simp [titleF, t3F_length g n pl last hl, shaF_length], fun x hx => ?_⟩
  rcases List.mem_append.1 hx with hx | hx
  · exact h3 x (List.mem_of_mem_take hx)
  · exact shaF_u8 _ (fun y hy => h3 y (List.mem_of_mem_take hy)) x (List.mem_of_mem_take hx)
theorem titleF_zero (g n : Int) (pl : Nat) (last : List Int) : (titleF g n pl last).getD 0 0 = 66 := by
  have e : ∀ l : List Int, l.length = 64 → ∀ m : List Int, (l.take 51 ++ m).getD 0 0 = l.getD 0 0 := by
    intro l hl m
    match l, hl with
    | x :: l, _ => rfl
  have e2 : ∀ l : List Int, l.length = 64 → ∀ m : List Int, (l.take 19 ++ m).getD 0 0 = l.getD 0 0 := by
    intro l hl m
    match l, hl with
    | x :: l, _ => rfl
  have es : ∀ (l : List Int) (i : Nat) (x : Int), 0 < i → (l.set i x).getD 0 0 = l.getD 0 0 := by
    intro l i x hi
    match l, i, hi with
    | [], _, _ => rfl
    | y :: l, i + 1, _ => rfl
  have e3 : ∀ i, (t1F g n i).getD 0 0 = 66 := by
    intro i
    induction i with
    | zero => rfl
    | succ i ih => unfold t1F; rw [es _ _ _ (by omega), es _ _ _ (by omega), ih]
  by_cases hl : last.length = 32
  · unfold titleF
    rw [e _ (t3F_length g n pl last hl)]
    unfold t3F
    rw [e2 _ (t2F_length g n pl)]
    unfold t2F
    rw [es _ _ _ (by omega), es _ _ _ (by omega), e3]
  · have h19 := t2F_length g n pl
    unfold titleF t3F
    have h2 : (t2F g n pl).getD 0 0 = 66 := by unfold t2F; rw [es _ _ _ (by omega), es _ _ _ (by omega), e3]
    generalize t2F g n pl = l at h19 h2 ⊢
    match l, h19, h2 with
    | x :: l, _, h2 => exact h2
theorem page_in {w : World} {B T : Nat} {l : List Int} (h : w.heap[B]? = some (.cells (v8a l) T)) (m : Nat) : ByIn w (some ⟨B, 0, none⟩) (l.take m) := fun i hi => by
  refine ⟨B, 0, rfl, lt_of_blk h, ?_⟩
  simp at hi
  rw [cell_of_row w B (0 + i) _ T (0, 0) h]
  simp [v8a, v8, hi, List.getElem?_take]
theorem set_row_v8 (l c : List Int) (o : Nat) : ((v8a l).toList.take o ++ (v8 c ++ (v8a l).toList.drop (o + (v8 c).length))).toArray = v8a (l.take o ++ (c ++ l.drop (o + c.length))) := by
  simp [v8a, v8, List.map_take, List.map_drop]
theorem mark_last {w : World} {B T : Nat} {pl : Nat} {n : Int} {last : List Int} (h : w.heap[B]? = some (.cells (markC pl n last) T)) (j : Nat) (v : Value) (hj : (v8 last)[j]? = some v) : w.cell? ((⟨B, 2, none⟩ : Addr).add j) = some v := by
  have ea : (⟨B, 2, none⟩ : Addr).add j = ⟨B, 2 + j, none⟩ := by unfold Addr.add; split <;> simp_all
  rw [ea, cell_of_row w B (2 + j) _ T (0, 0) h]
  simpa [markC, show 2 + j = j + 1 + 1 by omega] using hj
theorem v8_from {w : World} {B T : Nat} {l : List Int} (h : w.heap[B]? = some (.cells (v8a l) T)) (j : Nat) (v : Value) (m : Nat) (hj : (v8 (l.take m))[j]? = some v) : w.cell? ((⟨B, 0, none⟩ : Addr).add j) = some v := by
  have ea : (⟨B, 0, none⟩ : Addr).add j = ⟨B, j, none⟩ := by unfold Addr.add; split <;> simp_all
  have hlt : j < m := by have := (List.getElem?_eq_some_iff.1 hj).1; simp [v8] at this; omega
  rw [ea, cell_of_row w B j _ T (0, 0) h]
  simp only [v8, List.map_take] at hj
  rw [List.getElem?_take_of_lt hlt] at hj
  simpa [v8a, v8] using hj
def TtSt (w : World) (mk : Array Value) (l : List Int) (wx : World) : Prop :=
  wx.heap[w.heap.size]? = some (.cells mk 148) ∧ wx.heap[w.heap.size + 1]? = some (.cells (v8a (zer 64)) 37) ∧ wx.heap[w.heap.size + 1 + 1]? = some (.cells (v8a l) 37) ∧ Below w.heap.size w wx
theorem TtSt.put {w wx : World} {mk : Array Value} {l : List Int} (h : TtSt w mk l wx) (i : Nat) (x : Int) : TtSt w mk (l.set i x) (wx.setCell ⟨w.heap.size + 1 + 1, i, none⟩ (.int .u8 x)) :=
  ⟨heap_set_ne (by omega) h.1, heap_set_ne (by omega) h.2.1, v8_set h.2.2.1 i x, h.2.2.2.setCell (by simp; omega) _⟩
theorem TtSt.row {w wx : World} {mk : Array Value} {l : List Int} (h : TtSt w mk l wx) (c : List Int) (o : Nat) : TtSt w mk (l.take o ++ (c ++ l.drop (o + c.length))) (wx.setRow (w.heap.size + 1 + 1) ((v8a l).toList.take o ++ (v8 c ++ (v8a l).toList.drop (o + (v8 c).length))).toArray) := by
  rw [set_row_v8]
  exact ⟨by rw [setRow_other _ _ _ _ (by omega)]; exact h.1, by rw [setRow_other _ _ _ _ (by omega)]; exact h.2.1, setRow_heap _ _ _ _ _ (0, 0) h.2.2.1, below_setRow h.2.2.2 (by omega) _⟩
theorem TtSt.drew {w wx : World} {mk : Array Value} {l : List Int} (h : TtSt w mk l wx) : TtSt w mk l wx.drew := ⟨h.1, h.2.1, h.2.2.1, h.2.2.2.drew⟩
set_option maxRecDepth 100000 in
set_option maxHeartbeats 4000000 in
theorem title_any (g n : Int) (pl : Nat) (last : List Int) (w : World) (hg : 0 ≤ g ∧ g < 18446744073709551616) (hn : 0 ≤ n ∧ n < 18446744073709551616) (hpl : pl ≤ 65535) (hl : last.length = 32 ∧ U8s last) :
    Calls Tryz.prog 140 #[.int .u64 g, .agg (markC pl n last)] w fun e w' => e = .returned (.agg (v8a (titleF g n pl last))) ∧ Below w.heap.size w w' := by
  have HL := Lib.hid hl
  obtain ⟨hg0, hg1⟩ := hg
  obtain ⟨hn0, hn1⟩ := hn
  clear hl
  go_enter Tryz.func140, Tryz.ntmps140
  repeat (fail_if_success (with_reducible refine stop_pos "pages.go:29" rfl ?_)
          first | go_values | go_skip | go_guarded | go_step | go_upon)
  obtain ⟨b0, b1, b2⟩ := heap3 w (.cells (markC pl n last) 148) (.cells (v8a (zer 64)) 37) (.cells (v8a (zer 64)) 37)
  refine gen_world (fun wx => Hid (TtSt w (markC pl n last) (zer 64) wx)) (Lib.hid ⟨b0, b1, b2, by repeat (first | with_reducible assumption | (with_reducible refine Below.setCell ?_ (by first | omega | (simp; done) | (simp; omega)) _) | (with_reducible refine Below.alloc ?_ (by first | omega | (simp; done) | (simp; omega)) _) | (with_reducible refine Below.drew ?_) | (with_reducible refine below_dN ?_ _) | with_reducible exact Below.refl _ _ | (with_reducible refine Below.trans ?_ (Below.mono (by assumption) (by first | omega | (simp; done) | (simp; omega)))))⟩) ?_
  clear b0 b1 b2
  intro w1 H1
  have z0 := v8_cell H1.out.2.2.1 0 (by simp [zer])
  obtain ⟨z0, y0⟩ := z0
  go_wp2_with fail
  go_loopw [9] (fun iv wr => ∃ i : Nat, iv = .int .i64 i ∧ i ≤ 8 ∧ Hid (TtSt w (markC pl n last) (t1F g n i) wr)) (fun iv _ => 8 - (intOf iv).toNat)
  case atStart => exact ⟨0, rfl, by omega, Lib.hid (H1.out.put 0 66)⟩
  case round =>
    obtain ⟨i, rfl, hi, HS⟩ := hrel
    obtain ⟨m0, m1⟩ := mark_cells HS.out.1
    by_cases hlt : i < 8
    · have hll := t1F_length g n i
      obtain ⟨c1, f1⟩ := v8_cell HS.out.2.2.1 (1 + i) (by omega)
      obtain ⟨c2, f2⟩ := v8_cell HS.out.2.2.1 (9 + i) (by omega)
      go_wp2_with fail
      have hR : w.heap.size + 1 + 1 < wr.heap.size := lt_of_blk HS.out.2.2.1
      have k1 := cellB (R := w.heap.size + 1 + 1) m1 (by simp; omega)
      have hi0 : (0 : Int) ≤ i := by omega
      have hi8 : (i : Int) < 8 := by omega
      refine wp_region_mix [(0, true), (1, true), (2, true), (3, true), (4, true), (5, true), (6, true), (7, true), (8, true), (9, true), (10, true), (11, true), (12, true), (13, true), (14, true), (15, true), (16, false), (17, true), (18, false)] 18 (fun w' => ∃ p : RegrownB, w' = setO (Go.Sort.grow (redrawn wr p.d) p.os) (w.heap.size + 1 + 1) p.o) (by kernel_rfl) (by kernel_rfl) (fun _ _ d _ _ h => by cases d <;> exact h) (growsB_drew hR) ?_
      (repeat (with_reducible refine mix_q ?_; simp only [List.drop_succ_cons, List.drop_zero, List.take_succ_cons, List.take_zero]; go_big_quiet_step (fail); with_reducible refine wpQuiet_nil ?_))
      with_reducible refine mix_a ?_; simp only [List.drop_succ_cons, List.drop_zero, List.take_succ_cons, List.take_zero]
      go_wp2_with fail
      try with_reducible refine wpList_nil ?_
      with_reducible refine mixQ_normal ?_
      refine ⟨fun _ => growsB_of hR (grown_trans (grown_of_below (Below.refl _ _).drew _) (grown_set _ _ _ _)), ?_⟩
      have HS2 : Hid (TtSt w (markC pl n last) ((t1F g n i).set (1 + i) (byteAt g i)) (wr.setCell ⟨w.heap.size + 1 + 1, 1 + i, none⟩ (.int .u8 (g / 2 ^ (8 * i) % 256))).drew) := Lib.hid (HS.out.put (1 + i) (byteAt g i)).drew
      clear c1 f1 c2 f2 m0 m1
      generalize (wr.setCell ⟨w.heap.size + 1 + 1, 1 + i, none⟩ (.int .u8 (g / 2 ^ (8 * i) % 256))).drew = ws at HS2 ⊢
      obtain ⟨c2, f2⟩ := v8_cell HS2.out.2.2.1 (9 + i) (by simp [hll]; omega)
      (repeat (with_reducible refine mix_q ?_; simp only [List.drop_succ_cons, List.drop_zero, List.take_succ_cons, List.take_zero]; go_big_quiet_step (fail); with_reducible refine wpQuiet_nil ?_))
      with_reducible refine mix_a ?_; simp only [List.drop_succ_cons, List.drop_zero, List.take_succ_cons, List.take_zero]
      go_wp2_with fail
      try with_reducible refine wpList_nil ?_
      with_reducible refine mixQ_normal ?_
      first | (with_reducible refine mix_nil ?_) | (refine ⟨fun h => absurd h (by simp), ?_⟩; with_reducible refine mix_nil ?_)
      go_wp2_with fail
      exact ⟨⟨i + 1, by go_num, by omega, Lib.hid (HS2.out.put (9 + i) (byteAt n i))⟩, by simp [intOf]; omega⟩
    · obtain rfl : i = 8 := by omega
      have hll := t1F_length g n 8
      obtain ⟨c1, f1⟩ := v8_cell HS.out.2.2.1 17 (by omega)
      obtain ⟨c2, f2⟩ := v8_cell HS.out.2.2.1 18 (by omega)
      go_wp2_with fail
      refine gen_code (fun wx => Hid (TtSt w (markC pl n last) (t2F g n pl) wx)) (Lib.hid ((HS.out.put 17 _).put 18 _)) ?_
      clear c1 f1 c2 f2 m0 m1 HS hll
      intro w2 HS
      refine wp_region_qlast 3 (fun w' => ∃ p : Regrown, w' = Go.Sort.grow (redrawn w2 p.d) p.os) (by kernel_rfl) (by kernel_rfl) (fun _ _ d _ _ h => by cases d <;> exact h) (grows_drew _) ?_
      simp only [List.take_succ_cons, List.take_zero]
      repeat (go_big_quiet_step (fail))
      with_reducible refine wpQuiet_nil ?_
      with_reducible refine mix_a ?_
      simp only [List.drop_succ_cons, List.drop_zero, List.take_succ_cons, List.take_zero]
      have hl8 : (v8 last).length = 32 := by rw [v8_length, HL.out.1]
      refine wpList_copy_own rfl (.tmp 39) (.tmp 41) 118 118 rfl 5 Tryz.underlying118 (by kernel_rfl) (w.heap.size + 1 + 1) 19 45 45 ⟨w.heap.size, 2, none⟩ 32 32 rfl rfl (v8a (t2F g n pl)) 37 HS.out.2.2.1 (v8 last) hl8 (fun j v hj => mark_last (w := w2.drew) HS.out.1 j v hj) ?k2 (v8_one last) ?_
      case k2 => unfold v8a; rw [hl8, List.size_toArray, v8_length, t2F_length]; decide
      refine gen_world (fun wx => Hid (TtSt w (markC pl n last) (t3F g n pl last) wx)) (Lib.hid (HS.out.drew.row last 19)) ?_
      clear HS
      intro w3 HS
      simp only [Act.put]
      with_reducible refine wpList_nil ?_
      refine mixQ_normal ⟨fun h => absurd h (by simp), mix_nil ?_⟩
      go_wp2_with fail
      have ht51 : ((t3F g n pl last).take 51).length = 51 := by rw [List.length_take, t3F_length g n pl last HL.out.1]; rfl
      have HSH := shaSum_any (some ⟨w.heap.size + 1 + 1, 0, none⟩) ((t3F g n pl last).take 51) 64 w3 (page_in HS.out.2.2.1 51) (by omega) (fun x hx => t3F_u8 g n pl last hpl HL.out.2 x (List.mem_of_mem_take hx)) (by simp)
      rw [ht51] at HSH
      refine HSH.mono ?_
      clear HSH
      rintro e w4 ⟨rfl, hb4⟩
      have HS4 : Hid (TtSt w (markC pl n last) (t3F g n pl last) w4) := Lib.hid ⟨(hb4.block _ (lt_of_blk HS.out.1)).trans HS.out.1, (hb4.block _ (lt_of_blk HS.out.2.1)).trans HS.out.2.1, (hb4.block _ (lt_of_blk HS.out.2.2.1)).trans HS.out.2.2.1, HS.out.2.2.2.trans (hb4.mono HS.out.2.2.2.size)⟩
      clear hb4 HS
      have HT : Hid (titleF g n pl last = (t3F g n pl last).take 51 ++ (shaF ((t3F g n pl last).take 51)).take 13) := Lib.hid rfl
      have HSL : Hid ((shaF ((t3F g n pl last).take 51)).length = 32) := Lib.hid (shaF_length _)
      generalize shaF ((t3F g n pl last).take 51) = sm at HT HSL ⊢
      have hsz : (v8a sm).size = 32 := by unfold v8a; rw [List.size_toArray, v8_length, HSL.out]
      try dsimp only
      go_wp2_with (refine wpList_store_row rfl 67 (.tmp 7) (.tmp 44) rfl w4.heap.size (v8a sm) rfl rfl 67 (v8a (zer 32)) ?s1 ?s2 ?s3 ?s4 ?_)
      case s1 => exact heap_alloc_new w4 _
      case s2 => rw [hsz]; kernel_rfl
      case s3 => rw [hsz]; simp [v8a, v8, zer]
      case s4 => exact all_oneCell_toArray (v8_one sm)
      refine gen_code (fun wx => Hid (TtSt w (markC pl n last) (t3F g n pl last) wx) ∧ Hid (wx.heap[w4.heap.size]? = some (.cells (v8a sm) 67))) ⟨Lib.hid ?_, Lib.hid (setRow_heap _ _ _ _ _ (0, 0) (heap_alloc_new w4 _))⟩ ?_
      · have q1 := lt_of_blk HS4.out.1
        have q2 := lt_of_blk HS4.out.2.1
        have q3 := lt_of_blk HS4.out.2.2.1
        have hbb : ∀ o : Obj, Below w4.heap.size w4 ((w4.alloc o).setRow w4.heap.size (v8a sm)) := fun o => below_setRow ((Below.refl _ _).alloc (Nat.le_refl _) _) (Nat.le_refl _) _
        exact ⟨((hbb _).block _ q1).trans HS4.out.1, ((hbb _).block _ q2).trans HS4.out.2.1, ((hbb _).block _ q3).trans HS4.out.2.2.1, HS4.out.2.2.2.trans ((hbb _).mono HS4.out.2.2.2.size)⟩
      generalize w4.heap.size = sb
      clear HS4
      rintro w5 ⟨HS, HB⟩
      simp only [Act.put]
      refine wp_region_qlast 2 (fun w' => ∃ p : Regrown, w' = Go.Sort.grow (redrawn w5 p.d) p.os) (by kernel_rfl) (by kernel_rfl) (fun _ _ d _ _ h => by cases d <;> exact h) (grows_drew _) ?_
      simp only [List.take_succ_cons, List.take_zero]
      repeat (go_big_quiet_step (fail))
      with_reducible refine wpQuiet_nil ?_
      with_reducible refine mix_a ?_
      simp only [List.drop_succ_cons, List.drop_zero, List.take_succ_cons, List.take_zero]
      have h13 : (v8 (sm.take 13)).length = 13 := by rw [v8_length, List.length_take, HSL.out]; rfl
      refine wpList_copy_own rfl (.tmp 45) (.tmp 46) 118 118 rfl 5 Tryz.underlying118 (by kernel_rfl) (w.heap.size + 1 + 1) 51 13 13 ⟨sb, 0, none⟩ 13 32 rfl rfl (v8a (t3F g n pl last)) 37 HS.out.2.2.1 (v8 (sm.take 13)) h13 (fun j v hj => v8_from (w := w5.drew) HB.out j v 13 hj) ?k2 (v8_one _) ?_
      case k2 => unfold v8a; rw [h13, List.size_toArray, v8_length, t3F_length g n pl last HL.out.1]; decide
      have HE : Hid ((t3F g n pl last).take 51 ++ (sm.take 13 ++ (t3F g n pl last).drop (51 + (sm.take 13).length)) = titleF g n pl last) := Lib.hid (by
        rw [HT.out, List.length_take, HSL.out, List.drop_of_length_le (by rw [t3F_length g n pl last HL.out.1]; decide), List.append_nil])
      refine gen_world (fun wx => Hid (TtSt w (markC pl n last) (titleF g n pl last) wx)) (Lib.hid (by have h := HS.out.drew.row (sm.take 13) 51; rw [HE.out] at h; exact h)) ?_
      have HTL := Lib.hid (titleF_ok g n pl last hpl HL.out.1 HL.out.2).1
      clear HS HE HT
      generalize htt : titleF g n pl last = tt at HTL ⊢
      have HTT := Lib.hid htt
      clear htt
      intro w6 HS
      simp only [Act.put]
      with_reducible refine wpList_nil ?_
      refine mixQ_normal ⟨fun h => absurd h (by simp), mix_nil ?_⟩
      have hsz : (v8a tt).size = 64 := by unfold v8a; rw [List.size_toArray, v8_length, HTL.out]
      have HLN : Hid ((v8 tt).length = 64) := Lib.hid (by rw [v8_length, HTL.out])
      have HRG := Lib.hid (row_range HS.out.2.2.1)
      go_wp2_with (first
        | (refine wpList_load_mid rfl 37 (.tmp 5) rfl (w.heap.size + 1 + 1) 0 rfl (v8 tt) _ HRG.out Tryz.underlying37 rfl ?s1 ?_)
        | (refine wpList_store_row rfl 37 (.tmp 4) (.tmp 48) rfl (w.heap.size + 1) (v8a tt) rfl rfl 37 (v8a (zer 64)) HS.out.2.1 ?s2 ?s3 ?s4 ?_))
      case s1 => rw [HLN.out]; exact info_pgs
      case s2 => rw [hsz]; exact info_pgs
      case s3 => rw [hsz]; simp [v8a, v8, zer]
      case s4 => exact all_oneCell_toArray (v8_one tt)
      have hfin := setRow_heap w6 (w.heap.size + 1) _ (v8a tt) 37 (0, 0) HS.out.2.1
      have hbf : Below w.heap.size w (w6.setRow (w.heap.size + 1) (v8a tt)) := below_setRow HS.out.2.2.2 (by omega) _
      generalize w6.setRow (w.heap.size + 1) (v8a tt) = wf at hfin hbf ⊢
      try simp only [Act.put, List.setIfInBounds_toArray, List.set_cons_zero, List.set_cons_succ]
      refine bodyPost_ret (results_cell_row Tryz.results140 _ _ (w.heap.size + 1) 37 (v8a tt) (0, 0) _ rfl hfin Tryz.underlying37 rfl (by rw [hsz]; exact info_pgs)) rfl ⟨by rw [HTT.out], hbf⟩
end Go.Proofs.YtajmcplanlibnaaGreatDoor
