/- A disk: all that was written lasts. -/
import Derived.Test.YtajmcplanlibnaaGreatDoorKD3
import Derived.Test.YtajmcplanlibnaaGreatDoorKLib
set_option linter.unusedSimpArgs false
set_option linter.unusedVariables false
set_option linter.unnecessarySimpa false
namespace Go.Proofs.YtajmcplanlibnaaGreatDoor
open Go.RowKit Go.Maps
def flushF (f : List (List Int)) (c : List (Nat × List Int)) : List (List Int) := c.foldl (fun f x => f.set x.1 x.2) f
theorem flushF_length (c : List (Nat × List Int)) : ∀ f : List (List Int), (flushF f c).length = f.length := by
  induction c with
  | nil => intro f; rfl
  | cons x c ih => intro f; show (flushF (f.set x.1 x.2) c).length = _; rw [ih]; simp
theorem flushF_ok (c : List (Nat × List Int)) : ∀ f : List (List Int), (∀ p ∈ f, PgOk p) → (∀ x ∈ c, PgOk x.2) → ∀ p ∈ flushF f c, PgOk p := by
  induction c with
  | nil => intro f h _; exact h
  | cons x c ih =>
    intro f h hc
    refine ih (f.set x.1 x.2) (fun p hp => ?_) (fun y hy => hc y (by simp [hy]))
    rcases List.mem_or_eq_of_mem_set hp with hp | rfl
    · exact h p hp
    · exact hc x (by simp)
theorem flushF_snoc (f : List (List Int)) (c : List (Nat × List Int)) (x : Nat × List Int) : flushF f (c ++ [x]) = (flushF f c).set x.1 x.2 := by simp [flushF]
theorem blk_there {w : World} {b T o n : Nat} {cs : Array Value} (h : w.heap[b]? = some (.cells cs T)) (hs : o + n ≤ cs.size) : w.there b o n := fun j hj => by
  have hj' : o + j < cs.size := by omega
  simp [World.cell?, World.frozen?, h, hj']
theorem flatC_cell : ∀ (c : List (Nat × List Int)) (k : Nat), (∀ x ∈ c, x.2.length = 64) → (flatC c)[k * 65]? = (c[k]?).map (fun x => .int .i64 (x.1 : Int))
  | [], k, _ => by simp [flatC]
  | x :: c, 0, h => by
    have e : flatC (x :: c) = .int .i64 (x.1 : Int) :: (v8 x.2 ++ flatC c) := rfl
    rw [e]; rfl
  | x :: c, k + 1, h => by
    have hx := h x (by simp)
    have e : flatC (x :: c) = .int .i64 (x.1 : Int) :: (v8 x.2 ++ flatC c) := rfl
    rw [e, show (k + 1) * 65 = (k * 65 + 64) + 1 by omega, List.getElem?_cons_succ, List.getElem?_append_right (by simp [v8]; omega), show k * 65 + 64 - (v8 x.2).length = k * 65 by simp [v8]; omega, flatC_cell c k (fun y hy => h y (by simp [hy]))]
    rfl
theorem cache_row {w : World} {e gc cc n : Nat} {c : List (Nat × List Int)} (h : w.ownsRow 0 e 65 (.slice (some ⟨gc, 0, none⟩) c.length cc) c.length (flatC c)) (hc : ∀ x ∈ c, x.1 < n ∧ PgOk x.2) (k : Nat) (hk : k < c.length) :
    w.rangeAt gc (k * 65) (.int .i64 (c[k].1 : Int) :: v8 c[k].2) := fun j v hv => by
  cases j with
  | zero =>
    have hf := flatC_cell c k (fun x hx => (hc x hx).2.1)
    have hcell := h.cells (g := gc) rfl (k * 65) v (by rw [hf]; simpa [hk] using hv)
    have ea : (⟨gc, 0, none⟩ : Addr).add (k * 65) = ⟨gc, k * 65, none⟩ := by unfold Addr.add; split <;> simp_all
    rw [ea] at hcell
    exact hcell
  | succ j =>
    have h2 := cache_range h hc k hk j v (by simpa [hk] using hv)
    rw [show k * 65 + (j + 1) = k * 65 + 1 + j by omega]
    exact h2
theorem zc154 : Tryz.zeroCells178 = .mk (.int .i64 0 :: v8 (zer 64)) := by kernel_rfl
theorem box_page {w : World} {b T : Nat} {x : Value} {l : List Int} (h : w.heap[b]? = some (.cells (.mk (x :: v8 l)) T)) : w.rangeAt b 1 (v8 l) := fun j v hv => by
  rw [cell_of_row w b (1 + j) _ T (0, 0) h]
  simpa [Nat.add_comm 1 j] using hv
theorem box_at {w : World} {b T : Nat} {x : Value} {l : List Value} (h : w.heap[b]? = some (.cells (.mk (x :: l)) T)) : w.cell? ⟨b, 0, none⟩ = some x := by
  rw [cell_of_row w b 0 _ T (0, 0) h]; rfl
theorem flat64 : ∀ l : List (List Int), (∀ p ∈ l, PgOk p) → l.flatten.length = l.length * 64
  | [], _ => rfl
  | p :: l, h => by
    have hp := (h p (by simp)).1
    rw [List.flatten_cons, List.length_append, hp, flat64 l (fun q hq => h q (by simp [hq])), List.length_cons]; omega
theorem page_stored {w : World} {fb at_ : Nat} {f : List (List Int)} {p : List Int} {rest : List Value} (h : w.heap[fb]? = some (.cells (v8 f.flatten ++ rest).toArray 37)) (hf : ∀ q ∈ f, PgOk q) (ha : at_ < f.length) (hp : PgOk p) :
    (w.setCells fb (at_ * 64) (v8 p)).heap[fb]? = some (.cells (v8 (f.set at_ p).flatten ++ rest).toArray 37) := by
  have hl := flat64 f hf
  have hvl : (v8 f.flatten).length = f.length * 64 := by rw [v8_length, hl]; omega
  have h1 := setCells_row (cs := v8 f.flatten ++ rest) (vs := v8 p) (o := at_ * 64) h (by rw [v8_length, List.length_append, hvl, hp.1]; omega)
  rw [h1, flat_set f at_ p (fun q hq => (hf q hq).1) ha hp.1, v8_length, hp.1, List.take_append_of_le_length (by rw [hvl]; omega), List.drop_append_of_le_length (by rw [hvl]; omega)]
  simp [v8, hp.1, List.map_take, List.map_drop]
def FlSt (w : World) (db fb : Nat) (rest : List Value) (firm : List (List Int)) (wx : World) : Prop := wx.heap[fb]? = some (.cells (v8 firm.flatten ++ rest).toArray 37) ∧ Keeps (fun k => k ≠ fb) w wx
set_option maxRecDepth 100000 in
set_option maxHeartbeats 4000000 in
theorem diskFlush_any (db : Nat) (N : Nat → Prop) (d : DiskS) (w : World) (h : DiskI w db N d) :
    Calls Tryz.prog 88 #[.pointer (some ⟨db, 0, none⟩)] w fun e w' => e = .returned .nilIface ∧ DiskI w' db N ⟨flushF d.firm d.cache, []⟩ ∧ Keeps N w w' := by
  have HD := Lib.hid h
  obtain ⟨fb, cv, lb, c, ⟨fc, hfc, q1⟩, ⟨rest, q2⟩, q3, q4, q5, n1, n2, n3, n4, n5, q6⟩ := h
  have HFC := Lib.hid hfc
  clear hfc
  obtain ⟨ac, cc, rfl⟩ := own_slice q3
  obtain ⟨z0, z1, z2, z3, z4, y0, y1, y2, y3, y4⟩ := blk5 q1
  have hdf : db ≠ fb := blk_ne q1 q2 (by decide)
  have hof : ∀ k, (Value.slice ac d.cache.length cc).ownBlock = some k → k ≠ fb := fun k hk => blk_own_ne q2 q3 (by decide) hk
  have hlf : lb ≠ fb := blk_map_ne q2 q4
  have Q1 := Lib.hid q1
  have Q2 := Lib.hid q2
  have Q3 := Lib.hid q3
  have Q4 := Lib.hid q4
  have Q6 := Lib.hid q6
  have NN := Lib.hid (And.intro n1 (And.intro n2 (And.intro n3 (And.intro n4 n5))))
  have HOF := Lib.hid hof
  clear q1 q2 q3 q4 q5 n1 n2 n3 n4 n5 q6 hof
  have hcl := Q6.out.2.2.2
  go_enter Tryz.func88, Tryz.ntmps88
  go_wp2_with fail
  refine (diskStep_any db N d w HD.out).mono ?_
  rintro e w2 ⟨rfl, rfl⟩
  try dsimp only
  go_wp2_with fail
  go_loopw [16] (fun iv wr => ∃ i : Nat, iv = .int .i64 i ∧ i ≤ d.cache.length ∧ Hid (FlSt w db fb rest (flushF d.firm (d.cache.take i)) wr)) (fun iv _ => d.cache.length - (intOf iv).toNat)
  case atStart => exact ⟨0, rfl, by omega, Lib.hid ⟨Q2.out, Keeps.refl _ _⟩⟩
  case round =>
    obtain ⟨i, rfl, hi, HS⟩ := hrel
    have hd1 := HS.out.2.blk hdf Q1.out
    clear z0 z1 z2 z3 z4 y0 y1 y2 y3 y4
    obtain ⟨z0, z1, z2, z3, z4, y0, y1, y2, y3, y4⟩ := blk5 hd1
    have HD1 := Lib.hid hd1
    clear hd1
    by_cases hlt : i < d.cache.length
    · have hi0 : (0 : Int) ≤ i := by omega
      have hi1 : (i : Int) < d.cache.length := by omega
      obtain ⟨gc, rfl⟩ : ∃ gc, ac = some ⟨gc, 0, none⟩ := by
        rcases Q3.out.2 with ⟨hv, hn⟩ | ⟨g, c, cur, hv, _⟩
        · omega
        · simp only [Value.slice.injEq] at hv; exact ⟨g, hv.1⟩
      have HRG := Lib.hid (cache_row (HS.out.2.own Q3.out (fun k hk => HOF.out k hk)) Q6.out.2.2.1 i hlt)
      have HXO := Lib.hid (Q6.out.2.2.1 d.cache[i] (List.getElem_mem hlt))
      have HFO : Hid (∀ q ∈ flushF d.firm (d.cache.take i), PgOk q) := Lib.hid (flushF_ok _ _ Q6.out.2.1 (fun x hx => (Q6.out.2.2.1 x (List.mem_of_mem_take hx)).2))
      have HNX : Hid (flushF d.firm (d.cache.take (i + 1)) = (flushF d.firm (d.cache.take i)).set d.cache[i].1 d.cache[i].2) := Lib.hid (by rw [List.take_succ_eq_append_getElem hlt, flushF_snoc])
      generalize d.cache[i] = x at HRG HXO HNX
      obtain ⟨at_, pg⟩ := x
      dsimp only at HRG HXO HNX
      have hsz : (Array.mk (Value.int .i64 (at_ : Int) :: v8 pg)).size = 65 := by simp [v8, HXO.out.2.1]
      have HLN : Hid ((Value.int .i64 (at_ : Int) :: v8 pg).length = 65) := Lib.hid (by simp [v8, HXO.out.2.1])
      have HI65 : Hid ((Tryz.prog.info? 178).map (·.size) = some 65) := Lib.hid (by kernel_rfl)
      go_wp2_with (first
        | (refine wpList_load_mid rfl 178 (.tmp 18) rfl gc (i * 65) rfl (.int .i64 (at_ : Int) :: v8 pg) _ HRG.out Tryz.underlying178 rfl ?s1 ?_)
        | (refine wpList_store_row rfl 178 (.tmp 5) (.tmp 19) rfl wr.heap.size (.mk (.int .i64 (at_ : Int) :: v8 pg)) rfl rfl 178 (.mk (.int .i64 0 :: v8 (zer 64))) ?s2 ?s3 ?s4 ?s5 ?_))
      case s1 => rw [HLN.out]; exact HI65.out
      case s2 => rw [zc154]; exact heap_alloc_new wr _
      case s3 => rw [hsz]; exact HI65.out
      case s4 => rw [hsz]; simp [v8, zer]
      case s5 => exact all_oneCell_toArray (fun v hv => by
        rcases List.mem_cons.1 hv with rfl | hv
        · rfl
        · exact v8_one pg v hv)
      have hfl := lt_of_blk HS.out.1
      refine gen_code (fun wx => Hid (FlSt w db fb rest (flushF d.firm (d.cache.take i)) wx) ∧ Hid (wx.heap[wr.heap.size]? = some (.cells (.mk (.int .i64 (at_ : Int) :: v8 pg)) 178))) ⟨Lib.hid ⟨?_, ?_⟩, Lib.hid ?_⟩ ?_
      · rw [setRow_other _ _ _ _ (by omega), heap_alloc_old _ _ hfl]; exact HS.out.1
      · exact HS.out.2.trans (Keeps.of_below (below_setRow ((Below.refl _ _).alloc (Nat.le_refl _) _) (Nat.le_refl _) _))
      · exact setRow_heap _ _ _ _ _ (0, 0) (heap_alloc_new wr _)
      clear z0 z1 z2 z3 z4 y0 y1 y2 y3 y4 HD1
      rintro wx ⟨HF, HB⟩
      obtain ⟨z0, z1, z2, z3, z4, y0, y1, y2, y3, y4⟩ := blk5 (HF.out.2.blk hdf Q1.out)
      have zb := box_at HB.out
      have r0 := cell_regrown z0
      have rb := cell_regrown zb
      have hx0 : (0 : Int) ≤ at_ := by omega
      have hx1 : (at_ : Int) < d.firm.length := by have := HXO.out.1; omega
      generalize wr.heap.size = box at HB zb rb hfl ⊢
      simp only [Act.put]
      refine wp_region_qlast 9 (fun w' => ∃ p : Regrown, w' = Go.Sort.grow (redrawn wx p.d) p.os) (by kernel_rfl) (by kernel_rfl) (fun _ _ d _ _ h => by cases d <;> exact h) (grows_drew _) ?_
      simp only [List.take_succ_cons, List.take_zero]
      repeat (go_big_quiet_step (fail))
      go_big_quiet_want
      refine quiet_load_mid 37 (.tmp 26) rfl box 1 rfl (v8 pg) _ ?l1 Tryz.underlying37 rfl ?l2 ?_
      case l1 =>
        intro w' hw'
        exact box_page (((below_of_regrown hw').block _ (lt_of_blk HB.out)).trans HB.out)
      case l2 => rw [show (v8 pg).length = 64 by simp [v8, HXO.out.2.1]]; exact info_pgs
      simp only [Act.put, List.setIfInBounds_toArray, List.set_cons_zero, List.set_cons_succ]
      repeat (go_big_quiet_step (fail))
      try go_big_quiet_on
      repeat (go_big_quiet_step (fail))
      with_reducible refine wpQuiet_nil ?_
      with_reducible refine mix_a ?_
      simp only [List.drop_succ_cons, List.drop_zero, List.take_succ_cons, List.take_zero]
      have hlv : (v8 pg).toArray.size = 64 := by simp [v8, HXO.out.2.1]
      refine wpList_store_mid rfl 37 (.tmp 28) (.tmp 27) rfl fb (at_ * 64) (v8 pg).toArray rfl rfl ?u1 ?u2 ?u3 ?_
      case u1 =>
        rw [hlv]
        refine blk_there (w := wx.drew) (HF.out.1) ?_
        have hl := flat64 _ HFO.out
        have hll := flushF_length (d.cache.take i) d.firm
        have := HXO.out.1
        rw [List.size_toArray, List.length_append, v8_length, hl]
        omega
      case u2 => rw [hlv]; exact info_pgs
      case u3 => exact all_oneCell_toArray (v8_one pg)
      simp only [Act.put]
      have hfa : at_ < (flushF d.firm (d.cache.take i)).length := by rw [flushF_length]; exact HXO.out.1
      have HF2 : Hid (FlSt w db fb rest (flushF d.firm (d.cache.take (i + 1))) (wx.drew.setCells fb (at_ * 64) (v8 pg).toArray.toList)) := Lib.hid ⟨by rw [HNX.out]; exact page_stored (w := wx.drew) HF.out.1 HFO.out hfa HXO.out.2, HF.out.2.trans ((Keeps.drew _ wx).trans (Keeps.of_grown (setCells_grown _ _ _ _) (fun k hk => by cases hk; simp)))⟩
      generalize (wx.drew.setCells fb (at_ * 64) (v8 pg).toArray.toList) = wy at HF2 ⊢
      with_reducible refine wpList_nil ?_
      refine mixQ_normal ⟨fun h => absurd h (by simp), mix_nil ?_⟩
      go_wp2_with fail
      exact ⟨⟨i + 1, by go_num, by omega, HF2⟩, by simp [intOf]; omega⟩
    · obtain rfl : i = d.cache.length := by omega
      have HM1 := Lib.hid (HS.out.2.map hlf Q4.out)
      go_wp2_with (refine wpList_clear_is _ rfl (.tmp 36) 138 rfl 3 3 Tryz.underlying138 lb c (lastL d.cache) rfl (HM1.out.setCell ?m1 _) ?_)
      case m1 => exact blk_map_ne Q1.out Q4.out
      intro w3 hm ht
      go_wp2_with fail
      go_ret
      have hdlb : lb ≠ db := blk_map_ne Q1.out Q4.out
      have hK3 : Keeps (fun k => k ≠ lb) (wr.setCell ⟨db, 1, none⟩ (.slice none 0 0)) w3 := Keeps.of_turned ht (by simp)
      have hd2 : (wr.setCell ⟨db, 1, none⟩ (.slice none 0 0)).heap[db]? = some (.cells #[.slice (some ⟨fb, 0, none⟩) d.firm.length fc, .slice none 0 0, .map (some lb), .int .i64 (-1), .bool false] 141) := set_blk (i := 1) HD1.out (.slice none 0 0)
      have hd3 := hK3.blk (fun e => hdlb e.symm) hd2
      have hf2 : (wr.setCell ⟨db, 1, none⟩ (.slice none 0 0)).heap[fb]? = _ := heap_set_ne hdf HS.out.1
      have hf3 := hK3.blk (fun e => hlf e.symm) hf2
      rw [List.take_length] at hf3
      have hs1 := HS.out.2.size
      have hs2 := hK3.size
      refine ⟨rfl, ⟨fb, .slice none 0 0, lb, 0, ⟨fc, by rw [flushF_length]; exact HFC.out, ?_⟩, ⟨rest, hf3⟩, World.ownsRow_nil _ _ _ _, ?_, Nat.zero_le _, NN.out.1, NN.out.2.1, NN.out.2.2.1, fun k hk => by simp [Value.ownBlock] at hk, fun k hk => ?_, ?_⟩, ?_⟩
      · rw [flushF_length]; exact hd3
      · rw [lastL_nil]; exact hm
      · have := NN.out.2.2.2.2 k hk; simp [World.setCell] at hs2; omega
      · obtain ⟨o1, o2, o3, o4⟩ := Q6.out
        exact ⟨by rw [flushF_length]; exact o1, flushF_ok _ _ o2 (fun x hx => (o3 x hx).2), (fun x hx => by cases hx), by simp⟩
      · exact (HS.out.2.mono (fun k _ hk e => NN.out.2.1 (e ▸ hk))).trans ((Keeps.set wr db 1 _ NN.out.1).trans (hK3.mono (fun k _ hk e => NN.out.2.2.1 (e ▸ hk))))
end Go.Proofs.YtajmcplanlibnaaGreatDoor
