/- A table is read from its page as it was; no page says what can't be. The list of registrations has a length that an int can tell, the numbers are of their kinds. -/
import Derived.Test.YtopakonpfbbldaaG2
import Derived.Test.YtopakonpfbbldaaG3
import Derived.Test.YtopakonpfbbldaaFnsH
import Derived.Test.YtopakonpfbbldaaL9h
import Derived.Test.YtopakonpfbbldaaS1
import Derived.Test.YtopakonpfbbldaaR4
namespace Go.Proofs.Ytopakonpfbbldaa
set_option linter.unusedSimpArgs false
set_option linter.unusedVariables false
open Go.RowKit

theorem sound_none (a : Option Addr) (c : Nat) (w : World) : Calls Try.prog 19 #[.agg #[.int .u32 0, .slice a 0 c, .int .i64 (-1), .int .i64 0, .bool false]] w fun e w' => e = .returned (.bool true) ∧ Below w.heap.size w w' :=
  sound_yes ⟨0, [], -1, 0, false⟩ a c w (by simp) (KeysIn.nil _ _) rfl
theorem same_none (a b : Option Addr) (c d : Nat) (w : World) : Calls Try.prog 17 #[.agg #[.int .u32 0, .slice a 0 c, .int .i64 (-1), .int .i64 0, .bool false], .agg #[.int .u32 0, .slice b 0 d, .int .i64 (-1), .int .i64 0, .bool false]] w fun e w' => e = .returned (.bool true) ∧ Below w.heap.size w w' :=
  same_yes ⟨0, [], -1, 0, false⟩ a b c d w (by simp) (KeysIn.nil _ _) (KeysIn.nil _ _)

set_option maxRecDepth 100000 in
set_option maxHeartbeats 4000000 in
theorem PersPages_good (t : Tab) (a : Option Addr) (cap : Nat) (pa : Option Addr) (bs : List Int) (pc : Nat) (w : World) (hlen : t.ks.length ≤ 9223372036854775807) (hk : KeysIn w a t.ks) (hna : a = none → cap = 0)
   (hg0 : 0 ≤ t.g) (hg1 : t.g < 4294967296) (hbi : BytesIn w pa bs) (hby : Bytes bs) (hkk : ∀ r ∈ t.ks, 0 ≤ r.2 ∧ r.2 < 18446744073709551616) (hs : rsoundF t.ks t.h t.ty = true) :
    Calls Try.prog 9 #[.agg #[.int .u32 t.g, .slice a t.ks.length cap, .int .i64 t.h, .int .i64 t.ty, .bool t.ap], .slice pa bs.length pc] w fun e w' => e = .returned (.bool true) ∧ Below w.heap.size w w' := by
  have HK := Lib.hid hk; clear hk
  have HS : Hid (soundT t = true) := Lib.hid hs
  have HBI := Lib.hid hbi; clear hbi
  go_enter Try.func9, Try.ntmps9
  repeat (first | go_values | go_skip | go_guarded | go_step | go_upon | go_quiet (fail))
  have b0 := heap_alloc_new w (.cells #[.int .u32 t.g, .slice a t.ks.length cap, .int .i64 t.h, .int .i64 t.ty, .bool t.ap] 25)
  refine (stands_any _).mono ?_
  rintro e w1 ⟨rfl, hb1⟩
  dsimp only
  have c0 := (hb1.block w.heap.size (by simp)).trans b0
  have hbw : Below w.heap.size w w1 := by repeat (first | with_reducible assumption | (with_reducible refine Below.setCell ?_ (by first | omega | (simp; done) | (simp; omega)) _) | (with_reducible refine Below.alloc ?_ (by first | omega | (simp; done) | (simp; omega)) _) | (with_reducible refine Below.drew ?_) | (with_reducible refine below_dN ?_ _) | with_reducible exact Below.refl _ _ | (with_reducible refine Below.trans ?_ (Below.mono (by assumption) (by first | omega | (simp; done) | (simp; omega)))))
  clear b0
  have z0 := (blk5 c0).1
  have z1 := (blk5 c0).2.1
  have z2 := (blk5 c0).2.2.1
  have z3 := (blk5 c0).2.2.2.1
  have z4 := (blk5 c0).2.2.2.2.1
  have y0 := (blk5 c0).2.2.2.2.2.1
  have y1 := (blk5 c0).2.2.2.2.2.2.1
  have y2 := (blk5 c0).2.2.2.2.2.2.2.1
  have y3 := (blk5 c0).2.2.2.2.2.2.2.2.1
  have y4 := (blk5 c0).2.2.2.2.2.2.2.2.2
  repeat (first | go_values | go_skip | go_guarded | go_step | go_upon | go_quiet (fail))
  refine (rSound_any t.g t.h t.ty t.ap a t.ks cap _ hlen (HK.out.below hbw)).mono ?_
  rintro e w2 ⟨rfl, hb2⟩
  rw [hs]
  dsimp only
  have hl1 : w.heap.size < w1.heap.size := (Array.getElem?_eq_some_iff.1 c0).1
  have hs2 := hb2.size
  have c2 := (hb2.block w.heap.size hl1).trans c0
  have hbw2 := hbw.trans (hb2.mono hbw.size)
  clear z0 z1 z2 z3 z4 y0 y1 y2 y3 y4 c0 hbw hb2 hb1
  have z0 := (blk5 c2).1
  have z1 := (blk5 c2).2.1
  have z2 := (blk5 c2).2.2.1
  have z3 := (blk5 c2).2.2.2.1
  have z4 := (blk5 c2).2.2.2.2.1
  have y0 := (blk5 c2).2.2.2.2.2.1
  have y1 := (blk5 c2).2.2.2.2.2.2.1
  have y2 := (blk5 c2).2.2.2.2.2.2.2.1
  have y3 := (blk5 c2).2.2.2.2.2.2.2.2.1
  have y4 := (blk5 c2).2.2.2.2.2.2.2.2.2
  repeat (fail_if_success (with_reducible refine stop_pos "law.go:102" rfl ?_)
          first | go_values | go_skip | go_guarded | go_step | go_upon | go_quiet (fail))
  have hS := HS.out
  have hbyt := pageF_bytes t (sound_inv hS).1 (th_h hS) (th_lt hS) (th_t0 hS) (th_ty hS) (fun r hr => ⟨okF_pos _ _ (sound_inv hS).2.1 r hr, okF_all _ _ (sound_inv hS).2.1 r hr⟩)
  have hall : ∀ r ∈ t.ks, 0 ≤ r.1 ∧ r.1 < 8 ∧ 0 ≤ r.2 ∧ r.2 < 18446744073709551616 := fun r hr => ⟨okF_pos _ _ (sound_inv hS).2.1 r hr, okF_all _ _ (sound_inv hS).2.1 r hr, (hkk r hr).1, (hkk r hr).2⟩
  refine gen_code (fun wx => wx.heap[w.heap.size]? = some (.cells #[.int .u32 t.g, .slice a t.ks.length cap, .int .i64 t.h, .int .i64 t.ty, .bool t.ap] 25) ∧ wx.heap[w2.heap.size]? = some (.cells #[.int .u32 t.g, .slice a t.ks.length cap, .int .i64 t.h, .int .i64 t.ty, .bool true] 25) ∧ Below w.heap.size w wx ∧ w2.heap.size < wx.heap.size) ?_ ?_
  · exact ⟨(heap_alloc_old _ _ (by omega)).trans c2, heap_alloc_new w2 _, by repeat (first | with_reducible assumption | (with_reducible refine Below.setCell ?_ (by first | omega | (simp; done) | (simp; omega)) _) | (with_reducible refine Below.alloc ?_ (by first | omega | (simp; done) | (simp; omega)) _) | (with_reducible refine Below.drew ?_) | (with_reducible refine below_dN ?_ _) | with_reducible exact Below.refl _ _ | (with_reducible refine Below.trans ?_ (Below.mono (by assumption) (by first | omega | (simp; done) | (simp; omega))))), by simp⟩
  intro w3 hw3
  have hl2 : w.heap.size < w2.heap.size := by omega
  generalize hU : w2.heap.size = U at hw3 hl2 ⊢
  have H3 := Lib.hid hw3
  clear hw3 hU z0 z1 z2 z3 z4 y0 y1 y2 y3 y4 c2 hbw2 hs2
  have z0 := (blk5 H3.out.1).1
  have z1 := (blk5 H3.out.1).2.1
  have z2 := (blk5 H3.out.1).2.2.1
  have z3 := (blk5 H3.out.1).2.2.2.1
  have z4 := (blk5 H3.out.1).2.2.2.2.1
  have y0 := (blk5 H3.out.1).2.2.2.2.2.1
  have y1 := (blk5 H3.out.1).2.2.2.2.2.2.1
  have y2 := (blk5 H3.out.1).2.2.2.2.2.2.2.1
  have y3 := (blk5 H3.out.1).2.2.2.2.2.2.2.2.1
  have y4 := (blk5 H3.out.1).2.2.2.2.2.2.2.2.2
  have v0 := (blk5 H3.out.2.1).1
  have v1 := (blk5 H3.out.2.1).2.1
  have v2 := (blk5 H3.out.2.1).2.2.1
  have v3 := (blk5 H3.out.2.1).2.2.2.1
  have v4 := (blk5 H3.out.2.1).2.2.2.2.1
  have s0 := (blk5 H3.out.2.1).2.2.2.2.2.1
  have s1 := (blk5 H3.out.2.1).2.2.2.2.2.2.1
  have s2 := (blk5 H3.out.2.1).2.2.2.2.2.2.2.1
  have s3 := (blk5 H3.out.2.1).2.2.2.2.2.2.2.2.1
  have s4 := (blk5 H3.out.2.1).2.2.2.2.2.2.2.2.2
  have k0 := cell_regrown z0
  have l0 := cell_regrown v0
  have k1 := cell_regrown z1
  have l1 := cell_regrown v1
  have k2 := cell_regrown z2
  have l2 := cell_regrown v2
  have k3 := cell_regrown z3
  have l3 := cell_regrown v3
  have k4 := cell_regrown z4
  have l4 := cell_regrown v4
  refine wp_region_plan (.quiet 0 (.quiet 3 (.one 1 (.one 2 (.one 4 (.quiet 5 .nil))))))
    (fun w' => ∃ p : Regrown, w' = Go.Sort.grow (redrawn w3 p.d) p.os) (by kernel_rfl) (by kernel_rfl) (fun _ _ d _ _ h => by cases d <;> exact h) (grows_drew _) ?_
  with_reducible refine plan_q ?_
  simp only [List.drop_succ_cons, List.drop_zero, List.take_succ_cons, List.take_zero]
  go_big_quiet_step (fail)
  with_reducible refine wpQuiet_nil ?_
  with_reducible refine plan_q ?_
  simp only [List.drop_succ_cons, List.drop_zero, List.take_succ_cons, List.take_zero]
  go_big_quiet_step (fail)
  with_reducible refine wpQuiet_nil ?_
  with_reducible refine plan_a ?_
  simp only [List.drop_succ_cons, List.drop_zero, List.take_succ_cons, List.take_zero]
  go_wp2_with fail
  refine (Page_any t a cap _ (sound_inv hS).1 (th_h hS) (th_lt hS) (th_t0 hS) (th_ty hS) hg0 hg1 (HK.out.below (H3.out.2.2.1.trans ((Below.refl _ _).drew.mono H3.out.2.2.1.size))) hall).mono ?_
  rintro e x1 ⟨rfl, hx1⟩
  dsimp only
  go_wp2_with fail
  have hX1 : Below w3.heap.size w3 x1 := (Below.refl _ _).drew.trans (hx1.mono (Below.refl w3.heap.size w3).drew.size)
  refine mixQ_normal ⟨grows_of_below hX1, ?_⟩
  with_reducible refine plan_a ?_
  simp only [List.drop_succ_cons, List.drop_zero, List.take_succ_cons, List.take_zero]
  go_wp2_with fail
  refine (Read_any (pageF t) x1 (pageF_length t) hbyt).mono ?_
  rintro e x2 ⟨rv, rfl, ⟨ra, rc, rfl, hrk, hrn⟩, hx2⟩
  have hpp := page_parse t hS (th_h hS) hg0 hg1 hkk
  rw [hpp] at hrk ⊢
  dsimp only
  go_wp2_with fail
  have hX2 := hX1.trans (hx2.mono hX1.size)
  refine mixQ_normal ⟨grows_of_below hX2, ?_⟩
  with_reducible refine plan_a ?_
  simp only [List.drop_succ_cons, List.drop_zero, List.take_succ_cons, List.take_zero]
  go_wp2_with fail
  refine (same_yes { t with ap := true } ra a rc cap x2 hlen hrk (HK.out.below (H3.out.2.2.1.trans (hX2.mono H3.out.2.2.1.size)))).mono ?_
  rintro e x3 ⟨rfl, hx3⟩
  dsimp only
  go_wp2_with fail
  have hX3 := hX2.trans (hx3.mono hX2.size)
  refine mixQ_normal ⟨grows_of_below hX3, ?_⟩
  with_reducible refine plan_q ?_
  simp only [List.drop_succ_cons, List.drop_zero, List.take_succ_cons, List.take_zero]
  go_big_quiet_step (fail)
  with_reducible refine wpQuiet_nil ?_
  with_reducible refine plan_nil ?_
  have hB3 := H3.out.2.2.1.trans (hX3.mono H3.out.2.2.1.size)
  clear z0 z1 z2 z3 z4 y0 y1 y2 y3 y4 v0 v1 v2 v3 v4 s0 s1 s2 s3 s4 k0 k1 k2 k3 k4 l0 l1 l2 l3 l4 hrk hx1 hx2 hx3 hX1 hX2 hX3
  repeat (fail_if_success (with_reducible refine stop_pos "law.go:107" rfl ?_)
          first | go_values | go_skip | go_guarded | go_step | go_upon | go_quiet (fail))
  refine gen_world (fun wx => wx.heap[x3.heap.size]? = some (.cells ((List.replicate 64 0).map (Value.int .u8)).toArray 53) ∧ Below w.heap.size w wx ∧ x3.heap.size < wx.heap.size) ⟨heap_alloc_new x3 _, Below.alloc hB3 hB3.size _, by simp⟩ ?_
  intro w4 hw4
  have hPw : w.heap.size ≤ x3.heap.size := hB3.size
  generalize hPG : x3.heap.size = PG at hw4 hPw ⊢
  have H4 := Lib.hid hw4
  clear hw4 hPG hB3
  refine wpList_load_row rfl 53 (.tmp 6) rfl PG rfl 53 ((List.replicate 64 0).map (Value.int .u8)).toArray (0, 0) _ H4.out.1 Try.underlying53 rfl (by rw [show ((List.replicate 64 (0 : Int)).map (Value.int .u8)).toArray.size = 64 by simp]; kernel_rfl) ?_
  simp only [Act.put, List.setIfInBounds_toArray, List.set_cons_zero, List.set_cons_succ]
  repeat (first | go_values | go_skip | go_guarded | go_step | go_upon | go_quiet (fail))
  refine (Read_any (List.replicate 64 0) w4 (by simp) (fun x hx => by rw [List.mem_replicate] at hx; omega)).mono ?_
  rintro e w5 ⟨nv, rfl, htab, hx5⟩
  rw [read_zero] at htab
  obtain ⟨na, nc, rfl, hnk, hnn⟩ := htab
  dsimp only
  repeat (fail_if_success (with_reducible refine stop_pos "law.go:108" rfl ?_)
          first | go_values | go_skip | go_guarded | go_step | go_upon | go_quiet (fail))
  refine gen_world (fun wx => wx.heap[PG]? = some (.cells ((List.replicate 64 0).map (Value.int .u8)).toArray 53) ∧ wx.heap[w5.heap.size]? = some (.cells #[.int .u32 0, .slice na 0 nc, .int .i64 (-1), .int .i64 0, .bool false] 25) ∧ Below w.heap.size w wx ∧ w5.heap.size < wx.heap.size) ⟨(heap_alloc_old _ _ (Nat.lt_of_lt_of_le H4.out.2.2 hx5.size)).trans ((hx5.block PG H4.out.2.2).trans H4.out.1), heap_alloc_new w5 _, Below.alloc (H4.out.2.1.trans (hx5.mono H4.out.2.1.size)) (H4.out.2.1.trans (hx5.mono H4.out.2.1.size)).size _, by simp⟩ ?_
  intro w6 hw6
  have hPN : PG < w5.heap.size := Nat.lt_of_lt_of_le H4.out.2.2 hx5.size
  generalize hNB : w5.heap.size = NB at hw6 hPN ⊢
  have H6 := Lib.hid hw6
  clear hw6 hNB H4 hx5 hnk
  repeat (fail_if_success (with_reducible refine stop_at 25 rfl ?_)
          first | go_values | go_skip | go_guarded | go_step | go_upon | go_quiet (fail))
  refine wpList_copy_page rfl (.tmp 23) (.tmp 24) rfl PG pa bs pc rfl rfl H6.out.1 (HBI.out.below H6.out.2.2.1) ?_
  intro cv w7 hp7 hor
  have hp7N : w7.heap[NB]? = some (.cells #[.int .u32 0, .slice na 0 nc, .int .i64 (-1), .int .i64 0, .bool false] 25) := by
    rcases hor with rfl | ⟨c, rfl⟩
    · exact H6.out.2.1
    · rw [setRow_other _ _ _ _ (by omega)]; exact H6.out.2.1
  have hb7 : Below w.heap.size w w7 := by
    rcases hor with rfl | ⟨c, rfl⟩
    · exact H6.out.2.2.1
    · exact below_setRow H6.out.2.2.1 hPw c
  have hs7 : NB < w7.heap.size := (Array.getElem?_eq_some_iff.1 hp7N).1
  have H7 := Lib.hid (And.intro hp7 (And.intro hp7N (And.intro hb7 hs7)))
  clear hor hp7 hp7N hb7 H6
  simp only [Act.put, List.setIfInBounds_toArray, List.set_cons_zero, List.set_cons_succ]
  repeat (fail_if_success (with_reducible refine stop_pos "law.go:109" rfl ?_)
          first | go_values | go_skip | go_guarded | go_step | go_upon | go_quiet (fail))
  refine wpList_load_row rfl 53 (.tmp 6) rfl PG rfl 53 ((page2 bs).map (Value.int .u8)).toArray (0, 0) _ H7.out.1 Try.underlying53 rfl (by rw [show ((page2 bs).map (Value.int .u8)).toArray.size = 64 by simp [page2_length]]; kernel_rfl) ?_
  simp only [Act.put, List.setIfInBounds_toArray, List.set_cons_zero, List.set_cons_succ]
  repeat (first | go_values | go_skip | go_guarded | go_step | go_upon | go_quiet (fail))
  refine (Read_any (page2 bs) w7 (page2_length bs) (page2_bytes bs hby)).mono ?_
  rintro e w8 ⟨xv, rfl, ⟨xa, xc, rfl, hxk, hxn⟩, hx8⟩
  dsimp only
  have hXS := read_sound (page2 bs)
  have hXA := read_ap (page2 bs)
  generalize readF (page2 bs) = X at hxk hXS hXA ⊢
  have hXl := (sound_inv hXS).1
  repeat (fail_if_success (with_reducible refine stop_pos "law.go:110" rfl ?_)
          first | go_values | go_skip | go_guarded | go_step | go_upon | go_quiet (fail))
  refine gen_code (fun wx => wx.heap[NB]? = some (.cells #[.int .u32 0, .slice na 0 nc, .int .i64 (-1), .int .i64 0, .bool false] 25) ∧ wx.heap[w8.heap.size]? = some (.cells #[.int .u32 X.g, .slice xa X.ks.length xc, .int .i64 X.h, .int .i64 X.ty, .bool X.ap] 25) ∧ KeysIn wx xa X.ks ∧ Below w.heap.size w wx ∧ w8.heap.size < wx.heap.size) ?_ ?_
  · have hal := Below.alloc (Below.refl w8.heap.size w8) (Nat.le_refl _) (.cells #[.int .u32 X.g, .slice xa X.ks.length xc, .int .i64 X.h, .int .i64 X.ty, .bool X.ap] 25)
    have hb8 := H7.out.2.2.1.trans (hx8.mono H7.out.2.2.1.size)
    exact ⟨(heap_alloc_old _ _ (Nat.lt_of_lt_of_le hs7 hx8.size)).trans ((hx8.block NB hs7).trans H7.out.2.1), heap_alloc_new w8 _, hxk.below hal, hb8.trans (hal.mono hb8.size), by simp⟩
  intro w9 hw9
  generalize w8.heap.size = XB at hw9 ⊢
  have H9 := Lib.hid hw9
  clear hw9 hxk hx8 H7
  have z0 := (blk5 H9.out.1).1
  have z1 := (blk5 H9.out.1).2.1
  have z2 := (blk5 H9.out.1).2.2.1
  have z3 := (blk5 H9.out.1).2.2.2.1
  have z4 := (blk5 H9.out.1).2.2.2.2.1
  have y0 := (blk5 H9.out.1).2.2.2.2.2.1
  have y1 := (blk5 H9.out.1).2.2.2.2.2.2.1
  have y2 := (blk5 H9.out.1).2.2.2.2.2.2.2.1
  have y3 := (blk5 H9.out.1).2.2.2.2.2.2.2.2.1
  have y4 := (blk5 H9.out.1).2.2.2.2.2.2.2.2.2
  have k0 := cell_regrown z0
  have k1 := cell_regrown z1
  have k2 := cell_regrown z2
  have k3 := cell_regrown z3
  have k4 := cell_regrown z4
  clear z0 z1 z2 z3 z4 y0 y1 y2 y3 y4
  have eX := H9.out.2.1
  rcases hXA with hap | hap
  · rw [hap] at eX
    have HQ1 := Lib.hid (fun (d : Nat) (os : Array Obj) => Calls.regrown_of (by
      have h0 := sound_yes X xa xc (Go.Sort.grow (redrawn w9 d) os) (by omega) (H9.out.2.2.1.below (below_regrown w9 d os)) hXS
      rw [hap] at h0
      exact h0))
    have HQ2 := Lib.hid (fun (d : Nat) (os : Array Obj) => Calls.regrown_of (None_any (Go.Sort.grow (redrawn w9 d) os)))
    have HQ3 := Lib.hid (fun (d : Nat) (os : Array Obj) => Calls.regrown_of (same_none na none nc 0 (Go.Sort.grow (redrawn w9 d) os)))
    have HQ4 := Lib.hid (fun (d : Nat) (os : Array Obj) => Calls.regrown_of (same_none xa none xc 0 (Go.Sort.grow (redrawn w9 d) os)))
    have v0 := (blk5 eX).1
    have v1 := (blk5 eX).2.1
    have v2 := (blk5 eX).2.2.1
    have v3 := (blk5 eX).2.2.2.1
    have v4 := (blk5 eX).2.2.2.2.1
    have s0 := (blk5 eX).2.2.2.2.2.1
    have s1 := (blk5 eX).2.2.2.2.2.2.1
    have s2 := (blk5 eX).2.2.2.2.2.2.2.1
    have s3 := (blk5 eX).2.2.2.2.2.2.2.2.1
    have s4 := (blk5 eX).2.2.2.2.2.2.2.2.2
    have l0 := cell_regrown v0
    have l1 := cell_regrown v1
    have l2 := cell_regrown v2
    have l3 := cell_regrown v3
    have l4 := cell_regrown v4
    clear eX v0 v1 v2 v3 v4 s0 s1 s2 s3 s4
    refine wp_region_quiet_below (by kernel_rfl) (by kernel_rfl) ?_
    repeat (go_big_quiet_step (with_reducible first | exact HQ1.out _ _ | exact HQ2.out _ _ | exact HQ3.out _ _ | exact HQ4.out _ _))
    with_reducible refine wpQuiet_nil ?_
    intro wq hwq
    have hq := below_of_regrown hwq
    clear hwq
    repeat (first | go_values | go_skip | go_guarded | go_step | go_upon | go_quiet (fail))
    go_ret
    exact ⟨rfl, H9.out.2.2.2.1.trans (hq.mono H9.out.2.2.2.1.size)⟩
  · subst hap
    have HQ1 := Lib.hid (fun (d : Nat) (os : Array Obj) => Calls.regrown_of (sound_none xa xc (Go.Sort.grow (redrawn w9 d) os)))
    have eX : w9.heap[XB]? = some (.cells #[.int .u32 0, .slice xa 0 xc, .int .i64 (-1), .int .i64 0, .bool false] 25) := eX
    have HQ2 := Lib.hid (fun (d : Nat) (os : Array Obj) => Calls.regrown_of (None_any (Go.Sort.grow (redrawn w9 d) os)))
    have HQ3 := Lib.hid (fun (d : Nat) (os : Array Obj) => Calls.regrown_of (same_none na none nc 0 (Go.Sort.grow (redrawn w9 d) os)))
    have HQ4 := Lib.hid (fun (d : Nat) (os : Array Obj) => Calls.regrown_of (same_none xa none xc 0 (Go.Sort.grow (redrawn w9 d) os)))
    have v0 := (blk5 eX).1
    have v1 := (blk5 eX).2.1
    have v2 := (blk5 eX).2.2.1
    have v3 := (blk5 eX).2.2.2.1
    have v4 := (blk5 eX).2.2.2.2.1
    have s0 := (blk5 eX).2.2.2.2.2.1
    have s1 := (blk5 eX).2.2.2.2.2.2.1
    have s2 := (blk5 eX).2.2.2.2.2.2.2.1
    have s3 := (blk5 eX).2.2.2.2.2.2.2.2.1
    have s4 := (blk5 eX).2.2.2.2.2.2.2.2.2
    have l0 := cell_regrown v0
    have l1 := cell_regrown v1
    have l2 := cell_regrown v2
    have l3 := cell_regrown v3
    have l4 := cell_regrown v4
    clear eX v0 v1 v2 v3 v4 s0 s1 s2 s3 s4
    refine wp_region_quiet_below (by kernel_rfl) (by kernel_rfl) ?_
    repeat (go_big_quiet_step (with_reducible first | exact HQ1.out _ _ | exact HQ2.out _ _ | exact HQ3.out _ _ | exact HQ4.out _ _))
    with_reducible refine wpQuiet_nil ?_
    intro wq hwq
    have hq := below_of_regrown hwq
    clear hwq
    repeat (first | go_values | go_skip | go_guarded | go_step | go_upon | go_quiet (fail))
    go_ret
    exact ⟨rfl, H9.out.2.2.2.1.trans (hq.mono H9.out.2.2.2.1.size)⟩

set_option maxRecDepth 100000 in
set_option maxHeartbeats 4000000 in
theorem PersPages_bad (t : Tab) (a : Option Addr) (cap : Nat) (pa : Option Addr) (bs : List Int) (pc : Nat) (w : World) (hlen : t.ks.length ≤ 9223372036854775807) (hk : KeysIn w a t.ks) (hna : a = none → cap = 0)
   (hg0 : 0 ≤ t.g) (hg1 : t.g < 4294967296) (hbi : BytesIn w pa bs) (hby : Bytes bs) (hkk : ∀ r ∈ t.ks, 0 ≤ r.2 ∧ r.2 < 18446744073709551616) (hs : rsoundF t.ks t.h t.ty = false) :
    Calls Try.prog 9 #[.agg #[.int .u32 t.g, .slice a t.ks.length cap, .int .i64 t.h, .int .i64 t.ty, .bool t.ap], .slice pa bs.length pc] w fun e w' => e = .returned (.bool true) ∧ Below w.heap.size w w' := by
  have HK := Lib.hid hk; clear hk
  have HBI := Lib.hid hbi; clear hbi
  go_enter Try.func9, Try.ntmps9
  repeat (first | go_values | go_skip | go_guarded | go_step | go_upon | go_quiet (fail))
  have b0 := heap_alloc_new w (.cells #[.int .u32 t.g, .slice a t.ks.length cap, .int .i64 t.h, .int .i64 t.ty, .bool t.ap] 25)
  refine (stands_any _).mono ?_
  rintro e w1 ⟨rfl, hb1⟩
  dsimp only
  have c0 := (hb1.block w.heap.size (by simp)).trans b0
  have hbw : Below w.heap.size w w1 := by repeat (first | with_reducible assumption | (with_reducible refine Below.setCell ?_ (by first | omega | (simp; done) | (simp; omega)) _) | (with_reducible refine Below.alloc ?_ (by first | omega | (simp; done) | (simp; omega)) _) | (with_reducible refine Below.drew ?_) | (with_reducible refine below_dN ?_ _) | with_reducible exact Below.refl _ _ | (with_reducible refine Below.trans ?_ (Below.mono (by assumption) (by first | omega | (simp; done) | (simp; omega)))))
  clear b0
  have z0 := (blk5 c0).1
  have z1 := (blk5 c0).2.1
  have z2 := (blk5 c0).2.2.1
  have z3 := (blk5 c0).2.2.2.1
  have z4 := (blk5 c0).2.2.2.2.1
  have y0 := (blk5 c0).2.2.2.2.2.1
  have y1 := (blk5 c0).2.2.2.2.2.2.1
  have y2 := (blk5 c0).2.2.2.2.2.2.2.1
  have y3 := (blk5 c0).2.2.2.2.2.2.2.2.1
  have y4 := (blk5 c0).2.2.2.2.2.2.2.2.2
  repeat (first | go_values | go_skip | go_guarded | go_step | go_upon | go_quiet (fail))
  refine (rSound_any t.g t.h t.ty t.ap a t.ks cap _ hlen (HK.out.below hbw)).mono ?_
  rintro e w2 ⟨rfl, hb2⟩
  rw [hs]
  dsimp only
  have hbw2 : Below w.heap.size w w2 := hbw.trans (hb2.mono hbw.size)
  clear z0 z1 z2 z3 z4 y0 y1 y2 y3 y4 c0 hbw hb2 hb1
  repeat (fail_if_success (with_reducible refine stop_pos "law.go:107" rfl ?_)
          first | go_values | go_skip | go_guarded | go_step | go_upon | go_quiet (fail))
  refine gen_world (fun wx => wx.heap[w2.heap.size]? = some (.cells ((List.replicate 64 0).map (Value.int .u8)).toArray 53) ∧ Below w.heap.size w wx ∧ w2.heap.size < wx.heap.size) ⟨heap_alloc_new w2 _, Below.alloc hbw2 hbw2.size _, by simp⟩ ?_
  intro w4 hw4
  have hPw : w.heap.size ≤ w2.heap.size := hbw2.size
  generalize hPG : w2.heap.size = PG at hw4 hPw ⊢
  have H4 := Lib.hid hw4
  clear hw4 hPG hbw2
  refine wpList_load_row rfl 53 (.tmp 6) rfl PG rfl 53 ((List.replicate 64 0).map (Value.int .u8)).toArray (0, 0) _ H4.out.1 Try.underlying53 rfl (by rw [show ((List.replicate 64 (0 : Int)).map (Value.int .u8)).toArray.size = 64 by simp]; kernel_rfl) ?_
  simp only [Act.put, List.setIfInBounds_toArray, List.set_cons_zero, List.set_cons_succ]
  repeat (first | go_values | go_skip | go_guarded | go_step | go_upon | go_quiet (fail))
  refine (Read_any (List.replicate 64 0) w4 (by simp) (fun x hx => by rw [List.mem_replicate] at hx; omega)).mono ?_
  rintro e w5 ⟨nv, rfl, htab, hx5⟩
  rw [read_zero] at htab
  obtain ⟨na, nc, rfl, hnk, hnn⟩ := htab
  dsimp only
  repeat (fail_if_success (with_reducible refine stop_pos "law.go:108" rfl ?_)
          first | go_values | go_skip | go_guarded | go_step | go_upon | go_quiet (fail))
  refine gen_world (fun wx => wx.heap[PG]? = some (.cells ((List.replicate 64 0).map (Value.int .u8)).toArray 53) ∧ wx.heap[w5.heap.size]? = some (.cells #[.int .u32 0, .slice na 0 nc, .int .i64 (-1), .int .i64 0, .bool false] 25) ∧ Below w.heap.size w wx ∧ w5.heap.size < wx.heap.size) ⟨(heap_alloc_old _ _ (Nat.lt_of_lt_of_le H4.out.2.2 hx5.size)).trans ((hx5.block PG H4.out.2.2).trans H4.out.1), heap_alloc_new w5 _, Below.alloc (H4.out.2.1.trans (hx5.mono H4.out.2.1.size)) (H4.out.2.1.trans (hx5.mono H4.out.2.1.size)).size _, by simp⟩ ?_
  intro w6 hw6
  have hPN : PG < w5.heap.size := Nat.lt_of_lt_of_le H4.out.2.2 hx5.size
  generalize hNB : w5.heap.size = NB at hw6 hPN ⊢
  have H6 := Lib.hid hw6
  clear hw6 hNB H4 hx5 hnk
  repeat (fail_if_success (with_reducible refine stop_at 25 rfl ?_)
          first | go_values | go_skip | go_guarded | go_step | go_upon | go_quiet (fail))
  refine wpList_copy_page rfl (.tmp 23) (.tmp 24) rfl PG pa bs pc rfl rfl H6.out.1 (HBI.out.below H6.out.2.2.1) ?_
  intro cv w7 hp7 hor
  have hp7N : w7.heap[NB]? = some (.cells #[.int .u32 0, .slice na 0 nc, .int .i64 (-1), .int .i64 0, .bool false] 25) := by
    rcases hor with rfl | ⟨c, rfl⟩
    · exact H6.out.2.1
    · rw [setRow_other _ _ _ _ (by omega)]; exact H6.out.2.1
  have hb7 : Below w.heap.size w w7 := by
    rcases hor with rfl | ⟨c, rfl⟩
    · exact H6.out.2.2.1
    · exact below_setRow H6.out.2.2.1 hPw c
  have hs7 : NB < w7.heap.size := (Array.getElem?_eq_some_iff.1 hp7N).1
  have H7 := Lib.hid (And.intro hp7 (And.intro hp7N (And.intro hb7 hs7)))
  clear hor hp7 hp7N hb7 H6
  simp only [Act.put, List.setIfInBounds_toArray, List.set_cons_zero, List.set_cons_succ]
  repeat (fail_if_success (with_reducible refine stop_pos "law.go:109" rfl ?_)
          first | go_values | go_skip | go_guarded | go_step | go_upon | go_quiet (fail))
  refine wpList_load_row rfl 53 (.tmp 6) rfl PG rfl 53 ((page2 bs).map (Value.int .u8)).toArray (0, 0) _ H7.out.1 Try.underlying53 rfl (by rw [show ((page2 bs).map (Value.int .u8)).toArray.size = 64 by simp [page2_length]]; kernel_rfl) ?_
  simp only [Act.put, List.setIfInBounds_toArray, List.set_cons_zero, List.set_cons_succ]
  repeat (first | go_values | go_skip | go_guarded | go_step | go_upon | go_quiet (fail))
  refine (Read_any (page2 bs) w7 (page2_length bs) (page2_bytes bs hby)).mono ?_
  rintro e w8 ⟨xv, rfl, ⟨xa, xc, rfl, hxk, hxn⟩, hx8⟩
  dsimp only
  have hXS := read_sound (page2 bs)
  have hXA := read_ap (page2 bs)
  generalize readF (page2 bs) = X at hxk hXS hXA ⊢
  have hXl := (sound_inv hXS).1
  repeat (fail_if_success (with_reducible refine stop_pos "law.go:110" rfl ?_)
          first | go_values | go_skip | go_guarded | go_step | go_upon | go_quiet (fail))
  refine gen_code (fun wx => wx.heap[NB]? = some (.cells #[.int .u32 0, .slice na 0 nc, .int .i64 (-1), .int .i64 0, .bool false] 25) ∧ wx.heap[w8.heap.size]? = some (.cells #[.int .u32 X.g, .slice xa X.ks.length xc, .int .i64 X.h, .int .i64 X.ty, .bool X.ap] 25) ∧ KeysIn wx xa X.ks ∧ Below w.heap.size w wx ∧ w8.heap.size < wx.heap.size) ?_ ?_
  · have hal := Below.alloc (Below.refl w8.heap.size w8) (Nat.le_refl _) (.cells #[.int .u32 X.g, .slice xa X.ks.length xc, .int .i64 X.h, .int .i64 X.ty, .bool X.ap] 25)
    have hb8 := H7.out.2.2.1.trans (hx8.mono H7.out.2.2.1.size)
    exact ⟨(heap_alloc_old _ _ (Nat.lt_of_lt_of_le hs7 hx8.size)).trans ((hx8.block NB hs7).trans H7.out.2.1), heap_alloc_new w8 _, hxk.below hal, hb8.trans (hal.mono hb8.size), by simp⟩
  intro w9 hw9
  generalize w8.heap.size = XB at hw9 ⊢
  have H9 := Lib.hid hw9
  clear hw9 hxk hx8 H7
  have z0 := (blk5 H9.out.1).1
  have z1 := (blk5 H9.out.1).2.1
  have z2 := (blk5 H9.out.1).2.2.1
  have z3 := (blk5 H9.out.1).2.2.2.1
  have z4 := (blk5 H9.out.1).2.2.2.2.1
  have y0 := (blk5 H9.out.1).2.2.2.2.2.1
  have y1 := (blk5 H9.out.1).2.2.2.2.2.2.1
  have y2 := (blk5 H9.out.1).2.2.2.2.2.2.2.1
  have y3 := (blk5 H9.out.1).2.2.2.2.2.2.2.2.1
  have y4 := (blk5 H9.out.1).2.2.2.2.2.2.2.2.2
  have k0 := cell_regrown z0
  have k1 := cell_regrown z1
  have k2 := cell_regrown z2
  have k3 := cell_regrown z3
  have k4 := cell_regrown z4
  clear z0 z1 z2 z3 z4 y0 y1 y2 y3 y4
  have eX := H9.out.2.1
  rcases hXA with hap | hap
  · rw [hap] at eX
    have HQ1 := Lib.hid (fun (d : Nat) (os : Array Obj) => Calls.regrown_of (by
      have h0 := sound_yes X xa xc (Go.Sort.grow (redrawn w9 d) os) (by omega) (H9.out.2.2.1.below (below_regrown w9 d os)) hXS
      rw [hap] at h0
      exact h0))
    have HQ2 := Lib.hid (fun (d : Nat) (os : Array Obj) => Calls.regrown_of (None_any (Go.Sort.grow (redrawn w9 d) os)))
    have HQ3 := Lib.hid (fun (d : Nat) (os : Array Obj) => Calls.regrown_of (same_none na none nc 0 (Go.Sort.grow (redrawn w9 d) os)))
    have HQ4 := Lib.hid (fun (d : Nat) (os : Array Obj) => Calls.regrown_of (same_none xa none xc 0 (Go.Sort.grow (redrawn w9 d) os)))
    have v0 := (blk5 eX).1
    have v1 := (blk5 eX).2.1
    have v2 := (blk5 eX).2.2.1
    have v3 := (blk5 eX).2.2.2.1
    have v4 := (blk5 eX).2.2.2.2.1
    have s0 := (blk5 eX).2.2.2.2.2.1
    have s1 := (blk5 eX).2.2.2.2.2.2.1
    have s2 := (blk5 eX).2.2.2.2.2.2.2.1
    have s3 := (blk5 eX).2.2.2.2.2.2.2.2.1
    have s4 := (blk5 eX).2.2.2.2.2.2.2.2.2
    have l0 := cell_regrown v0
    have l1 := cell_regrown v1
    have l2 := cell_regrown v2
    have l3 := cell_regrown v3
    have l4 := cell_regrown v4
    clear eX v0 v1 v2 v3 v4 s0 s1 s2 s3 s4
    refine wp_region_quiet_below (by kernel_rfl) (by kernel_rfl) ?_
    repeat (go_big_quiet_step (with_reducible first | exact HQ1.out _ _ | exact HQ2.out _ _ | exact HQ3.out _ _ | exact HQ4.out _ _))
    with_reducible refine wpQuiet_nil ?_
    intro wq hwq
    have hq := below_of_regrown hwq
    clear hwq
    repeat (first | go_values | go_skip | go_guarded | go_step | go_upon | go_quiet (fail))
    go_ret
    exact ⟨rfl, H9.out.2.2.2.1.trans (hq.mono H9.out.2.2.2.1.size)⟩
  · subst hap
    have HQ1 := Lib.hid (fun (d : Nat) (os : Array Obj) => Calls.regrown_of (sound_none xa xc (Go.Sort.grow (redrawn w9 d) os)))
    have eX : w9.heap[XB]? = some (.cells #[.int .u32 0, .slice xa 0 xc, .int .i64 (-1), .int .i64 0, .bool false] 25) := eX
    have HQ2 := Lib.hid (fun (d : Nat) (os : Array Obj) => Calls.regrown_of (None_any (Go.Sort.grow (redrawn w9 d) os)))
    have HQ3 := Lib.hid (fun (d : Nat) (os : Array Obj) => Calls.regrown_of (same_none na none nc 0 (Go.Sort.grow (redrawn w9 d) os)))
    have HQ4 := Lib.hid (fun (d : Nat) (os : Array Obj) => Calls.regrown_of (same_none xa none xc 0 (Go.Sort.grow (redrawn w9 d) os)))
    have v0 := (blk5 eX).1
    have v1 := (blk5 eX).2.1
    have v2 := (blk5 eX).2.2.1
    have v3 := (blk5 eX).2.2.2.1
    have v4 := (blk5 eX).2.2.2.2.1
    have s0 := (blk5 eX).2.2.2.2.2.1
    have s1 := (blk5 eX).2.2.2.2.2.2.1
    have s2 := (blk5 eX).2.2.2.2.2.2.2.1
    have s3 := (blk5 eX).2.2.2.2.2.2.2.2.1
    have s4 := (blk5 eX).2.2.2.2.2.2.2.2.2
    have l0 := cell_regrown v0
    have l1 := cell_regrown v1
    have l2 := cell_regrown v2
    have l3 := cell_regrown v3
    have l4 := cell_regrown v4
    clear eX v0 v1 v2 v3 v4 s0 s1 s2 s3 s4
    refine wp_region_quiet_below (by kernel_rfl) (by kernel_rfl) ?_
    repeat (go_big_quiet_step (with_reducible first | exact HQ1.out _ _ | exact HQ2.out _ _ | exact HQ3.out _ _ | exact HQ4.out _ _))
    with_reducible refine wpQuiet_nil ?_
    intro wq hwq
    have hq := below_of_regrown hwq
    clear hwq
    repeat (first | go_values | go_skip | go_guarded | go_step | go_upon | go_quiet (fail))
    go_ret
    exact ⟨rfl, H9.out.2.2.2.1.trans (hq.mono H9.out.2.2.2.1.size)⟩

theorem PersPages_any (t : Tab) (a : Option Addr) (cap : Nat) (pa : Option Addr) (bs : List Int) (pc : Nat) (w : World) (hlen : t.ks.length ≤ 9223372036854775807) (hk : KeysIn w a t.ks) (hna : a = none → cap = 0)
   (hg0 : 0 ≤ t.g) (hg1 : t.g < 4294967296) (hbi : BytesIn w pa bs) (hby : Bytes bs) (hkk : ∀ r ∈ t.ks, 0 ≤ r.2 ∧ r.2 < 18446744073709551616) :
    Calls Try.prog 9 #[.agg #[.int .u32 t.g, .slice a t.ks.length cap, .int .i64 t.h, .int .i64 t.ty, .bool t.ap], .slice pa bs.length pc] w fun e w' => e = .returned (.bool true) ∧ Below w.heap.size w w' := by
  cases hs : rsoundF t.ks t.h t.ty
  · exact PersPages_bad t a cap pa bs pc w hlen hk hna hg0 hg1 hbi hby hkk hs
  · exact PersPages_good t a cap pa bs pc w hlen hk hna hg0 hg1 hbi hby hkk hs
end Go.Proofs.Ytopakonpfbbldaa
