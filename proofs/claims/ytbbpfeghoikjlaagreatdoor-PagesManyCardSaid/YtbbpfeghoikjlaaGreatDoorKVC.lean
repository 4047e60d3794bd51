/- However many transactions are made, each page has what was committed last; mounted again, too, and again. -/
import Derived.Test.YtbbpfeghoikjlaaGreatDoorKV9
import Derived.ChangeKeysEq
set_option linter.unusedSimpArgs false
set_option linter.unusedVariables false
set_option linter.unnecessarySimpa false
namespace Go.Proofs.YtbbpfeghoikjlaaGreatDoor
open Go.RowKit Go.Maps
theorem info_prs : (Tryz.prog.info? 34).map (·.size) = some 2 := by kernel_rfl
theorem info_now : (Tryz.prog.info? 33).map (·.size) = some 1792 := by kernel_rfl
theorem zc_now : Tryz.zeroCells33 = v8a (zer 1792) := by kernel_rfl
/-- Pairs of numbers in memory. -/
def PairsAt (w : World) (a : Option Addr) (len : Nat) (X Y : Nat → Int) : Prop := ∀ i, i < len → ∃ b off, a = some ⟨b, off, none⟩ ∧ b < w.heap.size ∧ w.rangeAt b (off + i * 2) [.int .i64 (X i), .int .i64 (Y i)]
theorem PairsAt.keeps {w w' : World} {a : Option Addr} {len : Nat} {X Y : Nat → Int} (h : PairsAt w a len X Y) (hk : Keeps (fun k => k < w.heap.size) w w') : PairsAt w' a len X Y := fun i hi => by
  obtain ⟨b, off, ha, hb, hc⟩ := h i hi
  refine ⟨b, off, ha, Nat.lt_of_lt_of_le hb hk.size, fun j v hv => ?_⟩
  have := hc j v hv
  unfold World.cell? at this ⊢
  rw [hk.block b hb hb]
  exact this
def pg3 (x y z : Int) : List Int := x :: y :: z :: zer 61
theorem pg3_ok {x y z : Int} (hx : 0 ≤ x ∧ x < 256) (hy : 0 ≤ y ∧ y < 256) (hz : 0 ≤ z ∧ z < 256) : PgOk (pg3 x y z) := ⟨rfl, fun u hu => by
  unfold pg3 at hu
  simp only [List.mem_cons] at hu
  rcases hu with rfl | rfl | rfl | hu
  · exact hx
  · exact hy
  · exact hz
  · exact zer_u8 61 u hu⟩
theorem pg3_tame (x y z : Int) : Tame (pg3 x y z) := .inr rfl
theorem built_pg3 (x y z : Int) : Tryz.prog.built 32 [(0, .int .u8 x), (1, .int .u8 y), (2, .int .u8 z)] = some (v8a (pg3 x y z)) := by kernel_rfl
theorem lit_pg3 (x y z : Int) : (#[.int .u8 x, .int .u8 y, .int .u8 z, .int .u8 0, .int .u8 0, .int .u8 0, .int .u8 0, .int .u8 0, .int .u8 0, .int .u8 0, .int .u8 0, .int .u8 0, .int .u8 0, .int .u8 0, .int .u8 0, .int .u8 0, .int .u8 0, .int .u8 0, .int .u8 0, .int .u8 0, .int .u8 0, .int .u8 0, .int .u8 0, .int .u8 0, .int .u8 0, .int .u8 0, .int .u8 0, .int .u8 0, .int .u8 0, .int .u8 0, .int .u8 0, .int .u8 0, .int .u8 0, .int .u8 0, .int .u8 0, .int .u8 0, .int .u8 0, .int .u8 0, .int .u8 0, .int .u8 0, .int .u8 0, .int .u8 0, .int .u8 0, .int .u8 0, .int .u8 0, .int .u8 0, .int .u8 0, .int .u8 0, .int .u8 0, .int .u8 0, .int .u8 0, .int .u8 0, .int .u8 0, .int .u8 0, .int .u8 0, .int .u8 0, .int .u8 0, .int .u8 0, .int .u8 0, .int .u8 0, .int .u8 0, .int .u8 0, .int .u8 0, .int .u8 0] : Array Value) = v8a (pg3 x y z) := by kernel_rfl
theorem heap_pg3 (w : World) (x y z : Int) : (w.alloc (.cells #[.int .u8 x, .int .u8 y, .int .u8 z, .int .u8 0, .int .u8 0, .int .u8 0, .int .u8 0, .int .u8 0, .int .u8 0, .int .u8 0, .int .u8 0, .int .u8 0, .int .u8 0, .int .u8 0, .int .u8 0, .int .u8 0, .int .u8 0, .int .u8 0, .int .u8 0, .int .u8 0, .int .u8 0, .int .u8 0, .int .u8 0, .int .u8 0, .int .u8 0, .int .u8 0, .int .u8 0, .int .u8 0, .int .u8 0, .int .u8 0, .int .u8 0, .int .u8 0, .int .u8 0, .int .u8 0, .int .u8 0, .int .u8 0, .int .u8 0, .int .u8 0, .int .u8 0, .int .u8 0, .int .u8 0, .int .u8 0, .int .u8 0, .int .u8 0, .int .u8 0, .int .u8 0, .int .u8 0, .int .u8 0, .int .u8 0, .int .u8 0, .int .u8 0, .int .u8 0, .int .u8 0, .int .u8 0, .int .u8 0, .int .u8 0, .int .u8 0, .int .u8 0, .int .u8 0, .int .u8 0, .int .u8 0, .int .u8 0, .int .u8 0, .int .u8 0] 32)).heap[w.heap.size]? = some (.cells (v8a (pg3 x y z)) 32) := by
  rw [lit_pg3]
  exact heap_alloc_new _ _
theorem wrap_u8 (x : Int) : 0 ≤ IntKind.u8.wrap x ∧ IntKind.u8.wrap x < 256 := by
  simp [IntKind.wrap, IntKind.bits, IntKind.signed]
  omega
theorem run_isAgg_pg (w : World) : (isAgg 32).run Tryz.prog w = .ok true w := by kernel_rfl
theorem index_now (NL : List (List Int)) (hl : NL.length = 28) (hp : ∀ p ∈ NL, PgOk p) (i : Nat) (hi : i < 28) (w : World) : (Instr.index 33 (.agg (v8 NL.flatten).toArray) (.int .i64 (i : Int))).run Tryz.prog w = .ok (.agg (v8a (NL.getD i []))) w := by
  obtain ⟨ip, hip, hsz⟩ := info_pg_ex
  have hsz2 : (sizeOf 32).run Tryz.prog w = .ok 64 w := by kernel_rfl
  have hx : (v8 NL.flatten).toArray.extract (i * 64) (i * 64 + 64) = v8a (NL.getD i []) := by
    apply Array.ext'
    apply List.ext_getElem?
    intro j
    have hg : NL.getD i [] = NL[i] := by simp [List.getD, hl, hi]
    have h64 : NL[i].length = 64 := (hp _ (List.getElem_mem (by omega))).1
    rw [hg]
    by_cases hj : j < 64
    · have h1 := pgs_get NL i j (fun p hq => (hp p hq).1) hj
      rw [List.getElem?_eq_getElem (by omega : i < NL.length)] at h1
      have h2 : NL.flatten[i * 64 + j]? = NL[i][j]? := h1
      have h3 : (v8 NL.flatten)[i * 64 + j]? = (v8 NL[i])[j]? := by
        unfold v8
        rw [List.getElem?_map, List.getElem?_map, h2]
      have h4 : i * 64 + j < (v8 NL.flatten).length := by
        have : (v8 NL[i])[j]? ≠ none := by
          rw [List.getElem?_eq_getElem (by rw [v8_length, h64]; omega)]; simp
        rw [← h3] at this
        exact Nat.lt_of_not_le (fun h => this (List.getElem?_eq_none h))
      simp [v8a, hj, h3]
    · rw [List.getElem?_eq_none (by simp; omega), List.getElem?_eq_none (by simp [v8a, v8, h64]; omega)]
  have e0 : (0 : Int) ≤ (i : Int) := by omega
  have e1 : (i : Int) < ((28 : Nat) : Int) := by omega
  unfold Instr.index
  simp only [asIntOf, Sem.run_bind, Sem.run_pure, Result.andThen_ok, run_underlying Tryz.underlying33, e0, e1, and_self, if_true, hsz2, part, run_isAgg_pg, Int.toNat_natCast, hx]
theorem page_neq_g2 {ops : Array Oper} {rest : List Oper} {o : Oper} {a : Act} {w : World} {Q : Exit → Act → World → Prop} (hw : Region.wanted o (yielded ops a.tmps) = true) (x y : Operand) (t2 : TypeId) (ho : o.op = .binOp .neq 32 x y t2) (p q : List Int) (hx : a.eval x = .agg (v8a p)) (hy : a.eval y = .agg (v8a q)) (hp : p.length = 64) (hq : q.length = 64)
    (h : wpList Tryz.prog ops Q rest (a.put o.dst (.bool (!decide (p = q)))) w) : wpList Tryz.prog ops Q (o :: rest) a w := by
  have hn : (binOp .neq 32 (.agg (v8a p)) (.agg (v8a q))).run Tryz.prog w = .ok (.bool (!decide (p = q))) w := by
    have h := pg_eql w p q hp hq
    unfold v8a at h ⊢
    rw [run_eql_struct w] at h
    rw [run_neq_struct w]
    generalize (Op.equalIn 10000 32 (.agg _) (.agg _)).run Tryz.prog w = r at h ⊢
    cases r with
    | ok b w' =>
      simp only [Result.andThen_ok, Result.ok.injEq, Value.bool.injEq] at h ⊢
      exact ⟨by rw [h.1], h.2⟩
    | halt x w' => simp [Result.andThen] at h
  refine wpList_step fun K hK => ?_
  rw [if_pos hw]
  unfold Oper.wp execOp
  simp only [ho, hx, hy, Sem.run_bind, run_eqGuard_agg w .neq _ x y (v8a p) (v8a q) guard_pg, hn, Result.andThen_ok]
  exact hK _ _ h
/-- A book, and what is thought of it. -/
def MnB (N : Nat → Prop) (bb b9 db c : Nat) (wx : World) : Prop :=
  ∃ (B : BookS) (NL : List (List Int)), BookI wx bb N B ∧ GdS B 100 28 130 c db ∧ B.opn = none ∧ NL.length = 28 ∧ (∀ p ∈ NL, PgOk p) ∧ (∀ i, i < 28 → B.base i = NL.getD i []) ∧ wx.heap[b9]? = some (.cells (v8a NL.flatten) 33)
theorem MnB.below {N : Nat → Prop} {bb b9 db c : Nat} {w w' : World} (h : MnB N bb b9 db c w) (hb : Below w.heap.size w w') : MnB N bb b9 db c w' := by
  obtain ⟨B, NL, h1, h2, h3, h4, h5, h6, h7⟩ := h
  exact ⟨B, NL, h1.below hb, h2, h3, h4, h5, h6, (hb.block _ (lt_of_blk h7)).trans h7⟩
theorem MnB.add {N : Nat → Prop} {bb b9 db c : Nat} {w w' : World} (h : MnB N bb b9 db c w) (hb : Below w.heap.size w w') (b14 : Nat) (h1 : w.heap.size ≤ b14) (h2 : b14 < w'.heap.size) : MnB (fun k => N k ∨ k = b14) bb b9 db c w' := by
  obtain ⟨B, NL, h3, r1, r2, r3, r4, r5, h7⟩ := h
  refine ⟨B, NL, h3.keep hb (fun i hi => ?_), r1, r2, r3, r4, r5, (hb.block _ (lt_of_blk h7)).trans h7⟩
  rcases hi with hi | hi
  · have : i < w.heap.size := by
      obtain ⟨_, _, _, _, hX⟩ := h3
      exact hX.N_lt i hi
    exact ⟨Nat.lt_of_lt_of_le this hb.size, .inl hi⟩
  · rw [hi]; exact ⟨h2, .inr h1⟩
theorem BookI.less {w : World} {bb : Nat} {N N' : Nat → Prop} {B : BookS} (h : BookI w bb N B) (hn : ∀ k, N' k → N k) : BookI w bb N' B := by
  obtain ⟨db, rb, nb, ov, hX⟩ := h
  exact ⟨db, rb, nb, ov, hX.drop hn⟩
/-- The same, where nothing waits to be flushed. -/
def MnD (N : Nat → Prop) (bb b9 db c : Nat) (wx : World) : Prop :=
  ∃ (B : BookS) (NL : List (List Int)), BookI wx bb N B ∧ GdS B 100 28 130 c db ∧ B.opn = none ∧ B.disk.cache = [] ∧ NL.length = 28 ∧ (∀ p ∈ NL, PgOk p) ∧ (∀ i, i < 28 → B.base i = NL.getD i []) ∧ wx.heap[b9]? = some (.cells (v8a NL.flatten) 33)
theorem set_getD (NL : List (List Int)) (i j : Nat) (p : List Int) (hi : i < NL.length) : (NL.set i p).getD j [] = if j = i then p else NL.getD j [] := by
  by_cases e : j = i
  · subst e
    rw [if_pos rfl]
    simp [List.getD, hi]
  · rw [if_neg e]
    simp [List.getD, List.getElem?_set_ne (fun h => e h.symm)]
theorem opn_cnt {B : BookS} (h : B.opn = none) : B.cnt = 0 := by
  unfold BookS.cnt BookS.f
  rw [h]
  show (keysF (fun _ => none) _).length = 0
  rw [keysF_none]; rfl
theorem opn_f {B : BookS} (h : B.opn = none) (i : Nat) : B.f i = none := by
  unfold BookS.f
  rw [h]; rfl
theorem now_set {w : World} {b9 : Nat} {NL : List (List Int)} {p : List Int} (h : w.heap[b9]? = some (.cells (v8a NL.flatten) 33)) (hl : ∀ q ∈ NL, PgOk q) (i : Nat) (hi : i < NL.length) (hp : PgOk p) :
    (w.setCells b9 (i * 64) (v8 p)).heap[b9]? = some (.cells (v8a (NL.set i p).flatten) 33) := by
  have hf := flat64 NL hl
  have h1 := setCells_row (cs := v8 NL.flatten) (vs := v8 p) (o := i * 64) h (by rw [v8_length, v8_length, hf, hp.1]; omega)
  rw [h1, flat_set NL i p (fun q hq => (hl q hq).1) hi hp.1]
  simp [v8a, v8, hp.1, List.map_take, List.map_drop]
theorem tmod_rg6 (n m : Int) (hm : 0 < m) : -m < n.tmod m ∧ n.tmod m < m := by
  rcases Int.le_total 0 n with h | h
  · rw [Int.tmod_eq_emod_of_nonneg h]
    have h1 := Int.emod_nonneg n (show m ≠ 0 by omega)
    have h2 := Int.emod_lt_of_pos n hm
    omega
  · have e : n.tmod m = -((-n).tmod m) := by rw [Int.neg_tmod]; simp
    rw [e, Int.tmod_eq_emod_of_nonneg (show 0 ≤ -n by omega)]
    have h1 := Int.emod_nonneg (-n) (show m ≠ 0 by omega)
    have h2 := Int.emod_lt_of_pos (-n) hm
    omega
end Go.Proofs.YtbbpfeghoikjlaaGreatDoor
set_option linter.unnecessarySimpa false
namespace Go.Proofs.YtbbpfeghoikjlaaGreatDoor
open Go.RowKit Go.Maps
set_option maxRecDepth 100000 in
set_option maxHeartbeats 8000000 in
theorem many06_any (a : Option Addr) (len cap : Nat) (X Y : Nat → Int) (hX : ∀ i, i < len → -9223372036854775808 ≤ X i ∧ X i < 9223372036854775808) (hlen : len ≤ maxLen) (times : Int) (w : World) (hPA : PairsAt w a len X Y) :
    Calls Tryz.prog 3 #[.slice a len cap, .int .i64 times] w fun e w' => e = .returned (.bool true) ∧ Below w.heap.size w w' := by
  have hST := stands06_any (fun k => k < w.heap.size) w (fun i hi => hi)
  have HPA := Lib.hid hPA
  have HX := Lib.hid hX
  have hml : len ≤ 9223372036854775807 := by unfold maxLen at hlen; omega
  clear hPA hX hlen
  go_enter Tryz.func3, Tryz.ntmps3
  go_wp2_with fail
  refine hST.mono ?_
  clear hST
  rintro e w1 ⟨rfl, hk1⟩
  have HK1 := Lib.hid hk1
  have hs1 := hk1.size
  clear hk1
  try dsimp only
  by_cases h60 : len > 60
  · have h60' : (len : Int) > 60 := by omega
    go_wp2_with fail
    go_ret
    exact ⟨rfl, HK1.out.below (Nat.le_refl _) (fun i hi => hi)⟩
  have h60' : ¬ ((len : Int) > 60) := by omega
  have hND := diskNew_any 130 (by decide) (fun k => k < w.heap.size) w1 (fun i hi => by omega)
  go_wp2_with fail
  refine hND.mono ?_
  clear hND
  rintro e w2 ⟨⟨db, rfl, hdb, hD⟩, hb2⟩
  have hMT := g_fresh 100 28 130 db (by decide) (by decide) (by decide) (by decide) (by decide) (fun k => k < w.heap.size) w2 (by omega) hD
  have HK2 : Hid (Keeps (fun k => k < w.heap.size) w w2) := Lib.hid (HK1.out.trans (Keeps.of_below hb2))
  have hs2 := hb2.size
  clear hD hb2 HK1
  try dsimp only
  go_wp2_with fail
  refine hMT.mono ?_
  clear hMT
  rintro e w3 ⟨⟨bb, rfl, hbb, hB, hG⟩, hk3⟩
  have HB3 := Lib.hid hB
  have HG3 := Lib.hid hG
  have HK3 : Hid (Keeps (fun k => k < w.heap.size) w w3) := Lib.hid (HK2.out.trans hk3)
  have hs3 := hk3.size
  clear hB hG hk3 HK2
  try dsimp only
  go_upto_region 10 with fail
  have hal : ∀ o : Obj, Below w3.heap.size w3 (w3.alloc o) := fun o => (Below.refl _ _).alloc (Nat.le_refl _) _
  refine gen_code (fun wx => Hid (MnB (fun k => k < w.heap.size ∨ k = w3.heap.size) bb w3.heap.size db 1 wx) ∧ Hid (Keeps (fun k => k < w.heap.size) w wx)) ⟨Lib.hid ⟨fr 100 28 130 db, List.replicate 28 (zer 64), HB3.out.keep (hal _) (fun i hi => by
      rcases hi with hi | hi
      · exact ⟨by simp; omega, .inl hi⟩
      · exact ⟨by simp; omega, .inr (by omega)⟩), HG3.out, rfl, List.length_replicate, fun p hp => by rw [(List.mem_replicate.1 hp).2]; exact zer_pg, fun i hi => by
      rw [fr_base 100 28 130 db (by decide) (by decide) (by decide) (by decide) i hi]
      rw [List.getD, List.getElem?_replicate, if_pos hi]; rfl, by
      rw [flat_zer]
      have h := heap_alloc_new w3 (.cells (v8a (zer 1792)) 33)
      rw [← zc_now] at h ⊢
      exact h⟩, Lib.hid (HK3.out.trans (Keeps.of_below (hal _)))⟩ ?_
  have hb9w : w.heap.size ≤ w3.heap.size := by omega
  clear hal HB3 HG3 HK3
  generalize w3.heap.size = b9 at hb9w ⊢
  rintro w4 ⟨HM4, HK4⟩
  try simp only [Act.put]
  have hm1 := tmod_rg6 times 4 (by decide)
  repeat ((fail_if_success (with_reducible refine stop_at 40 rfl ?_)); (first | go_values | go_skip | go_guarded | go_step | go_upon))
  obtain ⟨K, hK⟩ : ∃ K : Nat, times.tmod 4 % 4 + 1 = (K : Int) := ⟨(times.tmod 4 % 4 + 1).toNat, by omega⟩
  have hK4 : K ≤ 4 := by omega
  rw [show (times.tmod 4 + 4) % 4 = times.tmod 4 % 4 by omega, hK]
  generalize times.tmod 4 % 4 = q4 at *
  clear hm1 hK
  go_wp2_with fail
  go_loopw [40] (fun kv wr => ∃ k : Nat, kv = .int .i64 (k : Int) ∧ k ≤ K ∧ Hid (∃ c, c ≤ 1 + 60 * k ∧ MnB (fun k => k < w.heap.size ∨ k = b9) bb b9 db c wr) ∧ Hid (Keeps (fun k => k < w.heap.size) w wr)) (fun kv _ => 5 - (intOf kv).toNat)
  case atStart => exact ⟨0, rfl, by omega, Lib.hid ⟨1, by omega, HM4.out⟩, HK4⟩
  case round => as_aux_lemma =>
    clear HM4 HK4
    obtain ⟨k, rfl, hk, HM, HK⟩ := hrel
    have hk0 : (0 : Int) ≤ k := by omega
    by_cases hkK : k < K
    · have hk1 : (k : Int) < K := by omega
      go_wp2_with fail
      go_loopw [45] (fun jv wr => ∃ j : Nat, jv = .int .i64 (j : Int) ∧ j ≤ len ∧ Hid (∃ c, c ≤ 1 + 60 * k + j ∧ MnB (fun k => k < w.heap.size ∨ k = b9) bb b9 db c wr) ∧ Hid (Keeps (fun k => k < w.heap.size) w wr)) (fun jv _ => 61 - (intOf jv).toNat)
      case atStart => exact ⟨0, rfl, by omega, HM, HK⟩
      case round => as_aux_lemma =>
        clear HM HK
        obtain ⟨j, rfl, hj, HM, HK⟩ := hrel
        have hj0 : (0 : Int) ≤ j := by omega
        by_cases hjl : j < len
        · have hj1 : (j : Int) < len := by omega
          obtain ⟨pb, off, hpa, hpb, hrg⟩ := (HPA.out.keeps HK.out) j hjl
          subst hpa
          have HRG := Lib.hid hrg
          have hxr := HX.out j hjl
          generalize X j = x at HRG hxr
          generalize Y j = y at HRG
          clear hrg
          go_upto_region 16 with (first | (refine wpList_load_mid rfl 34 (.tmp 48) rfl pb (off + j * 2) rfl [.int .i64 x, .int .i64 y] _ HRG.out Tryz.underlying34 rfl info_prs ?_) | (refine wpList_store_row rfl 34 (.tmp 12) (.tmp 49) rfl wr.heap.size #[.int .i64 x, .int .i64 y] rfl rfl 34 #[.int .i64 0, .int .i64 0] (heap_alloc_new wr _) info_prs rfl (by simp [Value.oneCell']) ?_))
          have hbx : ∀ o : Obj, Below wr.heap.size wr ((wr.alloc o).setRow wr.heap.size #[.int .i64 x, .int .i64 y]) := fun o => below_setRow ((Below.refl _ _).alloc (Nat.le_refl _) _) (Nat.le_refl _) _
          refine gen_code (fun wx => Hid (wx.heap[wr.heap.size]? = some (.cells #[.int .i64 x, .int .i64 y] 34)) ∧ Hid (∃ c, c ≤ 1 + 60 * k + j ∧ MnB (fun k => k < w.heap.size ∨ k = b9) bb b9 db c wx) ∧ Hid (Keeps (fun k => k < w.heap.size) w wx)) ⟨Lib.hid (setRow_heap _ _ _ _ _ (0, 0) (heap_alloc_new wr _)), Lib.hid (by
            obtain ⟨c, hc, hm⟩ := HM.out
            exact ⟨c, hc, hm.below (hbx _)⟩), Lib.hid (HK.out.trans (Keeps.of_below (hbx _)))⟩ ?_
          clear hbx HM HK HRG
          generalize wr.heap.size = b12
          rintro w5 ⟨HP5, HM5, HK5⟩
          try simp only [Act.put]
          as_aux_lemma =>
          obtain ⟨c0, c1⟩ : w5.cell? ⟨b12, 0, none⟩ = some (.int .i64 x) ∧ w5.cell? ⟨b12, 1, none⟩ = some (.int .i64 y) := by
            constructor
            · rw [cell_of_row w5 b12 0 _ _ (0, 0) HP5.out]; rfl
            · rw [cell_of_row w5 b12 1 _ _ (0, 0) HP5.out]; rfl
          have hm2 := tmod_rg6 x 28 (by decide)
          repeat ((fail_if_success (with_reducible refine stop_at 13 rfl ?_)); (first | go_values | go_skip | go_guarded | go_step | go_upon))
          as_aux_lemma =>
          obtain ⟨i, hi⟩ : ∃ i : Nat, x.tmod 28 % 28 = (i : Int) := ⟨(x.tmod 28 % 28).toNat, by omega⟩
          have hi28 : i < 28 := by omega
          rw [show (x.tmod 28 + 28) % 28 = x.tmod 28 % 28 by omega, hi]
          generalize x.tmod 28 % 28 = q28 at *
          clear hm2 hi
          have HPO : Hid (PgOk (pg3 (y % 256) (j : Int) (k : Int)) ∧ Tame (pg3 (y % 256) (j : Int) (k : Int))) := Lib.hid ⟨pg3_ok ⟨Int.emod_nonneg _ (by decide), Int.emod_lt_of_pos _ (by decide)⟩ (by omega) (by omega), pg3_tame _ _ _⟩
          obtain ⟨pg, hpg⟩ : ∃ pg, pg3 (y % 256) (j : Int) (k : Int) = pg := ⟨_, rfl⟩
          have HBP : Hid (Tryz.prog.built 32 [(0, .int .u8 (y % 256)), (1, .int .u8 (j : Int)), (2, .int .u8 (k : Int))] = some (v8a pg)) := Lib.hid (by rw [← hpg]; exact built_pg3 _ _ _)
          rw [hpg] at HPO
          clear hpg
          have hp64 := HPO.out.1.1
          repeat ((fail_if_success (with_reducible refine stop_at 62 rfl ?_)); (first | go_values | go_skip | go_guarded | go_step | go_upon))
          refine wpList_build_to rfl 32 _ rfl (v8a pg) (by simp only [List.map_toArray, List.map_cons, List.map_nil]; exact HBP.out) ?_
          as_aux_lemma =>
          go_upto_region 18 with (refine page_store rfl (.tmp 14) (.tmp 62) rfl w5.heap.size pg (zer 64) rfl rfl (heap_alloc_new w5 _) hp64 rfl ?_)
          have hbx : ∀ o : Obj, Below w5.heap.size w5 ((w5.alloc o).setRow w5.heap.size (v8a pg)) := fun o => below_setRow ((Below.refl _ _).alloc (Nat.le_refl _) _) (Nat.le_refl _) _
          refine gen_code (fun wx => Hid (wx.heap[w5.heap.size]? = some (.cells (v8a pg) 32)) ∧ Hid (∃ c, c ≤ 1 + 60 * k + j ∧ MnB (fun q => (q < w.heap.size ∨ q = b9) ∨ q = w5.heap.size) bb b9 db c wx) ∧ Hid (Keeps (fun k => k < w.heap.size) w wx)) ⟨Lib.hid (setRow_heap _ _ _ _ _ (0, 0) (heap_alloc_new w5 _)), Lib.hid (by
            obtain ⟨c, hc, hm⟩ := HM5.out
            exact ⟨c, hc, hm.add (hbx _) _ (Nat.le_refl _) (by rw [setRow_size]; simp)⟩), Lib.hid (HK5.out.trans (Keeps.of_below (hbx _)))⟩ ?_
          clear hbx HM5 HK5 HP5 c0 c1 HBP
          generalize w5.heap.size = b14
          rintro w6 ⟨HP6, HM6, HK6⟩
          try simp only [Act.put]
          as_aux_lemma =>
          obtain ⟨c, hc, B, NL, hB, hG, ho, hl, hp, hbs, hnow⟩ := HM6.out
          have hWR := bookWrite_any bb _ B i pg (by rw [hG.n]; exact hi28) HPO.out.1 (.inr (.inr (by show B.cnt ≠ 60; rw [opn_cnt ho]; decide))) w6 hB
          clear HM6
          go_wp2_with (refine page_load rfl (.tmp 14) rfl b14 pg rfl HP6.out hp64 ?_)
          refine hWR.mono ?_
          clear hWR hB
          rintro e w7 ⟨rfl, hB7, hk7⟩
          have hG7 := hG.wrote i pg hB7.isOk
          have hcn : (B.wrote i pg).cnt ≤ 1 := by
            have := BookS.wrote_cnt B i pg (by rw [hG.n]; exact hi28)
            rw [opn_cnt ho] at this
            exact this
          have hCM := g_commit (B := B.wrote i pg) (k := c) (by omega) (by decide) (by omega) (fun q p hq => by
            rcases BookS.wrote_f B i pg q with h1 | ⟨_, h1⟩
            · rw [h1, opn_f ho] at hq; cases hq
            · rw [h1] at hq; cases hq; exact HPO.out.2) w7 hB7 hG7
          clear hB7
          try dsimp only
          go_wp2_with fail
          refine hCM.mono ?_
          clear hCM
          rintro e w8 ⟨rfl, hB8, hG8, hk8⟩
          have hkk := hk7.trans hk8
          have HP8 : Hid (w8.heap[b14]? = some (.cells (v8a pg) 32)) := Lib.hid (hkk.blk (.inr rfl) HP6.out)
          have hnow8 := hkk.blk (.inl (.inr rfl)) hnow
          have HK8 : Hid (Keeps (fun k => k < w.heap.size) w w8) := Lib.hid (HK6.out.trans (hkk.mono (fun q _ hq => .inl (.inl hq))))
          have hB8' := hB8.less (N' := fun q => q < w.heap.size ∨ q = b9) (fun q hq => .inl hq)
          have HB8 := Lib.hid hB8'
          have hbs8 : ∀ q, q < 28 → (B.wrote i pg).done.base q = (NL.set i pg).getD q [] := fun q hq => by
            rw [BookS.done_base_lim hG7.ok hG7.lim (by omega) q (by rw [hG7.n]; exact hq), BookS.wrote_view, set_getD NL i q pg (by rw [hl]; exact hi28)]
            by_cases e : q = i
            · rw [if_pos e, if_pos e]
            · rw [if_neg e, if_neg e, BookS.base_view ho]; exact hbs q hq
          have HTH : Hid (w8.there b9 (i * 64) 64) := Lib.hid (blk_there hnow8 (by unfold v8a; rw [List.size_toArray, v8_length, flat64 NL hp, hl]; omega))
          have HN9 := Lib.hid (now_set hnow8 hp i (by rw [hl]; exact hi28) HPO.out.1)
          have hi0 : (0 : Int) ≤ i := by omega
          have hi28' : (i : Int) < 28 := by omega
          clear hkk hk7 hk8 hB8 hB8' HP6 HK6 hnow8 hcn
          try dsimp only
          as_aux_lemma =>
          go_wp2_with (first | (refine page_load rfl (.tmp 14) rfl b14 pg rfl HP8.out hp64 ?_) | (refine wpList_store_mid rfl 32 (.tmp 75) (.tmp 74) rfl b9 (i * 64) (v8a pg) rfl rfl ?t1 ?t2 (v8a_one pg) ?_))
          case t1 => rw [pgsz hp64]; exact HTH.out
          case t2 => exact info_at hp64
          have hgw : w8.grownBy (w8.setCells b9 (i * 64) (v8a pg).toList) (some b9) := setCells_grown _ _ _ _
          have hkw : Keeps (fun q => q ≠ b9) w8 (w8.setCells b9 (i * 64) (v8a pg).toList) := Keeps.of_grown hgw (fun q hq e => by cases hq; exact e rfl)
          refine ⟨⟨j + 1, by push_cast; rfl, by omega, Lib.hid ⟨c + 1, by omega, (B.wrote i pg).done, NL.set i pg, ?_, hG8, BookS.done_opn _, by rw [List.length_set]; exact hl, fun q hq => ?_, hbs8, HN9.out⟩, Lib.hid (HK8.out.trans (hkw.mono (fun q hq e => by omega)))⟩, by simp [intOf]; omega⟩
          · obtain ⟨db', rb, nb, ov, hX⟩ := HB8.out
            exact ⟨db', rb, nb, ov, hX.frame (hkw.mono (fun q _ hq e => hq (.inr e)))⟩
          · rcases List.mem_or_eq_of_mem_set hq with hq | rfl
            · exact hp q hq
            · exact HPO.out.1
        · have hje : j = len := by omega
          have hj1 : ¬ ((j : Int) < len) := by omega
          go_wp2_with fail
          refine ⟨⟨k + 1, by push_cast; rfl, by omega, Lib.hid ?_, HK⟩, by simp [intOf]; omega⟩
          obtain ⟨c, hc, hm⟩ := HM.out
          exact ⟨c, by omega, hm⟩
    · have hk1 : ¬ ((k : Int) < K) := by omega
      obtain ⟨c, hc, B, NL, hB, hG, ho, hl, hp, hbs, hnow⟩ := HM.out
      have hSY := g_sync wr hB hG
      clear HM
      go_wp2_with fail
      refine hSY.mono ?_
      clear hSY hB
      rintro e w5 ⟨rfl, hB5, hG5, hk5⟩
      have HM5 : Hid (MnD (fun k => k < w.heap.size ∨ k = b9) bb b9 db c w5) := Lib.hid ⟨B.synced, NL, hB5, hG5, ho, rfl, hl, hp, fun i hi => by rw [BookS.synced_base hG.ok i (by rw [hG.n]; exact hi)]; exact hbs i hi, hk5.blk (.inr rfl) hnow⟩
      have HK5 : Hid (Keeps (fun k => k < w.heap.size) w w5) := Lib.hid (HK.out.trans (hk5.mono (fun k _ hk => .inl hk)))
      have hc300 : c ≤ 300 := by omega
      clear hB5 hG5 hk5 hG ho hl hp hbs hnow HK hc
      try dsimp only
      go_wp2_with fail
      go_loopw [5, 7, 81] (fun dv bv iv wr => ∃ i db bb c : Nat, dv = .pointer (some ⟨db, 0, none⟩) ∧ bv = .pointer (some ⟨bb, 0, none⟩) ∧ iv = .int .i64 (i : Int) ∧ i ≤ 3 ∧ c ≤ 300 + i ∧ Hid (MnD (fun k => k < w.heap.size ∨ k = b9) bb b9 db c wr) ∧ Hid (Keeps (fun k => k < w.heap.size) w wr)) (fun _ _ iv _ => 4 - (intOf iv).toNat)
      case atStart => exact ⟨0, db, bb, c, rfl, rfl, rfl, by omega, by omega, HM5, HK5⟩
      case round => as_aux_lemma =>
        clear HM5 HK5 hc300
        clear c
        obtain ⟨i, db, bb, c, rfl, rfl, rfl, hi, hc, HM, HK⟩ := hrel
        have hi0 : (0 : Int) ≤ i := by omega
        by_cases hi3 : i < 3
        · have hi1 : (i : Int) < 3 := by omega
          obtain ⟨w9, hw9⟩ : ∃ w9, w9 = wr := ⟨_, rfl⟩
          subst hw9
          obtain ⟨B, NL, hB, hG, ho, hca, hl, hp, hbs, hnow⟩ := HM.out
          have HNW := Lib.hid hnow
          have HB := Lib.hid hB
          have HBS := Lib.hid hbs
          have HP := Lib.hid hp
          have hsz : (v8 NL.flatten).length = 1792 := by rw [v8_length, flat64 NL hp, hl]
          have hBn : B.n = 28 := hG.n
          have HRD := Lib.hid (fun wx (hx : BookI wx bb (fun k => k < w.heap.size ∨ k = b9) B) (j : Nat) (hj : j < 28) => (by
            have h := bookRead_any bb _ B j (by rw [hBn]; exact hj) wx hx
            rw [BookS.base_view ho, hbs j hj] at h
            exact h : Calls Tryz.prog 15 #[.pointer (some ⟨bb, 0, none⟩), .int .i64 (j : Int)] wx fun e w' => e = .returned (.tuple #[.agg (v8a (NL.getD j [])), .nilIface]) ∧ Below wx.heap.size wx w'))
          have HGD := Lib.hid hG
          have HCA := Lib.hid hca
          have HOP := Lib.hid ho
          clear hB hG hca hbs hnow ho HM hBn
          go_wp2_with (refine wpList_load_mid rfl 33 (.tmp 9) rfl b9 0 rfl (v8 NL.flatten) _ (row_range HNW.out) Tryz.underlying33 rfl (by rw [hsz]; exact info_now) ?_)
          go_loopw [84] (fun jv wx => ∃ j : Nat, jv = .int .i64 (j : Int) ∧ j ≤ 28 ∧ Hid (Below w9.heap.size w9 wx)) (fun jv _ => 29 - (intOf jv).toNat)
          case atStart => exact ⟨0, rfl, by omega, Lib.hid (Below.refl _ _)⟩
          case round => as_aux_lemma =>
            obtain ⟨j, rfl, hj, HBW⟩ := hrel
            have hj0 : (0 : Int) ≤ j := by omega
            by_cases hjt : j < 28
            · have hj1 : (j : Int) < 28 := by omega
              have hidx := index_now NL hl HP.out j hjt
              have hRD := HRD.out
              obtain ⟨pg, hpg⟩ : ∃ pg, NL.getD j [] = pg := ⟨_, rfl⟩
              have hp64 : pg.length = 64 := by
                rw [← hpg, show NL.getD j [] = NL[j]'(by omega) by simp [List.getD, hl, hjt]]
                exact (HP.out _ (List.getElem_mem _)).1
              rw [hpg] at hidx
              have hRD1 : ∀ wx, BookI wx bb (fun k => k < w.heap.size ∨ k = b9) B → Calls Tryz.prog 15 #[.pointer (some ⟨bb, 0, none⟩), .int .i64 (j : Int)] wx fun e w' => e = .returned (.tuple #[.agg (v8a pg), .nilIface]) ∧ Below wx.heap.size wx w' := fun wx hx => by
                have h := hRD wx hx j hjt
                rw [hpg] at h
                exact h
              have HRD1 := Lib.hid hRD1
              clear hRD hRD1 hpg
              go_upto_region 30 with (refine page_store rfl (.tmp 16) (.tmp 87) rfl wr.heap.size pg (zer 64) rfl rfl (heap_alloc_new wr _) hp64 rfl ?_)
              have hbx : ∀ o : Obj, Below wr.heap.size wr ((wr.alloc o).setRow wr.heap.size (v8a pg)) := fun o => below_setRow ((Below.refl _ _).alloc (Nat.le_refl _) _) (Nat.le_refl _) _
              refine gen_code (fun wx => Hid (wx.heap[wr.heap.size]? = some (.cells (v8a pg) 32)) ∧ Hid (Below w9.heap.size w9 wx)) ⟨Lib.hid (setRow_heap _ _ _ _ _ (0, 0) (heap_alloc_new wr _)), Lib.hid (HBW.out.trans ((hbx _).mono HBW.out.size))⟩ ?_
              clear hbx HBW
              generalize wr.heap.size = b16
              rintro w10 ⟨HP16, HB10⟩
              try simp only [Act.put]
              clear hidx
              go_wp2_with fail
              refine (HRD1.out w10 (HB.out.below HB10.out)).mono ?_
              clear HRD1
              rintro e w11 ⟨rfl, hb11⟩
              have HP11 : Hid (w11.heap[b16]? = some (.cells (v8a pg) 32)) := Lib.hid ((hb11.block _ (lt_of_blk HP16.out)).trans HP16.out)
              have HB11 : Hid (Below w9.heap.size w9 w11) := Lib.hid (HB10.out.trans (hb11.mono HB10.out.size))
              clear hb11 HP16 HB10
              try dsimp only
              go_upto_region 31 with (refine page_store rfl (.tmp 17) (.tmp 92) rfl w11.heap.size pg (zer 64) rfl rfl (heap_alloc_new w11 _) hp64 rfl ?_)
              have hbx : ∀ o : Obj, Below w11.heap.size w11 ((w11.alloc o).setRow w11.heap.size (v8a pg)) := fun o => below_setRow ((Below.refl _ _).alloc (Nat.le_refl _) _) (Nat.le_refl _) _
              refine gen_code (fun wx => Hid (wx.heap[w11.heap.size]? = some (.cells (v8a pg) 32)) ∧ Hid (wx.heap[b16]? = some (.cells (v8a pg) 32)) ∧ Hid (Below w9.heap.size w9 wx)) ⟨Lib.hid (setRow_heap _ _ _ _ _ (0, 0) (heap_alloc_new w11 _)), Lib.hid (((hbx _).block _ (lt_of_blk HP11.out)).trans HP11.out), Lib.hid (HB11.out.trans ((hbx _).mono HB11.out.size))⟩ ?_
              clear hbx HB11 HP11
              generalize w11.heap.size = b17
              rintro w12 ⟨HP17, HP16, HB12⟩
              try simp only [Act.put]
              have hdd : (!decide (pg = pg)) = false := by simp
              go_wp2_with (first | (refine page_neq_g2 rfl (.tmp 97) (.tmp 98) _ rfl pg pg rfl rfl hp64 hp64 ?_; rw [hdd]) | (refine page_load_g2 rfl (.tmp 16) rfl b16 pg rfl HP16.out hp64 ?_) | (refine page_load_g2 rfl (.tmp 17) rfl b17 pg rfl HP17.out hp64 ?_))
              exact ⟨⟨j + 1, by push_cast; rfl, by omega, HB12⟩, by simp [intOf]; omega⟩
            · obtain rfl : j = 28 := by omega
              have hCR := g_crash wr (HB.out.below HBW.out) HGD.out HCA.out
              go_wp2_with fail
              refine hCR.mono ?_
              clear hCR
              rintro e w10 ⟨⟨eb, rfl, heb, hD⟩, hb10⟩
              have hs9 := HBW.out.size
              have hNl : ∀ q, (q < w.heap.size ∨ q = b9) → q < w9.heap.size := fun q hq => by
                rcases hq with hq | hq
                · have := HK.out.size; omega
                · rw [hq]; exact lt_of_blk HNW.out
              have hb910 : Below w9.heap.size w9 w10 := HBW.out.trans (hb10.mono hs9)
              have hs10 := hb10.size
              have hMT := g_mount (N := fun q => q < w.heap.size ∨ q = b9) (n := 28) (S := 130) (size := 100) (by omega) (by decide) w10 (fun hq => by have := hNl eb hq; omega) (hD.keep (Below.refl _ _) (fun q hq => ⟨by have := hNl q hq; omega, .inl (by have := hNl q hq; omega)⟩)) HGD.out HOP.out
              try dsimp only
              go_wp2_with fail
              refine hMT.mono ?_
              clear hMT hD
              rintro e w11 ⟨⟨bb2, rfl, _, hB11, hG11⟩, hk11⟩
              have HM11 : Hid (MnD (fun q => q < w.heap.size ∨ q = b9) bb2 b9 eb (c + 1) w11) := Lib.hid ⟨(B.moved eb).homed, NL, hB11, hG11, HOP.out, rfl, hl, HP.out, fun q hq => by rw [g_mount_base HGD.out eb q hq]; exact HBS.out q hq, hk11.blk (.inr rfl) ((hb910.block _ (lt_of_blk HNW.out)).trans HNW.out)⟩
              have HK11 : Hid (Keeps (fun q => q < w.heap.size) w w11) := Lib.hid (HK.out.trans ((Keeps.of_below hb910).trans (hk11.mono (fun q _ hq => .inl hq))))
              clear hB11 hG11 hk11 hNl hb10
              try dsimp only
              go_wp2_with fail
              skip
              exact ⟨⟨i + 1, eb, bb2, c + 1, rfl, rfl, by push_cast; rfl, by omega, by omega, HM11, HK11⟩, by simp [intOf]; omega⟩
        · obtain rfl : i = 3 := by omega
          go_wp2_with fail
          go_ret
          exact ⟨rfl, HK.out.below (Nat.le_refl _) (fun i hi => hi)⟩
end Go.Proofs.YtbbpfeghoikjlaaGreatDoor
