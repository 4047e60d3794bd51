/- A ring: a number is read out of a page. -/
import Derived.Test.YtajmcplanlibnaaGreatDoorKYQ1
import Derived.Test.YtajmcplanlibnaaGreatDoorKYQ6
set_option linter.unusedSimpArgs false
set_option linter.unusedVariables false
set_option linter.unnecessarySimpa false
namespace Go.Proofs.YtajmcplanlibnaaGreatDoor
open Go.RowKit Go.Maps
set_option maxRecDepth 100000 in
set_option maxHeartbeats 2000000 in
theorem rget_any (p : List Int) (hp : PgOk p) (a n : Nat) (hn : n ≤ 8) (ha : a + n ≤ 64) (w : World) :
    Calls Tryz.prog 190 #[.agg (v8a p), .int .i64 (a : Int), .int .i64 (n : Int)] w fun e w' => e = .returned (.int .u64 (getR p a n)) ∧ Below w.heap.size w w' := by
  have HP := hZ hp
  have hpl := hp.1
  have n0 : (0 : Int) ≤ n := by omega
  have n8 : (n : Int) ≤ 8 := by omega
  have a0 : (0 : Int) ≤ a := by omega
  have a1 : (a : Int) + n ≤ 64 := by omega
  clear hp
  go_enter Tryz.func190, Tryz.ntmps190
  repeat ((fail_if_success (with_reducible refine Kz1 6 rfl ?_)); (first | go_values | go_skip | go_guarded | go_step | go_upon))
  refine Xz0 (fun wx => Hid (wx.heap[w.heap.size]? = some (.cells (v8a p) 37) ∧ Below w.heap.size w wx)) (hZ ⟨heap_alloc_new w (.cells (v8a p) 37), bZ⟩) ?_
  intro w1 H1
  go_wp2_with fail
  go_loopw [7, 10] (fun xv iv wr => ∃ (i : Nat) (x : Int), iv = .int .i64 (i : Int) ∧ xv = .int .u64 x ∧ i ≤ n ∧ Hid (x = getR p a i) ∧ Hid (wr.heap[w.heap.size]? = some (.cells (v8a p) 37) ∧ Below w.heap.size w wr)) (fun _ iv _ => n - (intOf iv).toNat)
  case atStart => exact ⟨0, 0, rfl, rfl, by omega, hZ rfl, H1⟩
  case round =>
    obtain ⟨i, x, rfl, rfl, hi, HX, H⟩ := hrel
    by_cases hlt : i < n
    · have i0 : (0 : Int) ≤ i := by omega
      have i1 : (i : Int) < n := by omega
      obtain ⟨c0, f0⟩ := Qz6 H.out.1 (a + i) (by omega)
      have g1 := HP.out.2.at (a + i)
      have hxl : 0 ≤ x ∧ x < 2 ^ (8 * i) := by rw [HX.out]; exact getR_lt HP.out.2 a i
      have HN1 : Hid (bits BinOp.or IntKind.u64 x (IntKind.u64.wrap (p.getD (a + i) 0 * 2 ^ (8 * i))) = getR p a (i + 1)) := hZ (by rw [bits_or_shl _ _ i (by omega) hxl g1, HX.out]; rfl)
      clear hxl
      generalize p.getD (a + i) 0 = x1 at c0 g1 HN1
      obtain ⟨g1a, g1b⟩ := g1
      go_wp2_with fail
      exact ⟨⟨i + 1, _, by push_cast; rfl, rfl, by omega, HN1, H⟩, by simp [intOf]; omega⟩
    · have hin : i = n := by omega
      have hi1 : ¬ ((i : Int) < n) := by omega
      go_wp2_with fail
      go_ret
      exact ⟨by rw [HX.out, hin]; rfl, H.out.2⟩
open Go.RowKit Go.Maps
theorem HashD.keeps {w w' : World} {hb : Nat} {N : Nat → Prop} {d : List Int} (H : HashD w hb N d) (hk : Keeps (fun k => ¬ N k) w w') : HashD w' hb N d := by
  obtain ⟨⟨rv, h1, h2, h3, h4, h5, h6⟩, r⟩ := H
  exact ⟨⟨rv, hk.blk h4 h1, hk.own h2 (fun k e => h3 k e), h3, h4, fun i hi => Nat.lt_of_lt_of_le (h5 i hi) hk.size, h6⟩, r⟩
theorem hashD_lt {w : World} {hb : Nat} {N : Nat → Prop} {d : List Int} (H : HashD w hb N d) : ∀ i, N i → i < w.heap.size := by
  obtain ⟨⟨rv, h1, h2, h3, h4, h5, h6⟩, r⟩ := H
  exact h5
theorem hashD_blk {w : World} {hb : Nat} {N : Nat → Prop} {d : List Int} (H : HashD w hb N d) : hb < w.heap.size := H.1.lt
theorem rep_flat_get {α : Type} (l : List α) : ∀ (n i : Nat), i < n * l.length → (List.replicate n l).flatten[i]? = l[i % l.length]?
  | 0, i, h => by simp at h
  | n + 1, i, h => by
    rw [List.replicate_succ, List.flatten_cons]
    by_cases hi : i < l.length
    · rw [List.getElem?_append_left hi, Nat.mod_eq_of_lt hi]
    · rw [List.getElem?_append_right (by omega), rep_flat_get l n (i - l.length) (by rw [Nat.succ_mul] at h; omega), ← Nat.mod_eq_sub_mod (by omega)]
theorem made_flat (l : List Value) (n : Nat) (hm : 0 < l.length) : madeCells l.toArray (n * l.length) = (List.replicate n l).flatten.toArray := by
  apply Array.ext'
  simp only [madeCells, Array.toList_map, Array.toList_range]
  apply List.ext_getElem?
  intro i
  by_cases hi : i < n * l.length
  · rw [rep_flat_get l n i hi]
    have : i % l.length < l.length := Nat.mod_lt _ hm
    simp [hi, this]
  · rw [List.getElem?_eq_none (by simp; omega), List.getElem?_eq_none (by simp; omega)]
theorem flatC_rep (n : Nat) (x : Nat × List Int) : (List.replicate n (.int .i64 (x.1 : Int) :: v8 x.2)).flatten = flatC (List.replicate n x) := by
  induction n with
  | zero => rfl
  | succ n ih => rw [List.replicate_succ, List.replicate_succ, List.flatten_cons, ih]; rfl
def stC (L : List (Nat × List Int)) (a b : Nat) : List (Nat × List Int) := (List.range L.length).map fun t => (if t < a then (L.getD t (0, [])).1 else 0, if t < b then (L.getD t (0, [])).2 else zer 64)
theorem Zz9 (L : List (Nat × List Int)) (a b : Nat) : (stC L a b).length = L.length := by simp [stC]
theorem stC_zero (L : List (Nat × List Int)) : stC L 0 0 = List.replicate L.length (0, zer 64) := by
  apply List.ext_getElem?
  intro i
  by_cases h : i < L.length
  · simp [stC, h]
  · simp [stC, h]
theorem stC_all (L : List (Nat × List Int)) : stC L L.length L.length = L := by
  apply List.ext_getElem?
  intro i
  by_cases h : i < L.length
  · simp [stC, h, List.getD]
  · simp [stC, h]
theorem stC_ge (L : List (Nat × List Int)) {a b : Nat} (h : L.length ≤ a) : stC L a b = stC L L.length b := by
  unfold stC
  apply List.map_congr_left
  intro t ht
  have := List.mem_range.1 ht
  rw [if_pos (show t < a by omega), if_pos (show t < L.length by omega)]
theorem stC_pages {L : List (Nat × List Int)} (hL : ∀ x ∈ L, PgOk x.2) (a b : Nat) : ∀ x ∈ stC L a b, x.2.length = 64 := fun x hx => by
  unfold stC at hx
  obtain ⟨t, ht, rfl⟩ := List.mem_map.1 hx
  have := List.mem_range.1 ht
  simp only
  split
  · rw [show L.getD t (0, []) = L[t] by simp [List.getD, this]]
    exact (hL _ (List.getElem_mem this)).1
  · simp [zer]
theorem stC_get {L : List (Nat × List Int)} (a b t : Nat) (ht : t < L.length) : (stC L a b)[t]? = some (if t < a then (L.getD t (0, [])).1 else 0, if t < b then (L.getD t (0, [])).2 else zer 64) := by
  simp [stC, ht]
theorem stC_at (L : List (Nat × List Int)) (a b : Nat) (ha : a < L.length) : stC L (a + 1) b = (stC L a b).set a ((L.getD a (0, [])).1, ((stC L a b).getD a (0, [])).2) := by
  apply List.ext_getElem?
  intro i
  by_cases h : i < L.length
  · rw [stC_get _ _ _ h]
    by_cases e : a = i
    · subst e
      have hg : (stC L a b).getD a (0, []) = (if a < a then (L.getD a (0, [])).1 else 0, if a < b then (L.getD a (0, [])).2 else zer 64) := by rw [List.getD, stC_get _ _ _ h]; rfl
      rw [List.getElem?_set_self (by rw [Zz9]; exact h), hg]
      simp
    · rw [List.getElem?_set_ne e, stC_get _ _ _ h]
      by_cases e2 : i < a
      · rw [if_pos (by omega), if_pos e2]
      · rw [if_neg (by omega), if_neg e2]
  · rw [List.getElem?_eq_none (by rw [Zz9]; omega), List.getElem?_eq_none (by rw [List.length_set, Zz9]; omega)]
theorem stC_pg (L : List (Nat × List Int)) (a b : Nat) (hb : b < L.length) : stC L a (b + 1) = (stC L a b).set b (((stC L a b).getD b (0, [])).1, (L.getD b (0, [])).2) := by
  apply List.ext_getElem?
  intro i
  by_cases h : i < L.length
  · rw [stC_get _ _ _ h]
    by_cases e : b = i
    · subst e
      have hg : (stC L a b).getD b (0, []) = (if b < a then (L.getD b (0, [])).1 else 0, if b < b then (L.getD b (0, [])).2 else zer 64) := by rw [List.getD, stC_get _ _ _ h]; rfl
      rw [List.getElem?_set_self (by rw [Zz9]; exact h), hg]
      simp
    · rw [List.getElem?_set_ne e, stC_get _ _ _ h]
      by_cases e2 : i < b
      · rw [if_pos (show i < b + 1 by omega), if_pos e2]
      · rw [if_neg (show ¬ i < b + 1 by omega), if_neg e2]
  · rw [List.getElem?_eq_none (by rw [Zz9]; omega), List.getElem?_eq_none (by rw [List.length_set, Zz9]; omega)]
theorem flatC_len : ∀ c : List (Nat × List Int), (∀ x ∈ c, x.2.length = 64) → (flatC c).length = c.length * 65
  | [], _ => rfl
  | x :: c, h => by
    have e : flatC (x :: c) = .int .i64 (x.1 : Int) :: (v8 x.2 ++ flatC c) := rfl
    rw [e, List.length_cons, List.length_append, flatC_len c (fun y hy => h y (by simp [hy])), Wz0, h x (by simp), List.length_cons]
    omega
theorem flatC_setAt (v : Nat) : ∀ (c : List (Nat × List Int)) (t : Nat), (∀ x ∈ c, x.2.length = 64) → (flatC c).set (t * 65) (.int .i64 (v : Int)) = flatC (c.set t (v, (c.getD t (0, [])).2))
  | [], t, _ => by simp [flatC]
  | x :: c, 0, _ => rfl
  | x :: c, t + 1, h => by
    have hx := h x (by simp)
    have hl : (v8 x.2).length = 64 := by rw [Wz0, hx]
    have e : ∀ y d, flatC (y :: d) = .int .i64 (y.1 : Int) :: (v8 y.2 ++ flatC d) := fun _ _ => rfl
    rw [List.set_cons_succ, e, e, show (t + 1) * 65 = (t * 65 + 64) + 1 by omega, List.set_cons_succ, List.set_append_right _ _ (by omega), hl, Nat.add_sub_cancel, flatC_setAt v c t (fun y hy => h y (by simp [hy]))]
    rfl
theorem flatC_setPg (p : List Int) (hp : p.length = 64) : ∀ (c : List (Nat × List Int)) (t : Nat), t < c.length → (∀ x ∈ c, x.2.length = 64) → (flatC c).take (t * 65 + 1) ++ (v8 p ++ (flatC c).drop (t * 65 + 1 + 64)) = flatC (c.set t ((c.getD t (0, [])).1, p))
  | [], t, ht, _ => by simp at ht
  | x :: c, 0, _, h => by
    have hx := h x (by simp)
    have hl : (v8 x.2).length = 64 := by rw [Wz0, hx]
    have e : ∀ y d, flatC (y :: d) = .int .i64 (y.1 : Int) :: (v8 y.2 ++ flatC d) := fun _ _ => rfl
    rw [List.set_cons_zero, e, e, show 0 * 65 + 1 + 64 = 64 + 1 by rfl, List.drop_succ_cons, List.drop_append_of_le_length (by omega), List.drop_of_length_le (by omega), List.nil_append]
    rfl
  | x :: c, t + 1, ht, h => by
    have hx := h x (by simp)
    have hl : (v8 x.2).length = 64 := by rw [Wz0, hx]
    have e : ∀ y d, flatC (y :: d) = .int .i64 (y.1 : Int) :: (v8 y.2 ++ flatC d) := fun _ _ => rfl
    have ih := flatC_setPg p hp c t (by simpa using ht) (fun y hy => h y (by simp [hy]))
    rw [List.set_cons_succ, e, e, show (t + 1) * 65 + 1 = (64 + (t * 65 + 1)) + 1 by omega, List.take_succ_cons, show 64 + (t * 65 + 1) + 1 + 64 = (64 + (t * 65 + 1 + 64)) + 1 by omega, List.drop_succ_cons,
      ← hl, List.take_length_add_append, List.drop_length_add_append, List.cons_append, List.append_assoc, hl, ih]
    rfl
theorem quiet_arrayPtr {P : Program} {op : Oper} {a : Act} {C : World → Prop} {K : Act → Prop} (arr : TypeId) (x : Operand) (ho : op.op = .sliceToArrayPointer arr x) (b : Option Addr) (len c n : Nat) (e : TypeId)
    (hx : a.eval x = .slice b len c) (hu : P.underlying arr = some (.array n e)) (hn : n ≤ len) (h : K (a.put op.dst (.pointer b))) : op.quiet P a C K :=
  quiet_of_run _ (fun w _ => by
    unfold execOp
    simp only [ho, hx, Instr.arrayAt, Sem.run_bind, run_underlying hu, Result.andThen_ok, Sem.run_pure, if_neg (Nat.not_lt.2 hn)]) h
theorem h32_neq2 (w : World) (x y : List Int) (hx : x.length = 32) (hy : y.length = 32) : (binOp .neq 67 (.agg (v8a x)) (.agg (v8a y))).run Tryz.prog w = .ok (.bool (!decide (x = y))) w := by
  have h := h32_eql w x y hx hy
  unfold v8a at h ⊢
  rw [run_eql_struct w] at h
  rw [run_neq_struct w]
  generalize (Op.equalIn 10000 67 (.agg _) (.agg _)).run Tryz.prog w = r at h ⊢
  cases r with
  | ok b w' =>
    simp only [Result.andThen_ok, Result.ok.injEq, Value.bool.injEq] at h ⊢
    exact ⟨by rw [h.1], h.2⟩
  | halt x w' => simp [Result.andThen] at h
theorem quiet_neq32 {op : Oper} {a : Act} {C : World → Prop} {K : Act → Prop} (t2 : TypeId) (x y : Operand) (ho : op.op = .binOp .neq 67 x y t2) (p q : List Int)
    (hx : a.eval x = .agg (v8a p)) (hy : a.eval y = .agg (v8a q)) (hp : p.length = 32) (hq : q.length = 32) (h : K (a.put op.dst (.bool (!decide (p = q))))) : op.quiet Tryz.prog a C K :=
  quiet_of_run _ (fun w _ => by
    unfold execOp
    simp only [ho, hx, hy, Sem.run_bind, run_eqGuard_agg w .neq _ x y (v8a p) (v8a q) guard_h32, h32_neq2 w p q hp hq, Result.andThen_ok]
    rfl) h
theorem range_regrown {w : World} {b o : Nat} {cs : List Value} (h : w.rangeAt b o cs) (hl : b < w.heap.size) : ∀ w', (∃ p : Regrown, w' = Go.Sort.grow (redrawn w p.d) p.os) → w'.rangeAt b o cs := fun w' hw => rangeAt_below h (Qz1 hw) hl
theorem chRow_of {w : World} {g T : Nat} {L : List (Nat × List Int)} (h : w.heap[g]? = some (.cells (flatC L).toArray T)) (hL : ∀ x ∈ L, x.2.length = 64) : ChRow w g L := fun t ht j v hv => by
  rw [cell_of_row w g (t * 65 + j) _ T (0, 0) h, List.getElem?_toArray]
  cases j with
  | zero =>
    rw [Nat.add_zero, flatC_cell L t hL, List.getElem?_eq_getElem ht]
    exact hv
  | succ j =>
    rw [List.getElem?_cons_succ] at hv
    have hj : j < 64 := by
      have := (List.getElem?_eq_some_iff.1 hv).1
      rw [Wz0, hL _ (List.getElem_mem ht)] at this
      exact this
    rw [show t * 65 + (j + 1) = t * 65 + 1 + j by omega, flatC_get L t j hL hj, List.getElem?_eq_getElem ht]
    exact hv
theorem make_ch (k : Nat) (hk : k ≤ 60) (wx : World) : (Instr.makeSlice 154 (.int .i64 (k : Int)) (.int .i64 (k : Int))).run Tryz.prog wx = .ok (.slice (some ⟨wx.heap.size, 0, none⟩) k k) (wx.alloc (.cells (flatC (List.replicate k (0, zer 64))).toArray 156)) := by
  obtain ⟨i0, hi0', hz0, hz1, hz2⟩ := info_parts info_ch
  have h := run_make (P := Tryz.prog) wx 154 156 i0 (.agg (.mk (.int .i64 0 :: v8 (zer 64)))) Tryz.underlying154 hi0' hz0 .i64 .i64 k k (by omega) (Int.le_refl _) (by rw [hz2]; omega) (by omega)
  simp only [Int.toNat_natCast, hz1] at h
  have e : (Value.agg (.mk (.int .i64 0 :: v8 (zer 64)))).cells = (.int .i64 0 :: v8 (zer 64) : List Value).toArray := rfl
  have hl : (.int .i64 0 :: v8 (zer 64) : List Value).length = 65 := by simp [v8, zer]
  rw [h, e, show k * 65 = k * (.int .i64 0 :: v8 (zer 64) : List Value).length by rw [hl], made_flat _ _ (by rw [hl]; decide)]
  have h2 := flatC_rep k (0, zer 64)
  exact congrArg (fun l : List Value => Result.ok (Value.slice (some ⟨wx.heap.size, 0, none⟩) k k) (wx.alloc (.cells l.toArray 156))) h2
open Go.RowKit Go.Maps
def RecIn (v : Nat → List Int) (n : Nat) (r : RgT) : Option (List (Nat × List Int)) → Prop
  | none => Stale r.num (v (r.pl % n))
  | some L => ChsOk 10000 L ∧ r.used + recZ L.length ≤ n ∧ RecAt v n r L
def RecV (b : Nat) (w : World) (n : Nat) (r : RgT) (o : Option (List (Nat × List Int))) (v : Value) : Prop := match o with
  | none => v = .tuple #[.slice none 0 0, .agg (markC 0 0 (zer 32)), .int .i64 0, .nilIface]
  | some L => ∃ g, v = .tuple #[.slice (some ⟨g, 0, none⟩) L.length L.length, .agg (markC (r.next n L).pl (r.next n L).num (r.next n L).last), .int .i64 ((recZ L.length : Nat) : Int), .nilIface] ∧ b ≤ g ∧ w.heap[g]? = some (.cells (flatC L).toArray 156)
set_option maxRecDepth 100000 in
set_option maxHeartbeats 4000000 in
theorem record_any (rb db first n pl used : Nat) (num : Int) (last : List Int) (N : Nat → Prop) (d : DiskS) (o : Option (List (Nat × List Int))) (w : World) (hl : last.length = 32 ∧ U8s last) (h : w.heap[rb]? = some (.cells (ringC db first n pl num last used) 252)) (hn : 96 ≤ n ∧ n ≤ 4096) (hfn : first + n ≤ d.firm.length) (hpl : pl < n) (hnum : 0 ≤ num ∧ num < 4611686018427387904) (hu : used ≤ n) (hd : DiskI w db N d)
    (ho : RecIn (fun s => d.view (first + s)) n ⟨pl, num, last, used⟩ o) :
    Calls Tryz.prog 141 #[.pointer (some ⟨rb, 0, none⟩)] w fun e w' => (∃ v, e = .returned v ∧ RecV w.heap.size w' n ⟨pl, num, last, used⟩ o v) ∧ Below w.heap.size w w' := by
  have hfl := hd.isOk.1
  have HOK := hZ hd.isOk
  obtain ⟨p, hp⟩ : ∃ p, d.view (first + pl % n) = p := ⟨_, rfl⟩
  have hlt : first + pl % n < d.firm.length := by rw [Nat.mod_eq_of_lt hpl]; omega
  have HPO : Hid (PgOk p) := hZ (by rw [← hp]; exact Vze hd.isOk _ hlt)
  have HPL : Hid (p.length = 64) := hZ HPO.out.1
  have HV := hZ hp
  have HO := hZ ho
  have hf : first ≤ 4096 := by omega
  have HAT := hZ (fun wx (hx : wx.heap[rb]? = some (.cells (ringC db first n pl num last used) 252)) (i : Nat) (hi : i ≤ 100000) => ringAt_any rb db first n pl used i num last wx hl.1 hx ⟨by omega, hn.2⟩ hf hi)
  have HAT1 := hZ (fun wx (hx : wx.heap[rb]? = some (.cells (ringC db first n pl num last used) 252)) => HAT.out wx hx pl (by omega))
  have HRD1 := hZ (fun wx (hx : DiskI wx db N d) => (by have h := Kzh db N d (first + pl % n) hlt wx hx; rw [hp] at h; exact h : Calls Tryz.prog 28 #[.pointer (some ⟨db, 0, none⟩), .int .i64 ((first : Int) + (pl : Int) % n)] wx fun e w' => e = .returned (.tuple #[.agg (v8a p), .nilIface]) ∧ Below wx.heap.size wx w'))
  have HD := hZ hd
  have HR := hZ h
  clear hd h hp ho
  obtain ⟨z0, z1, z2, z3, z4, z5⟩ := Wz6 hl.1 HR.out
  go_enter Tryz.func141, Tryz.ntmps141
  repeat ((fail_if_success (with_reducible refine Vz1 "ring.go:77" rfl ?_)); (first | go_values | go_skip | go_guarded | go_step | go_upon))
  refine Kz0 (fun wx => Hid (wx.heap[w.heap.size]? = some (.cells (markC 0 0 (zer 32)) 148) ∧ Below w.heap.size w wx)) (hZ ⟨heap_alloc_new w (.cells (markC 0 0 (zer 32)) 148), bZ⟩) ?_
  clear z0 z1 z2 z3 z4 z5
  intro w1 H1
  have HR1 := hZ ((H1.out.2.block _ (Zz0 HR.out)).trans HR.out)
  have HD1 := hZ (HD.out.below H1.out.2)
  obtain ⟨z0, z1, z2, z3, z4, z5⟩ := Wz6 hl.1 HR1.out
  have r0 := cell_regrown z0
  have r3 := cell_regrown z3
  refine Jz8 (.quiet 0 (.quiet 1 (.quiet 2 (.quiet 3 (.quiet 4 (.quiet 5 (.quiet 6 (.quiet 7 (.quiet 8 (.quiet 9 (.two 10 15 (.two 11 15 (.quiet 12 (.quiet 13 (.quiet 14 (.one 15 (.one 16 (.quiet 17 .nil)))))) (.one 11 (.quiet 12 (.quiet 13 (.quiet 14 (.one 16 (.quiet 17 .nil))))))) (.one 10 (.one 11 (.quiet 12 (.quiet 13 (.quiet 14 (.one 16 (.quiet 17 .nil)))))))))))))))))) (fun w' => ∃ p : Regrown, w' = Go.Sort.grow (redrawn w1 p.d) p.os) (by kernel_rfl) (by kernel_rfl) (fun _ _ d _ _ h => by cases d <;> exact h) (Vz2 _) ?_
  repeat (with_reducible refine Jz6 ?_; simp only [qd1, qd0, qt1, qt0]; go_big_quiet_step (fail); with_reducible refine wpQuiet_nil ?_)
  apply tail_cut
  · intro TAIL
    with_reducible refine Kze ?_ ?_
    · simp only [qd1, qd0, qt1, qt0]
      go_wp2_with fail
      refine (HAT1.out w1.drew HR1.out).mono ?_
      rintro e wa ⟨rfl, hba⟩
      have hbaw : Below w1.heap.size w1 wa := (Below.refl _ _).drew.trans hba
      try dsimp only
      go_wp2_with fail
      with_reducible refine Qz0 ?_
      refine ⟨Jz0 hbaw, ?_⟩
      with_reducible refine Kze ?_ ?_
      · simp only [qd1, qd0, qt1, qt0]
        go_wp2_with fail
        refine (HRD1.out wa (HD1.out.below hbaw)).mono ?_
        rintro e wb ⟨rfl, hbb⟩
        have hbbw : Below w1.heap.size w1 wb := hbaw.trans (hbb.mono hbaw.size)
        try dsimp only
        go_wp2_with fail
        with_reducible refine Qz0 ?_
        refine ⟨Jz0 hbbw, ?_⟩
        repeat (with_reducible refine Jz6 ?_; simp only [qd1, qd0, qt1, qt0]; go_big_quiet_step (fail); with_reducible refine wpQuiet_nil ?_)
        have hbx : ∀ o : Obj, Below w1.heap.size w1 (wb.alloc o) := fun o => hbbw.alloc hbbw.size _
        have hbx2 : ∀ o : Obj, Below w1.heap.size w1 (wb.alloc o).drew := fun o => (hbx o).drew
        with_reducible refine Kz8 ?_
        simp only [qd1, qd0, qt1, qt0]
        go_wp2_with fail
        try with_reducible refine wpList_nil ?_
        with_reducible refine Qz0 ?_
        refine ⟨Jz0 (by first | exact hbx _ | exact hbx2 _), ?_⟩
        refine Xz7 (fun wx => Hid (wx.heap[wb.heap.size]? = some (.cells (v8a (zer 64)) 37) ∧ Below w1.heap.size w1 wx)) (hZ ⟨heap_alloc_new wb (.cells (v8a (zer 64)) 37), by first | exact hbx _ | exact hbx2 _⟩) ?_
        have hsbx := hbbw.size
        generalize wb.heap.size = box at hsbx ⊢
        intro wc HC
        revert box wc
        exact TAIL
      · simp only [qd1, qd0, qt1, qt0]
        have hsa := hbaw.size
        have hbx : ∀ o : Obj, Below w1.heap.size w1 (wa.alloc o) := fun o => hbaw.alloc hbaw.size _
        go_wp2_with fail
        try with_reducible refine wpList_nil ?_
        with_reducible refine Qz0 ?_
        refine ⟨Jz0 (hbx _), ?_⟩
        refine Xz7 (fun wx => Hid (wx.heap[wa.heap.size]? = some (.cells (v8a (zer 64)) 37) ∧ Below w1.heap.size w1 wx)) (hZ ⟨heap_alloc_new wa (.cells (v8a (zer 64)) 37), hbx _⟩) ?_
        generalize wa.heap.size = box at hsa ⊢
        intro wb HB
        with_reducible refine Kz8 ?_
        simp only [qd1, qd0, qt1, qt0]
        go_wp2_with fail
        refine (HRD1.out wb (HD1.out.below HB.out.2)).mono ?_
        rintro e wc ⟨rfl, hbc⟩
        have HC : Hid (wc.heap[box]? = some (.cells (v8a (zer 64)) 37) ∧ Below w1.heap.size w1 wc) := hZ ⟨(hbc.block _ (Zz0 HB.out.1)).trans HB.out.1, HB.out.2.trans (hbc.mono HB.out.2.size)⟩
        try dsimp only
        go_wp2_with fail
        with_reducible refine Qz0 ?_
        refine ⟨Jz0 HC.out.2, ?_⟩
        repeat (with_reducible refine Jz6 ?_; simp only [qd1, qd0, qt1, qt0]; go_big_quiet_step (fail); with_reducible refine wpQuiet_nil ?_)
        exact TAIL box hsa wc HC
    · simp only [qd1, qd0, qt1, qt0]
      have hbx : ∀ o : Obj, Below w1.heap.size w1 (w1.drew.alloc o) := fun o => (Below.refl _ _).drew.alloc (Nat.le_refl _) _
      have hsa : w1.heap.size ≤ w1.heap.size := Nat.le_refl _
      go_wp2_with fail
      try with_reducible refine wpList_nil ?_
      with_reducible refine Qz0 ?_
      refine ⟨Jz0 (hbx _), ?_⟩
      refine Xz7 (fun wx => Hid (wx.heap[w1.heap.size]? = some (.cells (v8a (zer 64)) 37) ∧ Below w1.heap.size w1 wx)) (hZ ⟨heap_alloc_new w1.drew (.cells (v8a (zer 64)) 37), hbx _⟩) ?_
      intro wa HA
      with_reducible refine Kz8 ?_
      simp only [qd1, qd0, qt1, qt0]
      go_wp2_with fail
      refine (HAT1.out wa ((HA.out.2.block _ (Zz0 HR1.out)).trans HR1.out)).mono ?_
      rintro e wb ⟨rfl, hbb⟩
      have HB : Hid (wb.heap[w1.heap.size]? = some (.cells (v8a (zer 64)) 37) ∧ Below w1.heap.size w1 wb) := hZ ⟨(hbb.block _ (Zz0 HA.out.1)).trans HA.out.1, HA.out.2.trans (hbb.mono HA.out.2.size)⟩
      try dsimp only
      go_wp2_with fail
      with_reducible refine Qz0 ?_
      refine ⟨Jz0 HB.out.2, ?_⟩
      with_reducible refine Kz8 ?_
      simp only [qd1, qd0, qt1, qt0]
      go_wp2_with fail
      refine (HRD1.out wb (HD1.out.below HB.out.2)).mono ?_
      rintro e wc ⟨rfl, hbc⟩
      have HC : Hid (wc.heap[w1.heap.size]? = some (.cells (v8a (zer 64)) 37) ∧ Below w1.heap.size w1 wc) := hZ ⟨(hbc.block _ (Zz0 HB.out.1)).trans HB.out.1, HB.out.2.trans (hbc.mono HB.out.2.size)⟩
      try dsimp only
      go_wp2_with fail
      with_reducible refine Qz0 ?_
      refine ⟨Jz0 HC.out.2, ?_⟩
      repeat (with_reducible refine Jz6 ?_; simp only [qd1, qd0, qt1, qt0]; go_big_quiet_step (fail); with_reducible refine wpQuiet_nil ?_)
      exact TAIL _ hsa wc HC
  intro box hbox wc HC
  with_reducible refine Kz8 ?_
  simp only [qd1, qd0, qt1, qt0]
  refine Wz2 rfl (.tmp 6) (.tmp 32) rfl box p (zer 64) rfl rfl HC.out.1 HPL.out rfl ?_
  refine Xz0 (fun wx => Hid (wx.heap[box]? = some (.cells (v8a p) 37) ∧ Below w1.heap.size w1 wx)) (hZ ⟨setRow_heap _ _ _ _ _ (0, 0) HC.out.1, below_setRow HC.out.2 hbox _⟩) ?_
  clear HC
  intro wd HC
  simp only [Act.put]
  with_reducible refine wpList_nil ?_
  with_reducible refine Qz0 ?_
  refine ⟨Jz0 HC.out.2, ?_⟩
  repeat (with_reducible refine Jz6 ?_; simp only [qd1, qd0, qt1, qt0]; go_big_quiet_step (fail); with_reducible refine wpQuiet_nil ?_)
  with_reducible refine plan_nil ?_
  clear z0 z1 z2 z3 z4 z5 r0 r3 HAT1 HRD1
  have HB : Hid (Below w.heap.size w wd) := hZ (H1.out.2.trans (HC.out.2.mono H1.out.2.size))
  have HM : Hid (wd.heap[w.heap.size]? = some (.cells (markC 0 0 (zer 32)) 148)) := hZ ((HC.out.2.block _ (Zz0 H1.out.1)).trans H1.out.1)
  have HX : Hid (wd.heap[box]? = some (.cells (v8a p) 37)) := hZ HC.out.1
  have hboxw : w.heap.size ≤ box := by have := H1.out.2.size; omega
  clear HC HR1 HD1 H1 hbox
  clear w1
  have hpl64 := HPL.out
  obtain ⟨c0, f0⟩ := Qz6 HX.out 0 (by omega)
  obtain ⟨c9, f9⟩ := Qz6 HX.out 9 (by omega)
  have g0 := HPO.out.2.at 0
  have g9 := HPO.out.2.at 9
  obtain ⟨k, hk⟩ : ∃ k : Nat, p.getD 9 0 = (k : Int) := Int.eq_ofNat_of_zero_le g9.1
  rw [hk] at c9 g9
  have HK : Hid (p.getD 9 0 = (k : Int)) := hZ hk
  clear hk
  have hk2 : (k : Int) ≤ 255 := by omega
  have hk0 : (0 : Int) ≤ k := by omega
  clear g9
  go_wp2_with fail
  refine (sectors_any k wd (by omega)).mono ?_
  rintro e w6 ⟨rfl, rfl⟩
  try dsimp only
  go_wp2_with fail
  have HG := hZ (fun wx => rget_any p HPO.out 1 8 (by omega) (by omega) wx)
  generalize hx0 : p.getD 0 0 = x0 at c0 g0
  generalize hy : getR p 1 8 = y at HG
  have HX0 := hZ hx0
  have HY := hZ hy
  clear hx0 hy
  have q0 := cell_regrown c0
  obtain ⟨z0, z1, z2, z3, z4, z5⟩ := Wz6 hl.1 ((HB.out.block _ (Zz0 HR.out)).trans HR.out)
  have r2 := cell_regrown z2
  have r4 := cell_regrown z4
  have r5 := cell_regrown z5
  cases o with
  | none =>
    by_cases h84 : x0 = 84
    · have hn84 : (x0 == 84) = true := by simpa using h84
      have hn84' : (x0 != 84) = false := by simpa using h84
      by_cases hyn : y = num
      · have hyn1 : (y == num) = true := by simpa using hyn
        have hyn2 : (y != num) = false := by simpa using hyn
        have hkz : k = 0 := by
          rcases HO.out with h | h | h
          · exact absurd (by show (d.view (first + pl % n)).getD 0 0 = 84; rw [HV.out, HX0.out]; exact h84) h
          · have h : (d.view (first + pl % n)).getD 9 0 = 0 := h
            rw [HV.out, HK.out] at h; omega
          · have h : getR (d.view (first + pl % n)) 1 8 < num := h
            rw [HV.out, HY.out] at h; omega
        subst hkz
        have HGQ := hZ (fun (d : Nat) (os : Array Obj) => Calls.regrown_of (HG.out (Go.Sort.grow (redrawn wd d) os)))
        refine wp_region_quiet_below (by kernel_rfl) (by kernel_rfl) ?_
        repeat (go_big_quiet_step (exact HGQ.out _ _))
        go_big_quiet_want
        refine Zz6 (.tmp 6) rfl box p rfl (fun w' hw' => Wz4 HX.out w' hw') HPL.out ?_
        simp only [Act.put, qs0, qs1, qs2]
        go_big_quiet_on
        repeat (go_big_quiet_step (exact HGQ.out _ _))
        with_reducible refine wpQuiet_nil ?_
        intro wq hwq
        have hq := Qz1 hwq
        clear hwq
        have hmk : wq.heap[w.heap.size]? = some (.cells (markC 0 0 (zer 32)) 148) := (hq.block _ (Zz0 HM.out)).trans HM.out
        have hbw : Below w.heap.size w wq := HB.out.trans (hq.mono HB.out.size)
        go_wp2_with (refine wpList_store_row rfl 148 (.tmp 3) (.tmp 77) rfl w.heap.size _ rfl rfl 148 (markC 0 0 (zer 32)) hmk ?s2 ?s3 ?s4 ?_)
        case s2 => exact Jza
        case s3 => rfl
        case s4 => kernel_rfl
        refine bodyPost_ret (Zzh Tryz.results141 _ _ w.heap.size 148 (markC 0 0 (zer 32)) (0, 0) _ rfl (.slice none 0 0) (.int .i64 0) .nilIface rfl rfl rfl (setRow_heap _ _ _ _ _ (0, 0) hmk) Tryz.underlying148 rfl Jza) rfl ⟨⟨_, rfl, rfl⟩, ?_⟩
        exact below_setRow hbw (Nat.le_refl _) _
      · have hyn1 : (y == num) = false := by simpa using hyn
        have hyn2 : (y != num) = true := by simpa using hyn
        have HGQ := hZ (fun (d : Nat) (os : Array Obj) => Calls.regrown_of (HG.out (Go.Sort.grow (redrawn wd d) os)))
        refine wp_region_quiet_below (by kernel_rfl) (by kernel_rfl) ?_
        repeat (go_big_quiet_step (exact HGQ.out _ _))
        go_big_quiet_want
        refine Zz6 (.tmp 6) rfl box p rfl (fun w' hw' => Wz4 HX.out w' hw') HPL.out ?_
        simp only [Act.put, qs0, qs1, qs2]
        go_big_quiet_on
        repeat (go_big_quiet_step (exact HGQ.out _ _))
        with_reducible refine wpQuiet_nil ?_
        intro wq hwq
        have hq := Qz1 hwq
        clear hwq
        have hmk : wq.heap[w.heap.size]? = some (.cells (markC 0 0 (zer 32)) 148) := (hq.block _ (Zz0 HM.out)).trans HM.out
        have hbw : Below w.heap.size w wq := HB.out.trans (hq.mono HB.out.size)
        go_wp2_with (refine wpList_store_row rfl 148 (.tmp 3) (.tmp 77) rfl w.heap.size _ rfl rfl 148 (markC 0 0 (zer 32)) hmk ?s2 ?s3 ?s4 ?_)
        case s2 => exact Jza
        case s3 => rfl
        case s4 => kernel_rfl
        refine bodyPost_ret (Zzh Tryz.results141 _ _ w.heap.size 148 (markC 0 0 (zer 32)) (0, 0) _ rfl (.slice none 0 0) (.int .i64 0) .nilIface rfl rfl rfl (setRow_heap _ _ _ _ _ (0, 0) hmk) Tryz.underlying148 rfl Jza) rfl ⟨⟨_, rfl, rfl⟩, ?_⟩
        exact below_setRow hbw (Nat.le_refl _) _
    · have hn84 : (x0 == 84) = false := by simpa using h84
      have hn84' : (x0 != 84) = true := by simpa using h84
      refine wp_region_quiet_below (by kernel_rfl) (by kernel_rfl) ?_
      (repeat (go_big_quiet_step (fail)))
      refine wpQuiet_nil ?_
      intro wq hwq
      have hq := Qz1 hwq
      clear hwq
      have hmk : wq.heap[w.heap.size]? = some (.cells (markC 0 0 (zer 32)) 148) := (hq.block _ (Zz0 HM.out)).trans HM.out
      have hbw : Below w.heap.size w wq := HB.out.trans (hq.mono HB.out.size)
      go_wp2_with (refine wpList_store_row rfl 148 (.tmp 3) (.tmp 77) rfl w.heap.size _ rfl rfl 148 (markC 0 0 (zer 32)) hmk ?s2 ?s3 ?s4 ?_)
      case s2 => exact Jza
      case s3 => rfl
      case s4 => kernel_rfl
      refine bodyPost_ret (Zzh Tryz.results141 _ _ w.heap.size 148 (markC 0 0 (zer 32)) (0, 0) _ rfl (.slice none 0 0) (.int .i64 0) .nilIface rfl rfl rfl (setRow_heap _ _ _ _ _ (0, 0) hmk) Tryz.underlying148 rfl Jza) rfl ⟨⟨_, rfl, rfl⟩, ?_⟩
      exact below_setRow hbw (Nat.le_refl _) _
  | some L =>
    obtain ⟨⟨hLk, hLm⟩, hzu, hrec⟩ := HO.out
    have hpe : p = recH num last L := by
      have h := hrec 0 (recH num last L) rfl
      rw [← HV.out]; exact h
    have hx84 : x0 = 84 := by rw [← HX0.out, hpe]; exact recH_zero _ _ _
    have hyn : y = num := by rw [← HY.out, hpe]; exact recH_num _ _ ⟨hnum.1, by omega⟩
    have hkL : k = L.length := by
      have h := HK.out
      rw [hpe, recH_nine] at h
      omega
    subst hx84 hyn hkL
    have HPE := hZ hpe
    have HREC := hZ hrec
    have HLM := hZ hLm
    clear hpe hrec hLm
    obtain ⟨hk1, hk60⟩ := hLk
    have hi1 : (1 : Int) ≤ L.length := by omega
    have hi60 : (L.length : Int) ≤ 60 := by omega
    have hzu2 : 1 + ((L.length : Int) + 15) / 16 + L.length ≤ (n : Int) - used := by
      have h : used + (1 + (L.length + 15) / 16 + L.length) ≤ n := hzu
      omega
    have hn1 : (96 : Int) ≤ n := by omega
    have hn2 : (n : Int) ≤ 4096 := by omega
    have hu0 : (0 : Int) ≤ used := by omega
    have hu1 : (used : Int) ≤ 4096 := by omega
    have hnm := hnum
    have d1 : decide ((L.length : Int) < 1) = false := decide_eq_false (by omega)
    have d2 : decide ((L.length : Int) > 60) = false := decide_eq_false (by omega)
    have d3 : decide (1 + ((L.length : Int) + 15) / 16 + L.length > (n : Int) - used) = false := decide_eq_false (by omega)
    have e1 : ¬ ((L.length : Int) < 1) := by omega
    have e2 : ¬ ((L.length : Int) > 60) := by omega
    have e3 : ¬ (1 + ((L.length : Int) + 15) / 16 + L.length > (n : Int) - used) := by omega
    have HGQ := hZ (fun (d : Nat) (os : Array Obj) => Calls.regrown_of (HG.out (Go.Sort.grow (redrawn wd d) os)))
    refine wp_region_quiet_below (by kernel_rfl) (by kernel_rfl) ?_
    repeat (go_big_quiet_step (exact HGQ.out _ _))
    go_big_quiet_want
    refine Zz6 (.tmp 6) rfl box p rfl (fun w' hw' => Wz4 HX.out w' hw') HPL.out ?_
    simp only [Act.put, qs0, qs1, qs2]
    go_big_quiet_on
    repeat (go_big_quiet_step (exact HGQ.out _ _))
    with_reducible refine wpQuiet_nil ?_
    intro wq hwq
    have hq := Qz1 hwq
    clear hwq
    have HBq : Hid (Below w.heap.size w wq) := hZ (HB.out.trans (hq.mono HB.out.size))
    have HXq : Hid (wq.heap[box]? = some (.cells (v8a p) 37)) := hZ ((hq.block _ (Zz0 HX.out)).trans HX.out)
    have HMq : Hid (wq.heap[w.heap.size]? = some (.cells (markC 0 0 (zer 32)) 148)) := hZ ((hq.block _ (Zz0 HM.out)).trans HM.out)
    clear hq HX HM HB q0 z0 z1 z2 z3 z4 z5 r2 r4 r5 c0 c9 f0 f9 HGQ HG
    clear wd
    have HRq : Hid (wq.heap[rb]? = some (.cells (ringC db first n pl y last used) 252)) := hZ ((HBq.out.block _ (Zz0 HR.out)).trans HR.out)
    go_wp2_with fail
    have hNW := hashNew_D wq (fun k => k < wq.heap.size) (fun i hi => hi)
    refine hNW.mono ?_
    clear hNW
    rintro e w2 ⟨rfl, hh2, hb2⟩
    have HH2 := hZ hh2
    have HB2 := hZ hb2
    clear hh2 hb2
    try dsimp only
    go_wp2_with fail
    have hrbq := Zz0 HRq.out
    have hbxq := Zz0 HXq.out
    have hWR := Wz8 wq.heap.size (fun k => k < wq.heap.size) [] (some ⟨rb, 5, none⟩) last 32 w2 HH2.out (ring_by ((HB2.out.block _ hrbq).trans HRq.out)) (by omega) (by simp) hl.2 (fun h => by cases h) (fun x hx _ => by cases hx; show rb ≠ _; omega)
    rw [hl.1] at hWR
    refine hWR.mono ?_
    clear hWR
    rintro e w3 ⟨rfl, hh3, hk3⟩
    have HH3 := hZ hh3
    have HB3 : Hid (Below wq.heap.size wq w3) := hZ (HB2.out.trans (hk3.below HB2.out.size (fun i hi => hi)))
    clear hh3 hk3 HH2 HB2
    clear w2
    try dsimp only
    go_wp2_with fail
    have hWR := Wz8 wq.heap.size (fun k => k < wq.heap.size) ([] ++ last) (some ⟨box, 0, none⟩) (p.take 10) 64 w3 HH3.out (page_in ((HB3.out.block _ hbxq).trans HXq.out) 10) (by rw [List.length_take, hpl64]; decide) (by simp [hl.1]) (fun x hx => HPO.out.2 x (List.mem_of_mem_take hx)) (fun h => by cases h) (fun x hx _ => by cases hx; show box ≠ _; omega)
    rw [show (p.take 10).length = 10 by rw [List.length_take, hpl64]; rfl] at hWR
    refine hWR.mono ?_
    clear hWR
    rintro e w4 ⟨rfl, hh4, hk4⟩
    have HH4 := hZ hh4
    have HB4 : Hid (Below wq.heap.size wq w4) := hZ (HB3.out.trans (hk4.below HB3.out.size (fun i hi => hi)))
    clear hh4 hk4 HH3 HB3
    clear w3
    obtain ⟨D0, hD0⟩ : ∃ D0, [] ++ last ++ p.take 10 = D0 := ⟨_, rfl⟩
    rw [hD0] at HH4
    have HDL : Hid (D0.length = 42 ∧ D0 = last ++ (headF L.length y).take 10) := hZ (by
      rw [← hD0]
      refine ⟨by simp [hl.1, hpl64], ?_⟩
      rw [HPE.out, recH_take]; simp)
    clear hD0
    try dsimp only
    have hmk := make_ch L.length hk60
    go_wp2_with fail
    clear hmk
    have HP64 := hZ (fun x (hx : x ∈ L) => (HLM.out x hx).2)
    refine Kz0 (fun wx => Hid (wx.heap[w4.heap.size]? = some (.cells (flatC (stC L 0 0)).toArray 156)) ∧ Hid (HashD wx wq.heap.size (fun k => k < wq.heap.size ∨ k = w4.heap.size) D0) ∧ Hid (Below wq.heap.size wq wx)) ⟨hZ (by rw [stC_zero]; exact heap_alloc_new w4 _), hZ (HH4.out.keep (bZ) (fun i hi => by
      rcases hi with hi | hi
      · exact ⟨by have := HB4.out.size; simp; omega, .inl hi⟩
      · exact ⟨by simp; omega, .inr (by omega)⟩)), hZ (HB4.out.alloc HB4.out.size _)⟩ ?_
    have hgl : wq.heap.size ≤ w4.heap.size := HB4.out.size
    clear HH4 HB4
    generalize w4.heap.size = gl at hgl ⊢
    clear w4
    rintro w5 ⟨HG5, HH5, HB5⟩
    go_loopw [12] (fun iv wr => ∃ s : Nat, iv = .int .i64 ((s : Int) + 1) ∧ s ≤ (L.length + 15) / 16 + L.length ∧ Hid (wr.heap[gl]? = some (.cells (flatC (stC L (16 * s) (s - (L.length + 15) / 16))).toArray 156)) ∧ Hid (HashD wr wq.heap.size (fun k => k < wq.heap.size ∨ k = gl) (D0 ++ ((recQ L).take s).flatten)) ∧ Hid (Below wq.heap.size wq wr)) (fun iv _ => 200 - (intOf iv).toNat)
    case atStart => exact ⟨0, rfl, by omega, by rw [Nat.zero_sub]; exact HG5, by rw [List.take_zero, List.flatten_nil, List.append_nil]; exact HH5, HB5⟩
    case round =>
      clear HG5 HH5 HB5
      obtain ⟨s, rfl, hs, HGL, HH, HBr⟩ := hrel
      have hs0 : (0 : Int) ≤ s := by omega
      by_cases hlt : s < (L.length + 15) / 16 + L.length
      · have hlt1 : (s : Int) + 1 < 1 + ((L.length : Int) + 15) / 16 + L.length := by omega
        have HRr : Hid (wr.heap[rb]? = some (.cells (ringC db first n pl y last used) 252)) := hZ ((HBr.out.block _ hrbq).trans HRq.out)
        have HDr : Hid (DiskI wr db N d) := hZ (HD.out.below (HBq.out.trans (HBr.out.mono HBq.out.size)))
        obtain ⟨pg, hpg⟩ : ∃ pg, (recQ L)[s]? = some pg := ⟨_, List.getElem?_eq_getElem (by rw [recQ_length]; exact hlt)⟩
        have hvw : d.view (first + (pl + (s + 1)) % n) = pg := HREC.out (s + 1) pg (by rw [recP_eq, List.getElem?_cons_succ]; exact hpg)
        have HPGO : Hid (PgOk pg) := hZ (recQ_ok HP64.out pg (List.mem_of_getElem? hpg))
        have HPG := hZ hpg
        have HPLp := HPL
        have HPL : Hid (pg.length = 64) := hZ HPGO.out.1
        have hnmod : first + (pl + (s + 1)) % n < d.firm.length := by have := Nat.mod_lt (pl + (s + 1)) (show 0 < n by omega); omega
        have HAT2 := hZ (fun wx (hx : wx.heap[rb]? = some (.cells (ringC db first n pl y last used) 252)) => (by have h := HAT.out wx hx (pl + (s + 1)) (by omega); rw [show ((pl + (s + 1) : Nat) : Int) = (pl : Int) + ((s : Int) + 1) by push_cast; rfl] at h; exact h : Calls Tryz.prog 157 #[.pointer (some ⟨rb, 0, none⟩), .int .i64 ((pl : Int) + ((s : Int) + 1))] wx fun e w' => e = .returned (.int .i64 ((first : Int) + ((pl : Int) + ((s : Int) + 1)) % n)) ∧ Below wx.heap.size wx w'))
        have HRD2 := hZ (fun wx (hx : DiskI wx db N d) => (by have h := Kzh db N d (first + (pl + (s + 1)) % n) hnmod wx hx; rw [hvw, show ((first + (pl + (s + 1)) % n : Nat) : Int) = (first : Int) + ((pl : Int) + ((s : Int) + 1)) % n by push_cast; rfl] at h; exact h : Calls Tryz.prog 28 #[.pointer (some ⟨db, 0, none⟩), .int .i64 ((first : Int) + ((pl : Int) + ((s : Int) + 1)) % n)] wx fun e w' => e = .returned (.tuple #[.agg (v8a pg), .nilIface]) ∧ Below wx.heap.size wx w'))
        clear hvw hpg hnmod
        obtain ⟨z0, z1, z2, z3, z4, z5⟩ := Wz6 hl.1 HRr.out
        have r0 := cell_regrown z0
        have r3 := cell_regrown z3
        have hpl0 : (0 : Int) ≤ pl := by omega
        have hpl1 : (pl : Int) ≤ 4096 := by omega
        have hs200 : (s : Int) ≤ 100 := by omega
        go_wp2_with fail
        refine Jz8 (.quiet 0 (.quiet 1 (.quiet 2 (.quiet 3 (.quiet 4 (.quiet 5 (.quiet 6 (.quiet 7 (.quiet 8 (.quiet 9 (.quiet 10 (.quiet 11 (.two 12 17 (.two 13 17 (.quiet 14 (.quiet 15 (.quiet 16 (.one 17 (.one 18 (.quiet 19 .nil)))))) (.one 13 (.quiet 14 (.quiet 15 (.quiet 16 (.one 18 (.quiet 19 .nil))))))) (.one 12 (.one 13 (.quiet 14 (.quiet 15 (.quiet 16 (.one 18 (.quiet 19 .nil)))))))))))))))))))) (fun w' => ∃ p : Regrown, w' = Go.Sort.grow (redrawn wr p.d) p.os) (by kernel_rfl) (by kernel_rfl) (fun _ _ d _ _ h => by cases d <;> exact h) (Vz2 _) ?_
        repeat (with_reducible refine Jz6 ?_; simp only [qd1, qd0, qt1, qt0]; go_big_quiet_step (fail); with_reducible refine wpQuiet_nil ?_)
        apply tail_cut
        · intro TAIL
          with_reducible refine Kze ?_ ?_
          · simp only [qd1, qd0, qt1, qt0]
            go_wp2_with fail
            refine (HAT2.out wr.drew HRr.out).mono ?_
            rintro e wa ⟨rfl, hba⟩
            have hbaw : Below wr.heap.size wr wa := (Below.refl _ _).drew.trans hba
            try dsimp only
            go_wp2_with fail
            with_reducible refine Qz0 ?_
            refine ⟨Jz0 hbaw, ?_⟩
            with_reducible refine Kze ?_ ?_
            · simp only [qd1, qd0, qt1, qt0]
              go_wp2_with fail
              refine (HRD2.out wa (HDr.out.below hbaw)).mono ?_
              rintro e wb ⟨rfl, hbb⟩
              have hbbw : Below wr.heap.size wr wb := hbaw.trans (hbb.mono hbaw.size)
              try dsimp only
              go_wp2_with fail
              with_reducible refine Qz0 ?_
              refine ⟨Jz0 hbbw, ?_⟩
              repeat (with_reducible refine Jz6 ?_; simp only [qd1, qd0, qt1, qt0]; go_big_quiet_step (fail); with_reducible refine wpQuiet_nil ?_)
              have hbx : ∀ o : Obj, Below wr.heap.size wr (wb.alloc o) := fun o => hbbw.alloc hbbw.size _
              have hbx2 : ∀ o : Obj, Below wr.heap.size wr (wb.alloc o).drew := fun o => (hbx o).drew
              with_reducible refine Kz8 ?_
              simp only [qd1, qd0, qt1, qt0]
              go_wp2_with fail
              try with_reducible refine wpList_nil ?_
              with_reducible refine Qz0 ?_
              refine ⟨Jz0 (by first | exact hbx _ | exact hbx2 _), ?_⟩
              refine Xz7 (fun wx => Hid (wx.heap[wb.heap.size]? = some (.cells (v8a (zer 64)) 37) ∧ Below wr.heap.size wr wx)) (hZ ⟨heap_alloc_new wb (.cells (v8a (zer 64)) 37), by first | exact hbx _ | exact hbx2 _⟩) ?_
              have hsbx := hbbw.size
              generalize wb.heap.size = box at hsbx ⊢
              intro wc HC
              revert box wc
              exact TAIL
            · simp only [qd1, qd0, qt1, qt0]
              have hsa := hbaw.size
              have hbx : ∀ o : Obj, Below wr.heap.size wr (wa.alloc o) := fun o => hbaw.alloc hbaw.size _
              go_wp2_with fail
              try with_reducible refine wpList_nil ?_
              with_reducible refine Qz0 ?_
              refine ⟨Jz0 (hbx _), ?_⟩
              refine Xz7 (fun wx => Hid (wx.heap[wa.heap.size]? = some (.cells (v8a (zer 64)) 37) ∧ Below wr.heap.size wr wx)) (hZ ⟨heap_alloc_new wa (.cells (v8a (zer 64)) 37), hbx _⟩) ?_
              generalize wa.heap.size = box at hsa ⊢
              intro wb HB
              with_reducible refine Kz8 ?_
              simp only [qd1, qd0, qt1, qt0]
              go_wp2_with fail
              refine (HRD2.out wb (HDr.out.below HB.out.2)).mono ?_
              rintro e wc ⟨rfl, hbc⟩
              have HC : Hid (wc.heap[box]? = some (.cells (v8a (zer 64)) 37) ∧ Below wr.heap.size wr wc) := hZ ⟨(hbc.block _ (Zz0 HB.out.1)).trans HB.out.1, HB.out.2.trans (hbc.mono HB.out.2.size)⟩
              try dsimp only
              go_wp2_with fail
              with_reducible refine Qz0 ?_
              refine ⟨Jz0 HC.out.2, ?_⟩
              repeat (with_reducible refine Jz6 ?_; simp only [qd1, qd0, qt1, qt0]; go_big_quiet_step (fail); with_reducible refine wpQuiet_nil ?_)
              exact TAIL box hsa wc HC
          · simp only [qd1, qd0, qt1, qt0]
            have hbx : ∀ o : Obj, Below wr.heap.size wr (wr.drew.alloc o) := fun o => (Below.refl _ _).drew.alloc (Nat.le_refl _) _
            have hsa : wr.heap.size ≤ wr.heap.size := Nat.le_refl _
            go_wp2_with fail
            try with_reducible refine wpList_nil ?_
            with_reducible refine Qz0 ?_
            refine ⟨Jz0 (hbx _), ?_⟩
            refine Xz7 (fun wx => Hid (wx.heap[wr.heap.size]? = some (.cells (v8a (zer 64)) 37) ∧ Below wr.heap.size wr wx)) (hZ ⟨heap_alloc_new wr.drew (.cells (v8a (zer 64)) 37), hbx _⟩) ?_
            intro wa HA
            with_reducible refine Kz8 ?_
            simp only [qd1, qd0, qt1, qt0]
            go_wp2_with fail
            refine (HAT2.out wa ((HA.out.2.block _ (Zz0 HRr.out)).trans HRr.out)).mono ?_
            rintro e wb ⟨rfl, hbb⟩
            have HB : Hid (wb.heap[wr.heap.size]? = some (.cells (v8a (zer 64)) 37) ∧ Below wr.heap.size wr wb) := hZ ⟨(hbb.block _ (Zz0 HA.out.1)).trans HA.out.1, HA.out.2.trans (hbb.mono HA.out.2.size)⟩
            try dsimp only
            go_wp2_with fail
            with_reducible refine Qz0 ?_
            refine ⟨Jz0 HB.out.2, ?_⟩
            with_reducible refine Kz8 ?_
            simp only [qd1, qd0, qt1, qt0]
            go_wp2_with fail
            refine (HRD2.out wb (HDr.out.below HB.out.2)).mono ?_
            rintro e wc ⟨rfl, hbc⟩
            have HC : Hid (wc.heap[wr.heap.size]? = some (.cells (v8a (zer 64)) 37) ∧ Below wr.heap.size wr wc) := hZ ⟨(hbc.block _ (Zz0 HB.out.1)).trans HB.out.1, HB.out.2.trans (hbc.mono HB.out.2.size)⟩
            try dsimp only
            go_wp2_with fail
            with_reducible refine Qz0 ?_
            refine ⟨Jz0 HC.out.2, ?_⟩
            repeat (with_reducible refine Jz6 ?_; simp only [qd1, qd0, qt1, qt0]; go_big_quiet_step (fail); with_reducible refine wpQuiet_nil ?_)
            exact TAIL _ hsa wc HC
        intro box hbox wc HC
        with_reducible refine Kz8 ?_
        simp only [qd1, qd0, qt1, qt0]
        refine Wz2 rfl (.tmp 13) (.tmp 111) rfl box pg (zer 64) rfl rfl HC.out.1 HPL.out rfl ?_
        refine Xz0 (fun wx => Hid (wx.heap[box]? = some (.cells (v8a pg) 37) ∧ Below wr.heap.size wr wx)) (hZ ⟨setRow_heap _ _ _ _ _ (0, 0) HC.out.1, below_setRow HC.out.2 hbox _⟩) ?_
        clear HC
        intro wd HC
        simp only [Act.put]
        with_reducible refine wpList_nil ?_
        with_reducible refine Qz0 ?_
        refine ⟨Jz0 HC.out.2, ?_⟩
        repeat (with_reducible refine Jz6 ?_; simp only [qd1, qd0, qt1, qt0]; go_big_quiet_step (fail); with_reducible refine wpQuiet_nil ?_)
        with_reducible refine plan_nil ?_
        clear z0 z1 z2 z3 z4 z5 r0 r3 HAT2 HRD2 HDr HRr
        have hbxr : wr.heap.size ≤ box := hbox
        have HH2 : Hid (HashD wd wq.heap.size (fun k => (k < wq.heap.size ∨ k = gl) ∨ k = box) (D0 ++ ((recQ L).take s).flatten)) := hZ (HH.out.keep HC.out.2 (fun i hi => by
          rcases hi with hi | hi
          · exact ⟨Nat.lt_of_lt_of_le (hashD_lt HH.out i hi) HC.out.2.size, .inl hi⟩
          · rw [hi]; exact ⟨Zz0 HC.out.1, .inr hbxr⟩))
        have HG2 : Hid (wd.heap[gl]? = some (.cells (flatC (stC L (16 * s) (s - (L.length + 15) / 16))).toArray 156)) := hZ ((HC.out.2.block _ (Zz0 HGL.out)).trans HGL.out)
        have HB2 : Hid (Below wq.heap.size wq wd) := hZ (HBr.out.trans (HC.out.2.mono HBr.out.size))
        have HX2 : Hid (wd.heap[box]? = some (.cells (v8a pg) 37)) := hZ HC.out.1
        have hboxg : box ≠ gl := fun e => by have := Zz0 HGL.out; omega
        have hboxq : wq.heap.size < box := by have := Zz0 HGL.out; have := HBr.out.size; have := hashD_blk HH.out; omega
        clear HC HGL HH HBr hbox hbxr
        clear wr
        go_wp2_with fail
        have hWR := Wz8 wq.heap.size (fun k => (k < wq.heap.size ∨ k = gl) ∨ k = box) (D0 ++ ((recQ L).take s).flatten) (some ⟨box, 0, none⟩) (pg.take 64) 64 wd HH2.out (page_in HX2.out 64) (by rw [List.length_take, HPL.out]; decide) (by rw [List.length_append, HDL.out.1, flat64 _ (fun q hq => recQ_ok HP64.out q (List.mem_of_mem_take hq)), List.length_take]; omega) (fun x hx => HPGO.out.2 x (List.mem_of_mem_take hx)) (fun h => by cases h) (fun x hx _ => by cases hx; show box ≠ _; omega)
        rw [show (pg.take 64).length = 64 by rw [List.length_take, HPL.out]; rfl, show pg.take 64 = pg from List.take_of_length_le (by rw [HPL.out]; exact Nat.le_refl _)] at hWR
        refine hWR.mono ?_
        clear hWR
        rintro e w6 ⟨rfl, hh6, hk6⟩
        have HH6 : Hid (HashD w6 wq.heap.size (fun k => k < wq.heap.size ∨ k = gl) (D0 ++ ((recQ L).take (s + 1)).flatten)) := hZ (by
          have e : (recQ L).take (s + 1) = (recQ L).take s ++ [pg] := by
            have h := List.getElem?_eq_some_iff.1 HPG.out
            rw [List.take_succ_eq_append_getElem h.1, h.2]
          rw [e, List.flatten_append, ← List.append_assoc]
          have h2 := hh6.keep (N' := fun k => k < wq.heap.size ∨ k = gl) (Below.refl _ _) (fun i hi => ⟨hashD_lt hh6 i (.inl hi), .inl (.inl hi)⟩)
          simpa using h2)
        have HG6 : Hid (w6.heap[gl]? = some (.cells (flatC (stC L (16 * s) (s - (L.length + 15) / 16))).toArray 156)) := hZ (hk6.blk (.inl (.inr rfl)) HG2.out)
        have HB6 : Hid (Below wq.heap.size wq w6) := hZ (HB2.out.trans (hk6.below HB2.out.size (fun i hi => .inl (.inl hi))))
        have HX6 : Hid (w6.heap[box]? = some (.cells (v8a pg) 37)) := hZ (hk6.blk (.inr rfl) HX2.out)
        clear hh6 hk6 HH2 HG2 HB2 HX2
        clear wd
        try dsimp only
        go_wp2_with fail
        go_loopw [120] (fun jv wr => ∃ j : Nat, jv = .int .i64 (j : Int) ∧ j ≤ 16 ∧ Hid (wr.heap[gl]? = some (.cells (flatC (stC L (16 * s + j) (s - (L.length + 15) / 16))).toArray 156)) ∧ Hid (Keeps (fun k => k ≠ gl) w6 wr)) (fun jv _ => 17 - (intOf jv).toNat)
        case atStart => exact ⟨0, rfl, by omega, HG6, hZ (Keeps.refl _ _)⟩
        case round =>
          obtain ⟨j, rfl, hj, HGJ, HKJ⟩ := hrel
          have hj0 : (0 : Int) ≤ j := by omega
          by_cases hjt : j < 16
          · have hj1 : (j : Int) < 16 := by omega
            by_cases hcq : s + 1 ≤ (L.length + 15) / 16 ∧ 16 * s + j < L.length
            · have q1 : (s : Int) + 1 ≤ ((L.length : Int) + 15) / 16 := by have := hcq.1; omega
              have q2 : 16 * (s : Int) + j < L.length := by have := hcq.2; omega
              have q3 : 16 * ((s : Int) + 1 - 1) + j < L.length := by omega
              have q4 : (0 : Int) ≤ 16 * (s : Int) + j := by omega
              have HBJ : Hid (wr.heap[box]? = some (.cells (v8a pg) 37)) := hZ (HKJ.out.blk hboxg HX6.out)
              go_wp2_with (refine Wz3 rfl (.tmp 13) rfl box pg rfl HBJ.out HPL.out ?_)
              have hidx : pg = idxP L (16 * s) (min 16 (L.length - 16 * s)) := by
                have h := HPG.out
                unfold recQ at h
                rw [List.getElem?_append_left (by rw [Vzh]; omega)] at h
                unfold idxPs at h
                rw [List.getElem?_map, List.getElem?_range (by omega)] at h
                simpa using h.symm
              have hcl : L.getD (16 * s + j) (0, []) = L[16 * s + j] := by simp [List.getD, hcq.2]
              have hx1 : (L.getD (16 * s + j) (0, [])).1 < 10000 := by rw [hcl]; exact (HLM.out _ (List.getElem_mem hcq.2)).1
              have hval : getR pg (4 * j) 4 = ((L.getD (16 * s + j) (0, [])).1 : Int) := by
                rw [hidx]
                exact idxP_get L (16 * s) j _ (by omega) (by omega) (by omega)
              have HSA := hZ (stC_at L (16 * s + j) (s - (L.length + 15) / 16) hcq.2)
              clear hidx hcl
              generalize (L.getD (16 * s + j) (0, [])).1 = xa at hx1 hval HSA
              have hG := rget_any pg HPGO.out (4 * j) 4 (by omega) (by omega) wr
              rw [hval, show ((4 * j : Nat) : Int) = 4 * (j : Int) by push_cast; rfl] at hG
              have hxa : (xa : Int) < 10000 := by omega
              have hxa0 : (0 : Int) ≤ xa := by omega
              refine hG.mono ?_
              clear hG hval
              rintro e w7 ⟨rfl, hb7⟩
              have hgc := flatC_cell (stC L (16 * s + j) (s - (L.length + 15) / 16)) (16 * s + j) (stC_pages HP64.out _ _)
              have hge : (stC L (16 * s + j) (s - (L.length + 15) / 16))[16 * s + j]? = some ((stC L (16 * s + j) (s - (L.length + 15) / 16))[16 * s + j]'(by rw [Zz9]; exact hcq.2)) := List.getElem?_eq_getElem _
              rw [hge] at hgc
              clear hge
              have HG7 : Hid (w7.heap[gl]? = some (.cells (flatC (stC L (16 * s + j) (s - (L.length + 15) / 16))).toArray 156)) := hZ ((hb7.block _ (Zz0 HGJ.out)).trans HGJ.out)
              have HK7 : Hid (Keeps (fun k => k ≠ gl) w6 w7) := hZ (HKJ.out.trans (Keeps.of_below hb7))
              have hc7 : w7.cell? ⟨gl, (16 * s + j) * 65, none⟩ = some (.int .i64 (((stC L (16 * s + j) (s - (L.length + 15) / 16))[16 * s + j]'(by rw [Zz9]; exact hcq.2)).1 : Int)) := by
                rw [cell_of_row w7 gl _ _ _ (0, 0) HG7.out, List.getElem?_toArray]
                exact hgc
              have hf7 : w7.frozen? ⟨gl, (16 * s + j) * 65, none⟩ = false := by simp [World.frozen?, HG7.out]
              clear hgc hb7 HBJ
              try dsimp only
              go_wp2_with fail
              refine ⟨⟨j + 1, by push_cast; rfl, by omega, hZ ?_, hZ (HK7.out.trans (Keeps.set _ _ _ _ (fun e => e rfl)))⟩, by simp [intOf]; omega⟩
              have h := Xz3 (i := (16 * s + j) * 65) HG7.out (.int .i64 (xa : Int))
              rw [List.setIfInBounds_toArray, flatC_setAt xa _ _ (stC_pages HP64.out _ _), ← HSA.out] at h
              exact h
            · have HEQ : Hid (stC L (16 * s + (j + 1)) (s - (L.length + 15) / 16) = stC L (16 * s + j) (s - (L.length + 15) / 16)) := hZ (by
                rw [stC_ge L (show L.length ≤ 16 * s + (j + 1) by omega), stC_ge L (show L.length ≤ 16 * s + j by omega)])
              by_cases hq : s + 1 ≤ (L.length + 15) / 16
              · have q1 : (s : Int) + 1 ≤ ((L.length : Int) + 15) / 16 := by omega
                have q2 : ¬ (16 * (s : Int) + j < L.length) := by omega
                have q3 : ¬ (16 * ((s : Int) + 1 - 1) + j < L.length) := by omega
                have q4 : decide (16 * (s : Int) + j < L.length) = false := decide_eq_false q2
                have q5 : decide (16 * ((s : Int) + 1 - 1) + j < L.length) = false := decide_eq_false q3
                go_wp2_with fail
                exact ⟨⟨j + 1, by push_cast; rfl, by omega, hZ (by rw [HEQ.out]; exact HGJ.out), HKJ⟩, by simp [intOf]; omega⟩
              · have q1 : ¬ ((s : Int) + 1 ≤ ((L.length : Int) + 15) / 16) := by omega
                have q4 : decide ((s : Int) + 1 ≤ ((L.length : Int) + 15) / 16) = false := decide_eq_false q1
                go_wp2_with fail
                exact ⟨⟨j + 1, by push_cast; rfl, by omega, hZ (by rw [HEQ.out]; exact HGJ.out), HKJ⟩, by simp [intOf]; omega⟩
          · obtain rfl : j = 16 := by omega
            have HKg : Hid (HashD wr wq.heap.size (fun k => k < wq.heap.size ∨ k = gl) (D0 ++ ((recQ L).take (s + 1)).flatten) ∧ Below wq.heap.size wq wr ∧ wr.heap[box]? = some (.cells (v8a pg) 37)) := hZ ⟨HH6.out.keeps (HKJ.out.mono (fun k _ hk e => hk (.inr e))), HB6.out.trans (HKJ.out.below HB6.out.size (fun i hi e => by omega)), HKJ.out.blk hboxg HX6.out⟩
            clear HKJ HH6 HB6 HX6 HG6
            by_cases hsq : (L.length + 15) / 16 ≤ s
            · have hs1 : (0 : Int) ≤ (s : Int) + 1 - 1 - ((L.length : Int) + 15) / 16 := by omega
              have hs2 : (0 : Int) ≤ (s : Int) - ((L.length : Int) + 15) / 16 := by omega
              have hs3 : (s : Int) - ((L.length : Int) + 15) / 16 < L.length := by omega
              have hsl : s - (L.length + 15) / 16 < L.length := by omega
              have hfl := flatC_len (stC L (16 * s + 16) (s - (L.length + 15) / 16)) (stC_pages HP64.out _ _)
              rw [Zz9] at hfl
              have hmul : (s - (L.length + 15) / 16) * 65 + 1 + 64 ≤ L.length * 65 := by omega
              have HTH : Hid (wr.there gl ((s - (L.length + 15) / 16) * 65 + 1) 64) := hZ (blk_there HGJ.out (by rw [List.size_toArray, hfl]; exact hmul))
              have hpgl : pg = (L.getD (s - (L.length + 15) / 16) (0, [])).2 := by
                have h := HPG.out
                unfold recQ at h
                rw [List.getElem?_append_right (by rw [Vzh]; exact hsq), Vzh, List.getElem?_map, List.getElem?_eq_getElem hsl] at h
                simp [List.getD, hsl] at h ⊢
                exact h.symm
              have HST : Hid ((wr.setCells gl ((s - (L.length + 15) / 16) * 65 + 1) (v8 pg)).heap[gl]? = some (.cells (flatC (stC L (16 * s + 16) (s - (L.length + 15) / 16 + 1))).toArray 156)) := hZ (by
                rw [Qzb HGJ.out (by rw [Wz0, HPL.out, hfl]; exact hmul), Wz0, HPL.out, flatC_setPg pg HPL.out _ _ (by rw [Zz9]; exact hsl) (stC_pages HP64.out _ _), stC_pg L _ _ hsl, ← hpgl])
              clear hpgl hfl hmul
              go_wp2_with (first | (refine Wz3 rfl (.tmp 13) rfl box pg rfl HKg.out.2.2 HPL.out ?_) | (refine wpList_store_mid rfl 37 (.tmp 160) (.tmp 158) rfl gl ((s - (L.length + 15) / 16) * 65 + 1) (v8a pg) rfl rfl ?t1 ?t2 (Zzg pg) ?_))
              case t1 => rw [pgsz HPL.out]; exact HTH.out
              case t2 => exact info_at HPL.out
              have hks : Keeps (fun k => k ≠ gl) wr (wr.setCells gl ((s - (L.length + 15) / 16) * 65 + 1) (v8a pg).toList) := Keeps.of_grown (Jz7 _ _ _ _) (fun k hk e => by cases hk; exact e rfl)
              refine ⟨⟨s + 1, by push_cast; rfl, by omega, ?_, hZ (HKg.out.1.keeps (hks.mono (fun k _ hk e => hk (.inr e)))), hZ (HKg.out.2.1.trans (hks.below HKg.out.2.1.size (fun i hi e => by omega)))⟩, by simp [intOf]; omega⟩
              rw [show 16 * (s + 1) = 16 * s + 16 by omega, show s + 1 - (L.length + 15) / 16 = s - (L.length + 15) / 16 + 1 by omega]
              exact HST
            · have hs1 : ¬ ((0 : Int) ≤ (s : Int) + 1 - 1 - ((L.length : Int) + 15) / 16) := by omega
              have hs2 : ¬ ((0 : Int) ≤ (s : Int) - ((L.length : Int) + 15) / 16) := by omega
              have hb0 : s + 1 - (L.length + 15) / 16 = s - (L.length + 15) / 16 := by omega
              go_wp2_with fail
              exact ⟨⟨s + 1, by push_cast; rfl, by omega, by rw [hb0, show 16 * (s + 1) = 16 * s + 16 by omega]; exact HGJ, hZ HKg.out.1, hZ HKg.out.2.1⟩, by simp [intOf]; omega⟩
      · have hse : s = (L.length + 15) / 16 + L.length := by omega
        have hlt1 : ¬ ((s : Int) + 1 < 1 + ((L.length : Int) + 15) / 16 + L.length) := by omega
        have hrl := recQ_length L
        have hSM := hashSum_D wq.heap.size (fun k => k < wq.heap.size ∨ k = gl) (D0 ++ ((recQ L).take s).flatten) wr HH.out
        rw [show shaF (D0 ++ ((recQ L).take s).flatten) = recS y last L by unfold recS; rw [List.take_of_length_le (by omega), HDL.out.2]] at hSM
        have HGF : Hid (wr.heap[gl]? = some (.cells (flatC L).toArray 156)) := hZ (by
          have h := HGL.out
          rw [stC_ge L (show L.length ≤ 16 * s by omega), show s - (L.length + 15) / 16 = L.length by omega, stC_all] at h
          exact h)
        clear HGL HH
        go_wp2_with fail
        refine hSM.mono ?_
        clear hSM
        rintro e w9 ⟨rfl, hb9⟩
        have HB9 : Hid (Below wq.heap.size wq w9) := hZ (HBr.out.trans (hb9.mono HBr.out.size))
        have HG9 : Hid (w9.heap[gl]? = some (.cells (flatC L).toArray 156)) := hZ ((hb9.block _ (Zz0 HGF.out)).trans HGF.out)
        clear hb9 HGF HBr
        obtain ⟨sm, hsm⟩ : ∃ sm, recS y last L = sm := ⟨_, rfl⟩
        have hsl : sm.length = 32 := by rw [← hsm]; exact Xzg _ _ _
        have HSM := hZ hsm
        have HPS : Hid ((p.drop 10).take 32 = sm) := hZ (by rw [HPE.out, recH_sum]; exact hsm)
        rw [hsm]
        clear hsm
        have hsz : (v8a sm).size = 32 := by unfold v8a; rw [List.size_toArray, Wz0, hsl]
        try dsimp only
        go_wp2_with (refine wpList_store_row rfl 67 (.tmp 18) (.tmp 162) rfl w9.heap.size (v8a sm) rfl rfl 67 (v8a (zer 32)) ?s1 ?s2 ?s3 ?s4 ?_)
        case s1 => exact heap_alloc_new w9 _
        case s2 => rw [hsz]; exact Vz9
        case s3 => rw [hsz]; simp [v8a, v8, zer]
        case s4 => exact all_oneCell_toArray (Kz7 sm)
        have hbx9 : ∀ o : Obj, Below w9.heap.size w9 ((w9.alloc o).setRow w9.heap.size (v8a sm)) := fun o => below_setRow (bZ) (Nat.le_refl _) _
        refine Kz0 (fun wx => Hid (wx.heap[w9.heap.size]? = some (.cells (v8a sm) 67)) ∧ Hid (Below wq.heap.size wq wx) ∧ Hid (wx.heap[gl]? = some (.cells (flatC L).toArray 156))) ⟨hZ (setRow_heap _ _ _ _ _ (0, 0) (heap_alloc_new w9 _)), hZ (HB9.out.trans ((hbx9 _).mono HB9.out.size)), hZ (((hbx9 _).block _ (Zz0 HG9.out)).trans HG9.out)⟩ ?_
        have hsbq : wq.heap.size ≤ w9.heap.size := HB9.out.size
        clear hbx9 HB9 HG9
        generalize w9.heap.size = sb at hsbq ⊢
        rintro w10 ⟨HS10, HB10, HG10⟩
        try simp only [Act.put]
        have HX10 : Hid (w10.heap[box]? = some (.cells (v8a p) 37)) := hZ ((HB10.out.block _ hbxq).trans HXq.out)
        go_wp2_with fail
        have HLN : Hid ((v8 sm).length = 32) := hZ (by rw [Wz0, hsl])
        have HRG : Hid (w10.rangeAt box 10 (v8 sm)) := hZ (fun j v hj => by
          have h := page_part HX10.out 10 32 j v (by rw [HPS.out]; exact hj)
          have ea : (⟨box, 10, none⟩ : Addr).add j = ⟨box, 10 + j, none⟩ := by unfold Addr.add; split <;> simp_all
          rw [ea] at h
          exact h)
        refine wp_region_quiet_below (by kernel_rfl) (by kernel_rfl) ?_
        go_big_quiet_want
        refine Jz1 67 (.tmp 18) rfl sb 0 rfl (v8 sm) _ (fun w' hw' => Vz6 (Wz4 HS10.out w' hw')) Tryz.underlying67 rfl (by rw [HLN.out]; exact Vz9) ?_
        simp only [Act.put, qs0, qs1, qs2]
        go_big_quiet_on
        go_big_quiet_step (fail)
        go_big_quiet_want
        refine quiet_arrayPtr 67 (.tmp 164) rfl (some ⟨box, 10, none⟩) 32 54 32 5 rfl Tryz.underlying67 (by decide) ?_
        simp only [Act.put, qs0, qs1, qs2]
        go_big_quiet_on
        go_big_quiet_want
        refine Jz1 67 (.tmp 165) rfl box 10 rfl (v8 sm) _ (fun w' hw' => range_regrown HRG.out (Zz0 HX10.out) w' hw') Tryz.underlying67 rfl (by rw [HLN.out]; exact Vz9) ?_
        simp only [Act.put, qs0, qs1, qs2]
        go_big_quiet_on
        go_big_quiet_want
        refine quiet_neq32 _ (.tmp 163) (.tmp 166) rfl sm sm rfl rfl hsl hsl ?_
        rw [show (!decide (sm = sm)) = false by simp]
        simp only [Act.put, qs0, qs1, qs2]
        go_big_quiet_on
        with_reducible refine wpQuiet_nil ?_
        intro w11 hw11
        have hq11 := Qz1 hw11
        clear hw11 HRG
        have hM11 : w11.heap[w.heap.size]? = some (.cells (markC 0 0 (zer 32)) 148) := ((HB10.out.trans (hq11.mono HB10.out.size)).block _ (Zz0 HMq.out)).trans HMq.out
        have HS11 : Hid (w11.heap[sb]? = some (.cells (v8a sm) 67)) := hZ ((hq11.block _ (Zz0 HS10.out)).trans HS10.out)
        have HG11 : Hid (w11.heap[gl]? = some (.cells (flatC L).toArray 156)) := hZ ((hq11.block _ (Zz0 HG10.out)).trans HG10.out)
        have HB11 : Hid (Below w.heap.size w w11) := hZ (HBq.out.trans ((HB10.out.trans (hq11.mono HB10.out.size)).mono HBq.out.size))
        have hglw : w.heap.size ≤ gl := by have := HBq.out.size; omega
        clear hq11 HS10 HG10 HB10 HX10
        clear w10
        obtain ⟨z0, z1, z2, z3, z4, z5⟩ := Wz6 hl.1 ((HB11.out.block _ (Zz0 HR.out)).trans HR.out)
        have hrbw := Zz0 HR.out
        have hwq := Zz0 HMq.out
        have hRm : w.heap.size < w11.heap.size := Zz0 hM11
        have k2 := cellB (R := w.heap.size) z2 (by simp; omega)
        have k3 := cellB (R := w.heap.size) z3 (by simp; omega)
        have k4 := cellB (R := w.heap.size) z4 (by simp; omega)
        have hpl0 : (0 : Int) ≤ pl := by omega
        have hpl1 : (pl : Int) ≤ 4096 := by omega
        have hnn : (n : Int) ≠ 0 := by omega
        go_wp2_with fail
        refine Vz0 [(0, true), (1, true), (2, true), (3, true), (4, true), (5, true), (6, true), (7, true), (8, true), (9, true), (10, true), (11, true), (12, true), (13, true), (14, true), (15, true), (16, true), (17, true), (18, true), (19, true), (20, true), (21, true), (22, true), (23, false), (24, true), (25, true)] 25 (fun w' => ∃ p : RegrownB, w' = setO (Go.Sort.grow (redrawn w11 p.d) p.os) (w.heap.size) p.o) (by kernel_rfl) (by kernel_rfl) (fun _ _ d _ _ h => by cases d <;> exact h) (Kz6 hRm) ?_
        (repeat (with_reducible refine mix_q ?_; simp only [qd1, qd0, qt1, qt0]; go_big_quiet_step (fail); with_reducible refine wpQuiet_nil ?_))
        with_reducible refine mix_q ?_
        simp only [qd1, qd0, qt1, qt0]
        go_big_quiet_want
        refine Jz1 67 (.tmp 18) rfl sb 0 rfl (v8 sm) _ (fun w' hw' => by obtain ⟨q, rfl⟩ := hw'; exact Vz6 (blkB HS11.out (by omega) _ _ _)) Tryz.underlying67 rfl (by rw [HLN.out]; exact Vz9) ?_
        simp only [Act.put, qs0, qs1, qs2]
        go_big_quiet_on
        with_reducible refine wpQuiet_nil ?_
        with_reducible refine mix_q ?_
        simp only [qd1, qd0, qt1, qt0]
        go_big_quiet_want
        refine Zzd 148 _ rfl (.mk (.int .i64 (((pl : Int) + (1 + ((L.length : Int) + 15) / 16 + L.length)) % n) :: .int .u64 (y + 1) :: v8 sm)) ?hb ?_
        case hb => simp only [List.map_toArray, List.map_cons, List.map_nil]; exact built_mark _ _ sm hsl
        simp only [Act.put, qs0, qs1, qs2]
        go_big_quiet_on
        with_reducible refine wpQuiet_nil ?_
        (repeat (with_reducible refine mix_q ?_; simp only [qd1, qd0, qt1, qt0]; go_big_quiet_step (fail); with_reducible refine wpQuiet_nil ?_))
        with_reducible refine mix_a ?_; simp only [qd1, qd0, qt1, qt0]
        have hpe : ((pl : Int) + (1 + ((L.length : Int) + 15) / 16 + L.length)) % n = (((pl + recZ L.length) % n : Nat) : Int) := by
          unfold recZ; push_cast; rfl
        rw [hpe]
        have HCS : Hid ((Array.mk (Value.int .i64 (((pl + recZ L.length) % n : Nat) : Int) :: .int .u64 (y + 1) :: v8 sm)).size = 34) := hZ (by show (_ :: _ :: v8 sm : List Value).length = 34; rw [List.length_cons, List.length_cons, HLN.out])
        refine wpList_store_row rfl 148 (.tmp 3) (.tmp 189) rfl w.heap.size (markC ((pl + recZ L.length) % n) (y + 1) sm) rfl rfl 148 (markC 0 0 (zer 32)) hM11 (by rw [Jz5 _ _ _ hsl]; exact Jza) (by rw [Jz5 _ _ _ hsl]; rfl) (Xza _ _ _) ?_
        have hfin := setRow_heap w11.drew w.heap.size _ (markC ((pl + recZ L.length) % n) (y + 1) sm) 148 (0, 0) hM11
        have hbf : Below w.heap.size w (w11.drew.setRow w.heap.size (markC ((pl + recZ L.length) % n) (y + 1) sm)) := below_setRow HB11.out.drew (Nat.le_refl _) _
        have hgf : (w11.drew.setRow w.heap.size (markC ((pl + recZ L.length) % n) (y + 1) sm)).heap[gl]? = some (.cells (flatC L).toArray 156) := by
          rw [setRow_other _ _ _ _ (by have := Zz0 HMq.out; omega)]; exact (HG11.out : w11.drew.heap[gl]? = _)
        have hgr := Qz5 hRm (Xz2 (Zz2 (Below.refl _ _).drew _) (Wzd w11.drew w.heap.size (markC ((pl + recZ L.length) % n) (y + 1) sm)))
        generalize w11.drew.setRow w.heap.size (markC ((pl + recZ L.length) % n) (y + 1) sm) = wf at hfin hbf hgf hgr ⊢
        simp only [Act.put]
        with_reducible refine wpList_nil ?_
        with_reducible refine Qz0 ?_
        refine ⟨fun _ => hgr, ?_⟩
        (repeat (with_reducible refine mix_q ?_; simp only [qd1, qd0, qt1, qt0]; go_big_quiet_step (fail); with_reducible refine wpQuiet_nil ?_))
        with_reducible refine Wz1 ?_
        go_wp2_with fail
        refine bodyPost_ret (Zzh Tryz.results141 _ _ w.heap.size 148 (markC ((pl + recZ L.length) % n) (y + 1) sm) (0, 0) _ rfl (.slice (some ⟨gl, 0, none⟩) L.length L.length) (.int .i64 (1 + ((L.length : Int) + 15) / 16 + L.length)) .nilIface rfl rfl rfl hfin Tryz.underlying148 rfl (by rw [Jz5 _ _ _ hsl]; exact Jza)) rfl ⟨⟨_, rfl, gl, ?_, hglw, hgf⟩, hbf⟩
        simp only [RgT.next, HSM.out]
        rw [show ((recZ L.length : Nat) : Int) = 1 + ((L.length : Int) + 15) / 16 + L.length by unfold recZ; push_cast; rfl]
open Go.RowKit Go.Maps
def lenL : Value → Nat
  | .slice _ n _ => n
  | _ => 0
theorem own_blk {w : World} {b e s n : Nat} {v : Value} {xs : List Value} (h : w.ownsRow b e s v n xs) {k : Nat} (hk : v.ownBlock = some k) : ∃ cur, w.heap[k]? = some (.cells cur e) := by
  rcases h.2 with ⟨rfl, _⟩ | ⟨g, cap, cur, rfl, _, hg, _⟩
  · simp [Value.ownBlock] at hk
  · simp only [Value.ownBlock, Option.some.injEq] at hk
    subst hk
    exact ⟨cur, hg⟩
theorem own_ne2 {w : World} {b e s n g T : Nat} {v : Value} {xs : List Value} {cs : Array Value} (h : w.ownsRow b e s v n xs) (hg : w.heap[g]? = some (.cells cs T)) (hT : e ≠ T) : some g ≠ v.ownBlock := fun e' => by
  obtain ⟨cur, hc⟩ := own_blk h e'.symm
  rw [hg] at hc
  cases hc
  exact hT rfl
def LLRow (b : Nat) (w : World) (v : Value) (LL : List (List (Nat × List Int))) : Prop :=
  ∃ vs : List Value, w.ownsRow b 154 1 v LL.length vs ∧ ∀ (t : Nat) (L : List (Nat × List Int)), LL[t]? = some L → ∃ g, vs[t]? = some (Value.slice (some ⟨g, 0, none⟩) L.length L.length) ∧ w.heap[g]? = some (.cells (flatC L).toArray 156)
theorem LLRow.below {b : Nat} {w w' : World} {v : Value} {LL : List (List (Nat × List Int))} (h : LLRow b w v LL) (hb : Below w.heap.size w w') : LLRow b w' v LL := by
  obtain ⟨vs, h1, h2⟩ := h
  refine ⟨vs, Vz4 h1 hb, fun t L hL => ?_⟩
  obtain ⟨g, g1, g2⟩ := h2 t L hL
  exact ⟨g, g1, (hb.block _ (Zz0 g2)).trans g2⟩
theorem LLRow.ring {b : Nat} {w w' : World} {v : Value} {LL : List (List (Nat × List Int))} (h : LLRow b w v LL) {rb : Nat} {cs : Array Value} (hr : w.heap[rb]? = some (.cells cs 252)) (hg : w.grownBy w' (some rb)) : LLRow b w' v LL := by
  obtain ⟨vs5, q1, q2⟩ := h
  refine ⟨vs5, Xz5 q1 (fun k hk => ?_), fun t K hK => ?_⟩
  · obtain ⟨cur, hc⟩ := own_blk q1 hk
    exact hg.block k (Zz0 hc) (fun e => Zze hc hr (by decide) (Option.some.inj e))
  · obtain ⟨g', g1, g2⟩ := q2 t K hK
    exact ⟨g', g1, (hg.block g' (Zz0 g2) (fun e => Zze g2 hr (by decide) (Option.some.inj e))).trans g2⟩
theorem LLRow.nil (b : Nat) (w : World) : LLRow b w (.slice none 0 0) [] := ⟨[], World.ownsRow_nil _ _ _ _, fun t L h => by simp at h⟩
theorem LLRow.len {b : Nat} {w : World} {v : Value} {LL : List (List (Nat × List Int))} (h : LLRow b w v LL) : lenL v = LL.length := by
  obtain ⟨vs, h1, h2⟩ := h
  obtain ⟨a, c, rfl⟩ := Kz3 h1
  rfl
theorem Recs.num {v : Nat → List Int} {n m : Nat} : ∀ (LL : List (List (Nat × List Int))) (r r' : RgT), Recs v n m r LL r' → r'.num = r.num + LL.length
  | [], r, r', h => by rw [(h : r = r')]; simp
  | L :: LL, r, r', h => by
    rw [Recs.num LL _ _ h.2.2.2]
    show r.num + 1 + (LL.length : Int) = r.num + ((LL.length + 1 : Nat) : Int)
    push_cast; omega
def RgOk (n : Nat) (r : RgT) : Prop := r.pl < n ∧ 0 ≤ r.num ∧ r.used ≤ n ∧ r.last.length = 32 ∧ U8s r.last
theorem RgOk.next {n m : Nat} {r : RgT} (h : RgOk n r) {L : List (Nat × List Int)} (hL : ChsOk m L) (hz : r.used + recZ L.length ≤ n) : RgOk n (r.next n L) := by
  have hs := recS_ok (num := r.num) ⟨h.2.2.2.1, h.2.2.2.2⟩ (fun x hx => (hL.2 x hx).2) hL.1.2
  have h1 : (r.pl + recZ L.length) % n < n := Nat.mod_lt _ (by have := h.1; omega)
  have h2 : 0 ≤ r.num + 1 := by have := h.2.1; omega
  generalize hsm : recS r.num r.last L = sm at hs
  have e : r.next n L = ⟨(r.pl + recZ L.length) % n, r.num + 1, sm, r.used + recZ L.length⟩ := by simp only [RgT.next, hsm]
  rw [e]
  exact ⟨h1, h2, hz, hs.1, hs.2⟩
theorem info_sch : (Tryz.prog.info? 154).map (fun i => (i.zero, i.size, i.bytes)) = some (some (.slice none 0 0), 1, 24) := by kernel_rfl
theorem LLRow.snoc {b : Nat} {w4 w5 : World} {v v5 : Value} {LL : List (List (Nat × List Int))} {L : List (Nat × List Int)} {g : Nat} {vs : List Value} (ho4 : w4.ownsRow b 154 1 v LL.length vs)
    (h2 : ∀ (t : Nat) (L : List (Nat × List Int)), LL[t]? = some L → ∃ g, vs[t]? = some (Value.slice (some ⟨g, 0, none⟩) L.length L.length) ∧ w4.heap[g]? = some (.cells (flatC L).toArray 156))
    (ho : w5.ownsRow b 154 1 v5 (LL.length + 1) (vs ++ [Value.slice (some ⟨g, 0, none⟩) L.length L.length])) (hc : w4.heap[g]? = some (.cells (flatC L).toArray 156)) (hgr : w4.grownBy w5 v.ownBlock) : LLRow b w5 v5 (LL ++ [L]) := by
  refine ⟨vs ++ [Value.slice (some ⟨g, 0, none⟩) L.length L.length], by simpa using ho, fun t K hK => ?_⟩
  have hvl : vs.length = LL.length := by have := ho4.1; omega
  have hch : ∀ (g' : Nat) (K' : List (Nat × List Int)), w4.heap[g']? = some (.cells (flatC K').toArray 156) → w5.heap[g']? = some (.cells (flatC K').toArray 156) := fun g' K' hc => (hgr.block g' (Zz0 hc) (own_ne2 ho4 hc (by decide))).trans hc
  by_cases ht : t < LL.length
  · rw [List.getElem?_append_left ht] at hK
    obtain ⟨g', g1, g2⟩ := h2 t K hK
    exact ⟨g', by rw [List.getElem?_append_left (by omega)]; exact g1, hch g' K g2⟩
  · rw [List.getElem?_append_right (by omega)] at hK
    have h0 : t - LL.length = 0 := by
      have := (List.getElem?_eq_some_iff.1 hK).1
      simp at this; omega
    rw [h0] at hK
    have hKL : L = K := by simpa using hK
    subst hKL
    exact ⟨g, by rw [List.getElem?_append_right (by omega), hvl, h0]; rfl, hch g L hc⟩
def OpF (rb db first n : Nat) (r : RgT) (wx : World) : Prop := wx.heap[rb]? = some (.cells (ringC db first n r.pl r.num r.last r.used) 252)
set_option maxRecDepth 100000 in
set_option maxHeartbeats 4000000 in
theorem open_any (db first n m : Nat) (r0 r1 : RgT) (LL : List (List (Nat × List Int))) (N : Nat → Prop) (d : DiskS) (w : World) (hn : 96 ≤ n ∧ n ≤ 4096) (hf : first + n ≤ d.firm.length) (h0 : RgOk n r0) (hu0 : r0.used = 0) (hnum : r1.num < 4611686018427387904)
    (hm : m ≤ 10000) (hLL : LL.length ≤ 4096) (hd : DiskI w db N d) (hrec : Recs (fun s => d.view (first + s)) n m r0 LL r1) (hst : Stale r1.num (d.view (first + r1.pl % n))) :
    Calls Tryz.prog 66 #[.pointer (some ⟨db, 0, none⟩), .int .i64 (first : Int), .int .i64 (n : Int), .agg (markC r0.pl r0.num r0.last)] w fun e w' => (∃ rb v, e = .returned (.tuple #[.pointer (some ⟨rb, 0, none⟩), v, .nilIface]) ∧ w.heap.size ≤ rb ∧ OpF rb db first n r1 w' ∧ LLRow w.heap.size w' v LL) ∧ Below w.heap.size w w' := by
  have HD := hZ hd
  have HREC := hZ hrec
  have HST := hZ hst
  have H0 := hZ h0
  have hfl := hd.isOk.1
  obtain ⟨hn1, hn2⟩ := hn
  have hp := h0.1
  have hl0 := h0.2.2.2.1
  obtain ⟨pl, num, last, used⟩ := r0
  dsimp only at hp hl0 hu0 ⊢
  subst hu0
  clear hd hrec hst h0
  have g1 : (96 : Int) ≤ n := by omega
  have g2 : (n : Int) ≤ 4096 := by omega
  have g3 : (0 : Int) ≤ first := by omega
  have g4 : (first : Int) + n ≤ d.firm.length := by omega
  have g5 : (0 : Int) ≤ pl := by omega
  have g6 : (pl : Int) < n := by omega
  have g7 : (d.firm.length : Int) ≤ 4096 := by omega
  go_enter Tryz.func66, Tryz.ntmps66
  repeat (fail_if_success (with_reducible refine Vz1 "ring.go:53" rfl ?_)
          first | go_values | go_skip | go_guarded | go_step | go_upon)
  refine Xz0 (fun wx => Hid (wx.heap[w.heap.size]? = some (.cells (markC pl num last) 148) ∧ Below w.heap.size w wx)) (hZ ⟨heap_alloc_new w (.cells (markC pl num last) 148), bZ⟩) ?_
  intro w1 H1
  obtain ⟨m0, m1⟩ := mark_cells H1.out.1
  have HD1 : Hid (DiskI w1 db N d) := hZ (HD.out.below H1.out.2)
  go_wp2_with fail
  refine (diskSize_any db N d w1 HD1.out).mono ?_
  rintro e w2 ⟨rfl, rfl⟩
  try dsimp only
  have HML : Hid ((Value.int .i64 (pl : Int) :: .int .u64 num :: v8 last).length = 34) := hZ (by simp only [List.length_cons, Wz0, hl0])
  repeat (fail_if_success (with_reducible refine Vz1 "ring.go:56" rfl ?_)
          first | go_values | go_skip | go_guarded | go_step | go_upon)
  repeat (fail_if_success (with_reducible refine Kz1 51 rfl ?_)
          first | go_values | go_skip | go_guarded | go_step | go_upon)
  refine wpList_load_mid rfl 148 (.tmp 7) rfl w.heap.size 0 rfl (.int .i64 (pl : Int) :: .int .u64 num :: v8 last) _ (Jzc H1.out.1) Tryz.underlying148 rfl (by rw [HML.out]; exact Wz7) ?_
  simp only [Act.put, qs0, qs1, qs2]
  refine Qz4 rfl 252 _ rfl (ringC db first n pl num last 0) ?hb ?_
  case hb => simp only [List.map_toArray, List.map_cons, List.map_nil]; exact built_ring db first n pl num last hl0
  simp only [Act.put, qs0, qs1, qs2]
  repeat (fail_if_success (with_reducible refine Kz1 11 rfl ?_)
          first | go_values | go_skip | go_guarded | go_step | go_upon)
  have hs1 := H1.out.2.size
  refine Xz0 (fun wx => Hid (OpF w1.heap.size db first n ⟨pl, num, last, 0⟩ wx) ∧ Hid (Below w.heap.size w wx)) ⟨hZ (heap_alloc_new w1 (.cells (ringC db first n pl num last 0) 252)), hZ (H1.out.2.alloc hs1 _)⟩ ?_
  clear HD1 m0 m1 H1 HML
  generalize w1.heap.size = rb at hs1 ⊢
  clear w1
  rintro w2 ⟨HO2, HB2⟩
  obtain ⟨i0, hi0', hz0, hz1, hz2⟩ := info_parts info_sch
  have HI0 := hZ (And.intro hi0' (And.intro hz0 (And.intro hz1 hz2)))
  clear hi0' hz0 hz1 hz2
  go_wp2_with fail
  go_loopw [12] (fun lv wr => ∃ (done rest : List (List (Nat × List Int))) (r : RgT), Hid (LL = done ++ rest) ∧ Hid (RgOk n r ∧ Recs (fun s => d.view (first + s)) n m r rest r1) ∧ Hid (LLRow w.heap.size wr lv done) ∧ Hid (OpF rb db first n r wr) ∧ Hid (Below w.heap.size w wr)) (fun lv _ => LL.length + 1 - lenL lv)
  case atStart => exact ⟨[], LL, ⟨pl, num, last, 0⟩, hZ rfl, hZ ⟨H0.out, HREC.out⟩, hZ (LLRow.nil _ _), HO2, HB2⟩
  case round =>
    clear HO2 HB2 H0 HREC
    obtain ⟨done, rest, r, HLL, HR, HLR, HO, HB⟩ := hrel
    obtain ⟨rpl, rnum, rlast, rused⟩ := r
    have hnm := Recs.num _ _ _ HR.out.2
    have HDr : Hid (DiskI wr db N d) := hZ (HD.out.below HB.out)
    have HLEN := HLR.out.len
    cases rest with
    | nil =>
      have hr1 : (⟨rpl, rnum, rlast, rused⟩ : RgT) = r1 := HR.out.2
      subst hr1
      have HRC := record_any rb db first n rpl rused rnum rlast N d none wr ⟨HR.out.1.2.2.2.1, HR.out.1.2.2.2.2⟩ HO.out ⟨hn1, hn2⟩ hf HR.out.1.1 ⟨HR.out.1.2.1, hnum⟩ HR.out.1.2.2.1 HDr.out HST.out
      go_wp2_with fail
      refine HRC.mono ?_
      clear HRC
      rintro e w3 ⟨⟨_, rfl, rfl⟩, hb3⟩
      try dsimp only
      go_wp2_with (refine wpList_store_row rfl 148 (.tmp 14) (.tmp 58) rfl w3.heap.size (markC 0 0 (zer 32)) rfl rfl 148 (markC 0 0 (zer 32)) ?s1 Wz7 rfl (Xza _ _ _) ?_)
      case s1 => exact heap_alloc_new w3 _
      go_ret3
      have hb4 : ∀ o : Obj, Below wr.heap.size wr ((w3.alloc o).setRow w3.heap.size (markC 0 0 (zer 32))) := fun o => hb3.trans ((below_setRow (bZ) (Nat.le_refl _) _).mono hb3.size)
      refine ⟨⟨rb, _, rfl, hs1, ((hb4 _).block _ (Zz0 HO.out)).trans HO.out, ?_⟩, HB.out.trans ((hb4 _).mono HB.out.size)⟩
      rw [HLL.out, List.append_nil]
      exact HLR.out.below (hb4 _)
    | cons L rest =>
      obtain ⟨hL, hz, hat, hrest⟩ := HR.out.2
      have hL10 : ChsOk 10000 L := ⟨hL.1, fun x hx => ⟨by have := (hL.2 x hx).1; omega, (hL.2 x hx).2⟩⟩
      have hnx := HR.out.1.next hL hz
      have HRC := record_any rb db first n rpl rused rnum rlast N d (some L) wr ⟨HR.out.1.2.2.2.1, HR.out.1.2.2.2.2⟩ HO.out ⟨hn1, hn2⟩ hf HR.out.1.1 ⟨HR.out.1.2.1, by rw [List.length_cons] at hnm; push_cast at hnm; (try dsimp only at hnm); omega⟩ HR.out.1.2.2.1 HDr.out ⟨hL10, hz, hat⟩
      have hL1 := hL.1.1
      have hqu : (RgT.next n ⟨rpl, rnum, rlast, rused⟩ L).used = rused + recZ L.length := rfl
      obtain ⟨q, hq⟩ : ∃ q, RgT.next n ⟨rpl, rnum, rlast, rused⟩ L = q := ⟨_, rfl⟩
      rw [hq] at hrest hnx hqu
      unfold RecV at HRC
      dsimp only at HRC
      rw [hq] at HRC
      clear hq
      obtain ⟨qpl, qnum, qlast, qused⟩ := q
      obtain ⟨z, hzz⟩ : ∃ z, recZ L.length = z := ⟨_, rfl⟩
      have hz1 : 1 ≤ z := by rw [← hzz]; unfold recZ; omega
      rw [hzz] at hz hqu HRC
      try dsimp only at hqu
      try dsimp only at hz
      try dsimp only at HRC
      subst hqu
      have hu1 : rused ≤ n := HR.out.1.2.2.1
      have hrl : rlast.length = 32 := HR.out.1.2.2.2.1
      have hql : qlast.length = 32 := hnx.2.2.2.1
      have HQ := hZ hnx
      have HRS := hZ hrest
      clear hnx hrest hat hL10 hL hzz HR HDr hnm
      go_wp2_with fail
      refine HRC.mono ?_
      clear HRC
      rintro e w3 ⟨⟨_, rfl, hv⟩, hb3⟩
      obtain ⟨g, rfl, hg1, hg2⟩ := hv
      have HG3 := hZ hg2
      have HB3 := hZ hb3
      clear hg2 hb3
      try dsimp only
      have hz1i : (1 : Int) ≤ z := by omega
      have hzn : (z : Int) ≤ n := by omega
      have hzne : ¬ ((z : Int) = 0) := by omega
      go_upto_region 6 with (refine wpList_store_row rfl 148 (.tmp 14) (.tmp 58) rfl w3.heap.size (markC qpl qnum qlast) rfl rfl 148 (markC 0 0 (zer 32)) (heap_alloc_new w3 _) (by rw [Jz5 _ _ _ hql]; exact Wz7) (by rw [Jz5 _ _ _ hql]; rfl) (Xza _ _ _) ?_)
      have hbx : ∀ o : Obj, Below w3.heap.size w3 ((w3.alloc o).setRow w3.heap.size (markC qpl qnum qlast)) := fun o => below_setRow (bZ) (Nat.le_refl _) _
      refine Kz0 (fun wx => Hid (wx.heap[w3.heap.size]? = some (.cells (markC qpl qnum qlast) 148)) ∧ Hid (Below wr.heap.size wr wx ∧ wx.heap[g]? = some (.cells (flatC L).toArray 156))) ⟨hZ (setRow_heap _ _ _ _ _ (0, 0) (heap_alloc_new w3 _)), hZ ⟨HB3.out.trans ((hbx _).mono HB3.out.size), ((hbx _).block _ (Zz0 HG3.out)).trans HG3.out⟩⟩ ?_
      have hb14 : wr.heap.size ≤ w3.heap.size := HB3.out.size
      clear hbx HG3 HB3
      generalize w3.heap.size = b14 at hb14 ⊢
      clear w3
      rintro w4 ⟨HM4, H4⟩
      obtain ⟨vs, hvo, hvs⟩ := HLR.out
      have HVO := hZ hvo
      have HVS := hZ hvs
      have hdl : done.length ≤ 4096 := by have h := HLL.out; rw [h, List.length_append] at hLL; omega
      clear hvo hvs
      go_wp2_with (at_builtin; refine Jz2 rfl (.tmp 69) (.tmp 71) 151 rfl w.heap.size 154 i0 (.slice none 0 0) 1 24 Tryz.underlying151 HI0.out.1 HI0.out.2.1 HI0.out.2.2.1 HI0.out.2.2.2 rfl (by decide) u12 done.length vs rfl ?c0 (.slice (some ⟨w4.heap.size, 0, none⟩) 1 1) 1 [Value.slice (some ⟨g, 0, none⟩) L.length L.length] rfl (Xz9 w4 [Value.slice (some ⟨g, 0, none⟩) L.length L.length] 154 1 rfl (by intro u hu; rw [List.mem_singleton] at hu; subst hu; rfl)) ?c1 ?c2 ?c3 ?_)
      case c0 => exact Vz4 HVO.out (H4.out.1.alloc H4.out.1.size _)
      case c1 => unfold maxLen; omega
      case c2 => omega
      case c3 => have := HB.out.size; have := H4.out.1.size; simp; omega
      intro v5 w5 ho5 hg5
      have hbr := HB.out.size
      have hb4 := Zz0 HM4.out
      have h4s := H4.out.1.size
      have hb4a : ∀ o : Obj, Below w4.heap.size w4 (w4.alloc o) := fun o => bZ
      have hbra : ∀ o : Obj, Below wr.heap.size wr (w4.alloc o) := fun o => H4.out.1.alloc H4.out.1.size _
      have hrbr := Zz0 HO.out
      have HL5 : Hid (LLRow w.heap.size w5 v5 (done ++ [L])) := hZ (LLRow.snoc (Vz4 HVO.out (hbra _)) (fun t K hK => by
        obtain ⟨g', g1, g2⟩ := HVS.out t K hK
        exact ⟨g', g1, ((hbra _).block _ (Zz0 g2)).trans g2⟩) ho5 (((hb4a _).block _ (Zz0 H4.out.2)).trans H4.out.2) hg5)
      have ho4 := Vz4 HVO.out (hbra (.cells #[Value.slice (some ⟨g, 0, none⟩) L.length L.length] 154))
      have hrb4 : (w4.alloc (.cells #[Value.slice (some ⟨g, 0, none⟩) L.length L.length] 154)).heap[rb]? = some (.cells (ringC db first n rpl rnum rlast rused) 252) := ((hbra _).block _ hrbr).trans HO.out
      have hm4 : (w4.alloc (.cells #[Value.slice (some ⟨g, 0, none⟩) L.length L.length] 154)).heap[b14]? = some (.cells (markC qpl qnum qlast) 148) := ((hb4a _).block _ hb4).trans HM4.out
      have HO5 : Hid (OpF rb db first n ⟨rpl, rnum, rlast, rused⟩ w5) := hZ ((hg5.block rb (Zz0 hrb4) (own_ne2 ho4 hrb4 (by decide))).trans hrb4)
      have HM5 : Hid (w5.heap[b14]? = some (.cells (markC qpl qnum qlast) 148)) := hZ ((hg5.block b14 (Zz0 hm4) (own_ne2 ho4 hm4 (by decide))).trans hm4)
      have HB5 : Hid (Below w.heap.size w w5) := hZ ((HB.out.trans ((hbra _).mono hbr)).grown hg5 (by simp; omega) (fun k hk => (World.ownsRow.lt HVO.out k hk).1))
      clear ho5 hg5 hb4a hbra HM4 H4 HO HB HVO HVS HLR ho4 hrb4 hm4
      have HMR := hZ (Jzc HM5.out)
      have HML : Hid ((Value.int .i64 (qpl : Int) :: .int .u64 qnum :: v8 qlast).length = 34) := hZ (by simp only [List.length_cons, Wz0, hql])
      have HTH : Hid (w5.there rb 3 34) := hZ (ring_there3 hrl HO5.out)
      have hmsz := Jz5 qpl qnum qlast hql
      go_upto_region 12 with (first | (refine wpList_load_mid rfl 148 (.tmp 14) rfl b14 0 rfl (.int .i64 (qpl : Int) :: .int .u64 qnum :: v8 qlast) _ HMR.out Tryz.underlying148 rfl (by rw [HML.out]; exact Wz7) ?_) | (refine wpList_store_mid rfl 148 (.tmp 76) (.tmp 74) rfl rb 3 (markC qpl qnum qlast) rfl rfl (by rw [hmsz]; exact HTH.out) (by rw [hmsz]; exact Jza) (Xza _ _ _) ?_))
      have hcc : (markC qpl qnum qlast).toList = .int .i64 (qpl : Int) :: .int .u64 qnum :: v8 qlast := rfl
      have hgs : w5.grownBy (w5.setCells rb 3 (markC qpl qnum qlast).toList) (some rb) := Jz7 _ _ _ _
      have hrbw : w.heap.size ≤ rb := by omega
      refine Kz0 (fun wx => Hid (LLRow w.heap.size wx v5 (done ++ [L])) ∧ Hid (OpF rb db first n ⟨qpl, qnum, qlast, rused⟩ wx) ∧ Hid (Below w.heap.size w wx)) ⟨hZ ?_, hZ (by rw [hcc]; exact ring_mark hrl hql HO5.out), hZ (HB5.out.grown hgs HB5.out.size (fun k hk => by cases hk; exact hrbw))⟩ ?_
      · exact HL5.out.ring HO5.out hgs
      clear HL5 HO5 HM5 HB5 hgs hcc HMR HML HTH hmsz hb4 h4s
      clear w5
      rintro w6 ⟨HL6, HO6, HB6⟩
      obtain ⟨z0, z1, z2, z3, z4, z5⟩ := Wz6 hql HO6.out
      have f5 := ring_fr HO6.out 37
      have hu1i : (rused : Int) ≤ n := by omega
      have hu0i : (0 : Int) ≤ rused := by omega
      have hz0i : (0 : Int) ≤ z := by omega
      try simp only [Act.put]
      go_wp2_with fail
      have hl6 := HL6.out.len
      have hlen : LL.length = done.length + (rest.length + 1) := by rw [HLL.out, List.length_append, List.length_cons]
      rw [List.length_append, List.length_singleton] at hl6
      go_roundw
      case rel =>
        refine ⟨_, _, _, v5, ⟨done ++ [L], rest, hZ (by rw [HLL.out]; simp), ⟨qpl, qnum, qlast, rused + z⟩, hZ ⟨HQ.out, HRS.out⟩, hZ (HL6.out.ring HO6.out (Zz4 _ _ _ _)), hZ ?_, hZ (HB6.out.setCell (by show w.heap.size ≤ rb; omega) _)⟩, rfl, rfl, rfl, rfl⟩
        unfold OpF
        dsimp only
        have h := ring_used hql (rused + z) HO6.out
        rw [show ((rused + z : Nat) : Int) = (rused : Int) + z by push_cast; rfl] at h
        exact h
      case measure => omega
end Go.Proofs.YtajmcplanlibnaaGreatDoor
