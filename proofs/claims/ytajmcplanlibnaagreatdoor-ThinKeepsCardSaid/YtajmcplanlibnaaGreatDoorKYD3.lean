/- A disk that has fuel without end: what it is in memory. Errors that were met somewhere. A disk: New, and what Read answers. A disk: a sector is written. -/
import Derived.Test.YtajmcplanlibnaaGreatDoorKYH1
import Derived.Test.YtajmcplanlibnaaGreatDoorKYLib
set_option linter.unusedSimpArgs false
set_option linter.unusedVariables false
set_option linter.unnecessarySimpa false
namespace Go.Proofs.YtajmcplanlibnaaGreatDoor
open Go.RowKit
def ErrAt (w : World) : Nat → Value → Int → Prop
  | 0, v, n => v = .iface 137 (.int .i64 n)
  | k + 1, v, n => ∃ b s e, v = .iface 247 (.pointer (some ⟨b, 0, none⟩)) ∧ w.heap[b]? = some (.cells #[.string s, e] 249) ∧ ErrAt w k e n
theorem ErrAt.below {w w' : World} (hb : Below w.heap.size w w') : ∀ {k : Nat} {v : Value} {n : Int}, ErrAt w k v n → ErrAt w' k v n
  | 0, _, _, h => h
  | k + 1, _, _, ⟨b, s, e, h1, h2, h3⟩ => ⟨b, s, e, h1, (hb.block b (Zz0 h2)).trans h2, ErrAt.below hb h3⟩
set_option maxRecDepth 100000 in
theorem Qzc (s : ByteArray) (w : World) : Calls Tryz.prog 63 #[.string s, .nilIface] w fun e w' => e = .returned .nilIface ∧ w = w' := by
  go_enter Tryz.func63, Tryz.ntmps63
  go_wp2_with fail
  go_ret
  exact ⟨rfl, rfl⟩
set_option maxRecDepth 100000 in
theorem woe_some (s : ByteArray) (t : TypeId) (v : Value) (w : World) : Calls Tryz.prog 63 #[.string s, .iface t v] w fun e w' => e = .returned (.iface 247 (.pointer (some ⟨w.heap.size, 0, none⟩))) ∧ w'.heap[w.heap.size]? = some (.cells #[.string s, .iface t v] 249) ∧ Below w.heap.size w w' := by
  go_enter Tryz.func63, Tryz.ntmps63
  go_wp2_with fail
  go_ret
  refine ⟨rfl, heap_alloc_new w _, ?_⟩
  repeat (first | with_reducible assumption | (with_reducible refine Below.setCell ?_ (by first | omega | (simp; done) | (simp; omega)) _) | (with_reducible refine Below.alloc ?_ (by first | omega | (simp; done) | (simp; omega)) _) | (with_reducible refine Below.drew ?_) | (with_reducible refine Qz2 ?_ _) | with_reducible exact Below.refl _ _ | (with_reducible refine Below.trans ?_ (Below.mono (by assumption) (by first | omega | (simp; done) | (simp; omega)))))
theorem woe_err (s : ByteArray) (k : Nat) (v : Value) (n : Int) (w : World) (h : ErrAt w k v n) : Calls Tryz.prog 63 #[.string s, v] w fun e w' => (∃ v', e = .returned v' ∧ ErrAt w' (k + 1) v' n) ∧ Below w.heap.size w w' := by
  obtain ⟨t, x, rfl⟩ : ∃ t x, v = .iface t x := by
    cases k with
    | zero => exact ⟨_, _, h⟩
    | succ k => obtain ⟨b, s, e, h1, _⟩ := h; exact ⟨_, _, h1⟩
  exact (woe_some s t x w).mono fun e w' ⟨h1, h2, h3⟩ => ⟨⟨_, h1, _, _, _, rfl, h2, h.below h3⟩, h3⟩
structure DiskS where
  firm : List (List Int)
  cache : List (Nat × List Int)
def PgOk (p : List Int) : Prop := p.length = 64 ∧ U8s p
def DiskS.ok (d : DiskS) : Prop := (1 ≤ d.firm.length ∧ d.firm.length ≤ 4096) ∧ (∀ p ∈ d.firm, PgOk p) ∧ (∀ x ∈ d.cache, x.1 < d.firm.length ∧ PgOk x.2) ∧ d.cache.length ≤ 10000000
def lastOf (c : List (Nat × List Int)) (i : Nat) : Option Nat := (c.reverse.findIdx? fun x => x.1 == i).map fun j => c.length - 1 - j
theorem lastOf_nil (i : Nat) : lastOf [] i = none := rfl
theorem lastOf_snoc (c : List (Nat × List Int)) (x : Nat × List Int) (i : Nat) : lastOf (c ++ [x]) i = if x.1 = i then some c.length else lastOf c i := by
  unfold lastOf
  rw [List.reverse_append, List.reverse_singleton, List.singleton_append, List.findIdx?_cons]
  by_cases h : x.1 = i
  · simp [h]
  · simp only [beq_iff_eq, h, if_false, Option.map_map]
    congr 1
    funext j
    simp; omega
theorem lastOf_lt {c : List (Nat × List Int)} {i k : Nat} (h : lastOf c i = some k) : k < c.length := by
  unfold lastOf at h
  simp only [Option.map_eq_some_iff] at h
  obtain ⟨j, hj, rfl⟩ := h
  have := (List.findIdx?_eq_some_iff_getElem.1 hj).1
  simp at this; omega
def DiskS.view (d : DiskS) (i : Nat) : List Int := match lastOf d.cache i with
  | some k => (d.cache.getD k (0, [])).2
  | none => d.firm.getD i []
noncomputable def lastL (c : List (Nat × List Int)) : Lit → Option Value := fun l => match l with
  | .int .i64 i => if 0 ≤ i then (lastOf c i.toNat).map fun k => .int .i64 (k : Int) else none
  | _ => none
theorem lastL_snoc (c : List (Nat × List Int)) (i : Nat) (p : List Int) : upd (lastL c) (.int .i64 (i : Int)) (some (.int .i64 (c.length : Int))) = lastL (c ++ [(i, p)]) := by
  funext l
  by_cases h : l = .int .i64 (i : Int)
  · subst h
    rw [upd_same]
    simp [lastL, lastOf_snoc]
  · rw [upd_other _ h]
    unfold lastL
    split
    · rename_i j
      split
      · rename_i hj
        rw [lastOf_snoc, if_neg]
        intro e
        exact h (by simp at e; subst e; congr 1; omega)
      · rfl
    · rfl
theorem lastL_nil : lastL [] = fun _ => none := by
  funext l; unfold lastL
  split
  · simp [lastOf_nil]
  · rfl
def flatC (c : List (Nat × List Int)) : List Value := c.flatMap fun x => .int .i64 (x.1 : Int) :: v8 x.2
def DiskI (w : World) (db : Nat) (N : Nat → Prop) (d : DiskS) : Prop :=
  ∃ fb cv lb c, (∃ fc, d.firm.length ≤ fc ∧ w.heap[db]? = some (.cells #[.slice (some ⟨fb, 0, none⟩) d.firm.length fc, cv, .map (some lb), .int .i64 (-1), .bool false] 141)) ∧
    (∃ rest : List Value, w.heap[fb]? = some (.cells (v8 d.firm.flatten ++ rest).toArray 37)) ∧ w.ownsRow 0 178 65 cv d.cache.length (flatC d.cache) ∧ MapIs Tryz.prog 3 w lb c (lastL d.cache) ∧ c ≤ d.cache.length ∧
    ¬ N db ∧ ¬ N fb ∧ ¬ N lb ∧ (∀ k, cv.ownBlock = some k → ¬ N k) ∧ (∀ i, N i → i < w.heap.size) ∧ d.ok
theorem DiskI.keep {w w' : World} {db : Nat} {N N' : Nat → Prop} {d : DiskS} (h : DiskI w db N d) (hb : Below w.heap.size w w') (hn : ∀ i, N' i → i < w'.heap.size ∧ (N i ∨ w.heap.size ≤ i)) : DiskI w' db N' d := by
  obtain ⟨fb, cv, lb, c, ⟨fc, hfc, h1⟩, ⟨rest, h2⟩, h3, h4, h5, n1, n2, n3, n4, n5, h6⟩ := h
  have hx : ∀ i, i < w.heap.size → ¬ N i → ¬ N' i := fun i hi hni hN' => by
    rcases (hn i hN').2 with h | h
    · exact hni h
    · omega
  exact ⟨fb, cv, lb, c, ⟨fc, hfc, (hb.block _ (Zz0 h1)).trans h1⟩, ⟨rest, (hb.block _ (Zz0 h2)).trans h2⟩, Xz5 h3 (fun k hk => hb.block k (h3.lt k hk).2), h4.below hb h4.lt, h5,
    hx _ (Zz0 h1) n1, hx _ (Zz0 h2) n2, hx _ h4.lt n3, fun k hk => hx k (h3.lt k hk).2 (n4 k hk), fun i hi => (hn i hi).1, h6⟩
theorem DiskI.lt {w : World} {db : Nat} {N : Nat → Prop} {d : DiskS} (h : DiskI w db N d) : db < w.heap.size := by
  obtain ⟨fb, cv, lb, c, ⟨fc, _, h1⟩, _⟩ := h; exact Zz0 h1
set_option maxRecDepth 100000 in
theorem diskOff_any (db : Nat) (N : Nat → Prop) (d : DiskS) (w : World) (h : DiskI w db N d) : Calls Tryz.prog 81 #[.pointer (some ⟨db, 0, none⟩)] w fun e w' => e = .returned (.bool false) ∧ w = w' := by
  obtain ⟨fb, cv, lb, c, ⟨fc, _, h1⟩, _⟩ := h
  obtain ⟨z0, z1, z2, z3, z4, _⟩ := blk5 h1
  clear h1
  go_enter Tryz.func81, Tryz.ntmps81
  go_wp2_with fail
  go_ret
  exact ⟨rfl, rfl⟩
set_option maxRecDepth 100000 in
theorem diskSize_any (db : Nat) (N : Nat → Prop) (d : DiskS) (w : World) (h : DiskI w db N d) : Calls Tryz.prog 64 #[.pointer (some ⟨db, 0, none⟩)] w fun e w' => e = .returned (.int .i64 (d.firm.length : Int)) ∧ w = w' := by
  obtain ⟨fb, cv, lb, c, ⟨fc, _, h1⟩, _⟩ := h
  obtain ⟨z0, z1, z2, z3, z4, _⟩ := blk5 h1
  clear h1
  go_enter Tryz.func64, Tryz.ntmps64
  go_wp2_with fail
  go_ret
  exact ⟨rfl, rfl⟩
set_option maxRecDepth 100000 in
theorem diskStep_any (db : Nat) (N : Nat → Prop) (d : DiskS) (w : World) (h : DiskI w db N d) : Calls Tryz.prog 173 #[.pointer (some ⟨db, 0, none⟩)] w fun e w' => e = .returned .nilIface ∧ w = w' := by
  have HD := hZ h
  obtain ⟨fb, cv, lb, c, ⟨fc, _, h1⟩, _⟩ := h
  obtain ⟨z0, z1, z2, z3, z4, _⟩ := blk5 h1
  clear h1
  go_enter Tryz.func173, Tryz.ntmps173
  go_wp2_with fail
  refine (diskOff_any db N d w HD.out).mono ?_
  rintro e w1 ⟨rfl, rfl⟩
  try dsimp only
  go_wp2_with fail
  go_ret
  exact ⟨rfl, rfl⟩
open Go.RowKit Go.Maps
theorem Vz3 {P : Program} {fn : Func} {p q : Tmp} {ty : TypeId} (h : fn.results = #[.cell p ty, .tmp q]) (tmps : Array Value) (w : World) (g : Nat) (t : TypeId) (cs : Array Value) (fr : Nat × Nat) (d : TypeDesc)
    (hp : tmps.getD p undef = .pointer (some ⟨g, 0, none⟩)) (v : Value) (hq : tmps.getD q undef = v) (hg : w.heap[g]? = some (.cells cs t fr))
    (hu : P.underlying ty = some d) (hd : (match d with | .struct _ | .array _ _ => true | _ => false) = true) (hi : (P.info? ty).map (·.size) = some cs.size) :
    (results fn tmps).run P w = .ok (.tuple #[.agg cs, v]) w := by
  have hp' : tmps[p]?.getD undef = .pointer (some ⟨g, 0, none⟩) := by simpa using hp
  have hq' : tmps[q]?.getD undef = v := by simpa using hq
  simp [results, h, hp', hq', asAddr, run_loadVar_row w g t ty cs fr d hg hu hd hi]
theorem info_pg : (Tryz.prog.info? 37).map (fun i => (i.zero, i.size, i.bytes)) = some (some (.agg (v8a (zer 64))), 64, 64) := by kernel_rfl
theorem Zz5 : (Tryz.prog.info? 37).map (·.size) = some 64 := by kernel_rfl
theorem made_rep (m n : Nat) (hm : 0 < m) : madeCells (v8a (zer m)) n = v8a (zer n) := by
  apply Array.ext'
  simp only [madeCells, v8a, v8, zer, Array.toList_map, Array.toList_range]
  apply List.ext_getElem
  · simp
  · intro i h1 h2
    have : i % m < m := Nat.mod_lt _ hm
    simp [this]
theorem made_zer (n : Nat) : madeCells (v8a (zer 64)) n = v8a (zer n) := made_rep 64 n (by decide)
theorem flat_rep (n m : Nat) : (List.replicate n (zer m)).flatten = zer (n * m) := by simp [zer, List.flatten_replicate_replicate]
theorem flat_zer (n : Nat) : (List.replicate n (zer 64)).flatten = zer (n * 64) := flat_rep n 64
theorem zer_u8 (m : Nat) : U8s (zer m) := fun x hx => by
  have : x = 0 := (List.mem_replicate.1 hx).2
  subst this; decide
theorem zer_pg : PgOk (zer 64) := ⟨List.length_replicate, zer_u8 64⟩
theorem pgs_get : ∀ (l : List (List Int)) (i j : Nat), (∀ p ∈ l, p.length = 64) → j < 64 → l.flatten[i * 64 + j]? = (l[i]?).bind (·[j]?)
  | [], i, j, _, _ => by simp
  | p :: l, 0, j, h, hj => by
    have hp := h p (by simp)
    rw [List.flatten_cons, Nat.zero_mul, Nat.zero_add, List.getElem?_append_left (by omega)]
    rfl
  | p :: l, i + 1, j, h, hj => by
    have hp := h p (by simp)
    rw [List.flatten_cons, List.getElem?_append_right (by omega), hp, show (i + 1) * 64 + j - 64 = i * 64 + j by omega, pgs_get l i j (fun q hq => h q (by simp [hq])) hj]
    rfl
theorem firm_range {w : World} {fb T : Nat} {l : List (List Int)} {rest : List Value} (h : w.heap[fb]? = some (.cells (v8 l.flatten ++ rest).toArray T)) (hl : ∀ p ∈ l, PgOk p) (i : Nat) (hi : i < l.length) : w.rangeAt fb (i * 64) (v8 (l.getD i [])) := fun j v hv => by
  have he : l.getD i [] = l[i] := by simp [hi]
  rw [he] at hv
  have hj : j < 64 := by have := (List.getElem?_eq_some_iff.1 hv).1; rw [v8, List.length_map, (hl _ (List.getElem_mem hi)).1] at this; exact this
  have hf := pgs_get l i j (fun p hp => (hl p hp).1) hj
  have hx : l.flatten[i * 64 + j]? = l[i][j]? := by rw [hf, List.getElem?_eq_getElem hi]; rfl
  have hj2 : j < l[i].length := by rw [(hl _ (List.getElem_mem hi)).1]; exact hj
  have hlt : i * 64 + j < l.flatten.length := by
    rw [List.getElem?_eq_getElem hj2] at hx
    exact (List.getElem?_eq_some_iff.1 hx).1
  rw [cell_of_row w fb (i * 64 + j) _ T (0, 0) h, List.getElem?_toArray, List.getElem?_append_left (by rw [Wz0]; omega)]
  unfold v8 at hv ⊢
  rw [List.getElem?_map] at hv ⊢
  rw [hx]
  exact hv
theorem Zzg (l : List Int) : (v8a l).all (fun a => a.oneCell') = true := by simp [v8a, v8, Value.oneCell']
theorem info_pg_ex : ∃ a, Tryz.prog.info? 37 = some a ∧ a.size = 64 := by
  have h := Zz5
  simp only [Option.map_eq_some_iff] at h
  exact h
theorem flatC_get : ∀ (c : List (Nat × List Int)) (k j : Nat), (∀ x ∈ c, x.2.length = 64) → j < 64 → (flatC c)[k * 65 + 1 + j]? = (c[k]?).bind (fun x => (v8 x.2)[j]?)
  | [], k, j, _, _ => by simp [flatC]
  | x :: c, 0, j, h, hj => by
    have hx := h x (by simp)
    have e : flatC (x :: c) = .int .i64 (x.1 : Int) :: (v8 x.2 ++ flatC c) := rfl
    rw [e, show 0 * 65 + 1 + j = j + 1 by omega, List.getElem?_cons_succ, List.getElem?_append_left (by simp [v8]; omega)]
    rfl
  | x :: c, k + 1, j, h, hj => by
    have hx := h x (by simp)
    have e : flatC (x :: c) = .int .i64 (x.1 : Int) :: (v8 x.2 ++ flatC c) := rfl
    rw [e, show (k + 1) * 65 + 1 + j = (k * 65 + 1 + j + 64) + 1 by omega, List.getElem?_cons_succ, List.getElem?_append_right (by simp [v8]; omega), show k * 65 + 1 + j + 64 - (v8 x.2).length = k * 65 + 1 + j by simp [v8]; omega, flatC_get c k j (fun y hy => h y (by simp [hy])) hj]
    rfl
theorem cache_range {w : World} {e gc cc n : Nat} {c : List (Nat × List Int)} (h : w.ownsRow 0 e 65 (.slice (some ⟨gc, 0, none⟩) c.length cc) c.length (flatC c)) (hc : ∀ x ∈ c, x.1 < n ∧ PgOk x.2) (k : Nat) (hk : k < c.length) : w.rangeAt gc (k * 65 + 1) (v8 (c.getD k (0, [])).2) := fun j v hv => by
  have he : c.getD k (0, []) = c[k] := by simp [hk]
  rw [he] at hv
  have hj : j < 64 := by have := (List.getElem?_eq_some_iff.1 hv).1; rw [v8, List.length_map, (hc _ (List.getElem_mem hk)).2.1] at this; exact this
  have hf := flatC_get c k j (fun x hx => (hc x hx).2.1) hj
  have hcell := h.cells (g := gc) rfl (k * 65 + 1 + j) v (by rw [hf]; simpa [hk] using hv)
  have ea : (⟨gc, 0, none⟩ : Addr).add (k * 65 + 1 + j) = ⟨gc, k * 65 + 1 + j, none⟩ := by unfold Addr.add; split <;> simp_all
  rw [ea] at hcell
  exact hcell
theorem Vze {d : DiskS} (h : d.ok) (i : Nat) (hi : i < d.firm.length) : PgOk (d.view i) := by
  unfold DiskS.view
  split
  · rename_i k hk
    have := lastOf_lt hk
    rw [show d.cache.getD k (0, []) = d.cache[k] by simp [this]]
    exact (h.2.2.1 _ (List.getElem_mem this)).2
  · rw [show d.firm.getD i [] = d.firm[i] by simp [hi]]
    exact h.2.1 _ (List.getElem_mem hi)
set_option maxRecDepth 100000 in
set_option maxHeartbeats 1000000 in
theorem diskNew_any (n : Nat) (hn : 1 ≤ n ∧ n ≤ 4096) (N : Nat → Prop) (w : World) (hN : ∀ i, N i → i < w.heap.size) :
    Calls Tryz.prog 12 #[.int .i64 (n : Int)] w fun e w' => (∃ db, e = .returned (.tuple #[.pointer (some ⟨db, 0, none⟩), .nilIface]) ∧ w.heap.size ≤ db ∧ DiskI w' db N ⟨List.replicate n (zer 64), []⟩) ∧ Below w.heap.size w w' := by
  have HN := hZ hN
  clear hN
  obtain ⟨i0, hi0', hz0, hz1, hz2⟩ := info_parts info_pg
  have hmk : ∀ wx : World, (Instr.makeSlice 52 (.int .i64 (n : Int)) (.int .i64 (n : Int))).run Tryz.prog wx = .ok (.slice (some ⟨wx.heap.size, 0, none⟩) n n) (wx.alloc (.cells (v8a (zer (n * 64))) 37)) := fun wx => by
    have h := run_make (P := Tryz.prog) wx 52 37 i0 (.agg (v8a (zer 64))) Tryz.underlying52 hi0' hz0 .i64 .i64 n n (by omega) (Int.le_refl _) (by rw [hz2]; omega) (by omega)
    simp only [Int.toNat_natCast, hz1] at h
    rw [h, show (Value.agg (v8a (zer 64))).cells = v8a (zer 64) from rfl, made_zer]
  have hmm : ∀ wx : World, (Instr.makeMap 138 none).run Tryz.prog wx = .ok (.map (some wx.heap.size)) (wx.alloc (.map #[] 0)) := fun _ => by kernel_rfl
  obtain ⟨hn1, hn2⟩ := hn
  have hi1 : (1 : Int) ≤ n := by omega
  have hi2 : (n : Int) ≤ 4096 := by omega
  clear hi0' hz0 hz1 hz2
  go_enter Tryz.func12, Tryz.ntmps12
  go_wp2_with fail
  go_ret2
  obtain ⟨b0, b1, b2⟩ := heap3 w (.cells (v8a (zer (n * 64))) 37) (.map #[] 0) (.cells #[.slice (some ⟨w.heap.size, 0, none⟩) n n, .slice none 0 0, .map (some (w.heap.size + 1)), .int .i64 (-1), .bool false] 141)
  refine ⟨⟨_, rfl, by omega, w.heap.size, .slice none 0 0, w.heap.size + 1, 0, ?_, ?_, World.ownsRow_nil _ _ _ _, ?_, Nat.zero_le _, fun h => ?_, fun h => ?_, fun h => ?_, fun k hk => by simp [Value.ownBlock] at hk, fun i hi => ?_, ?_⟩, ?_⟩
  · exact ⟨n, by simp, by rw [List.length_replicate]; exact b2⟩
  · exact ⟨[], by rw [List.append_nil, flat_zer]; exact b0⟩
  · rw [lastL_nil]
    have h := (mapIs_made Tryz.prog 3 (w.alloc (.cells (v8a (zer (n * 64))) 37))).alloc (.cells #[.slice (some ⟨w.heap.size, 0, none⟩) n n, .slice none 0 0, .map (some (w.heap.size + 1)), .int .i64 (-1), .bool false] 141)
    simpa only [World.size_alloc] using h
  · have := HN.out _ h; omega
  · have := HN.out _ h; omega
  · have := HN.out _ h; omega
  · have := HN.out i hi; simp; omega
  · refine ⟨by simp; omega, fun p hp => ?_, (fun x hx => by cases hx), by simp⟩
    rw [(List.mem_replicate.1 hp).2]; exact zer_pg
  · repeat (first | with_reducible assumption | (with_reducible refine Below.setCell ?_ (by first | omega | (simp; done) | (simp; omega)) _) | (with_reducible refine Below.alloc ?_ (by first | omega | (simp; done) | (simp; omega)) _) | (with_reducible refine Below.drew ?_) | (with_reducible refine Qz2 ?_ _) | with_reducible exact Below.refl _ _ | (with_reducible refine Below.trans ?_ (Below.mono (by assumption) (by first | omega | (simp; done) | (simp; omega)))))
theorem Kzb (i : Int) (h : -9223372036854775808 ≤ i ∧ i ≤ 9223372036854775807) : keyOf Tryz.prog 3 (.int .i64 i) = some (.int .i64 i) := by
  refine Go.Maps.keyOf_int_mk Tryz.underlying3 ?_
  have e1 : IntKind.i64.min = -9223372036854775808 := rfl
  have e2 : IntKind.i64.max = 9223372036854775807 := rfl
  simp [Lit.wf, e1, e2]
  omega
set_option maxRecDepth 100000 in
set_option maxHeartbeats 2000000 in
theorem Kzh (db : Nat) (N : Nat → Prop) (d : DiskS) (i : Nat) (hi : i < d.firm.length) (w : World) (h : DiskI w db N d) :
    Calls Tryz.prog 28 #[.pointer (some ⟨db, 0, none⟩), .int .i64 (i : Int)] w fun e w' => e = .returned (.tuple #[.agg (v8a (d.view i)), .nilIface]) ∧ Below w.heap.size w w' := by
  have HV := hZ (Vze h.choose_spec.choose_spec.choose_spec.choose_spec.2.2.2.2.2.2.2.2.2.2 i hi)
  have HD1 : Hid (DiskI (w.alloc (.cells (v8a (zer 64)) 37)) db N d) := hZ (h.keep (bZ) (fun k hk => by
    obtain ⟨_, _, _, _, _, _, _, _, _, _, _, _, _, h5, _⟩ := h
    have := h5 k hk
    exact ⟨by simp; omega, .inl hk⟩))
  have HW1 : Hid ((w.alloc (.cells (v8a (zer 64)) 37)).heap[w.heap.size]? = some (.cells (v8a (zer 64)) 37) ∧ Below w.heap.size w (w.alloc (.cells (v8a (zer 64)) 37))) := hZ ⟨heap_alloc_new w _, bZ⟩
  clear h
  go_enter Tryz.func28, Tryz.ntmps28
  repeat (fail_if_success (with_reducible refine Vz1 "disk.go:70" rfl ?_)
          first | go_values | go_skip | go_guarded | go_step | go_upon)
  refine Xz0 (fun wx => Hid (DiskI wx db N d) ∧ Hid (wx.heap[w.heap.size]? = some (.cells (v8a (zer 64)) 37) ∧ Below w.heap.size w wx)) ⟨HD1, HW1⟩ ?_
  clear HD1 HW1
  rintro w1 ⟨HD, HW⟩
  go_wp2_with fail
  refine (diskOff_any db N d w1 HD.out).mono ?_
  rintro e w2 ⟨rfl, rfl⟩
  obtain ⟨fb, cv, lb, c, ⟨fc, hfc, q1⟩, ⟨rest, q2⟩, q3, q4, q5, n1, n2, n3, n4, n5, q6⟩ := HD.out
  have HFC := hZ hfc
  clear hfc
  obtain ⟨z0, z1, z2, z3, z4, _⟩ := blk5 q1
  have Q2 := hZ q2
  have Q3 := hZ q3
  have Q4 := hZ q4
  have Q6 := hZ q6
  clear q1 q2 q3 q4 q5 n1 n2 n3 n4 n5 q6
  have hi0 : (0 : Int) ≤ i := by omega
  have hi1 : (i : Int) < d.firm.length := by omega
  have HFL := hZ Q6.out.1
  have hfl := HFL.out.2
  try dsimp only
  have hsz : (v8a (d.view i)).size = 64 := by simp [v8a, v8, HV.out.1]
  have HVE := hZ (show d.view i = d.view i from rfl)
  cases hL : lastOf d.cache i with
  | none =>
    have hfk : lastL d.cache (.int .i64 (i : Int)) = none := by simp [lastL, hL]
    have HE : Hid (d.view i = d.firm.getD i []) := hZ (by unfold DiskS.view; rw [hL])
    have HRG := hZ (firm_range Q2.out Q6.out.2.1 i hi)
    rw [← HE.out] at HRG
    have HLN : Hid ((v8 (d.view i)).length = 64) := hZ (by simp [v8, HV.out.1])
    clear HE hL
    generalize hpg : d.view i = pg at HRG hsz HV HLN
    have HPG := hZ hpg
    clear hpg
    go_wp2_with (first
      | (at_lookup; refine Zzc _ rfl _ _ 138 rfl 3 3 (int_keyed Tryz.underlying3) Tryz.underlying138 (.int .i64 0) ?hz lb c (lastL d.cache) rfl Q4.out (.int .i64 (i : Int)) (.int .i64 (i : Int)) rfl ?hk ?_)
      | (refine wpList_load_mid rfl 37 (.tmp 50) rfl fb (i * 64) rfl (v8 pg) _ HRG.out Tryz.underlying37 rfl ?s1 ?_)
      | (refine wpList_store_row rfl 37 (.tmp 4) (.tmp 51) rfl w.heap.size (v8a pg) rfl rfl 37 (v8a (zer 64)) HW.out.1 ?s2 ?s3 ?s4 ?_))
    case hk => exact Kzb _ (by omega)
    case s1 => rw [HLN.out]; exact info_pg_ex
    case s2 => exact info_pg_ex
    case s3 => simp [v8a, v8, zer]
    case s4 => have h := Zzg pg; rw [hsz] at h; exact h
    have hfin := setRow_heap w1 w.heap.size _ (v8a pg) 37 (0, 0) HW.out.1
    have hbf : Below w.heap.size w (w1.setRow w.heap.size (v8a pg)) := below_setRow HW.out.2 (Nat.le_refl _) _
    generalize w1.setRow w.heap.size (v8a pg) = wf at hfin hbf ⊢
    refine bodyPost_ret (Vz3 Tryz.results28 _ _ w.heap.size 37 (v8a pg) (0, 0) _ rfl .nilIface rfl hfin Tryz.underlying37 rfl (by rw [hsz]; exact Zz5)) rfl ⟨?_, hbf⟩
    rw [HPG.out]
  | some k =>
    have hfk : lastL d.cache (.int .i64 (i : Int)) = some (.int .i64 (k : Int)) := by simp [lastL, hL]
    have hk := lastOf_lt hL
    have HE : Hid (d.view i = (d.cache.getD k (0, [])).2) := hZ (by unfold DiskS.view; rw [hL])
    obtain ⟨ac, cc, rfl⟩ := Kz3 Q3.out
    obtain ⟨gc, rfl⟩ : ∃ gc, ac = some ⟨gc, 0, none⟩ := by
      rcases Q3.out.2 with ⟨hv, hn⟩ | ⟨g, c, cur, hv, _⟩
      · omega
      · simp only [Value.slice.injEq] at hv; exact ⟨g, hv.1⟩
    have HRG := hZ (cache_range Q3.out Q6.out.2.2.1 k hk)
    rw [← HE.out] at HRG
    have HLN : Hid ((v8 (d.view i)).length = 64) := hZ (by simp [v8, HV.out.1])
    have hk0 : (0 : Int) ≤ k := by omega
    have hk1 : (k : Int) < d.cache.length := by omega
    have hcl := Q6.out.2.2.2
    clear HE hL
    generalize hpg : d.view i = pg at HRG hsz HV HLN
    have HPG := hZ hpg
    clear hpg
    go_wp2_with (first
      | (at_lookup; refine Zzc _ rfl _ _ 138 rfl 3 3 (int_keyed Tryz.underlying3) Tryz.underlying138 (.int .i64 0) ?hz lb c (lastL d.cache) rfl Q4.out (.int .i64 (i : Int)) (.int .i64 (i : Int)) rfl ?hk ?_)
      | (refine wpList_load_mid rfl 37 (.tmp 43) rfl gc (k * 65 + 1) rfl (v8 pg) _ HRG.out Tryz.underlying37 rfl ?s1 ?_)
      | (refine wpList_store_row rfl 37 (.tmp 4) (.tmp 44) rfl w.heap.size (v8a pg) rfl rfl 37 (v8a (zer 64)) HW.out.1 ?s2 ?s3 ?s4 ?_))
    case hk => exact Kzb _ (by omega)
    case s1 => rw [HLN.out]; exact info_pg_ex
    case s2 => exact info_pg_ex
    case s3 => simp [v8a, v8, zer]
    case s4 => have h := Zzg pg; rw [hsz] at h; exact h
    have hfin := setRow_heap w1 w.heap.size _ (v8a pg) 37 (0, 0) HW.out.1
    have hbf : Below w.heap.size w (w1.setRow w.heap.size (v8a pg)) := below_setRow HW.out.2 (Nat.le_refl _) _
    generalize w1.setRow w.heap.size (v8a pg) = wf at hfin hbf ⊢
    refine bodyPost_ret (Vz3 Tryz.results28 _ _ w.heap.size 37 (v8a pg) (0, 0) _ rfl .nilIface rfl hfin Tryz.underlying37 rfl (by rw [hsz]; exact Zz5)) rfl ⟨?_, hbf⟩
    rw [HPG.out]
open Go.RowKit Go.Maps
theorem flatC_snoc (c : List (Nat × List Int)) (x : Nat × List Int) : flatC (c ++ [x]) = flatC c ++ (.int .i64 (x.1 : Int) :: v8 x.2) := by simp [flatC]
theorem info_wr : (Tryz.prog.info? 178).map (fun i => (i.zero, i.size, i.bytes)) = some (some (.agg (.mk (.int .i64 0 :: v8 (zer 64)))), 65, 72) := by kernel_rfl
theorem wr_places : ∃ (it : TypeInfo) (z : Value) (fields : Array Field), Tryz.prog.info? 178 = some it ∧ Tryz.prog.underlying 178 = some (.struct fields) ∧ it.zero = some z ∧ fields.toList.mapM (fun f => (Tryz.prog.info? f.type).map fun i => (f.offset, i.size)) = some [(0, 1), (1, 64)] ∧ z.cells.size = 65 := by
  obtain ⟨it, h1, h2, h3, h4⟩ := info_parts info_wr
  refine ⟨it, _, _, h1, Tryz.underlying178, h2, by kernel_rfl, by kernel_rfl⟩
theorem built_wr (i : Int) (p : List Int) (hp : p.length = 64) : Tryz.prog.built 178 [(0, .int .i64 i), (1, .agg (v8a p))] = some (.mk (.int .i64 i :: v8 p)) := by
  obtain ⟨it, z, fields, h1, h2, h3, h4, h5⟩ := wr_places
  rw [Jzb h1 h2 h3 h4]
  generalize z.cells = zc at h5 ⊢
  have e0 : (Value.int .i64 i).cells = #[.int .i64 i] := rfl
  have e1 : (Value.agg (v8a p)).cells = v8a p := rfl
  have e2 : (v8a p).size = 64 := by simp [v8a, v8, hp]
  rw [Qz7 (off := 0) (by rw [e0]; rfl) (by rw [e0, h5]; show 0 + 1 ≤ 65; decide), Qz7 (off := 1) (by rw [e1, e2]; rfl) (by rw [e0, e1, e2]; simp; omega)]
  rw [e0, e1, e2]
  simp only [Instr.fill, Option.some.injEq]
  apply Array.ext'
  have hz : zc.toList.length = 65 := by simpa using h5
  simp [v8a]
  omega
theorem Vz6 {w : World} {b T : Nat} {l : List Int} (h : w.heap[b]? = some (.cells (v8a l) T)) : w.rangeAt b 0 (v8 l) := fun j v hv => by
  rw [cell_of_row w b (0 + j) _ T (0, 0) h]
  simpa [v8a] using hv
theorem Xz9 (w : World) (l : List Value) (e n : Nat) (hn : l.length = n) (h1 : ∀ u ∈ l, u.oneCell' = true) : SrcIs (w.alloc (.cells (.mk l) e)) (.slice (some ⟨w.heap.size, 0, none⟩) 1 1) 1 n l := by
  refine .inr ⟨⟨w.heap.size, 0, none⟩, 1, rfl, by omega, fun j u hu => ?_, h1⟩
  have h := cell_of_row (w.alloc (.cells (.mk l) e)) w.heap.size j (.mk l) e (0, 0) (heap_alloc_new w _)
  have ea : (⟨w.heap.size, 0, none⟩ : Addr).add j = ⟨w.heap.size, j, none⟩ := by unfold Addr.add; split <;> simp_all
  rw [ea, h]
  simpa using hu
theorem wpList_store_le {P : Program} (w : World) {ops : Array Oper} {rest : List Oper} {o : Oper} {a : Act} {Q : Exit → Act → World → Prop}
    (hg : o.guard = none) (m x v : Operand) (t : TypeId) (hop : o.op = Op.mapUpdate t m x v)
    (k e : TypeId) (K : Keyed P k) (ht : P.underlying t = some (.map k e)) (b c : Nat) (f : Lit → Option Value)
    (hm : a.eval m = .map (some b)) (hown : MapIs P k w b c f) (hc : c < maxLen) (key val : Value) (kl : Lit) (hx : a.eval x = key) (hv : a.eval v = val) (hkey : keyOf P k key = some kl)
    (hK : ∀ w' c', c' ≤ c + 1 → MapIs P k w' b c' (upd f kl (some val)) → w.mapTurned w' b → wpList P ops Q rest (a.put o.dst undef) w') : wpList P ops Q (o :: rest) a w :=
  wpList_store_is w hg m x v t hop k e K ht b c f hm hown hc key val kl hx hv hkey (fun w' h1 h2 => hK w' _ (by split <;> omega) h1 h2)
set_option maxRecDepth 100000 in
set_option maxHeartbeats 4000000 in
theorem diskWrite_any (db : Nat) (N : Nat → Prop) (d : DiskS) (i : Nat) (p : List Int) (hi : i < d.firm.length) (hp : PgOk p) (hcl : d.cache.length ≤ 9000000) (w : World) (h : DiskI w db N d) :
    Calls Tryz.prog 143 #[.pointer (some ⟨db, 0, none⟩), .int .i64 (i : Int), .agg (v8a p)] w fun e w' => e = .returned .nilIface ∧ DiskI w' db N ⟨d.firm, d.cache ++ [(i, p)]⟩ ∧ Keeps N w w' := by
  have HP := hZ hp
  have HN : Hid (∀ k, N k → k < w.heap.size) := hZ (by obtain ⟨_, _, _, _, _, _, _, _, _, _, _, _, _, h5, _⟩ := h; exact h5)
  have HD1 : Hid (DiskI (w.alloc (.cells (v8a p) 37)) db (fun k => N k ∨ k = w.heap.size) d) := hZ (h.keep (bZ) (fun k hk => by
    rcases hk with hk | rfl
    · have := HN.out k hk
      exact ⟨by simp; omega, .inl hk⟩
    · exact ⟨by simp, .inr (Nat.le_refl _)⟩))
  have HW1 : Hid ((w.alloc (.cells (v8a p) 37)).heap[w.heap.size]? = some (.cells (v8a p) 37) ∧ Keeps N w (w.alloc (.cells (v8a p) 37))) := hZ ⟨heap_alloc_new w _, Keeps.alloc _ _ _⟩
  clear h hp
  go_enter Tryz.func143, Tryz.ntmps143
  repeat (fail_if_success (with_reducible refine Vz1 "disk.go:84" rfl ?_)
          first | go_values | go_skip | go_guarded | go_step | go_upon)
  refine Xz0 (fun wx => Hid (DiskI wx db (fun k => N k ∨ k = w.heap.size) d) ∧ Hid (wx.heap[w.heap.size]? = some (.cells (v8a p) 37) ∧ Keeps N w wx)) ⟨HD1, HW1⟩ ?_
  clear HD1 HW1
  rintro w1 ⟨HD, HW⟩
  go_wp2_with fail
  refine (diskOff_any db _ d w1 HD.out).mono ?_
  rintro e w2 ⟨rfl, rfl⟩
  obtain ⟨fb, cv, lb, c, ⟨fc, hfc, q1⟩, ⟨rest, q2⟩, q3, q4, q5, n1, n2, n3, n4, n5, q6⟩ := HD.out
  have HFC := hZ hfc
  clear hfc
  obtain ⟨z0, z1, z2, z3, z4, y0, y1, y2, y3, y4⟩ := blk5 q1
  obtain ⟨ac, cc, rfl⟩ := Kz3 q3
  have Q1 := hZ q1
  have Q2 := hZ q2
  have Q3 := hZ q3
  have Q4 := hZ q4
  have Q5 := hZ q5
  have Q6 := hZ q6
  have NN := hZ (And.intro n1 (And.intro n2 (And.intro n3 n4)))
  clear q1 q2 q3 q4 q5 n1 n2 n3 n4 n5 q6
  have hi0 : (0 : Int) ≤ i := by omega
  have hi1 : (i : Int) < d.firm.length := by omega
  have HFL := hZ Q6.out.1
  have hfl := HFL.out.2
  try dsimp only
  go_wp2_with fail
  refine (diskStep_any db _ d w1 HD.out).mono ?_
  rintro e w2 ⟨rfl, rfl⟩
  try dsimp only
  have r1 := cell_regrown z1
  have r2 := cell_regrown z2
  go_wp2_with fail
  refine Zz3 10 (fun w' => ∃ p : Regrown, w' = Go.Sort.grow (redrawn w1 p.d) p.os) (by kernel_rfl) (by kernel_rfl) (fun _ _ d _ _ h => by cases d <;> exact h) (Vz2 _) ?_
  simp only [List.take_succ_cons, List.take_zero]
  repeat (go_big_quiet_step (fail))
  with_reducible refine wpQuiet_nil ?_
  with_reducible refine mix_a ?_
  simp only [qd1, qd0, qt1, qt0]
  go_wp2_with (at_mapUpdate; refine wpList_store_le _ rfl _ _ _ 138 rfl 3 3 (int_keyed Tryz.underlying3) Tryz.underlying138 lb c (lastL d.cache) rfl (Q4.out.drew) ?hc (.int .i64 (i : Int)) (.int .i64 (d.cache.length : Int)) (.int .i64 (i : Int)) rfl rfl ?hk ?_)
  case hc => have h1 := Q5.out; unfold maxLen; omega
  case hk => exact Kzb _ (by omega)
  intro w3 c3 hc3 hm ht
  rw [lastL_snoc d.cache i p] at hm
  with_reducible refine wpList_nil ?_
  with_reducible refine Qz0 ?_
  with_reducible refine Wz1 ?_
  have hdlb : lb ≠ db := Xz4 Q1.out Q4.out
  have hplb : lb ≠ w.heap.size := Xz4 HW.out.1 Q4.out
  have hdp : db ≠ w.heap.size := Zze Q1.out HW.out.1 (by decide)
  have HT : Hid (Keeps (fun k => k ≠ lb) w1 w3) := hZ ((Keeps.drew _ w1).trans (Keeps.of_turned ht (by simp)))
  have HM := hZ hm
  have HD3 := hZ (HT.out.blk (fun e => hdlb e.symm) Q1.out)
  have HP3 := hZ (HT.out.blk (fun e => hplb e.symm) HW.out.1)
  have HO3 : Hid (w3.ownsRow 0 178 65 (.slice ac d.cache.length cc) d.cache.length (flatC d.cache)) := hZ (HT.out.own Q3.out (fun k hk e => by
    obtain ⟨D, ⟨es, cl, hb, _⟩, _⟩ := Q4.out
    rcases Q3.out.2 with ⟨hv, _⟩ | ⟨g, c', cur, hv, _, hg, _⟩
    · rw [hv] at hk; simp [Value.ownBlock] at hk
    · rw [hv] at hk; simp only [Value.ownBlock, Option.some.injEq] at hk; subst hk; subst e; rw [hb] at hg; cases hg))
  obtain ⟨R, hR, hRd, hRp, hRo⟩ : ∃ R, R < w3.heap.size ∧ db ≠ R ∧ w.heap.size ≠ R ∧ (∀ k, (Value.slice ac d.cache.length cc).ownBlock = some k → k = R) := by
    cases hob : (Value.slice ac d.cache.length cc).ownBlock with
    | none => exact ⟨lb, HM.out.lt, fun e => hdlb e.symm, fun e => hplb e.symm, fun k hk => by cases hk⟩
    | some g => exact ⟨g, (HO3.out.lt g hob).2, (Vz5 HD3.out HO3.out (by decide) hob).symm, (Vz5 HP3.out HO3.out (by decide) hob).symm, fun k hk => by cases hk; rfl⟩
  clear hm ht r1 r2 z0 z1 z2 z3 z4 y0 y1 y2 y3 y4
  obtain ⟨z0, z1, z2, z3, z4, y0, y1, y2, y3, y4⟩ := blk5 HD3.out
  have k1 := cellB (R := R) z1 hRd
  go_wp2_with fail
  refine Vz0 [(0, true), (1, true), (2, true), (3, true), (4, true), (5, true), (6, true), (7, true), (8, false), (9, false), (10, true), (11, true), (12, false)] 12 (fun w' => ∃ p : RegrownB, w' = setO (Go.Sort.grow (redrawn w3 p.d) p.os) (R) p.o) (by kernel_rfl) (by kernel_rfl) (fun _ _ d _ _ h => by cases d <;> exact h) (Kz6 hR) ?_
  (repeat (with_reducible refine mix_q ?_; simp only [qd1, qd0, qt1, qt0]; go_big_quiet_step (fail); with_reducible refine wpQuiet_nil ?_))
  with_reducible refine mix_q ?_
  simp only [qd1, qd0, qt1, qt0]
  go_big_quiet_want
  refine Jz1 37 (.tmp 5) rfl w.heap.size 0 rfl (v8 p) _ ?l1 Tryz.underlying37 rfl ?l2 ?_
  case l1 =>
    rintro w' ⟨q, rfl⟩
    exact Vz6 (blkB HP3.out hRp _ _ _)
  case l2 => rw [show (v8 p).length = 64 by simp [v8, HP.out.1]]; exact Zz5
  simp only [Act.put, qs0, qs1, qs2]
  go_big_quiet_on
  with_reducible refine wpQuiet_nil ?_
  with_reducible refine mix_q ?_
  simp only [qd1, qd0, qt1, qt0]
  go_big_quiet_want
  refine Zzd 178 _ rfl (.mk (.int .i64 (i : Int) :: v8 p)) ?hb ?_
  case hb => simp only [List.map_toArray, List.map_cons, List.map_nil]; exact built_wr i p HP.out.1
  simp only [Act.put, qs0, qs1, qs2]
  go_big_quiet_on
  with_reducible refine wpQuiet_nil ?_
  with_reducible refine mix_a ?_
  simp only [qd1, qd0, qt1, qt0]
  obtain ⟨i0, hi0', hz0, hz1, hz2⟩ := info_parts info_wr
  refine Kz5 rfl 139 178 (.tmp 48) rfl i0 _ Tryz.underlying139 hi0' hz0 65 hz1 (by decide) (by decide) (.agg (.mk (.int .i64 (i : Int) :: v8 p))) rfl (.mk (.int .i64 (i : Int) :: v8 p)) rfl ?hb ?_
  case hb => simp [v8, HP.out.1]
  simp only [Act.put, qs0, qs1, qs2]
  have HSRC : Hid (SrcIs (w3.drew.alloc (.cells (.mk (.int .i64 (i : Int) :: v8 p)) 178)) (.slice (some ⟨w3.drew.heap.size, 0, none⟩) 1 1) 1 65 (.int .i64 (i : Int) :: v8 p)) := hZ (Xz9 w3.drew (.int .i64 (i : Int) :: v8 p) 178 65 (by simp [v8, HP.out.1]) (by
    intro u hu
    rcases List.mem_cons.1 hu with rfl | hu
    · rfl
    · exact Kz7 p u hu))
  have HB4 : Hid (Below w3.heap.size w3 (w3.drew.alloc (.cells (.mk (.int .i64 (i : Int) :: v8 p)) 178))) := hZ ((Below.refl _ _).drew.alloc (Nat.le_refl _) _)
  have HO4 := hZ (Xz5 HO3.out (fun k hk => HB4.out.block k (HO3.out.lt k hk).2))
  have HD4 := hZ ((HB4.out.block _ (Zz0 HD3.out)).trans HD3.out)
  with_reducible refine wpList_nil ?_
  with_reducible refine Qz0 ?_
  refine ⟨fun _ => Qz5 hR (Zz2 HB4.out _), ?_⟩
  generalize (w3.drew.alloc (.cells (.mk (.int .i64 (i : Int) :: v8 p)) 178)) = w4 at HSRC HB4 HO4 HD4 ⊢
  with_reducible refine mix_a ?_
  simp only [qd1, qd0, qt1, qt0]
  refine Xz6 rfl (.tmp 45) (.tmp 49) 139 rfl 178 i0 _ 65 72 Tryz.underlying139 hi0' hz0 hz1 hz2 ?zz (by decide) (.slice ac d.cache.length cc) d.cache.length (flatC d.cache) rfl HO4.out (.slice (some ⟨w3.drew.heap.size, 0, none⟩) 1 1) 1 (.int .i64 (i : Int) :: v8 p) rfl HSRC.out ?c1 ?c2 ?_
  case zz => simp [v8, zer]; rfl
  case c1 => unfold maxLen; omega
  case c2 => omega
  intro v5 w5 hown hgrow hwh
  obtain ⟨a5, c5, rfl⟩ := Kz3 hown
  simp only [Act.put, qs0, qs1, qs2]
  have hob5 : ∀ k, (Value.slice ac d.cache.length cc).ownBlock = some k → k ≠ db := fun k hk => Vz5 HD4.out HO4.out (by decide) hk
  have HD5 := hZ ((hgrow.block _ (Zz0 HD4.out) (fun e => hob5 db e.symm rfl)).trans HD4.out)
  have HO5 : Hid (w5.ownsRow 0 178 65 (.slice a5 (d.cache.length + 1) c5) (d.cache ++ [(i, p)]).length (flatC (d.cache ++ [(i, p)]))) := hZ (by rw [flatC_snoc]; simpa using hown)
  have HG5 : Hid (w3.grownBy w5 (some R)) := hZ (Xz2 (Zz2 HB4.out _) (by
    refine ⟨hgrow.os, hgrow.tape, hgrow.output, hgrow.size, fun k hk hne => hgrow.block k hk (fun e => hne ?_)⟩
    have := hRo k e.symm
    rw [this]))
  with_reducible refine wpList_nil ?_
  with_reducible refine Qz0 ?_
  refine ⟨fun _ => Qz5 hR HG5.out, ?_⟩
  have HOB : Hid (∀ k, (Value.slice a5 (d.cache.length + 1) c5).ownBlock = some k → (Value.slice ac d.cache.length cc).ownBlock = some k ∨ w3.heap.size ≤ k) := hZ (fun k hk => by
    rcases hwh k hk with h | h
    · exact .inl h
    · exact .inr (Nat.le_trans HB4.out.size h))
  have HK5 : Hid (Keeps (fun k => (Value.slice ac d.cache.length cc).ownBlock ≠ some k) w3 w5) := hZ ((Keeps.of_below HB4.out).trans (Keeps.of_grown hgrow (fun k hk h => h hk)))
  clear hown hgrow hwh z0 z1 z2 z3 z4 y0 y1 y2 y3 y4
  obtain ⟨z0, z1, z2, z3, z4, y0, y1, y2, y3, y4⟩ := blk5 HD5.out
  (repeat (with_reducible refine mix_q ?_; simp only [qd1, qd0, qt1, qt0]; go_big_quiet_step (fail); with_reducible refine wpQuiet_nil ?_))
  with_reducible refine mix_a ?_
  simp only [qd1, qd0, qt1, qt0]
  go_wp2_with fail
  with_reducible refine Qz0 ?_
  first | (with_reducible refine Wz1 ?_) | (refine ⟨fun h => absurd h (by simp), ?_⟩; with_reducible refine Wz1 ?_)
  go_wp2_with fail
  go_ret
  have hlb5 : ∀ k, (Value.slice ac d.cache.length cc).ownBlock = some k → k ≠ lb := fun k hk e => by
    subst e
    obtain ⟨D, ⟨es, cl, hb, _⟩, _⟩ := HM.out
    rcases HO3.out.2 with ⟨hv, _⟩ | ⟨g, c', cur, hv, _, hg, _⟩
    · rw [hv] at hk; simp [Value.ownBlock] at hk
    · rw [hv] at hk; simp only [Value.ownBlock, Option.some.injEq] at hk; subst hk; rw [hb] at hg; cases hg
  have HF3 := HT.out.blk (fun e => Xz4 Q2.out Q4.out e.symm) Q2.out
  have HF5 := HK5.out.blk (fun e => Vz5 HF3 HO3.out (by decide) e rfl) HF3
  have hfd : db ≠ fb := Zze HD5.out HF5 (by decide)
  have HM5 := HK5.out.map (fun e => hlb5 lb e rfl) HM.out
  have hw1 := HW.out.2.size
  have hw3 := HT.out.size
  have hnn : ∀ k, N k → k < w1.heap.size := fun k hk => by have := HN.out k hk; omega
  refine ⟨rfl, ⟨fb, .slice a5 (d.cache.length + 1) c5, lb, c3, ⟨fc, HFC.out, ?_⟩, ⟨rest, Zz1 hfd HF5⟩, ?_, HM5.setCell (fun e => hdlb e) _, ?_, fun h => NN.out.1 (.inl h), fun h => NN.out.2.1 (.inl h), fun h => NN.out.2.2.1 (.inl h), fun k hk h => ?_, fun k hk => ?_, ?_⟩, ?_⟩
  · have h := Xz3 (i := 1) HD5.out (.slice a5 (d.cache.length + 1) c5)
    exact h
  · exact Xz5 HO5.out (fun k hk => Below.heap_setCell _ _ _ _ (Vz5 HD5.out HO5.out (by decide) hk))
  · have := Q5.out; simp; omega
  · rcases HOB.out k hk with h1 | h1
    · exact NN.out.2.2.2 k h1 (.inl h)
    · have := hnn k h; omega
  · have := hnn k hk; have := HK5.out.size; simp [World.setCell]; omega
  · obtain ⟨o1, o2, o3, o4⟩ := Q6.out
    refine ⟨o1, o2, fun x hx => ?_, by simp; omega⟩
    rcases List.mem_append.1 hx with hx | hx
    · exact o3 x hx
    · rw [List.mem_singleton.1 hx]; exact ⟨hi, HP.out⟩
  · refine HW.out.2.trans ((HT.out.mono (fun k _ hk e => NN.out.2.2.1 (.inl (e ▸ hk)))).trans ((HK5.out.mono (fun k _ hk e => NN.out.2.2.2 k e (.inl hk))).trans (Keeps.set w5 db 1 _ (fun h => NN.out.1 (.inl h)))))
open Go.RowKit Go.Maps
def Qz3 (f : List (List Int)) (c : List (Nat × List Int)) : List (List Int) := c.foldl (fun f x => f.set x.1 x.2) f
theorem Kz2 (c : List (Nat × List Int)) : ∀ f : List (List Int), (Qz3 f c).length = f.length := by
  induction c with
  | nil => intro f; rfl
  | cons x c ih => intro f; show (Qz3 (f.set x.1 x.2) c).length = _; rw [ih]; simp
theorem flushF_ok (c : List (Nat × List Int)) : ∀ f : List (List Int), (∀ p ∈ f, PgOk p) → (∀ x ∈ c, PgOk x.2) → ∀ p ∈ Qz3 f c, PgOk p := by
  induction c with
  | nil => intro f h _; exact h
  | cons x c ih =>
    intro f h hc
    refine ih (f.set x.1 x.2) (fun p hp => ?_) (fun y hy => hc y (by simp [hy]))
    rcases List.mem_or_eq_of_mem_set hp with hp | rfl
    · exact h p hp
    · exact hc x (by simp)
theorem flushF_snoc (f : List (List Int)) (c : List (Nat × List Int)) (x : Nat × List Int) : Qz3 f (c ++ [x]) = (Qz3 f c).set x.1 x.2 := by simp [Qz3]
theorem blk_there {w : World} {b T o n : Nat} {cs : Array Value} (h : w.heap[b]? = some (.cells cs T)) (hs : o + n ≤ cs.size) : w.there b o n := fun j hj => by
  have hj' : o + j < cs.size := by omega
  simp [World.cell?, World.frozen?, h, hj']
theorem flatC_cell : ∀ (c : List (Nat × List Int)) (k : Nat), (∀ x ∈ c, x.2.length = 64) → (flatC c)[k * 65]? = (c[k]?).map (fun x => .int .i64 (x.1 : Int))
  | [], k, _ => by simp [flatC]
  | x :: c, 0, h => by
    have e : flatC (x :: c) = .int .i64 (x.1 : Int) :: (v8 x.2 ++ flatC c) := rfl
    rw [e]; rfl
  | x :: c, k + 1, h => by
    have hx := h x (by simp)
    have e : flatC (x :: c) = .int .i64 (x.1 : Int) :: (v8 x.2 ++ flatC c) := rfl
    rw [e, show (k + 1) * 65 = (k * 65 + 64) + 1 by omega, List.getElem?_cons_succ, List.getElem?_append_right (by simp [v8]; omega), show k * 65 + 64 - (v8 x.2).length = k * 65 by simp [v8]; omega, flatC_cell c k (fun y hy => h y (by simp [hy]))]
    rfl
theorem cache_row {w : World} {e gc cc n : Nat} {c : List (Nat × List Int)} (h : w.ownsRow 0 e 65 (.slice (some ⟨gc, 0, none⟩) c.length cc) c.length (flatC c)) (hc : ∀ x ∈ c, x.1 < n ∧ PgOk x.2) (k : Nat) (hk : k < c.length) :
    w.rangeAt gc (k * 65) (.int .i64 (c[k].1 : Int) :: v8 c[k].2) := fun j v hv => by
  cases j with
  | zero =>
    have hf := flatC_cell c k (fun x hx => (hc x hx).2.1)
    have hcell := h.cells (g := gc) rfl (k * 65) v (by rw [hf]; simpa [hk] using hv)
    have ea : (⟨gc, 0, none⟩ : Addr).add (k * 65) = ⟨gc, k * 65, none⟩ := by unfold Addr.add; split <;> simp_all
    rw [ea] at hcell
    exact hcell
  | succ j =>
    have h2 := cache_range h hc k hk j v (by simpa [hk] using hv)
    rw [show k * 65 + (j + 1) = k * 65 + 1 + j by omega]
    exact h2
theorem zc154 : Tryz.zeroCells178 = .mk (.int .i64 0 :: v8 (zer 64)) := by kernel_rfl
theorem box_page {w : World} {b T : Nat} {x : Value} {l : List Int} (h : w.heap[b]? = some (.cells (.mk (x :: v8 l)) T)) : w.rangeAt b 1 (v8 l) := fun j v hv => by
  rw [cell_of_row w b (1 + j) _ T (0, 0) h]
  simpa [Nat.add_comm 1 j] using hv
theorem box_at {w : World} {b T : Nat} {x : Value} {l : List Value} (h : w.heap[b]? = some (.cells (.mk (x :: l)) T)) : w.cell? ⟨b, 0, none⟩ = some x := by
  rw [cell_of_row w b 0 _ T (0, 0) h]; rfl
theorem flat64 : ∀ l : List (List Int), (∀ p ∈ l, PgOk p) → l.flatten.length = l.length * 64
  | [], _ => rfl
  | p :: l, h => by
    have hp := (h p (by simp)).1
    rw [List.flatten_cons, List.length_append, hp, flat64 l (fun q hq => h q (by simp [hq])), List.length_cons]; omega
theorem page_stored {w : World} {fb at_ : Nat} {f : List (List Int)} {p : List Int} {rest : List Value} (h : w.heap[fb]? = some (.cells (v8 f.flatten ++ rest).toArray 37)) (hf : ∀ q ∈ f, PgOk q) (ha : at_ < f.length) (hp : PgOk p) :
    (w.setCells fb (at_ * 64) (v8 p)).heap[fb]? = some (.cells (v8 (f.set at_ p).flatten ++ rest).toArray 37) := by
  have hl := flat64 f hf
  have hvl : (v8 f.flatten).length = f.length * 64 := by rw [Wz0, hl]; omega
  have h1 := Qzb (cs := v8 f.flatten ++ rest) (vs := v8 p) (o := at_ * 64) h (by rw [Wz0, List.length_append, hvl, hp.1]; omega)
  rw [h1, flat_set f at_ p (fun q hq => (hf q hq).1) ha hp.1, Wz0, hp.1, List.take_append_of_le_length (by rw [hvl]; omega), List.drop_append_of_le_length (by rw [hvl]; omega)]
  simp [v8, hp.1, List.map_take, List.map_drop]
def FlSt (w : World) (db fb : Nat) (rest : List Value) (firm : List (List Int)) (wx : World) : Prop := wx.heap[fb]? = some (.cells (v8 firm.flatten ++ rest).toArray 37) ∧ Keeps (fun k => k ≠ fb) w wx
set_option maxRecDepth 100000 in
set_option maxHeartbeats 4000000 in
theorem Wze (db : Nat) (N : Nat → Prop) (d : DiskS) (w : World) (h : DiskI w db N d) :
    Calls Tryz.prog 88 #[.pointer (some ⟨db, 0, none⟩)] w fun e w' => e = .returned .nilIface ∧ DiskI w' db N ⟨Qz3 d.firm d.cache, []⟩ ∧ Keeps N w w' := by
  have HD := hZ h
  obtain ⟨fb, cv, lb, c, ⟨fc, hfc, q1⟩, ⟨rest, q2⟩, q3, q4, q5, n1, n2, n3, n4, n5, q6⟩ := h
  have HFC := hZ hfc
  clear hfc
  obtain ⟨ac, cc, rfl⟩ := Kz3 q3
  obtain ⟨z0, z1, z2, z3, z4, y0, y1, y2, y3, y4⟩ := blk5 q1
  have hdf : db ≠ fb := Zze q1 q2 (by decide)
  have hof : ∀ k, (Value.slice ac d.cache.length cc).ownBlock = some k → k ≠ fb := fun k hk => Vz5 q2 q3 (by decide) hk
  have hlf : lb ≠ fb := Xz4 q2 q4
  have Q1 := hZ q1
  have Q2 := hZ q2
  have Q3 := hZ q3
  have Q4 := hZ q4
  have Q6 := hZ q6
  have NN := hZ (And.intro n1 (And.intro n2 (And.intro n3 (And.intro n4 n5))))
  have HOF := hZ hof
  clear q1 q2 q3 q4 q5 n1 n2 n3 n4 n5 q6 hof
  have hcl := Q6.out.2.2.2
  go_enter Tryz.func88, Tryz.ntmps88
  go_wp2_with fail
  refine (diskStep_any db N d w HD.out).mono ?_
  rintro e w2 ⟨rfl, rfl⟩
  try dsimp only
  go_wp2_with fail
  go_loopw [16] (fun iv wr => ∃ i : Nat, iv = .int .i64 i ∧ i ≤ d.cache.length ∧ Hid (FlSt w db fb rest (Qz3 d.firm (d.cache.take i)) wr)) (fun iv _ => d.cache.length - (intOf iv).toNat)
  case atStart => exact ⟨0, rfl, by omega, hZ ⟨Q2.out, Keeps.refl _ _⟩⟩
  case round =>
    obtain ⟨i, rfl, hi, HS⟩ := hrel
    have hd1 := HS.out.2.blk hdf Q1.out
    clear z0 z1 z2 z3 z4 y0 y1 y2 y3 y4
    obtain ⟨z0, z1, z2, z3, z4, y0, y1, y2, y3, y4⟩ := blk5 hd1
    have HD1 := hZ hd1
    clear hd1
    by_cases hlt : i < d.cache.length
    · have hi0 : (0 : Int) ≤ i := by omega
      have hi1 : (i : Int) < d.cache.length := by omega
      obtain ⟨gc, rfl⟩ : ∃ gc, ac = some ⟨gc, 0, none⟩ := by
        rcases Q3.out.2 with ⟨hv, hn⟩ | ⟨g, c, cur, hv, _⟩
        · omega
        · simp only [Value.slice.injEq] at hv; exact ⟨g, hv.1⟩
      have HRG := hZ (cache_row (HS.out.2.own Q3.out (fun k hk => HOF.out k hk)) Q6.out.2.2.1 i hlt)
      have HXO := hZ (Q6.out.2.2.1 d.cache[i] (List.getElem_mem hlt))
      have HFO : Hid (∀ q ∈ Qz3 d.firm (d.cache.take i), PgOk q) := hZ (flushF_ok _ _ Q6.out.2.1 (fun x hx => (Q6.out.2.2.1 x (List.mem_of_mem_take hx)).2))
      have HNX : Hid (Qz3 d.firm (d.cache.take (i + 1)) = (Qz3 d.firm (d.cache.take i)).set d.cache[i].1 d.cache[i].2) := hZ (by rw [List.take_succ_eq_append_getElem hlt, flushF_snoc])
      generalize d.cache[i] = x at HRG HXO HNX
      obtain ⟨at_, pg⟩ := x
      dsimp only at HRG HXO HNX
      have hsz : (Array.mk (Value.int .i64 (at_ : Int) :: v8 pg)).size = 65 := by simp [v8, HXO.out.2.1]
      have HLN : Hid ((Value.int .i64 (at_ : Int) :: v8 pg).length = 65) := hZ (by simp [v8, HXO.out.2.1])
      have HI65 : Hid ((Tryz.prog.info? 178).map (·.size) = some 65) := hZ (by kernel_rfl)
      go_wp2_with (first
        | (refine wpList_load_mid rfl 178 (.tmp 18) rfl gc (i * 65) rfl (.int .i64 (at_ : Int) :: v8 pg) _ HRG.out Tryz.underlying178 rfl ?s1 ?_)
        | (refine wpList_store_row rfl 178 (.tmp 5) (.tmp 19) rfl wr.heap.size (.mk (.int .i64 (at_ : Int) :: v8 pg)) rfl rfl 178 (.mk (.int .i64 0 :: v8 (zer 64))) ?s2 ?s3 ?s4 ?s5 ?_))
      case s1 => rw [HLN.out]; exact HI65.out
      case s2 => rw [zc154]; exact heap_alloc_new wr _
      case s3 => rw [hsz]; exact HI65.out
      case s4 => rw [hsz]; simp [v8, zer]
      case s5 => exact all_oneCell_toArray (fun v hv => by
        rcases List.mem_cons.1 hv with rfl | hv
        · rfl
        · exact Kz7 pg v hv)
      have hfl := Zz0 HS.out.1
      refine Kz0 (fun wx => Hid (FlSt w db fb rest (Qz3 d.firm (d.cache.take i)) wx) ∧ Hid (wx.heap[wr.heap.size]? = some (.cells (.mk (.int .i64 (at_ : Int) :: v8 pg)) 178))) ⟨hZ ⟨?_, ?_⟩, hZ ?_⟩ ?_
      · rw [setRow_other _ _ _ _ (by omega), heap_alloc_old _ _ hfl]; exact HS.out.1
      · exact HS.out.2.trans (Keeps.of_below (below_setRow (bZ) (Nat.le_refl _) _))
      · exact setRow_heap _ _ _ _ _ (0, 0) (heap_alloc_new wr _)
      clear z0 z1 z2 z3 z4 y0 y1 y2 y3 y4 HD1
      rintro wx ⟨HF, HB⟩
      obtain ⟨z0, z1, z2, z3, z4, y0, y1, y2, y3, y4⟩ := blk5 (HF.out.2.blk hdf Q1.out)
      have zb := box_at HB.out
      have r0 := cell_regrown z0
      have rb := cell_regrown zb
      have hx0 : (0 : Int) ≤ at_ := by omega
      have hx1 : (at_ : Int) < d.firm.length := by have := HXO.out.1; omega
      generalize wr.heap.size = box at HB zb rb hfl ⊢
      simp only [Act.put]
      refine Zz3 9 (fun w' => ∃ p : Regrown, w' = Go.Sort.grow (redrawn wx p.d) p.os) (by kernel_rfl) (by kernel_rfl) (fun _ _ d _ _ h => by cases d <;> exact h) (Vz2 _) ?_
      simp only [List.take_succ_cons, List.take_zero]
      repeat (go_big_quiet_step (fail))
      go_big_quiet_want
      refine Jz1 37 (.tmp 26) rfl box 1 rfl (v8 pg) _ ?l1 Tryz.underlying37 rfl ?l2 ?_
      case l1 =>
        intro w' hw'
        exact box_page (((Qz1 hw').block _ (Zz0 HB.out)).trans HB.out)
      case l2 => rw [show (v8 pg).length = 64 by simp [v8, HXO.out.2.1]]; exact Zz5
      simp only [Act.put, qs0, qs1, qs2]
      repeat (go_big_quiet_step (fail))
      try go_big_quiet_on
      repeat (go_big_quiet_step (fail))
      with_reducible refine wpQuiet_nil ?_
      with_reducible refine mix_a ?_
      simp only [qd1, qd0, qt1, qt0]
      have hlv : (v8 pg).toArray.size = 64 := by simp [v8, HXO.out.2.1]
      refine wpList_store_mid rfl 37 (.tmp 28) (.tmp 27) rfl fb (at_ * 64) (v8 pg).toArray rfl rfl ?u1 ?u2 ?u3 ?_
      case u1 =>
        rw [hlv]
        refine blk_there (w := wx.drew) (HF.out.1) ?_
        have hl := flat64 _ HFO.out
        have hll := Kz2 (d.cache.take i) d.firm
        have := HXO.out.1
        rw [List.size_toArray, List.length_append, Wz0, hl]
        omega
      case u2 => rw [hlv]; exact Zz5
      case u3 => exact all_oneCell_toArray (Kz7 pg)
      simp only [Act.put]
      have hfa : at_ < (Qz3 d.firm (d.cache.take i)).length := by rw [Kz2]; exact HXO.out.1
      have HF2 : Hid (FlSt w db fb rest (Qz3 d.firm (d.cache.take (i + 1))) (wx.drew.setCells fb (at_ * 64) (v8 pg).toArray.toList)) := hZ ⟨by rw [HNX.out]; exact page_stored (w := wx.drew) HF.out.1 HFO.out hfa HXO.out.2, HF.out.2.trans ((Keeps.drew _ wx).trans (Keeps.of_grown (Jz7 _ _ _ _) (fun k hk => by cases hk; simp)))⟩
      generalize (wx.drew.setCells fb (at_ * 64) (v8 pg).toArray.toList) = wy at HF2 ⊢
      with_reducible refine wpList_nil ?_
      refine Qz0 ⟨fun h => absurd h (by simp), Wz1 ?_⟩
      go_wp2_with fail
      exact ⟨⟨i + 1, by go_num, by omega, HF2⟩, by simp [intOf]; omega⟩
    · obtain rfl : i = d.cache.length := by omega
      have HM1 := hZ (HS.out.2.map hlf Q4.out)
      go_wp2_with (refine wpList_clear_is _ rfl (.tmp 36) 138 rfl 3 3 Tryz.underlying138 lb c (lastL d.cache) rfl (HM1.out.setCell ?m1 _) ?_)
      case m1 => exact Xz4 Q1.out Q4.out
      intro w3 hm ht
      go_wp2_with fail
      go_ret
      have hdlb : lb ≠ db := Xz4 Q1.out Q4.out
      have hK3 : Keeps (fun k => k ≠ lb) (wr.setCell ⟨db, 1, none⟩ (.slice none 0 0)) w3 := Keeps.of_turned ht (by simp)
      have hd2 : (wr.setCell ⟨db, 1, none⟩ (.slice none 0 0)).heap[db]? = some (.cells #[.slice (some ⟨fb, 0, none⟩) d.firm.length fc, .slice none 0 0, .map (some lb), .int .i64 (-1), .bool false] 141) := Xz3 (i := 1) HD1.out (.slice none 0 0)
      have hd3 := hK3.blk (fun e => hdlb e.symm) hd2
      have hf2 : (wr.setCell ⟨db, 1, none⟩ (.slice none 0 0)).heap[fb]? = _ := Zz1 hdf HS.out.1
      have hf3 := hK3.blk (fun e => hlf e.symm) hf2
      rw [List.take_length] at hf3
      have hs1 := HS.out.2.size
      have hs2 := hK3.size
      refine ⟨rfl, ⟨fb, .slice none 0 0, lb, 0, ⟨fc, by rw [Kz2]; exact HFC.out, ?_⟩, ⟨rest, hf3⟩, World.ownsRow_nil _ _ _ _, ?_, Nat.zero_le _, NN.out.1, NN.out.2.1, NN.out.2.2.1, fun k hk => by simp [Value.ownBlock] at hk, fun k hk => ?_, ?_⟩, ?_⟩
      · rw [Kz2]; exact hd3
      · rw [lastL_nil]; exact hm
      · have := NN.out.2.2.2.2 k hk; simp [World.setCell] at hs2; omega
      · obtain ⟨o1, o2, o3, o4⟩ := Q6.out
        exact ⟨by rw [Kz2]; exact o1, flushF_ok _ _ o2 (fun x hx => (o3 x hx).2), (fun x hx => by cases hx), by simp⟩
      · exact (HS.out.2.mono (fun k _ hk e => NN.out.2.1 (e ▸ hk))).trans ((Keeps.set wr db 1 _ NN.out.1).trans (hK3.mono (fun k _ hk e => NN.out.2.2.1 (e ▸ hk))))
open Go.RowKit Go.Maps
def Kz9 (x : Int) (i : Nat) : Int := x / 2 ^ (8 * i) % 256
def t1F (g n : Int) : Nat → List Int
  | 0 => (zer 64).set 0 66
  | i + 1 => ((t1F g n i).set (1 + i) (Kz9 g i)).set (9 + i) (Kz9 n i)
theorem Qzf (g n : Int) : ∀ i, (t1F g n i).length = 64
  | 0 => by simp [t1F, zer]
  | i + 1 => by simp [t1F, Qzf g n i]
theorem Qz6 {w : World} {B T : Nat} {l : List Int} (h : w.heap[B]? = some (.cells (v8a l) T)) (i : Nat) (hi : i < l.length) : w.cell? ⟨B, i, none⟩ = some (.int .u8 (l.getD i 0)) ∧ w.frozen? ⟨B, i, none⟩ = false := by
  simp [World.cell?, World.frozen?, h, v8a, v8, hi]
theorem v8_set {w : World} {B T : Nat} {l : List Int} (h : w.heap[B]? = some (.cells (v8a l) T)) (i : Nat) (x : Int) : (w.setCell ⟨B, i, none⟩ (.int .u8 x)).heap[B]? = some (.cells (v8a (l.set i x)) T) := by
  rw [Xz3 h]; simp [v8a, v8]
def markC (pl : Nat) (n : Int) (last : List Int) : Array Value := .mk (.int .i64 (pl : Int) :: .int .u64 n :: v8 last)
theorem mark_cells {w : World} {B T : Nat} {pl : Nat} {n : Int} {last : List Int} (h : w.heap[B]? = some (.cells (markC pl n last) T)) : w.cell? ⟨B, 0, none⟩ = some (.int .i64 (pl : Int)) ∧ w.cell? ⟨B, 1, none⟩ = some (.int .u64 n) := by
  constructor
  · rw [cell_of_row w B 0 _ T (0, 0) h]; rfl
  · rw [cell_of_row w B 1 _ T (0, 0) h]; rfl
def t2F (g n : Int) (pl : Nat) : List Int := ((t1F g n 8).set 17 ((pl : Int) % 256)).set 18 ((pl : Int) / 256)
theorem Xzc (g n : Int) (pl : Nat) : (t2F g n pl).length = 64 := by simp [t2F, Qzf]
def t3F (g n : Int) (pl : Nat) (last : List Int) : List Int := (t2F g n pl).take 19 ++ (last ++ (t2F g n pl).drop (19 + last.length))
theorem Xzi (g n : Int) (pl : Nat) (last : List Int) (h : last.length = 32) : (t3F g n pl last).length = 64 := by simp [t3F, Xzc, h]
def Wz5 (g n : Int) (pl : Nat) (last : List Int) : List Int := (t3F g n pl last).take 51 ++ (shaF ((t3F g n pl last).take 51)).take 13
theorem u8_set {l : List Int} (h : U8s l) (i : Nat) (x : Int) (hx : 0 ≤ x ∧ x < 256) : U8s (l.set i x) := fun y hy => by
  rcases List.mem_or_eq_of_mem_set hy with hy | rfl
  · exact h y hy
  · exact hx
theorem byteAt_u8 (x : Int) (i : Nat) : 0 ≤ Kz9 x i ∧ Kz9 x i < 256 := by unfold Kz9; omega
theorem t1F_u8 (g n : Int) : ∀ i, U8s (t1F g n i)
  | 0 => u8_set (zer_u8 64) 0 66 (by decide)
  | i + 1 => u8_set (u8_set (t1F_u8 g n i) _ _ (byteAt_u8 g i)) _ _ (byteAt_u8 n i)
theorem t3F_u8 (g n : Int) (pl : Nat) (last : List Int) (hp : pl ≤ 65535) (h : U8s last) : U8s (t3F g n pl last) := by
  have h2 : U8s (t2F g n pl) := u8_set (u8_set (t1F_u8 g n 8) _ _ (by omega)) _ _ (by omega)
  intro x hx
  rcases List.mem_append.1 hx with hx | hx
  · exact h2 x (List.mem_of_mem_take hx)
  · rcases List.mem_append.1 hx with hx | hx
    · exact h x hx
    · exact h2 x (List.mem_of_mem_drop hx)
theorem titleF_ok (g n : Int) (pl : Nat) (last : List Int) (hp : pl ≤ 65535) (hl : last.length = 32) (h : U8s last) : PgOk (Wz5 g n pl last) := by
  have h3 := t3F_u8 g n pl last hp h
  refine ⟨by simp [Wz5, Xzi g n pl last hl, Vz8], fun x hx => ?_⟩
  rcases List.mem_append.1 hx with hx | hx
  · exact h3 x (List.mem_of_mem_take hx)
  · exact shaF_u8 _ (fun y hy => h3 y (List.mem_of_mem_take hy)) x (List.mem_of_mem_take hx)
theorem titleF_zero (g n : Int) (pl : Nat) (last : List Int) : (Wz5 g n pl last).getD 0 0 = 66 := by
  have e : ∀ l : List Int, l.length = 64 → ∀ m : List Int, (l.take 51 ++ m).getD 0 0 = l.getD 0 0 := by
    intro l hl m
    match l, hl with
    | x :: l, _ => rfl
  have e2 : ∀ l : List Int, l.length = 64 → ∀ m : List Int, (l.take 19 ++ m).getD 0 0 = l.getD 0 0 := by
    intro l hl m
    match l, hl with
    | x :: l, _ => rfl
  have es : ∀ (l : List Int) (i : Nat) (x : Int), 0 < i → (l.set i x).getD 0 0 = l.getD 0 0 := by
    intro l i x hi
    match l, i, hi with
    | [], _, _ => rfl
    | y :: l, i + 1, _ => rfl
  have e3 : ∀ i, (t1F g n i).getD 0 0 = 66 := by
    intro i
    induction i with
    | zero => rfl
    | succ i ih => unfold t1F; rw [es _ _ _ (by omega), es _ _ _ (by omega), ih]
  by_cases hl : last.length = 32
  · unfold Wz5
    rw [e _ (Xzi g n pl last hl)]
    unfold t3F
    rw [e2 _ (Xzc g n pl)]
    unfold t2F
    rw [es _ _ _ (by omega), es _ _ _ (by omega), e3]
  · have h19 := Xzc g n pl
    unfold Wz5 t3F
    have h2 : (t2F g n pl).getD 0 0 = 66 := by unfold t2F; rw [es _ _ _ (by omega), es _ _ _ (by omega), e3]
    generalize t2F g n pl = l at h19 h2 ⊢
    match l, h19, h2 with
    | x :: l, _, h2 => exact h2
theorem page_in {w : World} {B T : Nat} {l : List Int} (h : w.heap[B]? = some (.cells (v8a l) T)) (m : Nat) : ByIn w (some ⟨B, 0, none⟩) (l.take m) := fun i hi => by
  refine ⟨B, 0, rfl, Zz0 h, ?_⟩
  simp at hi
  rw [cell_of_row w B (0 + i) _ T (0, 0) h]
  simp [v8a, v8, hi, List.getElem?_take]
theorem set_row_v8 (l c : List Int) (o : Nat) : ((v8a l).toList.take o ++ (v8 c ++ (v8a l).toList.drop (o + (v8 c).length))).toArray = v8a (l.take o ++ (c ++ l.drop (o + c.length))) := by
  simp [v8a, v8, List.map_take, List.map_drop]
theorem mark_last {w : World} {B T : Nat} {pl : Nat} {n : Int} {last : List Int} (h : w.heap[B]? = some (.cells (markC pl n last) T)) (j : Nat) (v : Value) (hj : (v8 last)[j]? = some v) : w.cell? ((⟨B, 2, none⟩ : Addr).add j) = some v := by
  have ea : (⟨B, 2, none⟩ : Addr).add j = ⟨B, 2 + j, none⟩ := by unfold Addr.add; split <;> simp_all
  rw [ea, cell_of_row w B (2 + j) _ T (0, 0) h]
  simpa [markC, show 2 + j = j + 1 + 1 by omega] using hj
theorem v8_from {w : World} {B T : Nat} {l : List Int} (h : w.heap[B]? = some (.cells (v8a l) T)) (j : Nat) (v : Value) (m : Nat) (hj : (v8 (l.take m))[j]? = some v) : w.cell? ((⟨B, 0, none⟩ : Addr).add j) = some v := by
  have ea : (⟨B, 0, none⟩ : Addr).add j = ⟨B, j, none⟩ := by unfold Addr.add; split <;> simp_all
  have hlt : j < m := by have := (List.getElem?_eq_some_iff.1 hj).1; simp [v8] at this; omega
  rw [ea, cell_of_row w B j _ T (0, 0) h]
  simp only [v8, List.map_take] at hj
  rw [List.getElem?_take_of_lt hlt] at hj
  simpa [v8a, v8] using hj
def TtSt (w : World) (mk : Array Value) (l : List Int) (wx : World) : Prop :=
  wx.heap[w.heap.size]? = some (.cells mk 148) ∧ wx.heap[w.heap.size + 1]? = some (.cells (v8a (zer 64)) 37) ∧ wx.heap[w.heap.size + 1 + 1]? = some (.cells (v8a l) 37) ∧ Below w.heap.size w wx
theorem TtSt.put {w wx : World} {mk : Array Value} {l : List Int} (h : TtSt w mk l wx) (i : Nat) (x : Int) : TtSt w mk (l.set i x) (wx.setCell ⟨w.heap.size + 1 + 1, i, none⟩ (.int .u8 x)) :=
  ⟨Zz1 (by omega) h.1, Zz1 (by omega) h.2.1, v8_set h.2.2.1 i x, h.2.2.2.setCell (by simp; omega) _⟩
theorem TtSt.row {w wx : World} {mk : Array Value} {l : List Int} (h : TtSt w mk l wx) (c : List Int) (o : Nat) : TtSt w mk (l.take o ++ (c ++ l.drop (o + c.length))) (wx.setRow (w.heap.size + 1 + 1) ((v8a l).toList.take o ++ (v8 c ++ (v8a l).toList.drop (o + (v8 c).length))).toArray) := by
  rw [set_row_v8]
  exact ⟨by rw [setRow_other _ _ _ _ (by omega)]; exact h.1, by rw [setRow_other _ _ _ _ (by omega)]; exact h.2.1, setRow_heap _ _ _ _ _ (0, 0) h.2.2.1, below_setRow h.2.2.2 (by omega) _⟩
theorem TtSt.drew {w wx : World} {mk : Array Value} {l : List Int} (h : TtSt w mk l wx) : TtSt w mk l wx.drew := ⟨h.1, h.2.1, h.2.2.1, h.2.2.2.drew⟩
set_option maxRecDepth 100000 in
set_option maxHeartbeats 4000000 in
theorem title_any (g n : Int) (pl : Nat) (last : List Int) (w : World) (hg : 0 ≤ g ∧ g < 18446744073709551616) (hn : 0 ≤ n ∧ n < 18446744073709551616) (hpl : pl ≤ 65535) (hl : last.length = 32 ∧ U8s last) :
    Calls Tryz.prog 140 #[.int .u64 g, .agg (markC pl n last)] w fun e w' => e = .returned (.agg (v8a (Wz5 g n pl last))) ∧ Below w.heap.size w w' := by
  have HL := hZ hl
  obtain ⟨hg0, hg1⟩ := hg
  obtain ⟨hn0, hn1⟩ := hn
  clear hl
  go_enter Tryz.func140, Tryz.ntmps140
  repeat (fail_if_success (with_reducible refine Vz1 "pages.go:29" rfl ?_)
          first | go_values | go_skip | go_guarded | go_step | go_upon)
  obtain ⟨b0, b1, b2⟩ := heap3 w (.cells (markC pl n last) 148) (.cells (v8a (zer 64)) 37) (.cells (v8a (zer 64)) 37)
  refine Xz0 (fun wx => Hid (TtSt w (markC pl n last) (zer 64) wx)) (hZ ⟨b0, b1, b2, by repeat (first | with_reducible assumption | (with_reducible refine Below.setCell ?_ (by first | omega | (simp; done) | (simp; omega)) _) | (with_reducible refine Below.alloc ?_ (by first | omega | (simp; done) | (simp; omega)) _) | (with_reducible refine Below.drew ?_) | (with_reducible refine Qz2 ?_ _) | with_reducible exact Below.refl _ _ | (with_reducible refine Below.trans ?_ (Below.mono (by assumption) (by first | omega | (simp; done) | (simp; omega)))))⟩) ?_
  clear b0 b1 b2
  intro w1 H1
  have z0 := Qz6 H1.out.2.2.1 0 (by simp [zer])
  obtain ⟨z0, y0⟩ := z0
  go_wp2_with fail
  go_loopw [9] (fun iv wr => ∃ i : Nat, iv = .int .i64 i ∧ i ≤ 8 ∧ Hid (TtSt w (markC pl n last) (t1F g n i) wr)) (fun iv _ => 8 - (intOf iv).toNat)
  case atStart => exact ⟨0, rfl, by omega, hZ (H1.out.put 0 66)⟩
  case round =>
    obtain ⟨i, rfl, hi, HS⟩ := hrel
    obtain ⟨m0, m1⟩ := mark_cells HS.out.1
    by_cases hlt : i < 8
    · have hll := Qzf g n i
      obtain ⟨c1, f1⟩ := Qz6 HS.out.2.2.1 (1 + i) (by omega)
      obtain ⟨c2, f2⟩ := Qz6 HS.out.2.2.1 (9 + i) (by omega)
      go_wp2_with fail
      have hR : w.heap.size + 1 + 1 < wr.heap.size := Zz0 HS.out.2.2.1
      have k1 := cellB (R := w.heap.size + 1 + 1) m1 (by simp; omega)
      have hi0 : (0 : Int) ≤ i := by omega
      have hi8 : (i : Int) < 8 := by omega
      refine Vz0 [(0, true), (1, true), (2, true), (3, true), (4, true), (5, true), (6, true), (7, true), (8, true), (9, true), (10, true), (11, true), (12, true), (13, true), (14, true), (15, true), (16, false), (17, true), (18, false)] 18 (fun w' => ∃ p : RegrownB, w' = setO (Go.Sort.grow (redrawn wr p.d) p.os) (w.heap.size + 1 + 1) p.o) (by kernel_rfl) (by kernel_rfl) (fun _ _ d _ _ h => by cases d <;> exact h) (Kz6 hR) ?_
      (repeat (with_reducible refine mix_q ?_; simp only [qd1, qd0, qt1, qt0]; go_big_quiet_step (fail); with_reducible refine wpQuiet_nil ?_))
      with_reducible refine mix_a ?_; simp only [qd1, qd0, qt1, qt0]
      go_wp2_with fail
      try with_reducible refine wpList_nil ?_
      with_reducible refine Qz0 ?_
      refine ⟨fun _ => Qz5 hR (Xz2 (Zz2 (Below.refl _ _).drew _) (Zz4 _ _ _ _)), ?_⟩
      have HS2 : Hid (TtSt w (markC pl n last) ((t1F g n i).set (1 + i) (Kz9 g i)) (wr.setCell ⟨w.heap.size + 1 + 1, 1 + i, none⟩ (.int .u8 (g / 2 ^ (8 * i) % 256))).drew) := hZ (HS.out.put (1 + i) (Kz9 g i)).drew
      clear c1 f1 c2 f2 m0 m1
      generalize (wr.setCell ⟨w.heap.size + 1 + 1, 1 + i, none⟩ (.int .u8 (g / 2 ^ (8 * i) % 256))).drew = ws at HS2 ⊢
      obtain ⟨c2, f2⟩ := Qz6 HS2.out.2.2.1 (9 + i) (by simp [hll]; omega)
      (repeat (with_reducible refine mix_q ?_; simp only [qd1, qd0, qt1, qt0]; go_big_quiet_step (fail); with_reducible refine wpQuiet_nil ?_))
      with_reducible refine mix_a ?_; simp only [qd1, qd0, qt1, qt0]
      go_wp2_with fail
      try with_reducible refine wpList_nil ?_
      with_reducible refine Qz0 ?_
      first | (with_reducible refine Wz1 ?_) | (refine ⟨fun h => absurd h (by simp), ?_⟩; with_reducible refine Wz1 ?_)
      go_wp2_with fail
      exact ⟨⟨i + 1, by go_num, by omega, hZ (HS2.out.put (9 + i) (Kz9 n i))⟩, by simp [intOf]; omega⟩
    · obtain rfl : i = 8 := by omega
      have hll := Qzf g n 8
      obtain ⟨c1, f1⟩ := Qz6 HS.out.2.2.1 17 (by omega)
      obtain ⟨c2, f2⟩ := Qz6 HS.out.2.2.1 18 (by omega)
      go_wp2_with fail
      refine Kz0 (fun wx => Hid (TtSt w (markC pl n last) (t2F g n pl) wx)) (hZ ((HS.out.put 17 _).put 18 _)) ?_
      clear c1 f1 c2 f2 m0 m1 HS hll
      intro w2 HS
      refine Zz3 3 (fun w' => ∃ p : Regrown, w' = Go.Sort.grow (redrawn w2 p.d) p.os) (by kernel_rfl) (by kernel_rfl) (fun _ _ d _ _ h => by cases d <;> exact h) (Vz2 _) ?_
      simp only [List.take_succ_cons, List.take_zero]
      repeat (go_big_quiet_step (fail))
      with_reducible refine wpQuiet_nil ?_
      with_reducible refine mix_a ?_
      simp only [qd1, qd0, qt1, qt0]
      have hl8 : (v8 last).length = 32 := by rw [Wz0, HL.out.1]
      refine wpList_copy_own rfl (.tmp 39) (.tmp 41) 118 118 rfl 5 Tryz.underlying118 (by kernel_rfl) (w.heap.size + 1 + 1) 19 45 45 ⟨w.heap.size, 2, none⟩ 32 32 rfl rfl (v8a (t2F g n pl)) 37 HS.out.2.2.1 (v8 last) hl8 (fun j v hj => mark_last (w := w2.drew) HS.out.1 j v hj) ?k2 (Kz7 last) ?_
      case k2 => unfold v8a; rw [hl8, List.size_toArray, Wz0, Xzc]; decide
      refine Xz0 (fun wx => Hid (TtSt w (markC pl n last) (t3F g n pl last) wx)) (hZ (HS.out.drew.row last 19)) ?_
      clear HS
      intro w3 HS
      simp only [Act.put]
      with_reducible refine wpList_nil ?_
      refine Qz0 ⟨fun h => absurd h (by simp), Wz1 ?_⟩
      go_wp2_with fail
      have ht51 : ((t3F g n pl last).take 51).length = 51 := by rw [List.length_take, Xzi g n pl last HL.out.1]; rfl
      have HSH := shaSum_any (some ⟨w.heap.size + 1 + 1, 0, none⟩) ((t3F g n pl last).take 51) 64 w3 (page_in HS.out.2.2.1 51) (by omega) (fun x hx => t3F_u8 g n pl last hpl HL.out.2 x (List.mem_of_mem_take hx)) (by simp)
      rw [ht51] at HSH
      refine HSH.mono ?_
      clear HSH
      rintro e w4 ⟨rfl, hb4⟩
      have HS4 : Hid (TtSt w (markC pl n last) (t3F g n pl last) w4) := hZ ⟨(hb4.block _ (Zz0 HS.out.1)).trans HS.out.1, (hb4.block _ (Zz0 HS.out.2.1)).trans HS.out.2.1, (hb4.block _ (Zz0 HS.out.2.2.1)).trans HS.out.2.2.1, HS.out.2.2.2.trans (hb4.mono HS.out.2.2.2.size)⟩
      clear hb4 HS
      have HT : Hid (Wz5 g n pl last = (t3F g n pl last).take 51 ++ (shaF ((t3F g n pl last).take 51)).take 13) := hZ rfl
      have HSL : Hid ((shaF ((t3F g n pl last).take 51)).length = 32) := hZ (Vz8 _)
      generalize shaF ((t3F g n pl last).take 51) = sm at HT HSL ⊢
      have hsz : (v8a sm).size = 32 := by unfold v8a; rw [List.size_toArray, Wz0, HSL.out]
      try dsimp only
      go_wp2_with (refine wpList_store_row rfl 67 (.tmp 7) (.tmp 44) rfl w4.heap.size (v8a sm) rfl rfl 67 (v8a (zer 32)) ?s1 ?s2 ?s3 ?s4 ?_)
      case s1 => exact heap_alloc_new w4 _
      case s2 => rw [hsz]; kernel_rfl
      case s3 => rw [hsz]; simp [v8a, v8, zer]
      case s4 => exact all_oneCell_toArray (Kz7 sm)
      refine Kz0 (fun wx => Hid (TtSt w (markC pl n last) (t3F g n pl last) wx) ∧ Hid (wx.heap[w4.heap.size]? = some (.cells (v8a sm) 67))) ⟨hZ ?_, hZ (setRow_heap _ _ _ _ _ (0, 0) (heap_alloc_new w4 _))⟩ ?_
      · have q1 := Zz0 HS4.out.1
        have q2 := Zz0 HS4.out.2.1
        have q3 := Zz0 HS4.out.2.2.1
        have hbb : ∀ o : Obj, Below w4.heap.size w4 ((w4.alloc o).setRow w4.heap.size (v8a sm)) := fun o => below_setRow (bZ) (Nat.le_refl _) _
        exact ⟨((hbb _).block _ q1).trans HS4.out.1, ((hbb _).block _ q2).trans HS4.out.2.1, ((hbb _).block _ q3).trans HS4.out.2.2.1, HS4.out.2.2.2.trans ((hbb _).mono HS4.out.2.2.2.size)⟩
      generalize w4.heap.size = sb
      clear HS4
      rintro w5 ⟨HS, HB⟩
      simp only [Act.put]
      refine Zz3 2 (fun w' => ∃ p : Regrown, w' = Go.Sort.grow (redrawn w5 p.d) p.os) (by kernel_rfl) (by kernel_rfl) (fun _ _ d _ _ h => by cases d <;> exact h) (Vz2 _) ?_
      simp only [List.take_succ_cons, List.take_zero]
      repeat (go_big_quiet_step (fail))
      with_reducible refine wpQuiet_nil ?_
      with_reducible refine mix_a ?_
      simp only [qd1, qd0, qt1, qt0]
      have h13 : (v8 (sm.take 13)).length = 13 := by rw [Wz0, List.length_take, HSL.out]; rfl
      refine wpList_copy_own rfl (.tmp 45) (.tmp 46) 118 118 rfl 5 Tryz.underlying118 (by kernel_rfl) (w.heap.size + 1 + 1) 51 13 13 ⟨sb, 0, none⟩ 13 32 rfl rfl (v8a (t3F g n pl last)) 37 HS.out.2.2.1 (v8 (sm.take 13)) h13 (fun j v hj => v8_from (w := w5.drew) HB.out j v 13 hj) ?k2 (Kz7 _) ?_
      case k2 => unfold v8a; rw [h13, List.size_toArray, Wz0, Xzi g n pl last HL.out.1]; decide
      have HE : Hid ((t3F g n pl last).take 51 ++ (sm.take 13 ++ (t3F g n pl last).drop (51 + (sm.take 13).length)) = Wz5 g n pl last) := hZ (by
        rw [HT.out, List.length_take, HSL.out, List.drop_of_length_le (by rw [Xzi g n pl last HL.out.1]; decide), List.append_nil])
      refine Xz0 (fun wx => Hid (TtSt w (markC pl n last) (Wz5 g n pl last) wx)) (hZ (by have h := HS.out.drew.row (sm.take 13) 51; rw [HE.out] at h; exact h)) ?_
      have HTL := hZ (titleF_ok g n pl last hpl HL.out.1 HL.out.2).1
      clear HS HE HT
      generalize htt : Wz5 g n pl last = tt at HTL ⊢
      have HTT := hZ htt
      clear htt
      intro w6 HS
      simp only [Act.put]
      with_reducible refine wpList_nil ?_
      refine Qz0 ⟨fun h => absurd h (by simp), Wz1 ?_⟩
      have hsz : (v8a tt).size = 64 := by unfold v8a; rw [List.size_toArray, Wz0, HTL.out]
      have HLN : Hid ((v8 tt).length = 64) := hZ (by rw [Wz0, HTL.out])
      have HRG := hZ (Vz6 HS.out.2.2.1)
      go_wp2_with (first
        | (refine wpList_load_mid rfl 37 (.tmp 5) rfl (w.heap.size + 1 + 1) 0 rfl (v8 tt) _ HRG.out Tryz.underlying37 rfl ?s1 ?_)
        | (refine wpList_store_row rfl 37 (.tmp 4) (.tmp 48) rfl (w.heap.size + 1) (v8a tt) rfl rfl 37 (v8a (zer 64)) HS.out.2.1 ?s2 ?s3 ?s4 ?_))
      case s1 => rw [HLN.out]; exact Zz5
      case s2 => rw [hsz]; exact Zz5
      case s3 => rw [hsz]; simp [v8a, v8, zer]
      case s4 => exact all_oneCell_toArray (Kz7 tt)
      have hfin := setRow_heap w6 (w.heap.size + 1) _ (v8a tt) 37 (0, 0) HS.out.2.1
      have hbf : Below w.heap.size w (w6.setRow (w.heap.size + 1) (v8a tt)) := below_setRow HS.out.2.2.2 (by omega) _
      generalize w6.setRow (w.heap.size + 1) (v8a tt) = wf at hfin hbf ⊢
      try simp only [Act.put, qs0, qs1, qs2]
      refine bodyPost_ret (results_cell_row Tryz.results140 _ _ (w.heap.size + 1) 37 (v8a tt) (0, 0) _ rfl hfin Tryz.underlying37 rfl (by rw [hsz]; exact Zz5)) rfl ⟨by rw [HTT.out], hbf⟩
open Go.RowKit Go.Maps
theorem Wz7 : (Tryz.prog.info? 148).map (·.size) = some 34 := by kernel_rfl
theorem Jz5 (pl : Nat) (n : Int) (last : List Int) (h : last.length = 32) : (markC pl n last).size = 34 := by simp [markC, v8, h]
theorem Xza (pl : Nat) (n : Int) (last : List Int) : (markC pl n last).all (·.oneCell') = true := all_oneCell_toArray (fun v hv => by
  rcases List.mem_cons.1 hv with rfl | hv
  · rfl
  · rcases List.mem_cons.1 hv with rfl | hv
    · rfl
    · exact Kz7 last v hv)
theorem or16 (x y : Int) (hx : 0 ≤ x ∧ x < 256) (hy : 0 ≤ y ∧ y < 256) : ∃ n : Nat, bits BinOp.or IntKind.i64 x (y * 256) = (n : Int) ∧ n ≤ 65535 := by
  obtain ⟨a, rfl⟩ := Int.eq_ofNat_of_zero_le hx.1
  obtain ⟨b, rfl⟩ := Int.eq_ofNat_of_zero_le hy.1
  have h1 : a ||| (b * 256) < 2 ^ 16 := Nat.or_lt_two_pow (by omega) (by omega)
  refine ⟨a ||| (b * 256), ?_, by omega⟩
  have e1 : (BitVec.ofInt 64 (a : Int)).toNat = a := by rw [BitVec.toNat_ofInt]; omega
  have e2 : (BitVec.ofInt 64 ((b : Int) * 256)).toNat = b * 256 := by rw [BitVec.toNat_ofInt]; omega
  show IntKind.i64.wrap (((BitVec.ofInt 64 (a : Int) ||| BitVec.ofInt 64 ((b : Int) * 256)).toNat : Nat) : Int) = _
  rw [BitVec.toNat_or, e1, e2]
  generalize a ||| (b * 256) = n at h1
  simp [IntKind.wrap, IntKind.bits, IntKind.signed]
  omega
theorem Wzd (w : World) (g : Nat) (cs : Array Value) : w.grownBy (w.setRow g cs) (some g) :=
  ⟨rfl, rfl, rfl, by simp [World.setRow], fun k _ hne => setRow_other w g k cs (by have : k ≠ g := fun e => hne (by rw [e]); omega)⟩
theorem results_slot_cell_slot {P : Program} {fn : Func} {o p q : Tmp} {ty : TypeId} (h : fn.results = #[.tmp o, .cell p ty, .tmp q]) (tmps : Array Value) (w : World) (g : Nat) (t : TypeId) (cs : Array Value) (fr : Nat × Nat) (d : TypeDesc)
    (hp : tmps.getD p undef = .pointer (some ⟨g, 0, none⟩)) (u v : Value) (ho : tmps.getD o undef = u) (hq : tmps.getD q undef = v) (hg : w.heap[g]? = some (.cells cs t fr))
    (hu : P.underlying ty = some d) (hd : (match d with | .struct _ | .array _ _ => true | _ => false) = true) (hi : (P.info? ty).map (·.size) = some cs.size) :
    (results fn tmps).run P w = .ok (.tuple #[u, .agg cs, v]) w := by
  have hp' : tmps[p]?.getD undef = .pointer (some ⟨g, 0, none⟩) := by simpa using hp
  have ho' : tmps[o]?.getD undef = u := by simpa using ho
  have hq' : tmps[q]?.getD undef = v := by simpa using hq
  simp [results, h, hp', ho', hq', asAddr, run_loadVar_row w g t ty cs fr d hg hu hd hi]
theorem gen_mix {P : Program} {l : List Oper} {S : World → Prop} {Q : Exit → Act → World → Prop} {last : Nat} {sched : List (Nat × Bool)} {a : Act} {w : World} (F : World → Prop) (h : F w) (k : ∀ w', F w' → wpMix P l S Q last sched a w') : wpMix P l S Q last sched a w := k w h
theorem guard_pg : Tryz.prog.eqGuardType Tryz.prog.depth 37 = false := by kernel_rfl
theorem info_u8' : ∃ i, Tryz.prog.info? 5 = some i := by
  cases h : Tryz.prog.info? 5 with
  | none => have h2 := info_u8; rw [h] at h2; cases h2
  | some i => exact ⟨i, rfl⟩
theorem cells_u8 : Tryz.prog.cellsOf 5 = 1 := by kernel_rfl
theorem plain_u8 : Tryz.prog.plainKey 5 = true := by kernel_rfl
theorem pg_eql (w : World) (x y : List Int) (hx : x.length = 64) (hy : y.length = 64) : (binOp .eql 37 (.agg (v8a x)) (.agg (v8a y))).run Tryz.prog w = .ok (.bool (decide (x = y))) w := by
  obtain ⟨i, hi⟩ := info_u8'
  exact run_eql_u8 Tryz.underlying37 hi cells_u8 plain_u8 Tryz.underlying5 w x y hx hy
def RdSt (w : World) (p : List Int) (pl : Nat) (n : Int) (last : List Int) (wx : World) : Prop :=
  wx.heap[w.heap.size]? = some (.cells (v8a p) 37) ∧ wx.heap[w.heap.size + 1]? = some (.cells (markC 0 0 (zer 32)) 148) ∧ wx.heap[w.heap.size + 1 + 1]? = some (.cells (markC pl n last) 148) ∧ Below w.heap.size w wx
theorem mark_set1 {w : World} {B T : Nat} {pl : Nat} {n : Int} {last : List Int} (h : w.heap[B]? = some (.cells (markC pl n last) T)) (m : Int) : (w.setCell ⟨B, 1, none⟩ (.int .u64 m)).heap[B]? = some (.cells (markC pl m last) T) := by
  rw [Xz3 h]; rfl
theorem mark_fr {w : World} {B T : Nat} {pl : Nat} {n : Int} {last : List Int} (h : w.heap[B]? = some (.cells (markC pl n last) T)) : w.frozen? ⟨B, 1, none⟩ = false := by
  simp [World.frozen?, h]
theorem page_part {w : World} {B T : Nat} {l : List Int} (h : w.heap[B]? = some (.cells (v8a l) T)) (o m : Nat) (j : Nat) (v : Value) (hj : (v8 ((l.drop o).take m))[j]? = some v) : w.cell? ((⟨B, o, none⟩ : Addr).add j) = some v := by
  have ea : (⟨B, o, none⟩ : Addr).add j = ⟨B, o + j, none⟩ := by unfold Addr.add; split <;> simp_all
  have hlt : j < m := by have := (List.getElem?_eq_some_iff.1 hj).1; simp [v8] at this; omega
  rw [ea, cell_of_row w B (o + j) _ T (0, 0) h]
  simp only [v8, List.map_take, List.map_drop] at hj
  rw [List.getElem?_take_of_lt hlt, List.getElem?_drop] at hj
  simpa [v8a, v8] using hj
theorem mark_row (pl : Nat) (n : Int) (l c : List Int) (hl : l.length = 32) (hc : c.length = 32) : ((markC pl n l).toList.take 2 ++ (v8 c ++ (markC pl n l).toList.drop (2 + (v8 c).length))).toArray = markC pl n c := by
  simp [markC, v8, hl, hc]
theorem Jzc {w : World} {B T : Nat} {pl : Nat} {n : Int} {last : List Int} (h : w.heap[B]? = some (.cells (markC pl n last) T)) : w.rangeAt B 0 (.int .i64 (pl : Int) :: .int .u64 n :: v8 last) := fun j v hv => by
  rw [cell_of_row w B (0 + j) _ T (0, 0) h]
  simpa [markC] using hv
theorem RdSt.put {w wx : World} {p last : List Int} {pl : Nat} {n : Int} (h : RdSt w p pl n last wx) (m : Int) : RdSt w p pl m last (wx.drew.setCell ⟨w.heap.size + 1 + 1, 1, none⟩ (.int .u64 m)) :=
  ⟨Zz1 (w := wx.drew) (by omega) h.1, Zz1 (w := wx.drew) (by omega) h.2.1, mark_set1 (w := wx.drew) h.2.2.1 m, h.2.2.2.drew.setCell (by simp; omega) _⟩
theorem zero_title (g n : Int) (pl : Nat) (last : List Int) : decide (zer 64 = Wz5 g n pl last) = false := by
  rw [decide_eq_false_iff_not]
  intro h
  have h2 := titleF_zero g n pl last
  rw [← h] at h2
  simp [zer] at h2
open Go.RowKit Go.Maps
def ringC (db : Nat) (first n pl : Nat) (num : Int) (last : List Int) (used : Nat) : Array Value := .mk (.pointer (some ⟨db, 0, none⟩) :: .int .i64 (first : Int) :: .int .i64 (n : Int) :: .int .i64 (pl : Int) :: .int .u64 num :: (v8 last ++ [.int .i64 (used : Int)]))
theorem Wz6 {w : World} {B T db first n pl used : Nat} {num : Int} {last : List Int} (hl : last.length = 32) (h : w.heap[B]? = some (.cells (ringC db first n pl num last used) T)) :
    w.cell? ⟨B, 0, none⟩ = some (.pointer (some ⟨db, 0, none⟩)) ∧ w.cell? ⟨B, 1, none⟩ = some (.int .i64 (first : Int)) ∧ w.cell? ⟨B, 2, none⟩ = some (.int .i64 (n : Int)) ∧ w.cell? ⟨B, 3, none⟩ = some (.int .i64 (pl : Int)) ∧ w.cell? ⟨B, 4, none⟩ = some (.int .u64 num) ∧ w.cell? ⟨B, 37, none⟩ = some (.int .i64 (used : Int)) := by
  refine ⟨?_, ?_, ?_, ?_, ?_, ?_⟩
  · rw [cell_of_row w B 0 _ T (0, 0) h]; rfl
  · rw [cell_of_row w B 1 _ T (0, 0) h]; rfl
  · rw [cell_of_row w B 2 _ T (0, 0) h]; rfl
  · rw [cell_of_row w B 3 _ T (0, 0) h]; rfl
  · rw [cell_of_row w B 4 _ T (0, 0) h]; rfl
  · rw [cell_of_row w B 37 _ T (0, 0) h]
    have e : (v8 last).length = 32 := by rw [Wz0, hl]
    simp [ringC, List.getElem?_append, e]
set_option maxRecDepth 100000 in
theorem sectors_any (k : Nat) (w : World) (hk : k ≤ 255) : Calls Tryz.prog 154 #[.int .i64 (k : Int)] w fun e w' => e = .returned (.int .i64 (1 + ((k : Int) + 15) / 16 + k)) ∧ w = w' := by
  have h0 : (0 : Int) ≤ k := by omega
  have h1 : (k : Int) ≤ 255 := by omega
  go_enter Tryz.func154, Tryz.ntmps154
  go_wp2_with fail
  go_ret
  exact ⟨by simp; try omega, rfl⟩
set_option maxRecDepth 100000 in
set_option maxHeartbeats 1000000 in
theorem ringAt_any (rb db first n pl used i : Nat) (num : Int) (last : List Int) (w : World) (hl : last.length = 32) (h : w.heap[rb]? = some (.cells (ringC db first n pl num last used) 252)) (hn : 0 < n ∧ n ≤ 4096) (hf : first ≤ 4096) (hi : i ≤ 100000) :
    Calls Tryz.prog 157 #[.pointer (some ⟨rb, 0, none⟩), .int .i64 (i : Int)] w fun e w' => e = .returned (.int .i64 ((first : Int) + (i : Int) % n)) ∧ Below w.heap.size w w' := by
  obtain ⟨z0, z1, z2, z3, z4, z5⟩ := Wz6 hl h
  have g0 : (n : Int) ≠ 0 := by omega
  have g1 : (0 : Int) < n := by omega
  have g2 : (n : Int) ≤ 4096 := by omega
  have g3 : (i : Int) ≤ 100000 := by omega
  have g4 : (0 : Int) ≤ i := by omega
  have g5 : (0 : Int) ≤ first := by omega
  have g6 : (first : Int) ≤ 4096 := by omega
  have g7 : 0 ≤ (i : Int) % n := Int.emod_nonneg _ g0
  have g8 : (i : Int) % n < n := Int.emod_lt_of_pos _ g1
  go_enter Tryz.func157, Tryz.ntmps157
  have r1 := cell_regrown z1
  have r2 := cell_regrown z2
  go_wp2_with fail
  refine wp_region_quiet_below (by kernel_rfl) (by kernel_rfl) ?_
  repeat (go_big_quiet_step (fail))
  refine wpQuiet_nil ?_
  intro wq hwq
  have hq := Qz1 hwq
  clear hwq
  go_wp2_with fail
  go_ret
  exact ⟨rfl, hq⟩
open Go.RowKit Go.Maps
theorem Zzh {P : Program} {fn : Func} {p q r s : Tmp} {ty : TypeId} (h : fn.results = #[.tmp p, .cell q ty, .tmp r, .tmp s]) (tmps : Array Value) (w : World) (g : Nat) (t : TypeId) (cs : Array Value) (fr : Nat × Nat) (d : TypeDesc)
    (hq : tmps.getD q undef = .pointer (some ⟨g, 0, none⟩)) (v1 v2 v3 : Value) (h1 : tmps.getD p undef = v1) (h2 : tmps.getD r undef = v2) (h3 : tmps.getD s undef = v3) (hg : w.heap[g]? = some (.cells cs t fr))
    (hu : P.underlying ty = some d) (hd : (match d with | .struct _ | .array _ _ => true | _ => false) = true) (hi : (P.info? ty).map (·.size) = some cs.size) :
    (results fn tmps).run P w = .ok (.tuple #[v1, .agg cs, v2, v3]) w := by
  have hq' : tmps[q]?.getD undef = .pointer (some ⟨g, 0, none⟩) := by simpa using hq
  have h1' : tmps[p]?.getD undef = v1 := by simpa using h1
  have h2' : tmps[r]?.getD undef = v2 := by simpa using h2
  have h3' : tmps[s]?.getD undef = v3 := by simpa using h3
  simp [results, h, hq', h1', h2', h3', asAddr, run_loadVar_row w g t ty cs fr d hg hu hd hi]
theorem Jza : (Tryz.prog.info? 148).map (·.size) = some 34 := by kernel_rfl
open Go.RowKit Go.Maps
theorem info_ring : (Tryz.prog.info? 252).map (fun i => (i.zero, i.size, i.bytes)) = some (some (.agg (.mk (.pointer none :: .int .i64 0 :: .int .i64 0 :: .int .i64 0 :: .int .u64 0 :: (v8 (zer 32) ++ [.int .i64 0])))), 38, 80) := by kernel_rfl
theorem ring_places : ∃ (it : TypeInfo) (z : Value) (fields : Array Field), Tryz.prog.info? 252 = some it ∧ Tryz.prog.underlying 252 = some (.struct fields) ∧ it.zero = some z ∧ fields.toList.mapM (fun f => (Tryz.prog.info? f.type).map fun i => (f.offset, i.size)) = some [(0, 1), (1, 1), (2, 1), (3, 34), (37, 1)] ∧ z.cells.toList = .pointer none :: .int .i64 0 :: .int .i64 0 :: .int .i64 0 :: .int .u64 0 :: (v8 (zer 32) ++ [.int .i64 0]) := by
  obtain ⟨it, h1, h2, h3, h4⟩ := info_parts info_ring
  refine ⟨it, _, _, h1, Tryz.underlying252, h2, by kernel_rfl, by kernel_rfl⟩
theorem built_ring (db first n pl : Nat) (num : Int) (last : List Int) (hl : last.length = 32) : Tryz.prog.built 252 [(0, .pointer (some ⟨db, 0, none⟩)), (1, .int .i64 (first : Int)), (2, .int .i64 (n : Int)), (3, .agg (markC pl num last))] = some (ringC db first n pl num last 0) := by
  obtain ⟨it, z, fields, h1, h2, h3, h4, h5⟩ := ring_places
  rw [Jzb h1 h2 h3 h4]
  generalize z.cells = zc at h5 ⊢
  obtain ⟨zl⟩ := zc
  dsimp only at h5
  subst h5
  have e3 : (Value.agg (markC pl num last)).cells = markC pl num last := rfl
  have e4 : (markC pl num last).size = 34 := by simp [markC, v8, hl]
  have ez : (v8 (zer 32)).length = 32 := by simp [v8, zer]
  have e0 : ∀ b, (Value.pointer b).cells = #[.pointer b] := fun _ => rfl
  have e1 : ∀ i, (Value.int .i64 i).cells = #[.int .i64 i] := fun _ => rfl
  rw [Qz7 (off := 0) (by rw [e0]; rfl) (by rw [e0]; simp), Qz7 (off := 1) (by rw [e1]; rfl) (by rw [e0, e1]; simp), Qz7 (off := 2) (by rw [e1]; rfl) (by rw [e0, e1, e1]; simp), Qz7 (off := 3) (by rw [e3, e4]; rfl) (by rw [e0, e1, e1, e3, e4]; simp [ez])]
  rw [e0, e1, e1, e3, e4]
  simp only [Instr.fill, Option.some.injEq]
  apply Array.ext'
  simp [ringC, markC, ez]
end Go.Proofs.YtajmcplanlibnaaGreatDoor
