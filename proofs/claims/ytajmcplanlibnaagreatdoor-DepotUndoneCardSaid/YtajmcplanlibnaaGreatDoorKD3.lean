/- A disk that has fuel without end: what it is in memory. Errors that were met somewhere. A disk: New, and what Read answers. A disk: a sector is written. -/
import Derived.Test.YtajmcplanlibnaaGreatDoorKH7
import Derived.Test.YtajmcplanlibnaaGreatDoorKLib
set_option linter.unusedSimpArgs false
set_option linter.unusedVariables false
set_option linter.unnecessarySimpa false
namespace Go.Proofs.YtajmcplanlibnaaGreatDoor
open Go.RowKit
/-- An error with a number, met at so many places. -/
def ErrAt (w : World) : Nat → Value → Int → Prop
  | 0, v, n => v = .iface 137 (.int .i64 n)
  | k + 1, v, n => ∃ b s e, v = .iface 247 (.pointer (some ⟨b, 0, none⟩)) ∧ w.heap[b]? = some (.cells #[.string s, e] 249) ∧ ErrAt w k e n
theorem ErrAt.below {w w' : World} (hb : Below w.heap.size w w') : ∀ {k : Nat} {v : Value} {n : Int}, ErrAt w k v n → ErrAt w' k v n
  | 0, _, _, h => h
  | k + 1, _, _, ⟨b, s, e, h1, h2, h3⟩ => ⟨b, s, e, h1, (hb.block b (lt_of_blk h2)).trans h2, ErrAt.below hb h3⟩
set_option maxRecDepth 100000 in
theorem woe_nil (s : ByteArray) (w : World) : Calls Tryz.prog 63 #[.string s, .nilIface] w fun e w' => e = .returned .nilIface ∧ w = w' := by
  go_enter Tryz.func63, Tryz.ntmps63
  go_wp2_with fail
  go_ret
  exact ⟨rfl, rfl⟩
set_option maxRecDepth 100000 in
theorem woe_some (s : ByteArray) (t : TypeId) (v : Value) (w : World) : Calls Tryz.prog 63 #[.string s, .iface t v] w fun e w' => e = .returned (.iface 247 (.pointer (some ⟨w.heap.size, 0, none⟩))) ∧ w'.heap[w.heap.size]? = some (.cells #[.string s, .iface t v] 249) ∧ Below w.heap.size w w' := by
  go_enter Tryz.func63, Tryz.ntmps63
  go_wp2_with fail
  go_ret
  refine ⟨rfl, heap_alloc_new w _, ?_⟩
  repeat (first | with_reducible assumption | (with_reducible refine Below.setCell ?_ (by first | omega | (simp; done) | (simp; omega)) _) | (with_reducible refine Below.alloc ?_ (by first | omega | (simp; done) | (simp; omega)) _) | (with_reducible refine Below.drew ?_) | (with_reducible refine below_dN ?_ _) | with_reducible exact Below.refl _ _ | (with_reducible refine Below.trans ?_ (Below.mono (by assumption) (by first | omega | (simp; done) | (simp; omega)))))
theorem woe_err (s : ByteArray) (k : Nat) (v : Value) (n : Int) (w : World) (h : ErrAt w k v n) : Calls Tryz.prog 63 #[.string s, v] w fun e w' => (∃ v', e = .returned v' ∧ ErrAt w' (k + 1) v' n) ∧ Below w.heap.size w w' := by
  obtain ⟨t, x, rfl⟩ : ∃ t x, v = .iface t x := by
    cases k with
    | zero => exact ⟨_, _, h⟩
    | succ k => obtain ⟨b, s, e, h1, _⟩ := h; exact ⟨_, _, h1⟩
  exact (woe_some s t x w).mono fun e w' ⟨h1, h2, h3⟩ => ⟨⟨_, h1, _, _, _, rfl, h2, h.below h3⟩, h3⟩
/-- Sectors; what was written and not flushed. -/
structure DiskS where
  firm : List (List Int)
  cache : List (Nat × List Int)
def PgOk (p : List Int) : Prop := p.length = 64 ∧ U8s p
def DiskS.ok (d : DiskS) : Prop := (1 ≤ d.firm.length ∧ d.firm.length ≤ 4096) ∧ (∀ p ∈ d.firm, PgOk p) ∧ (∀ x ∈ d.cache, x.1 < d.firm.length ∧ PgOk x.2) ∧ d.cache.length ≤ 10000000
def lastOf (c : List (Nat × List Int)) (i : Nat) : Option Nat := (c.reverse.findIdx? fun x => x.1 == i).map fun j => c.length - 1 - j
theorem lastOf_nil (i : Nat) : lastOf [] i = none := rfl
theorem lastOf_snoc (c : List (Nat × List Int)) (x : Nat × List Int) (i : Nat) : lastOf (c ++ [x]) i = if x.1 = i then some c.length else lastOf c i := by
  unfold lastOf
  rw [List.reverse_append, List.reverse_singleton, List.singleton_append, List.findIdx?_cons]
  by_cases h : x.1 = i
  · simp [h]
  · simp only [beq_iff_eq, h, if_false, Option.map_map]
    congr 1
    funext j
    simp; omega
theorem lastOf_lt {c : List (Nat × List Int)} {i k : Nat} (h : lastOf c i = some k) : k < c.length := by
  unfold lastOf at h
  simp only [Option.map_eq_some_iff] at h
  obtain ⟨j, hj, rfl⟩ := h
  have := (List.findIdx?_eq_some_iff_getElem.1 hj).1
  simp at this; omega
/-- What was written to a sector last. -/
def DiskS.view (d : DiskS) (i : Nat) : List Int := match lastOf d.cache i with
  | some k => (d.cache.getD k (0, [])).2
  | none => d.firm.getD i []
noncomputable def lastL (c : List (Nat × List Int)) : Lit → Option Value := fun l => match l with
  | .int .i64 i => if 0 ≤ i then (lastOf c i.toNat).map fun k => .int .i64 (k : Int) else none
  | _ => none
theorem lastL_snoc (c : List (Nat × List Int)) (i : Nat) (p : List Int) : upd (lastL c) (.int .i64 (i : Int)) (some (.int .i64 (c.length : Int))) = lastL (c ++ [(i, p)]) := by
  funext l
  by_cases h : l = .int .i64 (i : Int)
  · subst h
    rw [upd_same]
    simp [lastL, lastOf_snoc]
  · rw [upd_other _ h]
    unfold lastL
    split
    · rename_i j
      split
      · rename_i hj
        rw [lastOf_snoc, if_neg]
        intro e
        exact h (by simp at e; subst e; congr 1; omega)
      · rfl
    · rfl
theorem lastL_nil : lastL [] = fun _ => none := by
  funext l; unfold lastL
  split
  · simp [lastOf_nil]
  · rfl
def flatC (c : List (Nat × List Int)) : List Value := c.flatMap fun x => .int .i64 (x.1 : Int) :: v8 x.2
def DiskI (w : World) (db : Nat) (N : Nat → Prop) (d : DiskS) : Prop :=
  ∃ fb cv lb c, (∃ fc, d.firm.length ≤ fc ∧ w.heap[db]? = some (.cells #[.slice (some ⟨fb, 0, none⟩) d.firm.length fc, cv, .map (some lb), .int .i64 (-1), .bool false] 141)) ∧
    (∃ rest : List Value, w.heap[fb]? = some (.cells (v8 d.firm.flatten ++ rest).toArray 37)) ∧ w.ownsRow 0 178 65 cv d.cache.length (flatC d.cache) ∧ MapIs Tryz.prog 3 w lb c (lastL d.cache) ∧ c ≤ d.cache.length ∧
    ¬ N db ∧ ¬ N fb ∧ ¬ N lb ∧ (∀ k, cv.ownBlock = some k → ¬ N k) ∧ (∀ i, N i → i < w.heap.size) ∧ d.ok
/-- The blocks of a disk stay, what is new may be kept too. -/
theorem DiskI.keep {w w' : World} {db : Nat} {N N' : Nat → Prop} {d : DiskS} (h : DiskI w db N d) (hb : Below w.heap.size w w') (hn : ∀ i, N' i → i < w'.heap.size ∧ (N i ∨ w.heap.size ≤ i)) : DiskI w' db N' d := by
  obtain ⟨fb, cv, lb, c, ⟨fc, hfc, h1⟩, ⟨rest, h2⟩, h3, h4, h5, n1, n2, n3, n4, n5, h6⟩ := h
  have hx : ∀ i, i < w.heap.size → ¬ N i → ¬ N' i := fun i hi hni hN' => by
    rcases (hn i hN').2 with h | h
    · exact hni h
    · omega
  exact ⟨fb, cv, lb, c, ⟨fc, hfc, (hb.block _ (lt_of_blk h1)).trans h1⟩, ⟨rest, (hb.block _ (lt_of_blk h2)).trans h2⟩, own_same h3 (fun k hk => hb.block k (h3.lt k hk).2), h4.below hb h4.lt, h5,
    hx _ (lt_of_blk h1) n1, hx _ (lt_of_blk h2) n2, hx _ h4.lt n3, fun k hk => hx k (h3.lt k hk).2 (n4 k hk), fun i hi => (hn i hi).1, h6⟩
theorem DiskI.lt {w : World} {db : Nat} {N : Nat → Prop} {d : DiskS} (h : DiskI w db N d) : db < w.heap.size := by
  obtain ⟨fb, cv, lb, c, ⟨fc, _, h1⟩, _⟩ := h; exact lt_of_blk h1
set_option maxRecDepth 100000 in
theorem diskOff_any (db : Nat) (N : Nat → Prop) (d : DiskS) (w : World) (h : DiskI w db N d) : Calls Tryz.prog 81 #[.pointer (some ⟨db, 0, none⟩)] w fun e w' => e = .returned (.bool false) ∧ w = w' := by
  obtain ⟨fb, cv, lb, c, ⟨fc, _, h1⟩, _⟩ := h
  obtain ⟨z0, z1, z2, z3, z4, _⟩ := blk5 h1
  clear h1
  go_enter Tryz.func81, Tryz.ntmps81
  go_wp2_with fail
  go_ret
  exact ⟨rfl, rfl⟩
set_option maxRecDepth 100000 in
theorem diskSize_any (db : Nat) (N : Nat → Prop) (d : DiskS) (w : World) (h : DiskI w db N d) : Calls Tryz.prog 64 #[.pointer (some ⟨db, 0, none⟩)] w fun e w' => e = .returned (.int .i64 (d.firm.length : Int)) ∧ w = w' := by
  obtain ⟨fb, cv, lb, c, ⟨fc, _, h1⟩, _⟩ := h
  obtain ⟨z0, z1, z2, z3, z4, _⟩ := blk5 h1
  clear h1
  go_enter Tryz.func64, Tryz.ntmps64
  go_wp2_with fail
  go_ret
  exact ⟨rfl, rfl⟩
set_option maxRecDepth 100000 in
theorem diskStep_any (db : Nat) (N : Nat → Prop) (d : DiskS) (w : World) (h : DiskI w db N d) : Calls Tryz.prog 173 #[.pointer (some ⟨db, 0, none⟩)] w fun e w' => e = .returned .nilIface ∧ w = w' := by
  have HD := Lib.hid h
  obtain ⟨fb, cv, lb, c, ⟨fc, _, h1⟩, _⟩ := h
  obtain ⟨z0, z1, z2, z3, z4, _⟩ := blk5 h1
  clear h1
  go_enter Tryz.func173, Tryz.ntmps173
  go_wp2_with fail
  refine (diskOff_any db N d w HD.out).mono ?_
  rintro e w1 ⟨rfl, rfl⟩
  try dsimp only
  go_wp2_with fail
  go_ret
  exact ⟨rfl, rfl⟩
end Go.Proofs.YtajmcplanlibnaaGreatDoor
namespace Go.Proofs.YtajmcplanlibnaaGreatDoor
open Go.RowKit Go.Maps
theorem results_cell_slot {P : Program} {fn : Func} {p q : Tmp} {ty : TypeId} (h : fn.results = #[.cell p ty, .tmp q]) (tmps : Array Value) (w : World) (g : Nat) (t : TypeId) (cs : Array Value) (fr : Nat × Nat) (d : TypeDesc)
    (hp : tmps.getD p undef = .pointer (some ⟨g, 0, none⟩)) (v : Value) (hq : tmps.getD q undef = v) (hg : w.heap[g]? = some (.cells cs t fr))
    (hu : P.underlying ty = some d) (hd : (match d with | .struct _ | .array _ _ => true | _ => false) = true) (hi : (P.info? ty).map (·.size) = some cs.size) :
    (results fn tmps).run P w = .ok (.tuple #[.agg cs, v]) w := by
  have hp' : tmps[p]?.getD undef = .pointer (some ⟨g, 0, none⟩) := by simpa using hp
  have hq' : tmps[q]?.getD undef = v := by simpa using hq
  simp [results, h, hp', hq', asAddr, run_loadVar_row w g t ty cs fr d hg hu hd hi]
theorem info_pg : (Tryz.prog.info? 37).map (fun i => (i.zero, i.size, i.bytes)) = some (some (.agg (v8a (zer 64))), 64, 64) := by kernel_rfl
theorem info_pgs : (Tryz.prog.info? 37).map (·.size) = some 64 := by kernel_rfl
theorem made_rep (m n : Nat) (hm : 0 < m) : madeCells (v8a (zer m)) n = v8a (zer n) := by
  apply Array.ext'
  simp only [madeCells, v8a, v8, zer, Array.toList_map, Array.toList_range]
  apply List.ext_getElem
  · simp
  · intro i h1 h2
    have : i % m < m := Nat.mod_lt _ hm
    simp [this]
theorem made_zer (n : Nat) : madeCells (v8a (zer 64)) n = v8a (zer n) := made_rep 64 n (by decide)
theorem flat_rep (n m : Nat) : (List.replicate n (zer m)).flatten = zer (n * m) := by simp [zer, List.flatten_replicate_replicate]
theorem flat_zer (n : Nat) : (List.replicate n (zer 64)).flatten = zer (n * 64) := flat_rep n 64
theorem zer_u8 (m : Nat) : U8s (zer m) := fun x hx => by
  have : x = 0 := (List.mem_replicate.1 hx).2
  subst this; decide
theorem zer_pg : PgOk (zer 64) := ⟨List.length_replicate, zer_u8 64⟩
theorem pgs_get : ∀ (l : List (List Int)) (i j : Nat), (∀ p ∈ l, p.length = 64) → j < 64 → l.flatten[i * 64 + j]? = (l[i]?).bind (·[j]?)
  | [], i, j, _, _ => by simp
  | p :: l, 0, j, h, hj => by
    have hp := h p (by simp)
    rw [List.flatten_cons, Nat.zero_mul, Nat.zero_add, List.getElem?_append_left (by omega)]
    rfl
  | p :: l, i + 1, j, h, hj => by
    have hp := h p (by simp)
    rw [List.flatten_cons, List.getElem?_append_right (by omega), hp, show (i + 1) * 64 + j - 64 = i * 64 + j by omega, pgs_get l i j (fun q hq => h q (by simp [hq])) hj]
    rfl
theorem firm_range {w : World} {fb T : Nat} {l : List (List Int)} {rest : List Value} (h : w.heap[fb]? = some (.cells (v8 l.flatten ++ rest).toArray T)) (hl : ∀ p ∈ l, PgOk p) (i : Nat) (hi : i < l.length) : w.rangeAt fb (i * 64) (v8 (l.getD i [])) := fun j v hv => by
  have he : l.getD i [] = l[i] := by simp [hi]
  rw [he] at hv
  have hj : j < 64 := by have := (List.getElem?_eq_some_iff.1 hv).1; rw [v8, List.length_map, (hl _ (List.getElem_mem hi)).1] at this; exact this
  have hf := pgs_get l i j (fun p hp => (hl p hp).1) hj
  have hx : l.flatten[i * 64 + j]? = l[i][j]? := by rw [hf, List.getElem?_eq_getElem hi]; rfl
  have hj2 : j < l[i].length := by rw [(hl _ (List.getElem_mem hi)).1]; exact hj
  have hlt : i * 64 + j < l.flatten.length := by
    rw [List.getElem?_eq_getElem hj2] at hx
    exact (List.getElem?_eq_some_iff.1 hx).1
  rw [cell_of_row w fb (i * 64 + j) _ T (0, 0) h, List.getElem?_toArray, List.getElem?_append_left (by rw [v8_length]; omega)]
  unfold v8 at hv ⊢
  rw [List.getElem?_map] at hv ⊢
  rw [hx]
  exact hv
theorem v8a_one (l : List Int) : (v8a l).all (fun a => a.oneCell') = true := by simp [v8a, v8, Value.oneCell']
theorem info_pg_ex : ∃ a, Tryz.prog.info? 37 = some a ∧ a.size = 64 := by
  have h := info_pgs
  simp only [Option.map_eq_some_iff] at h
  exact h
theorem flatC_get : ∀ (c : List (Nat × List Int)) (k j : Nat), (∀ x ∈ c, x.2.length = 64) → j < 64 → (flatC c)[k * 65 + 1 + j]? = (c[k]?).bind (fun x => (v8 x.2)[j]?)
  | [], k, j, _, _ => by simp [flatC]
  | x :: c, 0, j, h, hj => by
    have hx := h x (by simp)
    have e : flatC (x :: c) = .int .i64 (x.1 : Int) :: (v8 x.2 ++ flatC c) := rfl
    rw [e, show 0 * 65 + 1 + j = j + 1 by omega, List.getElem?_cons_succ, List.getElem?_append_left (by simp [v8]; omega)]
    rfl
  | x :: c, k + 1, j, h, hj => by
    have hx := h x (by simp)
    have e : flatC (x :: c) = .int .i64 (x.1 : Int) :: (v8 x.2 ++ flatC c) := rfl
    rw [e, show (k + 1) * 65 + 1 + j = (k * 65 + 1 + j + 64) + 1 by omega, List.getElem?_cons_succ, List.getElem?_append_right (by simp [v8]; omega), show k * 65 + 1 + j + 64 - (v8 x.2).length = k * 65 + 1 + j by simp [v8]; omega, flatC_get c k j (fun y hy => h y (by simp [hy])) hj]
    rfl
theorem cache_range {w : World} {e gc cc n : Nat} {c : List (Nat × List Int)} (h : w.ownsRow 0 e 65 (.slice (some ⟨gc, 0, none⟩) c.length cc) c.length (flatC c)) (hc : ∀ x ∈ c, x.1 < n ∧ PgOk x.2) (k : Nat) (hk : k < c.length) : w.rangeAt gc (k * 65 + 1) (v8 (c.getD k (0, [])).2) := fun j v hv => by
  have he : c.getD k (0, []) = c[k] := by simp [hk]
  rw [he] at hv
  have hj : j < 64 := by have := (List.getElem?_eq_some_iff.1 hv).1; rw [v8, List.length_map, (hc _ (List.getElem_mem hk)).2.1] at this; exact this
  have hf := flatC_get c k j (fun x hx => (hc x hx).2.1) hj
  have hcell := h.cells (g := gc) rfl (k * 65 + 1 + j) v (by rw [hf]; simpa [hk] using hv)
  have ea : (⟨gc, 0, none⟩ : Addr).add (k * 65 + 1 + j) = ⟨gc, k * 65 + 1 + j, none⟩ := by unfold Addr.add; split <;> simp_all
  rw [ea] at hcell
  exact hcell
theorem slot_view_len {d : DiskS} (h : d.ok) (i : Nat) (hi : i < d.firm.length) : PgOk (d.view i) := by
  unfold DiskS.view
  split
  · rename_i k hk
    have := lastOf_lt hk
    rw [show d.cache.getD k (0, []) = d.cache[k] by simp [this]]
    exact (h.2.2.1 _ (List.getElem_mem this)).2
  · rw [show d.firm.getD i [] = d.firm[i] by simp [hi]]
    exact h.2.1 _ (List.getElem_mem hi)
set_option maxRecDepth 100000 in
set_option maxHeartbeats 1000000 in
theorem diskNew_any (n : Nat) (hn : 1 ≤ n ∧ n ≤ 4096) (N : Nat → Prop) (w : World) (hN : ∀ i, N i → i < w.heap.size) :
    Calls Tryz.prog 12 #[.int .i64 (n : Int)] w fun e w' => (∃ db, e = .returned (.tuple #[.pointer (some ⟨db, 0, none⟩), .nilIface]) ∧ w.heap.size ≤ db ∧ DiskI w' db N ⟨List.replicate n (zer 64), []⟩) ∧ Below w.heap.size w w' := by
  have HN := Lib.hid hN
  clear hN
  obtain ⟨i0, hi0', hz0, hz1, hz2⟩ := info_parts info_pg
  have hmk : ∀ wx : World, (Instr.makeSlice 52 (.int .i64 (n : Int)) (.int .i64 (n : Int))).run Tryz.prog wx = .ok (.slice (some ⟨wx.heap.size, 0, none⟩) n n) (wx.alloc (.cells (v8a (zer (n * 64))) 37)) := fun wx => by
    have h := run_make (P := Tryz.prog) wx 52 37 i0 (.agg (v8a (zer 64))) Tryz.underlying52 hi0' hz0 .i64 .i64 n n (by omega) (Int.le_refl _) (by rw [hz2]; omega) (by omega)
    simp only [Int.toNat_natCast, hz1] at h
    rw [h, show (Value.agg (v8a (zer 64))).cells = v8a (zer 64) from rfl, made_zer]
  have hmm : ∀ wx : World, (Instr.makeMap 138 none).run Tryz.prog wx = .ok (.map (some wx.heap.size)) (wx.alloc (.map #[] 0)) := fun _ => by kernel_rfl
  obtain ⟨hn1, hn2⟩ := hn
  have hi1 : (1 : Int) ≤ n := by omega
  have hi2 : (n : Int) ≤ 4096 := by omega
  clear hi0' hz0 hz1 hz2
  go_enter Tryz.func12, Tryz.ntmps12
  go_wp2_with fail
  go_ret2
  obtain ⟨b0, b1, b2⟩ := heap3 w (.cells (v8a (zer (n * 64))) 37) (.map #[] 0) (.cells #[.slice (some ⟨w.heap.size, 0, none⟩) n n, .slice none 0 0, .map (some (w.heap.size + 1)), .int .i64 (-1), .bool false] 141)
  refine ⟨⟨_, rfl, by omega, w.heap.size, .slice none 0 0, w.heap.size + 1, 0, ?_, ?_, World.ownsRow_nil _ _ _ _, ?_, Nat.zero_le _, fun h => ?_, fun h => ?_, fun h => ?_, fun k hk => by simp [Value.ownBlock] at hk, fun i hi => ?_, ?_⟩, ?_⟩
  · exact ⟨n, by simp, by rw [List.length_replicate]; exact b2⟩
  · exact ⟨[], by rw [List.append_nil, flat_zer]; exact b0⟩
  · rw [lastL_nil]
    have h := (mapIs_made Tryz.prog 3 (w.alloc (.cells (v8a (zer (n * 64))) 37))).alloc (.cells #[.slice (some ⟨w.heap.size, 0, none⟩) n n, .slice none 0 0, .map (some (w.heap.size + 1)), .int .i64 (-1), .bool false] 141)
    simpa only [World.size_alloc] using h
  · have := HN.out _ h; omega
  · have := HN.out _ h; omega
  · have := HN.out _ h; omega
  · have := HN.out i hi; simp; omega
  · refine ⟨by simp; omega, fun p hp => ?_, (fun x hx => by cases hx), by simp⟩
    rw [(List.mem_replicate.1 hp).2]; exact zer_pg
  · repeat (first | with_reducible assumption | (with_reducible refine Below.setCell ?_ (by first | omega | (simp; done) | (simp; omega)) _) | (with_reducible refine Below.alloc ?_ (by first | omega | (simp; done) | (simp; omega)) _) | (with_reducible refine Below.drew ?_) | (with_reducible refine below_dN ?_ _) | with_reducible exact Below.refl _ _ | (with_reducible refine Below.trans ?_ (Below.mono (by assumption) (by first | omega | (simp; done) | (simp; omega)))))
theorem int_key (i : Int) (h : -9223372036854775808 ≤ i ∧ i ≤ 9223372036854775807) : keyOf Tryz.prog 3 (.int .i64 i) = some (.int .i64 i) := by
  refine Go.Maps.keyOf_int_mk Tryz.underlying3 ?_
  have e1 : IntKind.i64.min = -9223372036854775808 := rfl
  have e2 : IntKind.i64.max = 9223372036854775807 := rfl
  simp [Lit.wf, e1, e2]
  omega
set_option maxRecDepth 100000 in
set_option maxHeartbeats 2000000 in
theorem diskRead_any (db : Nat) (N : Nat → Prop) (d : DiskS) (i : Nat) (hi : i < d.firm.length) (w : World) (h : DiskI w db N d) :
    Calls Tryz.prog 28 #[.pointer (some ⟨db, 0, none⟩), .int .i64 (i : Int)] w fun e w' => e = .returned (.tuple #[.agg (v8a (d.view i)), .nilIface]) ∧ Below w.heap.size w w' := by
  have HV := Lib.hid (slot_view_len h.choose_spec.choose_spec.choose_spec.choose_spec.2.2.2.2.2.2.2.2.2.2 i hi)
  have HD1 : Hid (DiskI (w.alloc (.cells (v8a (zer 64)) 37)) db N d) := Lib.hid (h.keep ((Below.refl _ _).alloc (Nat.le_refl _) _) (fun k hk => by
    obtain ⟨_, _, _, _, _, _, _, _, _, _, _, _, _, h5, _⟩ := h
    have := h5 k hk
    exact ⟨by simp; omega, .inl hk⟩))
  have HW1 : Hid ((w.alloc (.cells (v8a (zer 64)) 37)).heap[w.heap.size]? = some (.cells (v8a (zer 64)) 37) ∧ Below w.heap.size w (w.alloc (.cells (v8a (zer 64)) 37))) := Lib.hid ⟨heap_alloc_new w _, (Below.refl _ _).alloc (Nat.le_refl _) _⟩
  clear h
  go_enter Tryz.func28, Tryz.ntmps28
  repeat (fail_if_success (with_reducible refine stop_pos "disk.go:70" rfl ?_)
          first | go_values | go_skip | go_guarded | go_step | go_upon)
  refine gen_world (fun wx => Hid (DiskI wx db N d) ∧ Hid (wx.heap[w.heap.size]? = some (.cells (v8a (zer 64)) 37) ∧ Below w.heap.size w wx)) ⟨HD1, HW1⟩ ?_
  clear HD1 HW1
  rintro w1 ⟨HD, HW⟩
  go_wp2_with fail
  refine (diskOff_any db N d w1 HD.out).mono ?_
  rintro e w2 ⟨rfl, rfl⟩
  obtain ⟨fb, cv, lb, c, ⟨fc, hfc, q1⟩, ⟨rest, q2⟩, q3, q4, q5, n1, n2, n3, n4, n5, q6⟩ := HD.out
  have HFC := Lib.hid hfc
  clear hfc
  obtain ⟨z0, z1, z2, z3, z4, _⟩ := blk5 q1
  have Q2 := Lib.hid q2
  have Q3 := Lib.hid q3
  have Q4 := Lib.hid q4
  have Q6 := Lib.hid q6
  clear q1 q2 q3 q4 q5 n1 n2 n3 n4 n5 q6
  have hi0 : (0 : Int) ≤ i := by omega
  have hi1 : (i : Int) < d.firm.length := by omega
  have HFL := Lib.hid Q6.out.1
  have hfl := HFL.out.2
  try dsimp only
  have hsz : (v8a (d.view i)).size = 64 := by simp [v8a, v8, HV.out.1]
  have HVE := Lib.hid (show d.view i = d.view i from rfl)
  cases hL : lastOf d.cache i with
  | none =>
    have hfk : lastL d.cache (.int .i64 (i : Int)) = none := by simp [lastL, hL]
    have HE : Hid (d.view i = d.firm.getD i []) := Lib.hid (by unfold DiskS.view; rw [hL])
    have HRG := Lib.hid (firm_range Q2.out Q6.out.2.1 i hi)
    rw [← HE.out] at HRG
    have HLN : Hid ((v8 (d.view i)).length = 64) := Lib.hid (by simp [v8, HV.out.1])
    clear HE hL
    generalize hpg : d.view i = pg at HRG hsz HV HLN
    have HPG := Lib.hid hpg
    clear hpg
    go_wp2_with (first
      | (at_lookup; refine wpList_look_ok_is _ rfl _ _ 138 rfl 3 3 (int_keyed Tryz.underlying3) Tryz.underlying138 (.int .i64 0) ?hz lb c (lastL d.cache) rfl Q4.out (.int .i64 (i : Int)) (.int .i64 (i : Int)) rfl ?hk ?_)
      | (refine wpList_load_mid rfl 37 (.tmp 50) rfl fb (i * 64) rfl (v8 pg) _ HRG.out Tryz.underlying37 rfl ?s1 ?_)
      | (refine wpList_store_row rfl 37 (.tmp 4) (.tmp 51) rfl w.heap.size (v8a pg) rfl rfl 37 (v8a (zer 64)) HW.out.1 ?s2 ?s3 ?s4 ?_))
    case hk => exact int_key _ (by omega)
    case s1 => rw [HLN.out]; exact info_pg_ex
    case s2 => exact info_pg_ex
    case s3 => simp [v8a, v8, zer]
    case s4 => have h := v8a_one pg; rw [hsz] at h; exact h
    have hfin := setRow_heap w1 w.heap.size _ (v8a pg) 37 (0, 0) HW.out.1
    have hbf : Below w.heap.size w (w1.setRow w.heap.size (v8a pg)) := below_setRow HW.out.2 (Nat.le_refl _) _
    generalize w1.setRow w.heap.size (v8a pg) = wf at hfin hbf ⊢
    refine bodyPost_ret (results_cell_slot Tryz.results28 _ _ w.heap.size 37 (v8a pg) (0, 0) _ rfl .nilIface rfl hfin Tryz.underlying37 rfl (by rw [hsz]; exact info_pgs)) rfl ⟨?_, hbf⟩
    rw [HPG.out]
  | some k =>
    have hfk : lastL d.cache (.int .i64 (i : Int)) = some (.int .i64 (k : Int)) := by simp [lastL, hL]
    have hk := lastOf_lt hL
    have HE : Hid (d.view i = (d.cache.getD k (0, [])).2) := Lib.hid (by unfold DiskS.view; rw [hL])
    obtain ⟨ac, cc, rfl⟩ := own_slice Q3.out
    obtain ⟨gc, rfl⟩ : ∃ gc, ac = some ⟨gc, 0, none⟩ := by
      rcases Q3.out.2 with ⟨hv, hn⟩ | ⟨g, c, cur, hv, _⟩
      · omega
      · simp only [Value.slice.injEq] at hv; exact ⟨g, hv.1⟩
    have HRG := Lib.hid (cache_range Q3.out Q6.out.2.2.1 k hk)
    rw [← HE.out] at HRG
    have HLN : Hid ((v8 (d.view i)).length = 64) := Lib.hid (by simp [v8, HV.out.1])
    have hk0 : (0 : Int) ≤ k := by omega
    have hk1 : (k : Int) < d.cache.length := by omega
    have hcl := Q6.out.2.2.2
    clear HE hL
    generalize hpg : d.view i = pg at HRG hsz HV HLN
    have HPG := Lib.hid hpg
    clear hpg
    go_wp2_with (first
      | (at_lookup; refine wpList_look_ok_is _ rfl _ _ 138 rfl 3 3 (int_keyed Tryz.underlying3) Tryz.underlying138 (.int .i64 0) ?hz lb c (lastL d.cache) rfl Q4.out (.int .i64 (i : Int)) (.int .i64 (i : Int)) rfl ?hk ?_)
      | (refine wpList_load_mid rfl 37 (.tmp 43) rfl gc (k * 65 + 1) rfl (v8 pg) _ HRG.out Tryz.underlying37 rfl ?s1 ?_)
      | (refine wpList_store_row rfl 37 (.tmp 4) (.tmp 44) rfl w.heap.size (v8a pg) rfl rfl 37 (v8a (zer 64)) HW.out.1 ?s2 ?s3 ?s4 ?_))
    case hk => exact int_key _ (by omega)
    case s1 => rw [HLN.out]; exact info_pg_ex
    case s2 => exact info_pg_ex
    case s3 => simp [v8a, v8, zer]
    case s4 => have h := v8a_one pg; rw [hsz] at h; exact h
    have hfin := setRow_heap w1 w.heap.size _ (v8a pg) 37 (0, 0) HW.out.1
    have hbf : Below w.heap.size w (w1.setRow w.heap.size (v8a pg)) := below_setRow HW.out.2 (Nat.le_refl _) _
    generalize w1.setRow w.heap.size (v8a pg) = wf at hfin hbf ⊢
    refine bodyPost_ret (results_cell_slot Tryz.results28 _ _ w.heap.size 37 (v8a pg) (0, 0) _ rfl .nilIface rfl hfin Tryz.underlying37 rfl (by rw [hsz]; exact info_pgs)) rfl ⟨?_, hbf⟩
    rw [HPG.out]
end Go.Proofs.YtajmcplanlibnaaGreatDoor
namespace Go.Proofs.YtajmcplanlibnaaGreatDoor
open Go.RowKit Go.Maps
theorem flatC_snoc (c : List (Nat × List Int)) (x : Nat × List Int) : flatC (c ++ [x]) = flatC c ++ (.int .i64 (x.1 : Int) :: v8 x.2) := by simp [flatC]
theorem info_wr : (Tryz.prog.info? 178).map (fun i => (i.zero, i.size, i.bytes)) = some (some (.agg (.mk (.int .i64 0 :: v8 (zer 64)))), 65, 72) := by kernel_rfl
theorem wr_places : ∃ (it : TypeInfo) (z : Value) (fields : Array Field), Tryz.prog.info? 178 = some it ∧ Tryz.prog.underlying 178 = some (.struct fields) ∧ it.zero = some z ∧ fields.toList.mapM (fun f => (Tryz.prog.info? f.type).map fun i => (f.offset, i.size)) = some [(0, 1), (1, 64)] ∧ z.cells.size = 65 := by
  obtain ⟨it, h1, h2, h3, h4⟩ := info_parts info_wr
  refine ⟨it, _, _, h1, Tryz.underlying178, h2, by kernel_rfl, by kernel_rfl⟩
theorem built_wr (i : Int) (p : List Int) (hp : p.length = 64) : Tryz.prog.built 178 [(0, .int .i64 i), (1, .agg (v8a p))] = some (.mk (.int .i64 i :: v8 p)) := by
  obtain ⟨it, z, fields, h1, h2, h3, h4, h5⟩ := wr_places
  rw [built_struct h1 h2 h3 h4]
  generalize z.cells = zc at h5 ⊢
  have e0 : (Value.int .i64 i).cells = #[.int .i64 i] := rfl
  have e1 : (Value.agg (v8a p)).cells = v8a p := rfl
  have e2 : (v8a p).size = 64 := by simp [v8a, v8, hp]
  rw [fill_cons (off := 0) (by rw [e0]; rfl) (by rw [e0, h5]; show 0 + 1 ≤ 65; decide), fill_cons (off := 1) (by rw [e1, e2]; rfl) (by rw [e0, e1, e2]; simp; omega)]
  rw [e0, e1, e2]
  simp only [Instr.fill, Option.some.injEq]
  apply Array.ext'
  have hz : zc.toList.length = 65 := by simpa using h5
  simp [v8a]
  omega
theorem row_range {w : World} {b T : Nat} {l : List Int} (h : w.heap[b]? = some (.cells (v8a l) T)) : w.rangeAt b 0 (v8 l) := fun j v hv => by
  rw [cell_of_row w b (0 + j) _ T (0, 0) h]
  simpa [v8a] using hv
theorem one_srcN (w : World) (l : List Value) (e n : Nat) (hn : l.length = n) (h1 : ∀ u ∈ l, u.oneCell' = true) : SrcIs (w.alloc (.cells (.mk l) e)) (.slice (some ⟨w.heap.size, 0, none⟩) 1 1) 1 n l := by
  refine .inr ⟨⟨w.heap.size, 0, none⟩, 1, rfl, by omega, fun j u hu => ?_, h1⟩
  have h := cell_of_row (w.alloc (.cells (.mk l) e)) w.heap.size j (.mk l) e (0, 0) (heap_alloc_new w _)
  have ea : (⟨w.heap.size, 0, none⟩ : Addr).add j = ⟨w.heap.size, j, none⟩ := by unfold Addr.add; split <;> simp_all
  rw [ea, h]
  simpa using hu
/-- 'm[k] = v', where the number of entries is not of interest. -/
theorem wpList_store_le {P : Program} (w : World) {ops : Array Oper} {rest : List Oper} {o : Oper} {a : Act} {Q : Exit → Act → World → Prop}
    (hg : o.guard = none) (m x v : Operand) (t : TypeId) (hop : o.op = Op.mapUpdate t m x v)
    (k e : TypeId) (K : Keyed P k) (ht : P.underlying t = some (.map k e)) (b c : Nat) (f : Lit → Option Value)
    (hm : a.eval m = .map (some b)) (hown : MapIs P k w b c f) (hc : c < maxLen) (key val : Value) (kl : Lit) (hx : a.eval x = key) (hv : a.eval v = val) (hkey : keyOf P k key = some kl)
    (hK : ∀ w' c', c' ≤ c + 1 → MapIs P k w' b c' (upd f kl (some val)) → w.mapTurned w' b → wpList P ops Q rest (a.put o.dst undef) w') : wpList P ops Q (o :: rest) a w :=
  wpList_store_is w hg m x v t hop k e K ht b c f hm hown hc key val kl hx hv hkey (fun w' h1 h2 => hK w' _ (by split <;> omega) h1 h2)
set_option maxRecDepth 100000 in
set_option maxHeartbeats 4000000 in
theorem diskWrite_any (db : Nat) (N : Nat → Prop) (d : DiskS) (i : Nat) (p : List Int) (hi : i < d.firm.length) (hp : PgOk p) (hcl : d.cache.length ≤ 9000000) (w : World) (h : DiskI w db N d) :
    Calls Tryz.prog 143 #[.pointer (some ⟨db, 0, none⟩), .int .i64 (i : Int), .agg (v8a p)] w fun e w' => e = .returned .nilIface ∧ DiskI w' db N ⟨d.firm, d.cache ++ [(i, p)]⟩ ∧ Keeps N w w' := by
  have HP := Lib.hid hp
  have HN : Hid (∀ k, N k → k < w.heap.size) := Lib.hid (by obtain ⟨_, _, _, _, _, _, _, _, _, _, _, _, _, h5, _⟩ := h; exact h5)
  have HD1 : Hid (DiskI (w.alloc (.cells (v8a p) 37)) db (fun k => N k ∨ k = w.heap.size) d) := Lib.hid (h.keep ((Below.refl _ _).alloc (Nat.le_refl _) _) (fun k hk => by
    rcases hk with hk | rfl
    · have := HN.out k hk
      exact ⟨by simp; omega, .inl hk⟩
    · exact ⟨by simp, .inr (Nat.le_refl _)⟩))
  have HW1 : Hid ((w.alloc (.cells (v8a p) 37)).heap[w.heap.size]? = some (.cells (v8a p) 37) ∧ Keeps N w (w.alloc (.cells (v8a p) 37))) := Lib.hid ⟨heap_alloc_new w _, Keeps.alloc _ _ _⟩
  clear h hp
  go_enter Tryz.func143, Tryz.ntmps143
  repeat (fail_if_success (with_reducible refine stop_pos "disk.go:84" rfl ?_)
          first | go_values | go_skip | go_guarded | go_step | go_upon)
  refine gen_world (fun wx => Hid (DiskI wx db (fun k => N k ∨ k = w.heap.size) d) ∧ Hid (wx.heap[w.heap.size]? = some (.cells (v8a p) 37) ∧ Keeps N w wx)) ⟨HD1, HW1⟩ ?_
  clear HD1 HW1
  rintro w1 ⟨HD, HW⟩
  go_wp2_with fail
  refine (diskOff_any db _ d w1 HD.out).mono ?_
  rintro e w2 ⟨rfl, rfl⟩
  obtain ⟨fb, cv, lb, c, ⟨fc, hfc, q1⟩, ⟨rest, q2⟩, q3, q4, q5, n1, n2, n3, n4, n5, q6⟩ := HD.out
  have HFC := Lib.hid hfc
  clear hfc
  obtain ⟨z0, z1, z2, z3, z4, y0, y1, y2, y3, y4⟩ := blk5 q1
  obtain ⟨ac, cc, rfl⟩ := own_slice q3
  have Q1 := Lib.hid q1
  have Q2 := Lib.hid q2
  have Q3 := Lib.hid q3
  have Q4 := Lib.hid q4
  have Q5 := Lib.hid q5
  have Q6 := Lib.hid q6
  have NN := Lib.hid (And.intro n1 (And.intro n2 (And.intro n3 n4)))
  clear q1 q2 q3 q4 q5 n1 n2 n3 n4 n5 q6
  have hi0 : (0 : Int) ≤ i := by omega
  have hi1 : (i : Int) < d.firm.length := by omega
  have HFL := Lib.hid Q6.out.1
  have hfl := HFL.out.2
  try dsimp only
  go_wp2_with fail
  refine (diskStep_any db _ d w1 HD.out).mono ?_
  rintro e w2 ⟨rfl, rfl⟩
  try dsimp only
  have r1 := cell_regrown z1
  have r2 := cell_regrown z2
  go_wp2_with fail
  refine wp_region_qlast 10 (fun w' => ∃ p : Regrown, w' = Go.Sort.grow (redrawn w1 p.d) p.os) (by kernel_rfl) (by kernel_rfl) (fun _ _ d _ _ h => by cases d <;> exact h) (grows_drew _) ?_
  simp only [List.take_succ_cons, List.take_zero]
  repeat (go_big_quiet_step (fail))
  with_reducible refine wpQuiet_nil ?_
  with_reducible refine mix_a ?_
  simp only [List.drop_succ_cons, List.drop_zero, List.take_succ_cons, List.take_zero]
  go_wp2_with (at_mapUpdate; refine wpList_store_le _ rfl _ _ _ 138 rfl 3 3 (int_keyed Tryz.underlying3) Tryz.underlying138 lb c (lastL d.cache) rfl (Q4.out.drew) ?hc (.int .i64 (i : Int)) (.int .i64 (d.cache.length : Int)) (.int .i64 (i : Int)) rfl rfl ?hk ?_)
  case hc => have h1 := Q5.out; unfold maxLen; omega
  case hk => exact int_key _ (by omega)
  intro w3 c3 hc3 hm ht
  rw [lastL_snoc d.cache i p] at hm
  with_reducible refine wpList_nil ?_
  with_reducible refine mixQ_normal ?_
  with_reducible refine mix_nil ?_
  have hdlb : lb ≠ db := blk_map_ne Q1.out Q4.out
  have hplb : lb ≠ w.heap.size := blk_map_ne HW.out.1 Q4.out
  have hdp : db ≠ w.heap.size := blk_ne Q1.out HW.out.1 (by decide)
  have HT : Hid (Keeps (fun k => k ≠ lb) w1 w3) := Lib.hid ((Keeps.drew _ w1).trans (Keeps.of_turned ht (by simp)))
  have HM := Lib.hid hm
  have HD3 := Lib.hid (HT.out.blk (fun e => hdlb e.symm) Q1.out)
  have HP3 := Lib.hid (HT.out.blk (fun e => hplb e.symm) HW.out.1)
  have HO3 : Hid (w3.ownsRow 0 178 65 (.slice ac d.cache.length cc) d.cache.length (flatC d.cache)) := Lib.hid (HT.out.own Q3.out (fun k hk e => by
    obtain ⟨D, ⟨es, cl, hb, _⟩, _⟩ := Q4.out
    rcases Q3.out.2 with ⟨hv, _⟩ | ⟨g, c', cur, hv, _, hg, _⟩
    · rw [hv] at hk; simp [Value.ownBlock] at hk
    · rw [hv] at hk; simp only [Value.ownBlock, Option.some.injEq] at hk; subst hk; subst e; rw [hb] at hg; cases hg))
  obtain ⟨R, hR, hRd, hRp, hRo⟩ : ∃ R, R < w3.heap.size ∧ db ≠ R ∧ w.heap.size ≠ R ∧ (∀ k, (Value.slice ac d.cache.length cc).ownBlock = some k → k = R) := by
    cases hob : (Value.slice ac d.cache.length cc).ownBlock with
    | none => exact ⟨lb, HM.out.lt, fun e => hdlb e.symm, fun e => hplb e.symm, fun k hk => by cases hk⟩
    | some g => exact ⟨g, (HO3.out.lt g hob).2, (blk_own_ne HD3.out HO3.out (by decide) hob).symm, (blk_own_ne HP3.out HO3.out (by decide) hob).symm, fun k hk => by cases hk; rfl⟩
  clear hm ht r1 r2 z0 z1 z2 z3 z4 y0 y1 y2 y3 y4
  obtain ⟨z0, z1, z2, z3, z4, y0, y1, y2, y3, y4⟩ := blk5 HD3.out
  have k1 := cellB (R := R) z1 hRd
  go_wp2_with fail
  refine wp_region_mix [(0, true), (1, true), (2, true), (3, true), (4, true), (5, true), (6, true), (7, true), (8, false), (9, false), (10, true), (11, true), (12, false)] 12 (fun w' => ∃ p : RegrownB, w' = setO (Go.Sort.grow (redrawn w3 p.d) p.os) (R) p.o) (by kernel_rfl) (by kernel_rfl) (fun _ _ d _ _ h => by cases d <;> exact h) (growsB_drew hR) ?_
  (repeat (with_reducible refine mix_q ?_; simp only [List.drop_succ_cons, List.drop_zero, List.take_succ_cons, List.take_zero]; go_big_quiet_step (fail); with_reducible refine wpQuiet_nil ?_))
  with_reducible refine mix_q ?_
  simp only [List.drop_succ_cons, List.drop_zero, List.take_succ_cons, List.take_zero]
  go_big_quiet_want
  refine quiet_load_mid 37 (.tmp 5) rfl w.heap.size 0 rfl (v8 p) _ ?l1 Tryz.underlying37 rfl ?l2 ?_
  case l1 =>
    rintro w' ⟨q, rfl⟩
    exact row_range (blkB HP3.out hRp _ _ _)
  case l2 => rw [show (v8 p).length = 64 by simp [v8, HP.out.1]]; exact info_pgs
  simp only [Act.put, List.setIfInBounds_toArray, List.set_cons_zero, List.set_cons_succ]
  go_big_quiet_on
  with_reducible refine wpQuiet_nil ?_
  with_reducible refine mix_q ?_
  simp only [List.drop_succ_cons, List.drop_zero, List.take_succ_cons, List.take_zero]
  go_big_quiet_want
  refine quiet_build_to 178 _ rfl (.mk (.int .i64 (i : Int) :: v8 p)) ?hb ?_
  case hb => simp only [List.map_toArray, List.map_cons, List.map_nil]; exact built_wr i p HP.out.1
  simp only [Act.put, List.setIfInBounds_toArray, List.set_cons_zero, List.set_cons_succ]
  go_big_quiet_on
  with_reducible refine wpQuiet_nil ?_
  with_reducible refine mix_a ?_
  simp only [List.drop_succ_cons, List.drop_zero, List.take_succ_cons, List.take_zero]
  obtain ⟨i0, hi0', hz0, hz1, hz2⟩ := info_parts info_wr
  refine wpList_buildOne rfl 139 178 (.tmp 48) rfl i0 _ Tryz.underlying139 hi0' hz0 65 hz1 (by decide) (by decide) (.agg (.mk (.int .i64 (i : Int) :: v8 p))) rfl (.mk (.int .i64 (i : Int) :: v8 p)) rfl ?hb ?_
  case hb => simp [v8, HP.out.1]
  simp only [Act.put, List.setIfInBounds_toArray, List.set_cons_zero, List.set_cons_succ]
  have HSRC : Hid (SrcIs (w3.drew.alloc (.cells (.mk (.int .i64 (i : Int) :: v8 p)) 178)) (.slice (some ⟨w3.drew.heap.size, 0, none⟩) 1 1) 1 65 (.int .i64 (i : Int) :: v8 p)) := Lib.hid (one_srcN w3.drew (.int .i64 (i : Int) :: v8 p) 178 65 (by simp [v8, HP.out.1]) (by
    intro u hu
    rcases List.mem_cons.1 hu with rfl | hu
    · rfl
    · exact v8_one p u hu))
  have HB4 : Hid (Below w3.heap.size w3 (w3.drew.alloc (.cells (.mk (.int .i64 (i : Int) :: v8 p)) 178))) := Lib.hid ((Below.refl _ _).drew.alloc (Nat.le_refl _) _)
  have HO4 := Lib.hid (own_same HO3.out (fun k hk => HB4.out.block k (HO3.out.lt k hk).2))
  have HD4 := Lib.hid ((HB4.out.block _ (lt_of_blk HD3.out)).trans HD3.out)
  with_reducible refine wpList_nil ?_
  with_reducible refine mixQ_normal ?_
  refine ⟨fun _ => growsB_of hR (grown_of_below HB4.out _), ?_⟩
  generalize (w3.drew.alloc (.cells (.mk (.int .i64 (i : Int) :: v8 p)) 178)) = w4 at HSRC HB4 HO4 HD4 ⊢
  with_reducible refine mix_a ?_
  simp only [List.drop_succ_cons, List.drop_zero, List.take_succ_cons, List.take_zero]
  refine wpList_append_at rfl (.tmp 45) (.tmp 49) 139 rfl 178 i0 _ 65 72 Tryz.underlying139 hi0' hz0 hz1 hz2 ?zz (by decide) (.slice ac d.cache.length cc) d.cache.length (flatC d.cache) rfl HO4.out (.slice (some ⟨w3.drew.heap.size, 0, none⟩) 1 1) 1 (.int .i64 (i : Int) :: v8 p) rfl HSRC.out ?c1 ?c2 ?_
  case zz => simp [v8, zer]; rfl
  case c1 => unfold maxLen; omega
  case c2 => omega
  intro v5 w5 hown hgrow hwh
  obtain ⟨a5, c5, rfl⟩ := own_slice hown
  simp only [Act.put, List.setIfInBounds_toArray, List.set_cons_zero, List.set_cons_succ]
  have hob5 : ∀ k, (Value.slice ac d.cache.length cc).ownBlock = some k → k ≠ db := fun k hk => blk_own_ne HD4.out HO4.out (by decide) hk
  have HD5 := Lib.hid ((hgrow.block _ (lt_of_blk HD4.out) (fun e => hob5 db e.symm rfl)).trans HD4.out)
  have HO5 : Hid (w5.ownsRow 0 178 65 (.slice a5 (d.cache.length + 1) c5) (d.cache ++ [(i, p)]).length (flatC (d.cache ++ [(i, p)]))) := Lib.hid (by rw [flatC_snoc]; simpa using hown)
  have HG5 : Hid (w3.grownBy w5 (some R)) := Lib.hid (grown_trans (grown_of_below HB4.out _) (by
    refine ⟨hgrow.os, hgrow.tape, hgrow.output, hgrow.size, fun k hk hne => hgrow.block k hk (fun e => hne ?_)⟩
    have := hRo k e.symm
    rw [this]))
  with_reducible refine wpList_nil ?_
  with_reducible refine mixQ_normal ?_
  refine ⟨fun _ => growsB_of hR HG5.out, ?_⟩
  have HOB : Hid (∀ k, (Value.slice a5 (d.cache.length + 1) c5).ownBlock = some k → (Value.slice ac d.cache.length cc).ownBlock = some k ∨ w3.heap.size ≤ k) := Lib.hid (fun k hk => by
    rcases hwh k hk with h | h
    · exact .inl h
    · exact .inr (Nat.le_trans HB4.out.size h))
  have HK5 : Hid (Keeps (fun k => (Value.slice ac d.cache.length cc).ownBlock ≠ some k) w3 w5) := Lib.hid ((Keeps.of_below HB4.out).trans (Keeps.of_grown hgrow (fun k hk h => h hk)))
  clear hown hgrow hwh z0 z1 z2 z3 z4 y0 y1 y2 y3 y4
  obtain ⟨z0, z1, z2, z3, z4, y0, y1, y2, y3, y4⟩ := blk5 HD5.out
  (repeat (with_reducible refine mix_q ?_; simp only [List.drop_succ_cons, List.drop_zero, List.take_succ_cons, List.take_zero]; go_big_quiet_step (fail); with_reducible refine wpQuiet_nil ?_))
  with_reducible refine mix_a ?_
  simp only [List.drop_succ_cons, List.drop_zero, List.take_succ_cons, List.take_zero]
  go_wp2_with fail
  with_reducible refine mixQ_normal ?_
  first | (with_reducible refine mix_nil ?_) | (refine ⟨fun h => absurd h (by simp), ?_⟩; with_reducible refine mix_nil ?_)
  go_wp2_with fail
  go_ret
  have hlb5 : ∀ k, (Value.slice ac d.cache.length cc).ownBlock = some k → k ≠ lb := fun k hk e => by
    subst e
    obtain ⟨D, ⟨es, cl, hb, _⟩, _⟩ := HM.out
    rcases HO3.out.2 with ⟨hv, _⟩ | ⟨g, c', cur, hv, _, hg, _⟩
    · rw [hv] at hk; simp [Value.ownBlock] at hk
    · rw [hv] at hk; simp only [Value.ownBlock, Option.some.injEq] at hk; subst hk; rw [hb] at hg; cases hg
  have HF3 := HT.out.blk (fun e => blk_map_ne Q2.out Q4.out e.symm) Q2.out
  have HF5 := HK5.out.blk (fun e => blk_own_ne HF3 HO3.out (by decide) e rfl) HF3
  have hfd : db ≠ fb := blk_ne HD5.out HF5 (by decide)
  have HM5 := HK5.out.map (fun e => hlb5 lb e rfl) HM.out
  have hw1 := HW.out.2.size
  have hw3 := HT.out.size
  have hnn : ∀ k, N k → k < w1.heap.size := fun k hk => by have := HN.out k hk; omega
  refine ⟨rfl, ⟨fb, .slice a5 (d.cache.length + 1) c5, lb, c3, ⟨fc, HFC.out, ?_⟩, ⟨rest, heap_set_ne hfd HF5⟩, ?_, HM5.setCell (fun e => hdlb e) _, ?_, fun h => NN.out.1 (.inl h), fun h => NN.out.2.1 (.inl h), fun h => NN.out.2.2.1 (.inl h), fun k hk h => ?_, fun k hk => ?_, ?_⟩, ?_⟩
  · have h := set_blk (i := 1) HD5.out (.slice a5 (d.cache.length + 1) c5)
    exact h
  · exact own_same HO5.out (fun k hk => Below.heap_setCell _ _ _ _ (blk_own_ne HD5.out HO5.out (by decide) hk))
  · have := Q5.out; simp; omega
  · rcases HOB.out k hk with h1 | h1
    · exact NN.out.2.2.2 k h1 (.inl h)
    · have := hnn k h; omega
  · have := hnn k hk; have := HK5.out.size; simp [World.setCell]; omega
  · obtain ⟨o1, o2, o3, o4⟩ := Q6.out
    refine ⟨o1, o2, fun x hx => ?_, by simp; omega⟩
    rcases List.mem_append.1 hx with hx | hx
    · exact o3 x hx
    · rw [List.mem_singleton.1 hx]; exact ⟨hi, HP.out⟩
  · refine HW.out.2.trans ((HT.out.mono (fun k _ hk e => NN.out.2.2.1 (.inl (e ▸ hk)))).trans ((HK5.out.mono (fun k _ hk e => NN.out.2.2.2 k e (.inl hk))).trans (Keeps.set w5 db 1 _ (fun h => NN.out.1 (.inl h)))))
end Go.Proofs.YtajmcplanlibnaaGreatDoor
