/- A book: what it is in memory, and what its pages hold. Pages as operations: one is loaded, stored, compared. -/
import Derived.Test.YtajmcplanlibnaaGreatDoorKYD3
import Derived.Test.YtajmcplanlibnaaGreatDoorKYLib
set_option linter.unusedSimpArgs false
set_option linter.unusedVariables false
set_option linter.unnecessarySimpa false
namespace Go.Proofs.YtajmcplanlibnaaGreatDoor
open Go.RowKit Go.Maps
abbrev PgF := Nat → Option (List Int)
structure BookS where
  size : Nat
  n : Nat
  gen : Int
  news : PgF
  opn : Option PgF
  disk : DiskS
  pl : Nat
  num : Int
  last : List Int
  used : Nat
  db : Option Nat
noncomputable def pgL (f : PgF) : Lit → Option Value := fun l => match l with
  | .int .i64 i => if 0 ≤ i then (f i.toNat).map fun p => .agg (v8a p) else none
  | _ => none
def keysF (f : PgF) (n : Nat) : List Nat := (List.range n).filter (fun i => (f i).isSome)
def putF (f : PgF) (i : Nat) (p : List Int) : PgF := fun j => if j = i then some p else f j
theorem pgL_at (f : PgF) (i : Nat) : pgL f (.int .i64 (i : Int)) = (f i).map fun p => .agg (v8a p) := by simp [pgL]
theorem pgL_put (f : PgF) (i : Nat) (p : List Int) : upd (pgL f) (.int .i64 (i : Int)) (some (.agg (v8a p))) = pgL (putF f i p) := by
  funext l
  by_cases h : l = .int .i64 (i : Int)
  · subst h; rw [upd_same, pgL_at]; simp [putF]
  · rw [upd_other _ h]
    unfold pgL
    split
    · rename_i j
      split
      · rename_i hj
        have : j.toNat ≠ i := fun e => h (by congr 1; omega)
        simp [putF, this]
      · rfl
    · rfl
theorem pgL_none : pgL (fun _ => none) = fun _ => none := by
  funext l; unfold pgL; split
  · simp
  · rfl
theorem Vzd (f : PgF) (n i : Nat) (p : List Int) (hi : i < n) : (keysF (putF f i p) n).length = if (f i).isSome then (keysF f n).length else (keysF f n).length + 1 := by
  unfold keysF
  have key : ∀ m, ((List.range m).filter fun j => (putF f i p j).isSome).length = ((List.range m).filter fun j => (f j).isSome).length + (if i < m ∧ (f i).isSome = false then 1 else 0) := by
    intro m
    induction m with
    | zero => simp
    | succ m ih =>
      rw [List.range_succ, List.filter_append, List.filter_append, List.length_append, List.length_append, ih]
      by_cases e : m = i
      · subst e
        have h1 : (putF f m p m).isSome = true := by simp [putF]
        cases hf : (f m).isSome <;> simp [h1, hf]
      · have h1 : (putF f i p m).isSome = (f m).isSome := by simp [putF, e]
        have h2 : (i < m + 1) ↔ i < m := by omega
        cases hf : (f m).isSome <;> simp [h1, hf, h2] <;> omega
  rw [key n]
  cases hf : (f i).isSome <;> simp [hi]
theorem Zzj (n : Nat) : keysF (fun _ => none) n = [] := by simp [keysF]
theorem Xzh (f : PgF) (n : Nat) : (keysF f n).length ≤ n := by
  unfold keysF
  exact Nat.le_trans (List.length_filter_le _ _) (by simp)
def PgMap (f : PgF) (n : Nat) : Prop := ∀ i p, f i = some p → i < n ∧ PgOk p
theorem PgMap.none (n : Nat) : PgMap (fun _ => Option.none) n := fun i p h => by cases h
theorem PgMap.put {f : PgF} {n : Nat} (h : PgMap f n) {i : Nat} {p : List Int} (hi : i < n) (hp : PgOk p) : PgMap (putF f i p) n := fun j q hq => by
  unfold putF at hq
  by_cases e : j = i
  · rw [if_pos e] at hq; cases hq; exact ⟨by omega, hp⟩
  · rw [if_neg e] at hq; exact h j q hq
structure BookS.ok (B : BookS) : Prop where
  size : 96 ≤ B.size ∧ B.size ≤ 4096
  n : 1 ≤ B.n ∧ B.n ≤ 2048
  room : 2 + B.size + B.n ≤ B.disk.firm.length
  gen : 0 ≤ B.gen ∧ B.gen < 4611686018427387904
  news : PgMap B.news B.n
  opn : ∀ f, B.opn = some f → PgMap f B.n
  pl : B.pl < B.size
  num : 0 ≤ B.num ∧ B.num < 4611686018427387904
  last : B.last.length = 32 ∧ U8s B.last
  used : B.used ≤ B.size
  disk : B.disk.ok
def BookS.view (B : BookS) (i : Nat) : List Int :=
  match B.opn.bind (fun f => f i) with
  | some p => p
  | none => match B.news i with
    | some p => p
    | none => B.disk.view (2 + B.size + i)
theorem BookS.view_ok {B : BookS} (h : B.ok) (i : Nat) (hi : i < B.n) : PgOk (B.view i) := by
  unfold BookS.view
  split
  · rename_i p hp
    cases ho : B.opn with
    | none => rw [ho] at hp; cases hp
    | some f => rw [ho] at hp; exact (h.opn f ho i p hp).2
  · split
    · rename_i p hp; exact (h.news i p hp).2
    · exact Vze h.disk _ (by have := h.room; omega)
def OpenI (w : World) (ov : Value) (n : Nat) : Option PgF → Prop
  | none => ov = .map none
  | some f => ∃ ob, ov = .map (some ob) ∧ MapIs Tryz.prog 3 w ob (keysF f n).length (pgL f)
def ovB (ov : Value) (k : Nat) : Prop := ov = .map (some k)
def bookC (db rb : Nat) (B : BookS) (nb : Nat) (ov : Value) : Array Value :=
  #[.pointer (some ⟨db, 0, none⟩), .pointer (some ⟨rb, 0, none⟩), .int .i64 (B.size : Int), .int .i64 (B.n : Int), .int .u64 B.gen, .map (some nb), ov, .bool false]
structure BookX (w : World) (bb : Nat) (N : Nat → Prop) (B : BookS) (db rb nb : Nat) (ov : Value) : Prop where
  cells : w.heap[bb]? = some (.cells (bookC db rb B nb ov) 146)
  ring : w.heap[rb]? = some (.cells (ringC db 2 B.size B.pl B.num B.last B.used) 252)
  disk : DiskI w db (fun k => N k ∨ k = bb ∨ k = rb ∨ k = nb ∨ ovB ov k) B.disk
  news : MapIs Tryz.prog 3 w nb (keysF B.news B.n).length (pgL B.news)
  opn : OpenI w ov B.n B.opn
  ne : ¬ ovB ov nb
  nots : ¬ N bb ∧ ¬ N rb ∧ ¬ N nb ∧ (∀ k, ovB ov k → ¬ N k)
  ok : B.ok
  dbs : ∀ k, B.db = some k → k = db
def BookI (w : World) (bb : Nat) (N : Nat → Prop) (B : BookS) : Prop := ∃ db rb nb ov, BookX w bb N B db rb nb ov
theorem DiskI.N_lt {w : World} {db : Nat} {N : Nat → Prop} {d : DiskS} (h : DiskI w db N d) : ∀ k, N k → k < w.heap.size := by
  obtain ⟨_, _, _, _, _, _, _, _, _, _, _, _, _, h5, _⟩ := h; exact h5
theorem DiskI.isOk {w : World} {db : Nat} {N : Nat → Prop} {d : DiskS} (h : DiskI w db N d) : d.ok := by
  obtain ⟨_, _, _, _, _, _, _, _, _, _, _, _, _, _, h6⟩ := h; exact h6
theorem DiskI.below {w w' : World} {db : Nat} {N : Nat → Prop} {d : DiskS} (h : DiskI w db N d) (hb : Below w.heap.size w w') : DiskI w' db N d :=
  h.keep hb (fun k hk => ⟨Nat.lt_of_lt_of_le (h.N_lt k hk) hb.size, .inl hk⟩)
theorem OpenI.below {w w' : World} {ov : Value} {n : Nat} {o : Option PgF} (h : OpenI w ov n o) (hb : Below w.heap.size w w') : OpenI w' ov n o := by
  cases o with
  | none => exact h
  | some f => obtain ⟨ob, h1, h2⟩ := h; exact ⟨ob, h1, h2.below hb h2.lt⟩
theorem OpenI.lt {w : World} {ov : Value} {n : Nat} {o : Option PgF} (h : OpenI w ov n o) {k : Nat} (hk : ovB ov k) : k < w.heap.size := by
  unfold ovB at hk
  cases o with
  | none => unfold OpenI at h; rw [h] at hk; simp at hk
  | some f => obtain ⟨ob, h1, h2⟩ := h; rw [h1] at hk; simp at hk; subst hk; exact h2.lt
theorem BookX.keep {w w' : World} {bb : Nat} {N N' : Nat → Prop} {B : BookS} {db rb nb : Nat} {ov : Value} (h : BookX w bb N B db rb nb ov) (hb : Below w.heap.size w w') (hn : ∀ i, N' i → i < w'.heap.size ∧ (N i ∨ w.heap.size ≤ i)) : BookX w' bb N' B db rb nb ov := by
  have hx : ∀ i, i < w.heap.size → ¬ N i → ¬ N' i := fun i hi hni hN' => by
    rcases (hn i hN').2 with h | h
    · exact hni h
    · omega
  refine ⟨(hb.block _ (Zz0 h.cells)).trans h.cells, (hb.block _ (Zz0 h.ring)).trans h.ring, h.disk.keep hb ?_, h.news.below hb h.news.lt, h.opn.below hb, h.ne, ⟨hx _ (Zz0 h.cells) h.nots.1, hx _ (Zz0 h.ring) h.nots.2.1, hx _ h.news.lt h.nots.2.2.1, fun k hk => hx _ (h.opn.lt hk) (h.nots.2.2.2 k hk)⟩, h.ok, h.dbs⟩
  intro i hi
  rcases hi with hi | hi | hi | hi | hi
  · rcases hn i hi with ⟨h1, h2 | h2⟩
    · exact ⟨h1, .inl (.inl h2)⟩
    · exact ⟨h1, .inr h2⟩
  · have := hb.size; have := Zz0 h.cells; exact ⟨by omega, .inl (.inr (.inl hi))⟩
  · have := hb.size; have := Zz0 h.ring; exact ⟨by omega, .inl (.inr (.inr (.inl hi)))⟩
  · have := hb.size; have := h.news.lt; exact ⟨by omega, .inl (.inr (.inr (.inr (.inl hi))))⟩
  · have := hb.size; have := h.opn.lt hi; exact ⟨by omega, .inl (.inr (.inr (.inr (.inr hi))))⟩
theorem BookI.keep {w w' : World} {bb : Nat} {N N' : Nat → Prop} {B : BookS} (h : BookI w bb N B) (hb : Below w.heap.size w w') (hn : ∀ i, N' i → i < w'.heap.size ∧ (N i ∨ w.heap.size ≤ i)) : BookI w' bb N' B := by
  obtain ⟨db, rb, nb, ov, h⟩ := h
  exact ⟨db, rb, nb, ov, h.keep hb hn⟩
theorem BookX.N_lt {w : World} {bb : Nat} {N : Nat → Prop} {B : BookS} {db rb nb : Nat} {ov : Value} (h : BookX w bb N B db rb nb ov) : ∀ k, N k → k < w.heap.size := fun k hk => h.disk.N_lt k (.inl hk)
theorem BookI.N_lt {w : World} {bb : Nat} {N : Nat → Prop} {B : BookS} (h : BookI w bb N B) : ∀ k, N k → k < w.heap.size := by
  obtain ⟨db, rb, nb, ov, h⟩ := h; exact h.N_lt
theorem BookI.below {w w' : World} {bb : Nat} {N : Nat → Prop} {B : BookS} (h : BookI w bb N B) (hb : Below w.heap.size w w') : BookI w' bb N B :=
  h.keep hb (fun k hk => ⟨Nat.lt_of_lt_of_le (h.N_lt k hk) hb.size, .inl hk⟩)
theorem BookI.isOk {w : World} {bb : Nat} {N : Nat → Prop} {B : BookS} (h : BookI w bb N B) : B.ok := by
  obtain ⟨db, rb, nb, ov, h⟩ := h; exact h.ok
theorem Xz1 {w : World} {b db rb nb : Nat} {B : BookS} {ov : Value} {T : Nat} (h : w.heap[b]? = some (.cells (bookC db rb B nb ov) T)) :
    w.cell? ⟨b, 0, none⟩ = some (.pointer (some ⟨db, 0, none⟩)) ∧ w.cell? ⟨b, 1, none⟩ = some (.pointer (some ⟨rb, 0, none⟩)) ∧ w.cell? ⟨b, 2, none⟩ = some (.int .i64 (B.size : Int)) ∧ w.cell? ⟨b, 3, none⟩ = some (.int .i64 (B.n : Int)) ∧ w.cell? ⟨b, 4, none⟩ = some (.int .u64 B.gen) ∧ w.cell? ⟨b, 5, none⟩ = some (.map (some nb)) ∧ w.cell? ⟨b, 6, none⟩ = some ov ∧ w.cell? ⟨b, 7, none⟩ = some (.bool false) ∧
    w.frozen? ⟨b, 4, none⟩ = false ∧ w.frozen? ⟨b, 6, none⟩ = false := by
  simp [World.cell?, World.frozen?, h, bookC]
open Go.RowKit Go.Maps
def cntIf (b : Bool) (c : Nat) : Nat := if b = true then c else c + 1
theorem Zz7 {P : Program} (w : World) {ops : Array Oper} {rest : List Oper} {o : Oper} {a : Act} {Q : Exit → Act → World → Prop}
    (hg : o.guard = none) (m x v : Operand) (t : TypeId) (hop : o.op = Op.mapUpdate t m x v)
    (k e : TypeId) (K : Keyed P k) (ht : P.underlying t = some (.map k e)) (b c : Nat) (f : Lit → Option Value)
    (hm : a.eval m = .map (some b)) (hown : MapIs P k w b c f) (hc : c < maxLen) (key val : Value) (kl : Lit) (hx : a.eval x = key) (hv : a.eval v = val) (hkey : keyOf P k key = some kl)
    (hK : ∀ w', MapIs P k w' b (cntIf (f kl).isSome c) (upd f kl (some val)) → w.mapTurned w' b → wpList P ops Q rest (a.put o.dst undef) w') : wpList P ops Q (o :: rest) a w :=
  wpList_store_is w hg m x v t hop k e K ht b c f hm hown hc key val kl hx hv hkey hK
section
variable {ops : Array Oper} {rest : List Oper} {o : Oper} {a : Act} {w : World} {Q : Exit → Act → World → Prop}
theorem pgsz {p : List Int} (hp : p.length = 64) : (v8a p).size = 64 := by simp [v8a, v8, hp]
theorem info_at {p : List Int} (hp : p.length = 64) : (Tryz.prog.info? 37).map (·.size) = some (v8a p).size := by rw [pgsz hp]; exact Zz5
theorem Jzh {p : List Int} (hp : p.length = 64) : (Tryz.prog.info? 37).map (·.size) = some (v8 p).length := by rw [Wz0, hp]; exact Zz5
theorem Wz2 (hgd : o.guard = none) (x y : Operand) (ho : o.op = .store 37 x y) (g : Nat) (p old : List Int) (hx : a.eval x = .pointer (some ⟨g, 0, none⟩)) (hy : a.eval y = .agg (v8a p))
    (hg : w.heap[g]? = some (.cells (v8a old) 37)) (hp : p.length = 64) (hq : old.length = 64) (h : wpList Tryz.prog ops Q rest (a.put o.dst undef) (w.setRow g (v8a p))) : wpList Tryz.prog ops Q (o :: rest) a w :=
  wpList_store_row hgd _ x y ho g (v8a p) hx hy _ (v8a old) hg (info_at hp) (by rw [pgsz hp, pgsz hq]) (Zzg p) h
theorem Wz3 (hgd : o.guard = none) (x : Operand) (ho : o.op = .load 37 x) (g : Nat) (p : List Int) (hx : a.eval x = .pointer (some ⟨g, 0, none⟩)) (hg : w.heap[g]? = some (.cells (v8a p) 37)) (hp : p.length = 64)
    (h : wpList Tryz.prog ops Q rest (a.put o.dst (.agg (v8a p))) w) : wpList Tryz.prog ops Q (o :: rest) a w :=
  wpList_load_mid hgd _ x ho g 0 hx (v8 p) _ (Vz6 hg) Tryz.underlying37 rfl (Jzh hp) h
theorem page_eql (hgd : o.guard = none) (x y : Operand) (t2 : TypeId) (ho : o.op = .binOp .eql 37 x y t2) (p q : List Int) (hx : a.eval x = .agg (v8a p)) (hy : a.eval y = .agg (v8a q)) (hp : p.length = 64) (hq : q.length = 64)
    (h : wpList Tryz.prog ops Q rest (a.put o.dst (.bool (decide (p = q)))) w) : wpList Tryz.prog ops Q (o :: rest) a w := by
  refine wpList_plain hgd fun K' hK' => ?_
  unfold Oper.wp execOp
  simp only [ho, hx, hy, Sem.run_bind, run_eqGuard_agg w .eql _ x y (v8a p) (v8a q) guard_pg, pg_eql w p q hp hq, Result.andThen_ok]
  exact hK' _ _ h
theorem Zz6 {op : Oper} {C : World → Prop} {K : Act → Prop} (x : Operand) (ho : op.op = .load 37 x) (g : Nat) (p : List Int) (hx : a.eval x = .pointer (some ⟨g, 0, none⟩)) (hS : ∀ w, C w → w.heap[g]? = some (.cells (v8a p) 37)) (hp : p.length = 64)
    (h : K (a.put op.dst (.agg (v8a p)))) : op.quiet Tryz.prog a C K :=
  Jz1 _ x ho g 0 hx (v8 p) _ (fun w hw => Vz6 (hS w hw)) Tryz.underlying37 rfl (Jzh hp) h
theorem Wz4 {W : World} {k : Nat} {ob : Obj} (h : W.heap[k]? = some ob) : ∀ w', (∃ p : Regrown, w' = Go.Sort.grow (redrawn W p.d) p.os) → w'.heap[k]? = some ob := fun w' hw => ((Qz1 hw).block _ (Zz0 h)).trans h
theorem blk_regrownB {W : World} {k R : Nat} {ob : Obj} (h : W.heap[k]? = some ob) (hne : k ≠ R) : ∀ w', (∃ p : RegrownB, w' = setO (Go.Sort.grow (redrawn W p.d) p.os) R p.o) → w'.heap[k]? = some ob := fun w' hw => by
  obtain ⟨q, rfl⟩ := hw; exact blkB h hne _ _ _
end
open Go.RowKit Go.Maps
theorem run_look_nil {P : Program} {t k e : TypeId} (w : World) (K : Keyed P k) (ht : P.underlying t = some (.map k e)) {z : Value} (hz : (zeroValue e).run P w = .ok z w) {key : Value} {kl : Lit} (hkey : keyOf P k key = some kl) :
    (Instr.lookup t (.map none) key true).run P w = .ok (.tuple #[z, .bool false]) w := by
  rcases K.find w hkey [] (by intro x hx; cases hx) with ⟨h1, h2⟩ | ⟨j, e0, h1, h2, h3⟩
  · simp [Instr.lookup, run_underlying ht, K.check w _ hkey, h1, hz, Result.andThen]
  · cases h2
theorem zero_page (w : World) : (zeroValue 37).run Tryz.prog w = .ok (.agg (v8a (zer 64))) w := by kernel_rfl
def pgD (o : Option (List Int)) : List Int := o.getD (zer 64)
theorem pgD_agg (o : Option (List Int)) : ((o.map fun p => Value.agg (v8a p)).getD (.agg (v8a (zer 64)))) = .agg (v8a (pgD o)) := by cases o <;> rfl
theorem Kza (w : World) {ops : Array Oper} {rest : List Oper} {o : Oper} {a : Act} {Q : Exit → Act → World → Prop}
    (hg : o.guard = none) (m x : Operand) (hop : o.op = Op.lookup 142 m x true) (ov : Value) (n : Nat) (f : Option PgF) (hm : a.eval m = ov) (h : OpenI w ov n f) (i : Nat) (hi : i ≤ 10000) (hx : a.eval x = .int .i64 (i : Int))
    (hK : wpList Tryz.prog ops Q rest (a.put o.dst (.tuple #[.agg (v8a (pgD (f.bind fun f => f i))), .bool (f.bind fun f => f i).isSome])) w) : wpList Tryz.prog ops Q (o :: rest) a w := by
  cases f with
  | none =>
    unfold OpenI at h
    subst h
    refine wpList_plain hg fun K' hK' => ?_
    have hrun := run_look_nil (P := Tryz.prog) w (int_keyed Tryz.underlying3) Tryz.underlying142 (zero_page w) (Kzb (i : Int) (by omega))
    unfold Oper.wp
    simp [execOp, hop, hm, hx, hrun, Result.andThen]
    exact hK' _ _ hK
  | some f =>
    obtain ⟨ob, rfl, h2⟩ := h
    refine Zzc w hg m x _ hop 3 37 (int_keyed Tryz.underlying3) Tryz.underlying142 (.agg (v8a (zer 64))) (zero_page w) ob _ (pgL f) hm h2 (.int .i64 (i : Int)) (.int .i64 (i : Int)) hx (Kzb _ (by omega)) ?_
    rw [pgL_at, pgD_agg]
    have e : ((f i).map fun p => Value.agg (v8a p)).isSome = (f i).isSome := by cases f i <;> rfl
    rw [e]
    exact hK
def RdX (w : World) (b1 : Nat) (pg : List Int) (wx : World) : Prop := wx.heap[w.heap.size]? = some (.cells (v8a (zer 64)) 37) ∧ wx.heap[b1]? = some (.cells (v8a pg) 37) ∧ w.heap.size < b1 ∧ Below w.heap.size w wx
theorem RdX.make {w w1 : World} (h0 : w1.heap[w.heap.size]? = some (.cells (v8a (zer 64)) 37)) (hb : Below w.heap.size w w1) (cs0 : Array Value) (pg : List Int) : RdX w w1.heap.size pg ((w1.alloc (.cells cs0 37)).setRow w1.heap.size (v8a pg)) := by
  have h1 := Zz0 h0
  refine ⟨?_, setRow_heap _ _ _ _ _ (0, 0) (heap_alloc_new w1 _), h1, below_setRow (hb.alloc hb.size _) hb.size _⟩
  rw [setRow_other _ _ _ _ (by omega), heap_alloc_old _ _ h1]; exact h0
set_option maxRecDepth 100000 in
set_option maxHeartbeats 2000000 in
theorem Qza (bb : Nat) (N : Nat → Prop) (B : BookS) (i : Nat) (hi : i < B.n) (w : World) (h : BookI w bb N B) :
    Calls Tryz.prog 19 #[.pointer (some ⟨bb, 0, none⟩), .int .i64 (i : Int)] w fun e w' => e = .returned (.tuple #[.agg (v8a (B.view i)), .nilIface]) ∧ Below w.heap.size w w' := by
  obtain ⟨db, rb, nb, ov, hX⟩ := h
  have HX := hZ hX
  have hok := hX.ok
  obtain ⟨hn1, hn2⟩ := hok.n
  have hz1 := hok.size.2
  have hroom := hok.room
  have HV : Hid (PgOk (B.view i)) := hZ (BookS.view_ok hok i hi)
  have hi0 : (0 : Int) ≤ i := by omega
  have hi1 : (i : Int) < B.n := by omega
  have hi2 : (B.n : Int) ≤ 2048 := by omega
  have hs1 : (B.size : Int) ≤ 4096 := by omega
  have hs0 : (0 : Int) ≤ B.size := by omega
  clear hX hok
  go_enter Tryz.func19, Tryz.ntmps19
  repeat (fail_if_success (with_reducible refine Vz1 "pages.go:100" rfl ?_)
          first | go_values | go_skip | go_guarded | go_step | go_upon)
  refine Xz0 (fun wx => Hid (wx.heap[w.heap.size]? = some (.cells (v8a (zer 64)) 37) ∧ Below w.heap.size w wx)) (hZ ⟨heap_alloc_new w _, bZ⟩) ?_
  intro w1 H1
  have HX1 : Hid (BookX w1 bb N B db rb nb ov) := hZ (HX.out.keep H1.out.2 (fun k hk => ⟨Nat.lt_of_lt_of_le (HX.out.N_lt k hk) H1.out.2.size, .inl hk⟩))
  obtain ⟨z0, z1, z2, z3, z4, z5, z6, z7, _⟩ := Xz1 HX1.out.cells
  have HN : Hid (OpenI w1 (.map (some nb)) B.n (some B.news)) := hZ ⟨nb, rfl, HX1.out.news⟩
  have HOP := HX1.out.opn
  obtain ⟨oA, hA⟩ : ∃ oA, B.opn.bind (fun f => f i) = oA := ⟨_, rfl⟩
  have HPA : Hid (∀ p, oA = some p → PgOk p) := hZ (fun p hp => by
    subst hp
    cases ho : B.opn with
    | none => rw [ho] at hA; cases hA
    | some f => rw [ho] at hA; exact (HX1.out.ok.opn f ho i p hA).2)
  have HLA : Hid (PgOk (pgD oA)) := hZ (by
    cases oA with
    | none => exact zer_pg
    | some p => exact HPA.out p rfl)
  have hsz : (v8a (pgD oA)).size = 64 := by simp [v8a, v8, HLA.out.1]
  repeat ((fail_if_success (with_reducible refine Kz1 47 rfl ?_)); (first | (first | (at_lookup; refine Kza _ rfl _ _ rfl ov B.n B.opn rfl HOP i (by omega) rfl ?_; simp only [hA]) | (refine wpList_store_row rfl 37 (.tmp 6) (.tmp 45) rfl w1.heap.size (v8a (pgD oA)) rfl rfl 37 (v8a (zer 64)) (heap_alloc_new w1 _) (by rw [hsz]; exact Zz5) (by rw [hsz]; simp [v8a, v8, zer]) (Zzg _) ?_)) | go_values | go_skip | go_guarded | go_step | go_upon))
  refine Xz0 (fun wx => Hid (RdX w w1.heap.size (pgD oA) wx)) (hZ (RdX.make H1.out.1 H1.out.2 _ _)) ?_
  generalize w1.heap.size = b1
  clear z0 z1 z2 z3 z4 z5 z6 z7 H1 HX1 HN HOP
  intro w2 H2
  have HX2 : Hid (BookX w2 bb N B db rb nb ov) := hZ (HX.out.keep H2.out.2.2.2 (fun k hk => ⟨Nat.lt_of_lt_of_le (HX.out.N_lt k hk) H2.out.2.2.2.size, .inl hk⟩))
  cases oA with
  | some p =>
    have HE : Hid (B.view i = p) := hZ (by unfold BookS.view; rw [hA])
    have hsz : (v8a p).size = 64 := by simp [v8a, v8, (HPA.out p rfl).1]
    have HLN : Hid ((v8 p).length = 64) := hZ (by simp [v8, (HPA.out p rfl).1])
    rw [show pgD (some p) = p from rfl] at H2 ⊢
    simp only [Option.isSome_some]
    go_wp2_with (first | (refine wpList_load_mid rfl 37 (.tmp 6) rfl b1 0 rfl (v8 p) _ (Vz6 H2.out.2.1) Tryz.underlying37 rfl ?s1 ?_) | (refine wpList_store_row rfl 37 (.tmp 4) (.tmp 48) rfl w.heap.size (v8a p) rfl rfl 37 (v8a (zer 64)) H2.out.1 ?s6 ?s7 ?s8 ?_))
    case s1 => rw [HLN.out]; exact Zz5
    case s6 => rw [hsz]; exact Zz5
    case s7 => rw [hsz]; simp [v8a, v8, zer]
    case s8 => exact Zzg _
    refine bodyPost_ret (Vz3 Tryz.results19 _ _ w.heap.size 37 (v8a p) (0, 0) _ rfl .nilIface rfl (setRow_heap _ _ _ _ _ (0, 0) H2.out.1) Tryz.underlying37 rfl (by rw [hsz]; exact Zz5)) rfl ⟨by rw [HE.out], below_setRow H2.out.2.2.2 (Nat.le_refl _) _⟩
  | none =>
    obtain ⟨z0, z1, z2, z3, z4, z5, z6, z7, _⟩ := Xz1 HX2.out.cells
    have HOP : OpenI w2 (.map (some nb)) B.n (some B.news) := ⟨nb, rfl, HX2.out.news⟩
    obtain ⟨oB, hB⟩ : ∃ oB, B.news i = oB := ⟨_, rfl⟩
    have HPB : Hid (∀ p, oB = some p → PgOk p) := hZ (fun p hp => by subst hp; exact (HX.out.ok.news i p hB).2)
    have HLB : Hid (PgOk (pgD oB)) := hZ (by
      cases oB with
      | none => exact zer_pg
      | some p => exact HPB.out p rfl)
    have hszB : (v8a (pgD oB)).size = 64 := by simp [v8a, v8, HLB.out.1]
    have hBb : ((some B.news).bind fun f => f i) = oB := hB
    simp only [Option.isSome_none]
    repeat ((fail_if_success (with_reducible refine Kz1 58 rfl ?_)); (first | (first | (at_lookup; refine Kza _ rfl _ _ rfl (.map (some nb)) B.n (some B.news) rfl HOP i (by omega) rfl ?_; simp only [hBb]) | (refine wpList_store_row rfl 37 (.tmp 8) (.tmp 56) rfl w2.heap.size (v8a (pgD oB)) rfl rfl 37 (v8a (zer 64)) (heap_alloc_new w2 _) (by rw [hszB]; exact Zz5) (by rw [hszB]; simp [v8a, v8, zer]) (Zzg _) ?_)) | go_values | go_skip | go_guarded | go_step | go_upon))
    have hsz2 := H2.out.2.2.2.size
    refine Xz0 (fun wx => Hid (RdX w w2.heap.size (pgD oB) wx)) (hZ (RdX.make H2.out.1 H2.out.2.2.2 _ _)) ?_
    generalize w2.heap.size = b2
    clear z0 z1 z2 z3 z4 z5 z6 z7 H2 HX2 HOP
    intro w3 H3
    have HX3 : Hid (BookX w3 bb N B db rb nb ov) := hZ (HX.out.keep H3.out.2.2.2 (fun k hk => ⟨Nat.lt_of_lt_of_le (HX.out.N_lt k hk) H3.out.2.2.2.size, .inl hk⟩))
    cases oB with
    | some p =>
      have HE : Hid (B.view i = p) := hZ (by unfold BookS.view; rw [hA, hB])
      have hsz : (v8a p).size = 64 := by simp [v8a, v8, (HPB.out p rfl).1]
      have HLN : Hid ((v8 p).length = 64) := hZ (by simp [v8, (HPB.out p rfl).1])
      rw [show pgD (some p) = p from rfl] at H3 ⊢
      simp only [Option.isSome_some]
      go_wp2_with (first | (refine wpList_load_mid rfl 37 (.tmp 8) rfl b2 0 rfl (v8 p) _ (Vz6 H3.out.2.1) Tryz.underlying37 rfl ?s1 ?_) | (refine wpList_store_row rfl 37 (.tmp 4) (.tmp 59) rfl w.heap.size (v8a p) rfl rfl 37 (v8a (zer 64)) H3.out.1 ?s6 ?s7 ?s8 ?_))
      case s1 => rw [HLN.out]; exact Zz5
      case s6 => rw [hsz]; exact Zz5
      case s7 => rw [hsz]; simp [v8a, v8, zer]
      case s8 => exact Zzg _
      refine bodyPost_ret (Vz3 Tryz.results19 _ _ w.heap.size 37 (v8a p) (0, 0) _ rfl .nilIface rfl (setRow_heap _ _ _ _ _ (0, 0) H3.out.1) Tryz.underlying37 rfl (by rw [hsz]; exact Zz5)) rfl ⟨by rw [HE.out], below_setRow H3.out.2.2.2 (Nat.le_refl _) _⟩
    | none =>
      obtain ⟨z0, z1, z2, z3, z4, z5, z6, z7, _⟩ := Xz1 HX3.out.cells
      have HE : Hid (B.view i = B.disk.view (2 + B.size + i)) := hZ (by unfold BookS.view; rw [hA, hB])
      have HPD : Hid (PgOk (B.disk.view (2 + B.size + i))) := hZ (by rw [← HE.out]; exact HV.out)
      simp only [Option.isSome_none]
      repeat ((fail_if_success (with_reducible refine Vz1 "pages.go:111" rfl ?_)); (first | go_values | go_skip | go_guarded | go_step | go_upon))
      have r0 := cell_regrown z0
      have r2 := cell_regrown z2
      have hRD : ∀ wx, Below w3.heap.size w3 wx → Calls Tryz.prog 28 #[.pointer (some ⟨db, 0, none⟩), .int .i64 (((2 + B.size + i : Nat)) : Int)] wx fun e w' => e = .returned (.tuple #[.agg (v8a (B.disk.view (2 + B.size + i))), .nilIface]) ∧ Below wx.heap.size wx w' := fun wx hb => Kzh db _ B.disk (2 + B.size + i) (by omega) wx (HX3.out.disk.below hb)
      have hsz : (v8a (B.disk.view (2 + B.size + i))).size = 64 := by simp [v8a, v8, HPD.out.1]
      have HLN : Hid ((v8 (B.disk.view (2 + B.size + i))).length = 64) := hZ (by simp [v8, HPD.out.1])
      generalize B.disk.view (2 + B.size + i) = pg at HE HPD hRD hsz HLN
      rw [show (((2 + B.size + i : Nat)) : Int) = 2 + (B.size : Int) + (i : Int) by omega] at hRD
      refine Jz8 (.quiet 0 (.quiet 1 (.quiet 2 (.quiet 3 (.quiet 4 (.quiet 5 (.quiet 6 (.quiet 7 (.quiet 8 (.quiet 9 (.quiet 10 (.two 11 15 (.quiet 12 (.quiet 13 (.quiet 14 (.one 15 (.one 16 (.quiet 17 .nil)))))) (.one 11 (.quiet 12 (.quiet 13 (.quiet 14 (.one 16 (.quiet 17 .nil)))))))))))))))))) (fun w' => ∃ p : Regrown, w' = Go.Sort.grow (redrawn w3 p.d) p.os) (by kernel_rfl) (by kernel_rfl) (fun _ _ d _ _ h => by cases d <;> exact h) (Vz2 _) ?_
      (repeat (with_reducible refine Jz6 ?_; simp only [qd1, qd0, qt1, qt0]; go_big_quiet_step (fail); with_reducible refine wpQuiet_nil ?_))
      apply tail_cut
      · intro TAIL
        with_reducible refine Kze ?_ ?_
        · simp only [qd1, qd0, qt1, qt0]
          go_wp2_with fail
          refine (hRD w3.drew (Below.refl _ _).drew).mono ?_
          rintro e w4 ⟨rfl, hb4⟩
          have hb43 : Below w3.heap.size w3 w4 := (Below.refl _ _).drew.trans hb4
          try dsimp only
          go_wp2_with fail
          (try with_reducible refine wpList_nil ?_); with_reducible refine Qz0 ?_
          refine ⟨Jz0 hb43, ?_⟩
          (repeat (with_reducible refine Jz6 ?_; simp only [qd1, qd0, qt1, qt0]; go_big_quiet_step (fail); with_reducible refine wpQuiet_nil ?_))
          with_reducible refine Kz8 ?_; simp only [qd1, qd0, qt1, qt0]
          have hba : ∀ o : Obj, Below w3.heap.size w3 (w4.alloc o) := fun o => hb43.alloc hb43.size _
          have hs4 := hb43.size
          go_wp2_with fail
          (try with_reducible refine wpList_nil ?_); with_reducible refine Qz0 ?_
          refine ⟨Jz0 (hba _), ?_⟩
          refine Xz7 (fun wx => Hid (wx.heap[w4.heap.size]? = some (.cells (v8a (zer 64)) 37) ∧ Below w3.heap.size w3 wx)) (hZ ⟨heap_alloc_new w4 (.cells (v8a (zer 64)) 37), hba _⟩) ?_
          generalize w4.heap.size = box at hs4 ⊢
          intro w5 H5
          revert box w5
          exact TAIL
        · simp only [qd1, qd0, qt1, qt0]
          have hba : ∀ o : Obj, Below w3.heap.size w3 (w3.drew.alloc o) := fun o => (Below.refl _ _).drew.alloc (Nat.le_refl _) _
          go_wp2_with fail
          (try with_reducible refine wpList_nil ?_); with_reducible refine Qz0 ?_
          refine ⟨Jz0 (hba _), ?_⟩
          refine Xz7 (fun wx => Hid (wx.heap[w3.heap.size]? = some (.cells (v8a (zer 64)) 37) ∧ Below w3.heap.size w3 wx)) (hZ ⟨heap_alloc_new w3.drew (.cells (v8a (zer 64)) 37), hba _⟩) ?_
          intro w4 H4
          with_reducible refine Kz8 ?_; simp only [qd1, qd0, qt1, qt0]
          go_wp2_with fail
          refine (hRD w4 H4.out.2).mono ?_
          rintro e w5 ⟨rfl, hb5⟩
          have hb53 : Below w3.heap.size w3 w5 := H4.out.2.trans (hb5.mono H4.out.2.size)
          have H5 : Hid (w5.heap[w3.heap.size]? = some (.cells (v8a (zer 64)) 37) ∧ Below w3.heap.size w3 w5) := hZ ⟨(hb5.block _ (Zz0 H4.out.1)).trans H4.out.1, hb53⟩
          try dsimp only
          go_wp2_with fail
          (try with_reducible refine wpList_nil ?_); with_reducible refine Qz0 ?_
          refine ⟨Jz0 hb53, ?_⟩
          (repeat (with_reducible refine Jz6 ?_; simp only [qd1, qd0, qt1, qt0]; go_big_quiet_step (fail); with_reducible refine wpQuiet_nil ?_))
          exact TAIL _ (Nat.le_refl _) w5 H5
      · intro box hs4 w5 H5
        with_reducible refine Kz8 ?_; simp only [qd1, qd0, qt1, qt0]
        refine wpList_store_row rfl 37 (.tmp 10) (.tmp 73) rfl box (v8a pg) rfl rfl 37 (v8a (zer 64)) H5.out.1 (by rw [hsz]; exact Zz5) (by rw [hsz]; simp [v8a, v8, zer]) (Zzg _) ?_
        refine Xz0 (fun wx => Hid (RdX w box pg wx ∧ Below w3.heap.size w3 wx)) (hZ ⟨⟨?_, setRow_heap _ _ _ _ _ (0, 0) H5.out.1, ?_, ?_⟩, below_setRow H5.out.2 hs4 _⟩) ?_
        · have := Zz0 H3.out.1
          rw [setRow_other _ _ _ _ (by omega)]; exact (H5.out.2.block _ this).trans H3.out.1
        · have := Zz0 H3.out.1; omega
        · exact H3.out.2.2.2.trans ((below_setRow H5.out.2 hs4 _).mono H3.out.2.2.2.size)
        clear H5
        intro w6 H6
        simp only [Act.put, qs0, qs1, qs2]
        (try with_reducible refine wpList_nil ?_); with_reducible refine Qz0 ?_
        refine ⟨Jz0 H6.out.2, ?_⟩
        (repeat (with_reducible refine Jz6 ?_; simp only [qd1, qd0, qt1, qt0]; go_big_quiet_step (fail); with_reducible refine wpQuiet_nil ?_))
        with_reducible refine plan_nil ?_
        go_wp2_with fail
        have hR6 : w.heap.size < w6.heap.size := Zz0 H6.out.1.1
        have hbx := H6.out.1.2.2.1
        refine Vz0 [(0, true), (1, true), (2, false), (3, false), (4, true)] 4 (fun w' => ∃ p : RegrownB, w' = setO (Go.Sort.grow (redrawn w6 p.d) p.os) (w.heap.size) p.o) (by kernel_rfl) (by kernel_rfl) (fun _ _ d _ _ h => by cases d <;> exact h) (Kz6 hR6) ?_
        with_reducible refine mix_q ?_
        simp only [qd1, qd0, qt1, qt0]
        go_big_quiet_want
        refine Jz1 37 (.tmp 10) rfl box 0 rfl (v8 pg) _ (fun w' hw' => by obtain ⟨q, rfl⟩ := hw'; exact Vz6 (blkB H6.out.1.2.1 (by omega) _ _ _)) Tryz.underlying37 rfl (by rw [HLN.out]; exact Zz5) ?_
        simp only [Act.put, qs0, qs1, qs2]
        go_big_quiet_on
        with_reducible refine wpQuiet_nil ?_
        (repeat (with_reducible refine mix_q ?_; simp only [qd1, qd0, qt1, qt0]; go_big_quiet_step (fail); with_reducible refine wpQuiet_nil ?_))
        with_reducible refine mix_a ?_; simp only [qd1, qd0, qt1, qt0]
        go_wp2_with fail
        refine (Qzc _ w6.drew).mono ?_
        rintro e w7 ⟨rfl, rfl⟩
        try dsimp only
        go_wp2_with fail
        with_reducible refine Qz0 ?_
        refine ⟨fun _ => Qz5 hR6 (Zz2 (Below.refl _ _).drew _), ?_⟩
        with_reducible refine mix_a ?_; simp only [qd1, qd0, qt1, qt0]
        refine wpList_store_row rfl 37 (.tmp 4) (.tmp 75) rfl w.heap.size (v8a pg) rfl rfl 37 (v8a (zer 64)) H6.out.1.1 (by rw [hsz]; exact Zz5) (by rw [hsz]; simp [v8a, v8, zer]) (Zzg _) ?_
        have hg7 : w6.grownBy (w6.drew.setRow w.heap.size (v8a pg)) (some w.heap.size) := Xz2 (Zz2 (Below.refl _ _).drew _) (Wzd w6.drew w.heap.size _)
        refine Xz0 (fun wx => Hid (wx.heap[w.heap.size]? = some (.cells (v8a pg) 37) ∧ Below w.heap.size w wx ∧ w6.grownBy wx (some w.heap.size))) (hZ ⟨setRow_heap _ _ _ _ _ (0, 0) (by exact H6.out.1.1), below_setRow H6.out.1.2.2.2.drew (Nat.le_refl _) _, hg7⟩) ?_
        intro w8 H8
        simp only [Act.put, qs0, qs1, qs2]
        with_reducible refine wpList_nil ?_
        with_reducible refine Qz0 ?_
        refine ⟨fun _ => Qz5 hR6 H8.out.2.2, ?_⟩
        (repeat (with_reducible refine mix_q ?_; simp only [qd1, qd0, qt1, qt0]; go_big_quiet_step (fail); with_reducible refine wpQuiet_nil ?_))
        with_reducible refine Wz1 ?_
        go_wp2_with fail
        refine bodyPost_ret (Vz3 Tryz.results19 _ _ w.heap.size 37 (v8a pg) (0, 0) _ rfl .nilIface rfl H8.out.1 Tryz.underlying37 rfl (by rw [hsz]; exact Zz5)) rfl ⟨by rw [HE.out], H8.out.2.1⟩
open Go.RowKit Go.Maps
def BookS.f (B : BookS) : PgF := B.opn.getD (fun _ => none)
def BookS.begun (B : BookS) : BookS := { B with opn := some B.f }
noncomputable def BookS.wrote (B : BookS) (i : Nat) (p : List Int) : BookS := @ite _ ((B.f i).isSome = true ∨ B.view i ≠ p) (Classical.propDecidable _) { B with opn := some (putF B.f i p) } B.begun
theorem BookS.bind_f (B : BookS) (i : Nat) : (B.opn.bind fun f => f i) = B.f i := by
  unfold BookS.f
  cases B.opn <;> rfl
theorem DiskI.keeps {w w' : World} {db : Nat} {N : Nat → Prop} {d : DiskS} (h : DiskI w db N d) (hb : Keeps (fun k => ¬ N k) w w') : DiskI w' db N d := by
  obtain ⟨fb, cv, lb, c, ⟨fc, hfc, h1⟩, ⟨rest, h2⟩, h3, h4, h5, n1, n2, n3, n4, n5, h6⟩ := h
  exact ⟨fb, cv, lb, c, ⟨fc, hfc, hb.blk n1 h1⟩, ⟨rest, hb.blk n2 h2⟩, hb.own h3 n4, hb.map n3 h4, h5, n1, n2, n3, n4, fun i hi => Nat.lt_of_lt_of_le (n5 i hi) hb.size, h6⟩
theorem BookX.frame {w w' : World} {bb : Nat} {N : Nat → Prop} {B : BookS} {db rb nb : Nat} {ov : Value} (h : BookX w bb N B db rb nb ov) (hb : Keeps (fun k => ¬ N k) w w') : BookX w' bb N B db rb nb ov := by
  refine ⟨hb.blk h.nots.1 h.cells, hb.blk h.nots.2.1 h.ring, h.disk.keeps (hb.mono (fun k _ hk hn => hk (.inl hn))), hb.map h.nots.2.2.1 h.news, ?_, h.ne, h.nots, h.ok, h.dbs⟩
  have ho := h.opn
  cases hB : B.opn with
  | none => rw [hB] at ho; exact ho
  | some f =>
    rw [hB] at ho
    obtain ⟨ob, h1, h2⟩ := ho
    exact ⟨ob, h1, hb.map (h.nots.2.2.2 ob h1) h2⟩
theorem BookX.drop {w : World} {bb : Nat} {N N' : Nat → Prop} {B : BookS} {db rb nb : Nat} {ov : Value} (h : BookX w bb N B db rb nb ov) (hn : ∀ k, N' k → N k) : BookX w bb N' B db rb nb ov :=
  h.keep (Below.refl _ _) (fun k hk => ⟨h.N_lt k (hn k hk), .inl (hn k hk)⟩)
theorem BookX.opened {w : World} {bb : Nat} {N : Nat → Prop} {B : BookS} {db rb nb : Nat} (h : BookX w bb N B db rb nb (.map none)) (ho : B.opn = none) :
    BookX ((w.alloc (.map #[] 0)).setCell ⟨bb, 6, none⟩ (.map (some w.heap.size))) bb N B.begun db rb nb (.map (some w.heap.size)) := by
  have ha := h.keep (N' := N) ((Below.refl _ _).alloc (Nat.le_refl _) (.map #[] 0)) (fun k hk => ⟨by have := h.N_lt k hk; simp; omega, .inl hk⟩)
  have h1 := Zz0 h.cells
  have h2 := Zz0 h.ring
  have h3 := h.news.lt
  have hbr : bb ≠ rb := Zze h.cells h.ring (by decide)
  have hbn : nb ≠ bb := Xz4 h.cells h.news
  have hd : DiskI ((w.alloc (.map #[] 0)).setCell ⟨bb, 6, none⟩ (.map (some w.heap.size))) db (fun k => N k ∨ k = bb ∨ k = rb ∨ k = nb ∨ ovB (.map (some w.heap.size)) k) B.disk := by
    refine (h.disk.keep (N' := fun k => N k ∨ k = bb ∨ k = rb ∨ k = nb ∨ ovB (.map (some w.heap.size)) k) ((Below.refl _ _).alloc (Nat.le_refl _) (.map #[] 0)) (fun k hk => ?_)).keeps (Keeps.set _ _ _ _ (fun hn => hn (.inr (.inl rfl))))
    rcases hk with hk | hk | hk | hk | hk
    · have := h.N_lt k hk; exact ⟨by simp; omega, .inl (.inl hk)⟩
    · exact ⟨by simp; omega, .inl (.inr (.inl hk))⟩
    · exact ⟨by simp; omega, .inl (.inr (.inr (.inl hk)))⟩
    · exact ⟨by simp; omega, .inl (.inr (.inr (.inr (.inl hk))))⟩
    · simp [ovB] at hk; subst hk; exact ⟨by simp, .inr (Nat.le_refl _)⟩
  have hf : B.f = fun _ => none := by unfold BookS.f; rw [ho]; rfl
  refine ⟨?_, Zz1 hbr ha.ring, hd, ha.news.setCell hbn _, ?_, ?_, ⟨h.nots.1, h.nots.2.1, h.nots.2.2.1, fun k hk hn => ?_⟩, ?_, h.dbs⟩
  · have := Xz3 (i := 6) ha.cells (.map (some w.heap.size))
    exact this
  · refine ⟨w.heap.size, rfl, ?_⟩
    have hm := mapIs_made Tryz.prog 3 w
    rw [hf, Zzj, pgL_none]
    exact hm.setCell (by show w.heap.size ≠ bb; omega) _
  · simp [ovB]; omega
  · simp [ovB] at hk; subst hk
    have := h.N_lt _ hn; omega
  · obtain ⟨o1, o2, o3, o4, o5, o6, o7, o8, o9, o10, o11⟩ := h.ok
    refine ⟨o1, o2, o3, o4, o5, fun f hf' => ?_, o7, o8, o9, o10, o11⟩
    have : f = B.f := by simpa [BookS.begun] using hf'.symm
    subst this
    rw [hf]
    exact PgMap.none _
theorem BookX.turned {w w' : World} {bb : Nat} {N : Nat → Prop} {B : BookS} {db rb nb ob : Nat} (h : BookX w bb N B db rb nb (.map (some ob))) (f : PgF) (hk : Keeps (fun k => k ≠ ob) w w') (hm : MapIs Tryz.prog 3 w' ob (keysF f B.n).length (pgL f)) (hf : PgMap f B.n) :
    BookX w' bb N { B with opn := some f } db rb nb (.map (some ob)) := by
  have hob : ∃ c g, MapIs Tryz.prog 3 w ob c g := by
    have := h.opn
    cases hB : B.opn with
    | none => rw [hB] at this; unfold OpenI at this; simp at this
    | some g => rw [hB] at this; obtain ⟨ob', h1, h2⟩ := this; simp at h1; subst h1; exact ⟨_, _, h2⟩
  obtain ⟨c, g, hmo⟩ := hob
  have h1 : ob ≠ bb := Xz4 h.cells hmo
  have h2 : ob ≠ rb := Xz4 h.ring hmo
  have h3 : ob ≠ nb := fun e => h.ne (by rw [e]; rfl)
  refine ⟨hk.blk (fun e => h1 e.symm) h.cells, hk.blk (fun e => h2 e.symm) h.ring, h.disk.keeps (hk.mono (fun k _ hn e => hn (.inr (.inr (.inr (.inr (by rw [e]; rfl))))))), hk.map (fun e => h3 e.symm) h.news, ⟨ob, rfl, hm⟩, h.ne, h.nots, ?_, h.dbs⟩
  obtain ⟨o1, o2, o3, o4, o5, o6, o7, o8, o9, o10, o11⟩ := h.ok
  exact ⟨o1, o2, o3, o4, o5, fun f' hf' => by simp only [Option.some.injEq] at hf'; subst hf'; exact hf, o7, o8, o9, o10, o11⟩
def WrX (w : World) (bb : Nat) (N : Nat → Prop) (B : BookS) (db rb nb b5 b7 : Nat) (ov : Value) (p q : List Int) (wx : World) : Prop :=
  BookX wx bb (fun k => N k ∨ k = b5 ∨ k = b7) B db rb nb ov ∧ wx.heap[b5]? = some (.cells (v8a p) 37) ∧ wx.heap[b7]? = some (.cells (v8a q) 37) ∧ Keeps N w wx
theorem alloc_set_comm (w : World) (b i : Nat) (v : Value) (o : Obj) (h : b < w.heap.size) : (w.setCell ⟨b, i, none⟩ v).alloc o = (w.alloc o).setCell ⟨b, i, none⟩ v := by
  simp only [World.setCell, World.alloc, World.mk.injEq, and_true, true_and]
  apply Array.ext
  · simp
  · intro k h1 h2
    simp only [Array.getElem_push, Array.getElem_modify, Array.size_modify]
    by_cases hk : k < w.heap.size
    · simp [hk]
    · have : b ≠ k := by omega
      simp [hk, this]
set_option maxRecDepth 100000 in
set_option maxHeartbeats 4000000 in
theorem Qz8 (bb : Nat) (N : Nat → Prop) (B : BookS) (i : Nat) (p : List Int) (hi : i < B.n) (hp : PgOk p) (hc : (B.f i).isSome = true ∨ B.view i = p ∨ (keysF B.f B.n).length ≠ 60) (w : World) (h : BookI w bb N B) :
    Calls Tryz.prog 14 #[.pointer (some ⟨bb, 0, none⟩), .int .i64 (i : Int), .agg (v8a p)] w fun e w' => e = .returned .nilIface ∧ BookI w' bb N (B.wrote i p) ∧ Keeps N w w' := by
  obtain ⟨db, rb, nb, ov, hX⟩ := h
  have HX := hZ hX
  have hok := hX.ok
  obtain ⟨hn1, hn2⟩ := hok.n
  have HV : Hid (PgOk (B.view i)) := hZ (BookS.view_ok hok i hi)
  have HP := hZ hp
  have HC := hZ hc
  have HW0 : Hid (B.wrote i p = B.wrote i p) := hZ rfl
  clear hX hok hp hc
  go_enter Tryz.func14, Tryz.ntmps14
  repeat ((fail_if_success (with_reducible refine Vz1 "pages.go:117" rfl ?_)); (first | go_values | go_skip | go_guarded | go_step | go_upon))
  refine Xz0 (fun wx => Hid (wx.heap[w.heap.size]? = some (.cells (v8a p) 37) ∧ Below w.heap.size w wx)) (hZ ⟨heap_alloc_new w (.cells (v8a p) 37), bZ⟩) ?_
  intro w1 H1
  have hRD := Qza bb N B i hi w1 ⟨db, rb, nb, ov, HX.out.keep H1.out.2 (fun k hk => ⟨Nat.lt_of_lt_of_le (HX.out.N_lt k hk) H1.out.2.size, .inl hk⟩)⟩
  obtain ⟨vw, hvw⟩ : ∃ vw, B.view i = vw := ⟨_, rfl⟩
  rw [hvw] at hRD
  have HVW := hZ hvw
  have hv64 : vw.length = 64 := by rw [← hvw]; exact HV.out.1
  have hp64 := HP.out.1
  clear hvw
  go_wp2_with fail
  refine hRD.mono ?_
  clear hRD
  rintro e w2 ⟨rfl, hb2⟩
  try dsimp only
  repeat ((fail_if_success (with_reducible refine Kz1 17 rfl ?_)); (first | (refine Wz2 rfl (.tmp 7) (.tmp 15) rfl w2.heap.size vw (zer 64) rfl rfl (heap_alloc_new w2 _) hv64 rfl ?_) | go_values | go_skip | go_guarded | go_step | go_upon))
  have hb21 : Below w.heap.size w w2 := H1.out.2.trans (hb2.mono H1.out.2.size)
  have hbx : ∀ o : Obj, Below w.heap.size w ((w2.alloc o).setRow w2.heap.size (v8a vw)) := fun o => below_setRow (hb21.alloc hb21.size _) hb21.size _
  have hl1 := Zz0 H1.out.1
  have hl2 := hb2.size
  refine Xz0 (fun wx => Hid (WrX w bb N B db rb nb w.heap.size w2.heap.size ov p vw wx)) (hZ ⟨HX.out.keep (hbx _) (fun k hk => ?_), ?_, setRow_heap _ _ _ _ _ (0, 0) (heap_alloc_new w2 _), Keeps.of_below (hbx _)⟩) ?_
  · rcases hk with hk | hk | hk
    · exact ⟨Nat.lt_of_lt_of_le (HX.out.N_lt k hk) (hbx _).size, .inl hk⟩
    · subst hk; exact ⟨by simp [World.setRow]; omega, .inr (Nat.le_refl _)⟩
    · subst hk; exact ⟨by simp [World.setRow], .inr (by omega)⟩
  · rw [setRow_other _ _ _ _ (by omega), heap_alloc_old _ _ (by omega)]; exact (hb2.block _ hl1).trans H1.out.1
  clear hbx hb21 hb2 H1 HX
  generalize w2.heap.size = b7
  generalize w.heap.size = b5
  intro w3 H3
  have HOV := hZ H3.out.1.opn
  cases hB : B.opn with
  | none =>
    obtain rfl : ov = .map none := by have := HOV.out; rw [hB] at this; exact this
    obtain ⟨z0, z1, z2, z3, z4, z5, z6, z7, f4, f6⟩ := Xz1 H3.out.1.cells
    have hmm : ∀ wx : World, (Instr.makeMap 142 none).run Tryz.prog wx = .ok (.map (some wx.heap.size)) (wx.alloc (.map #[] 0)) := fun _ => by kernel_rfl
    have heq : ∀ wx : World, (binOp .eql 142 (.map none) (.map none)).run Tryz.prog wx = .ok (.bool true) wx := fun _ => by kernel_rfl
    repeat ((fail_if_success (with_reducible refine Vz1 "pages.go:121" rfl ?_)); (first | go_values | go_skip | go_guarded | go_step | go_upon))
    repeat ((fail_if_success (with_reducible refine Vz1 "pages.go:122" rfl ?_)); (first | go_values | go_skip | go_guarded | go_step | go_upon))
    have hbl := Zz0 H3.out.1.cells
    have f6' : ∀ o : Obj, (w3.alloc o).frozen? ⟨bb, 6, none⟩ = false := fun o => by
      have h := heap_alloc_old w3 o hbl
      simp only [World.frozen?, h]; exact f6
    have z6' : ∀ o : Obj, (w3.alloc o).cell? ⟨bb, 6, none⟩ = some (.map none) := fun o => by
      have h := heap_alloc_old w3 o hbl
      simp only [World.cell?, h]; exact z6
    repeat ((fail_if_success (with_reducible refine Vz1 "pages.go:124" rfl ?_)); (first | go_values | go_skip | go_guarded | go_step | go_upon))
    have HT : Hid (WrX w bb N B.begun db rb nb b5 b7 (.map (some w3.heap.size)) p vw ((w3.setCell ⟨bb, 6, none⟩ (.map (some w3.heap.size))).alloc (.map #[] 0))) := hZ (by
      have e : (w3.setCell ⟨bb, 6, none⟩ (.map (some w3.heap.size))).alloc (.map #[] 0) = (w3.alloc (.map #[] 0)).setCell ⟨bb, 6, none⟩ (.map (some w3.heap.size)) := alloc_set_comm _ _ _ _ _ hbl
      rw [e]
      have hx := H3.out.1.opened hB
      have h5 := Zz0 H3.out.2.1
      have h7 := Zz0 H3.out.2.2.1
      have hn5 : bb ≠ b5 := fun e => H3.out.1.nots.1 (.inr (.inl e))
      have hn7 : bb ≠ b7 := fun e => H3.out.1.nots.1 (.inr (.inr e))
      refine ⟨hx, Zz1 hn5 ?_, Zz1 hn7 ?_, H3.out.2.2.2.trans ((Keeps.alloc _ _ _).trans (Keeps.set _ _ _ _ (fun hn => H3.out.1.nots.1 (.inl hn))))⟩
      · rw [heap_alloc_old _ _ h5]; exact H3.out.2.1
      · rw [heap_alloc_old _ _ h7]; exact H3.out.2.2.1)
    refine Xz0 (fun wx => Hid (WrX w bb N B.begun db rb nb b5 b7 (.map (some w3.heap.size)) p vw wx)) HT ?_
    clear z0 z1 z2 z3 z4 z5 z6 z7 f4 f6 f6' z6' hmm heq hbl HT H3 HOV hB
    generalize w3.heap.size = ob
    intro w4 HT
    have HFO : Hid (PgMap B.f B.n) := hZ (HT.out.1.ok.opn B.f rfl)
    obtain ⟨z0, z1, z2, z3, z4, z5, z6, z7, _⟩ := Xz1 HT.out.1.cells
    have HOP : OpenI w4 (.map (some ob)) B.n (some B.f) := HT.out.1.opn
    obtain ⟨oA, hA⟩ : ∃ oA, B.f i = oA := ⟨_, rfl⟩
    have HLA : Hid ((pgD oA).length = 64) := hZ (by
      cases oA with
      | none => rfl
      | some q => exact (HFO.out i q hA).2.1)
    have hAb : ((some B.f).bind fun f => f i) = oA := hA
    repeat ((fail_if_success (with_reducible refine Kz1 38 rfl ?_)); (first | (first | (at_lookup; refine Kza _ rfl _ _ rfl (.map (some ob)) B.n (some B.f) rfl HOP i (by omega) rfl ?_; simp only [hAb]) | (refine Wz2 rfl (.tmp 9) (.tmp 36) rfl w4.heap.size (pgD oA) (zer 64) rfl rfl (heap_alloc_new w4 _) HLA.out rfl ?_)) | go_values | go_skip | go_guarded | go_step | go_upon))
    have hbx : ∀ o : Obj, Below w4.heap.size w4 ((w4.alloc o).setRow w4.heap.size (v8a (pgD oA))) := fun o => below_setRow (bZ) (Nat.le_refl _) _
    refine Xz0 (fun wz => Hid (WrX w bb N B.begun db rb nb b5 b7 (.map (some ob)) p vw wz)) (hZ ⟨HT.out.1.keep (hbx _) (fun k hk => ⟨Nat.lt_of_lt_of_le (HT.out.1.N_lt k hk) (hbx _).size, .inl hk⟩), ((hbx _).block _ (Zz0 HT.out.2.1)).trans HT.out.2.1, ((hbx _).block _ (Zz0 HT.out.2.2.1)).trans HT.out.2.2.1, HT.out.2.2.2.trans (Keeps.of_below (hbx _))⟩) ?_
    clear hbx z0 z1 z2 z3 z4 z5 z6 z7 HOP HT
    intro wy HY
    cases oA with
    | some q =>
      simp only [Option.isSome_some]
      go_wp2_with fail
      have HM : Hid (MapIs Tryz.prog 3 wy ob (keysF B.f B.n).length (pgL B.f)) := hZ (by obtain ⟨ob', h1, h2⟩ := HY.out.1.opn; simp at h1; subst h1; exact h2)
      obtain ⟨z0, z1, z2, z3, z4, z5, z6, z7, _⟩ := Xz1 HY.out.1.cells
      have r6 := cell_regrown z6
      have hkl : (keysF B.f B.n).length ≤ 2048 := Nat.le_trans (Xzh _ _) hn2
      refine Zz3 6 (fun w' => ∃ p : Regrown, w' = Go.Sort.grow (redrawn wy p.d) p.os) (by kernel_rfl) (by kernel_rfl) (fun _ _ d _ _ h => by cases d <;> exact h) (Vz2 _) ?_
      simp only [List.take_succ_cons, List.take_zero]
      repeat (go_big_quiet_step (fail))
      go_big_quiet_want
      refine Zz6 (.tmp 5) rfl b5 p rfl (Wz4 HY.out.2.1) hp64 ?_
      simp only [Act.put, qs0, qs1, qs2]
      repeat (go_big_quiet_step (fail))
      try go_big_quiet_on
      repeat (go_big_quiet_step (fail))
      with_reducible refine wpQuiet_nil ?_
      with_reducible refine mix_a ?_; simp only [qd1, qd0, qt1, qt0]
      go_wp2_with (at_mapUpdate; refine Zz7 _ rfl _ _ _ 142 rfl 3 37 (int_keyed Tryz.underlying3) Tryz.underlying142 ob (keysF B.f B.n).length (pgL B.f) rfl (HM.out.drew) ?hc (.int .i64 (i : Int)) (.agg (v8a p)) (.int .i64 (i : Int)) rfl rfl ?hk ?_)
      case hc => unfold maxLen; omega
      case hk => exact Kzb _ (by omega)
      intro w5 hm ht
      rw [pgL_put] at hm
      have HM5 : Hid (MapIs Tryz.prog 3 w5 ob (keysF (putF B.f i p) B.n).length (pgL (putF B.f i p))) := hZ (by
        rw [Vzd _ _ _ _ hi]
        unfold cntIf at hm
        simp only [pgL_at, hA, Option.map_some, Option.map_none, Option.isSome_some, Option.isSome_none, if_true, if_false, Bool.false_eq_true] at hm ⊢
        exact hm)
      have HT5 : Hid (Keeps (fun k => k ≠ ob) wy w5) := hZ ((Keeps.drew _ wy).trans (Keeps.of_turned ht (by simp)))
      clear hm ht HM r6 z0 z1 z2 z3 z4 z5 z6 z7
      with_reducible refine wpList_nil ?_
      with_reducible refine Qz0 ?_
      with_reducible refine Wz1 ?_
      go_wp2_with fail
      go_ret
      have hx5 := HY.out.1.turned (putF B.f i p) HT5.out HM5.out (PgMap.put HFO.out hi HP.out)
      have hob : ¬ N ob := fun hn => HY.out.1.nots.2.2.2 ob rfl (.inl hn)
      refine ⟨rfl, ⟨db, rb, nb, .map (some ob), ?_⟩, HY.out.2.2.2.trans (HT5.out.mono (fun k _ hk e => hob (e ▸ hk)))⟩
      have hwr : B.wrote i p = { B with opn := some (putF B.f i p) } := if_pos (Or.inl (by rw [hA]; rfl))
      rw [hwr]
      exact hx5.drop (fun k hk => .inl hk)
    | none =>
      simp only [Option.isSome_none]
      by_cases hq : vw = p
      · have hd : decide (vw = p) = true := by simp [hq]
        go_wp2_with (first | (refine Wz3 rfl (.tmp 7) rfl b7 vw rfl HY.out.2.2.1 hv64 ?_) | (refine Wz3 rfl (.tmp 5) rfl b5 p rfl HY.out.2.1 hp64 ?_) | (refine page_eql rfl (.tmp 40) (.tmp 41) _ rfl vw p rfl rfl hv64 hp64 ?_; simp only [hd]))
        go_ret
        have hwr : B.wrote i p = B.begun := if_neg (by rw [hA, HVW.out]; simp [hq])
        refine ⟨rfl, ⟨db, rb, nb, .map (some ob), ?_⟩, HY.out.2.2.2⟩
        rw [hwr]
        exact HY.out.1.drop (fun k hk => .inl hk)
      · have hd : decide (vw = p) = false := by simp [hq]
        have hkn : ((keysF B.f B.n).length : Int) ≠ 60 := by
          rcases HC.out with h | h | h
          · rw [hA] at h; cases h
          · rw [HVW.out] at h; exact absurd h hq
          · omega
        have HMo : Hid (MapIs Tryz.prog 3 wy ob (keysF B.f B.n).length (pgL B.f)) := hZ (by obtain ⟨ob', h1, h2⟩ := HY.out.1.opn; simp at h1; subst h1; exact h2)
        obtain ⟨z0, z1, z2, z3, z4, z5, z6, z7, _⟩ := Xz1 HY.out.1.cells
        go_wp2_with (first | (refine Wz3 rfl (.tmp 7) rfl b7 vw rfl HY.out.2.2.1 hv64 ?_) | (refine Wz3 rfl (.tmp 5) rfl b5 p rfl HY.out.2.1 hp64 ?_) | (refine page_eql rfl (.tmp 40) (.tmp 41) _ rfl vw p rfl rfl hv64 hp64 ?_; simp only [hd]) | (refine wpList_len_is _ rfl (.tmp 46) 142 rfl 3 37 Tryz.underlying142 ob _ (pgL B.f) rfl HMo.out ?_))
        clear z0 z1 z2 z3 z4 z5 z6 z7 HMo
        go_wp2_with fail
        have HM : Hid (MapIs Tryz.prog 3 wy ob (keysF B.f B.n).length (pgL B.f)) := hZ (by obtain ⟨ob', h1, h2⟩ := HY.out.1.opn; simp at h1; subst h1; exact h2)
        obtain ⟨z0, z1, z2, z3, z4, z5, z6, z7, _⟩ := Xz1 HY.out.1.cells
        have r6 := cell_regrown z6
        have hkl : (keysF B.f B.n).length ≤ 2048 := Nat.le_trans (Xzh _ _) hn2
        refine Zz3 6 (fun w' => ∃ p : Regrown, w' = Go.Sort.grow (redrawn wy p.d) p.os) (by kernel_rfl) (by kernel_rfl) (fun _ _ d _ _ h => by cases d <;> exact h) (Vz2 _) ?_
        simp only [List.take_succ_cons, List.take_zero]
        repeat (go_big_quiet_step (fail))
        go_big_quiet_want
        refine Zz6 (.tmp 5) rfl b5 p rfl (Wz4 HY.out.2.1) hp64 ?_
        simp only [Act.put, qs0, qs1, qs2]
        repeat (go_big_quiet_step (fail))
        try go_big_quiet_on
        repeat (go_big_quiet_step (fail))
        with_reducible refine wpQuiet_nil ?_
        with_reducible refine mix_a ?_; simp only [qd1, qd0, qt1, qt0]
        go_wp2_with (at_mapUpdate; refine Zz7 _ rfl _ _ _ 142 rfl 3 37 (int_keyed Tryz.underlying3) Tryz.underlying142 ob (keysF B.f B.n).length (pgL B.f) rfl (HM.out.drew) ?hc (.int .i64 (i : Int)) (.agg (v8a p)) (.int .i64 (i : Int)) rfl rfl ?hk ?_)
        case hc => unfold maxLen; omega
        case hk => exact Kzb _ (by omega)
        intro w5 hm ht
        rw [pgL_put] at hm
        have HM5 : Hid (MapIs Tryz.prog 3 w5 ob (keysF (putF B.f i p) B.n).length (pgL (putF B.f i p))) := hZ (by
          rw [Vzd _ _ _ _ hi]
          unfold cntIf at hm
          simp only [pgL_at, hA, Option.map_some, Option.map_none, Option.isSome_some, Option.isSome_none, if_true, if_false, Bool.false_eq_true] at hm ⊢
          exact hm)
        have HT5 : Hid (Keeps (fun k => k ≠ ob) wy w5) := hZ ((Keeps.drew _ wy).trans (Keeps.of_turned ht (by simp)))
        clear hm ht HM r6 z0 z1 z2 z3 z4 z5 z6 z7
        with_reducible refine wpList_nil ?_
        with_reducible refine Qz0 ?_
        with_reducible refine Wz1 ?_
        go_wp2_with fail
        go_ret
        have hx5 := HY.out.1.turned (putF B.f i p) HT5.out HM5.out (PgMap.put HFO.out hi HP.out)
        have hob : ¬ N ob := fun hn => HY.out.1.nots.2.2.2 ob rfl (.inl hn)
        refine ⟨rfl, ⟨db, rb, nb, .map (some ob), ?_⟩, HY.out.2.2.2.trans (HT5.out.mono (fun k _ hk e => hob (e ▸ hk)))⟩
        have hwr : B.wrote i p = { B with opn := some (putF B.f i p) } := if_pos (Or.inr (by rw [HVW.out]; exact hq))
        rw [hwr]
        exact hx5.drop (fun k hk => .inl hk)
  | some f =>
    obtain ⟨ob, rfl, hmo⟩ : ∃ ob, ov = .map (some ob) ∧ MapIs Tryz.prog 3 w3 ob (keysF f B.n).length (pgL f) := by have := HOV.out; rw [hB] at this; exact this
    clear hmo
    obtain ⟨z0, z1, z2, z3, z4, z5, z6, z7, f4, f6⟩ := Xz1 H3.out.1.cells
    have hbe : B.begun = B := by
      have : B.f = f := by unfold BookS.f; rw [hB]; rfl
      unfold BookS.begun; rw [this, ← hB]
    have HT : Hid (WrX w bb N B.begun db rb nb b5 b7 (.map (some ob)) p vw w3) := hZ (by rw [hbe]; exact H3.out)
    have heq : ∀ wx : World, (binOp .eql 142 (.map (some ob)) (.map none)).run Tryz.prog wx = .ok (.bool false) wx := fun _ => by kernel_rfl
    repeat ((fail_if_success (with_reducible refine Vz1 "pages.go:121" rfl ?_)); (first | go_values | go_skip | go_guarded | go_step | go_upon))
    repeat ((fail_if_success (with_reducible refine Vz1 "pages.go:124" rfl ?_)); (first | go_values | go_skip | go_guarded | go_step | go_upon))
    clear heq z0 z1 z2 z3 z4 z5 z6 z7 f4 f6 H3 HOV hB hbe f
    have HFO : Hid (PgMap B.f B.n) := hZ (HT.out.1.ok.opn B.f rfl)
    obtain ⟨z0, z1, z2, z3, z4, z5, z6, z7, _⟩ := Xz1 HT.out.1.cells
    have HOP : OpenI w3 (.map (some ob)) B.n (some B.f) := HT.out.1.opn
    obtain ⟨oA, hA⟩ : ∃ oA, B.f i = oA := ⟨_, rfl⟩
    have HLA : Hid ((pgD oA).length = 64) := hZ (by
      cases oA with
      | none => rfl
      | some q => exact (HFO.out i q hA).2.1)
    have hAb : ((some B.f).bind fun f => f i) = oA := hA
    repeat ((fail_if_success (with_reducible refine Kz1 38 rfl ?_)); (first | (first | (at_lookup; refine Kza _ rfl _ _ rfl (.map (some ob)) B.n (some B.f) rfl HOP i (by omega) rfl ?_; simp only [hAb]) | (refine Wz2 rfl (.tmp 9) (.tmp 36) rfl w3.heap.size (pgD oA) (zer 64) rfl rfl (heap_alloc_new w3 _) HLA.out rfl ?_)) | go_values | go_skip | go_guarded | go_step | go_upon))
    have hbx : ∀ o : Obj, Below w3.heap.size w3 ((w3.alloc o).setRow w3.heap.size (v8a (pgD oA))) := fun o => below_setRow (bZ) (Nat.le_refl _) _
    refine Xz0 (fun wz => Hid (WrX w bb N B.begun db rb nb b5 b7 (.map (some ob)) p vw wz)) (hZ ⟨HT.out.1.keep (hbx _) (fun k hk => ⟨Nat.lt_of_lt_of_le (HT.out.1.N_lt k hk) (hbx _).size, .inl hk⟩), ((hbx _).block _ (Zz0 HT.out.2.1)).trans HT.out.2.1, ((hbx _).block _ (Zz0 HT.out.2.2.1)).trans HT.out.2.2.1, HT.out.2.2.2.trans (Keeps.of_below (hbx _))⟩) ?_
    clear hbx z0 z1 z2 z3 z4 z5 z6 z7 HOP HT
    intro wy HY
    cases oA with
    | some q =>
      simp only [Option.isSome_some]
      go_wp2_with fail
      have HM : Hid (MapIs Tryz.prog 3 wy ob (keysF B.f B.n).length (pgL B.f)) := hZ (by obtain ⟨ob', h1, h2⟩ := HY.out.1.opn; simp at h1; subst h1; exact h2)
      obtain ⟨z0, z1, z2, z3, z4, z5, z6, z7, _⟩ := Xz1 HY.out.1.cells
      have r6 := cell_regrown z6
      have hkl : (keysF B.f B.n).length ≤ 2048 := Nat.le_trans (Xzh _ _) hn2
      refine Zz3 6 (fun w' => ∃ p : Regrown, w' = Go.Sort.grow (redrawn wy p.d) p.os) (by kernel_rfl) (by kernel_rfl) (fun _ _ d _ _ h => by cases d <;> exact h) (Vz2 _) ?_
      simp only [List.take_succ_cons, List.take_zero]
      repeat (go_big_quiet_step (fail))
      go_big_quiet_want
      refine Zz6 (.tmp 5) rfl b5 p rfl (Wz4 HY.out.2.1) hp64 ?_
      simp only [Act.put, qs0, qs1, qs2]
      repeat (go_big_quiet_step (fail))
      try go_big_quiet_on
      repeat (go_big_quiet_step (fail))
      with_reducible refine wpQuiet_nil ?_
      with_reducible refine mix_a ?_; simp only [qd1, qd0, qt1, qt0]
      go_wp2_with (at_mapUpdate; refine Zz7 _ rfl _ _ _ 142 rfl 3 37 (int_keyed Tryz.underlying3) Tryz.underlying142 ob (keysF B.f B.n).length (pgL B.f) rfl (HM.out.drew) ?hc (.int .i64 (i : Int)) (.agg (v8a p)) (.int .i64 (i : Int)) rfl rfl ?hk ?_)
      case hc => unfold maxLen; omega
      case hk => exact Kzb _ (by omega)
      intro w5 hm ht
      rw [pgL_put] at hm
      have HM5 : Hid (MapIs Tryz.prog 3 w5 ob (keysF (putF B.f i p) B.n).length (pgL (putF B.f i p))) := hZ (by
        rw [Vzd _ _ _ _ hi]
        unfold cntIf at hm
        simp only [pgL_at, hA, Option.map_some, Option.map_none, Option.isSome_some, Option.isSome_none, if_true, if_false, Bool.false_eq_true] at hm ⊢
        exact hm)
      have HT5 : Hid (Keeps (fun k => k ≠ ob) wy w5) := hZ ((Keeps.drew _ wy).trans (Keeps.of_turned ht (by simp)))
      clear hm ht HM r6 z0 z1 z2 z3 z4 z5 z6 z7
      with_reducible refine wpList_nil ?_
      with_reducible refine Qz0 ?_
      with_reducible refine Wz1 ?_
      go_wp2_with fail
      go_ret
      have hx5 := HY.out.1.turned (putF B.f i p) HT5.out HM5.out (PgMap.put HFO.out hi HP.out)
      have hob : ¬ N ob := fun hn => HY.out.1.nots.2.2.2 ob rfl (.inl hn)
      refine ⟨rfl, ⟨db, rb, nb, .map (some ob), ?_⟩, HY.out.2.2.2.trans (HT5.out.mono (fun k _ hk e => hob (e ▸ hk)))⟩
      have hwr : B.wrote i p = { B with opn := some (putF B.f i p) } := if_pos (Or.inl (by rw [hA]; rfl))
      rw [hwr]
      exact hx5.drop (fun k hk => .inl hk)
    | none =>
      simp only [Option.isSome_none]
      by_cases hq : vw = p
      · have hd : decide (vw = p) = true := by simp [hq]
        go_wp2_with (first | (refine Wz3 rfl (.tmp 7) rfl b7 vw rfl HY.out.2.2.1 hv64 ?_) | (refine Wz3 rfl (.tmp 5) rfl b5 p rfl HY.out.2.1 hp64 ?_) | (refine page_eql rfl (.tmp 40) (.tmp 41) _ rfl vw p rfl rfl hv64 hp64 ?_; simp only [hd]))
        go_ret
        have hwr : B.wrote i p = B.begun := if_neg (by rw [hA, HVW.out]; simp [hq])
        refine ⟨rfl, ⟨db, rb, nb, .map (some ob), ?_⟩, HY.out.2.2.2⟩
        rw [hwr]
        exact HY.out.1.drop (fun k hk => .inl hk)
      · have hd : decide (vw = p) = false := by simp [hq]
        have hkn : ((keysF B.f B.n).length : Int) ≠ 60 := by
          rcases HC.out with h | h | h
          · rw [hA] at h; cases h
          · rw [HVW.out] at h; exact absurd h hq
          · omega
        have HMo : Hid (MapIs Tryz.prog 3 wy ob (keysF B.f B.n).length (pgL B.f)) := hZ (by obtain ⟨ob', h1, h2⟩ := HY.out.1.opn; simp at h1; subst h1; exact h2)
        obtain ⟨z0, z1, z2, z3, z4, z5, z6, z7, _⟩ := Xz1 HY.out.1.cells
        go_wp2_with (first | (refine Wz3 rfl (.tmp 7) rfl b7 vw rfl HY.out.2.2.1 hv64 ?_) | (refine Wz3 rfl (.tmp 5) rfl b5 p rfl HY.out.2.1 hp64 ?_) | (refine page_eql rfl (.tmp 40) (.tmp 41) _ rfl vw p rfl rfl hv64 hp64 ?_; simp only [hd]) | (refine wpList_len_is _ rfl (.tmp 46) 142 rfl 3 37 Tryz.underlying142 ob _ (pgL B.f) rfl HMo.out ?_))
        clear z0 z1 z2 z3 z4 z5 z6 z7 HMo
        go_wp2_with fail
        have HM : Hid (MapIs Tryz.prog 3 wy ob (keysF B.f B.n).length (pgL B.f)) := hZ (by obtain ⟨ob', h1, h2⟩ := HY.out.1.opn; simp at h1; subst h1; exact h2)
        obtain ⟨z0, z1, z2, z3, z4, z5, z6, z7, _⟩ := Xz1 HY.out.1.cells
        have r6 := cell_regrown z6
        have hkl : (keysF B.f B.n).length ≤ 2048 := Nat.le_trans (Xzh _ _) hn2
        refine Zz3 6 (fun w' => ∃ p : Regrown, w' = Go.Sort.grow (redrawn wy p.d) p.os) (by kernel_rfl) (by kernel_rfl) (fun _ _ d _ _ h => by cases d <;> exact h) (Vz2 _) ?_
        simp only [List.take_succ_cons, List.take_zero]
        repeat (go_big_quiet_step (fail))
        go_big_quiet_want
        refine Zz6 (.tmp 5) rfl b5 p rfl (Wz4 HY.out.2.1) hp64 ?_
        simp only [Act.put, qs0, qs1, qs2]
        repeat (go_big_quiet_step (fail))
        try go_big_quiet_on
        repeat (go_big_quiet_step (fail))
        with_reducible refine wpQuiet_nil ?_
        with_reducible refine mix_a ?_; simp only [qd1, qd0, qt1, qt0]
        go_wp2_with (at_mapUpdate; refine Zz7 _ rfl _ _ _ 142 rfl 3 37 (int_keyed Tryz.underlying3) Tryz.underlying142 ob (keysF B.f B.n).length (pgL B.f) rfl (HM.out.drew) ?hc (.int .i64 (i : Int)) (.agg (v8a p)) (.int .i64 (i : Int)) rfl rfl ?hk ?_)
        case hc => unfold maxLen; omega
        case hk => exact Kzb _ (by omega)
        intro w5 hm ht
        rw [pgL_put] at hm
        have HM5 : Hid (MapIs Tryz.prog 3 w5 ob (keysF (putF B.f i p) B.n).length (pgL (putF B.f i p))) := hZ (by
          rw [Vzd _ _ _ _ hi]
          unfold cntIf at hm
          simp only [pgL_at, hA, Option.map_some, Option.map_none, Option.isSome_some, Option.isSome_none, if_true, if_false, Bool.false_eq_true] at hm ⊢
          exact hm)
        have HT5 : Hid (Keeps (fun k => k ≠ ob) wy w5) := hZ ((Keeps.drew _ wy).trans (Keeps.of_turned ht (by simp)))
        clear hm ht HM r6 z0 z1 z2 z3 z4 z5 z6 z7
        with_reducible refine wpList_nil ?_
        with_reducible refine Qz0 ?_
        with_reducible refine Wz1 ?_
        go_wp2_with fail
        go_ret
        have hx5 := HY.out.1.turned (putF B.f i p) HT5.out HM5.out (PgMap.put HFO.out hi HP.out)
        have hob : ¬ N ob := fun hn => HY.out.1.nots.2.2.2 ob rfl (.inl hn)
        refine ⟨rfl, ⟨db, rb, nb, .map (some ob), ?_⟩, HY.out.2.2.2.trans (HT5.out.mono (fun k _ hk e => hob (e ▸ hk)))⟩
        have hwr : B.wrote i p = { B with opn := some (putF B.f i p) } := if_pos (Or.inr (by rw [HVW.out]; exact hq))
        rw [hwr]
        exact hx5.drop (fun k hk => .inl hk)
end Go.Proofs.YtajmcplanlibnaaGreatDoor
