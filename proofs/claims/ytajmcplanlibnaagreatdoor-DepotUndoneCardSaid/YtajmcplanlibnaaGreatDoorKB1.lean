/- A book: what it is in memory, and what its pages hold. Pages as operations: one is loaded, stored, compared. -/
import Derived.Test.YtajmcplanlibnaaGreatDoorKP5
import Derived.Test.YtajmcplanlibnaaGreatDoorKLib
set_option linter.unusedSimpArgs false
set_option linter.unusedVariables false
set_option linter.unnecessarySimpa false
namespace Go.Proofs.YtajmcplanlibnaaGreatDoor
open Go.RowKit Go.Maps
abbrev PgF := Nat → Option (List Int)
structure BookS where
  size : Nat
  n : Nat
  gen : Int
  news : PgF
  opn : Option PgF
  disk : DiskS
  pl : Nat
  num : Int
  last : List Int
  used : Nat
  db : Option Nat
noncomputable def pgL (f : PgF) : Lit → Option Value := fun l => match l with
  | .int .i64 i => if 0 ≤ i then (f i.toNat).map fun p => .agg (v8a p) else none
  | _ => none
def keysF (f : PgF) (n : Nat) : List Nat := (List.range n).filter (fun i => (f i).isSome)
def putF (f : PgF) (i : Nat) (p : List Int) : PgF := fun j => if j = i then some p else f j
theorem pgL_at (f : PgF) (i : Nat) : pgL f (.int .i64 (i : Int)) = (f i).map fun p => .agg (v8a p) := by simp [pgL]
theorem pgL_put (f : PgF) (i : Nat) (p : List Int) : upd (pgL f) (.int .i64 (i : Int)) (some (.agg (v8a p))) = pgL (putF f i p) := by
  funext l
  by_cases h : l = .int .i64 (i : Int)
  · subst h; rw [upd_same, pgL_at]; simp [putF]
  · rw [upd_other _ h]
    unfold pgL
    split
    · rename_i j
      split
      · rename_i hj
        have : j.toNat ≠ i := fun e => h (by congr 1; omega)
        simp [putF, this]
      · rfl
    · rfl
theorem pgL_none : pgL (fun _ => none) = fun _ => none := by
  funext l; unfold pgL; split
  · simp
  · rfl
theorem keysF_put (f : PgF) (n i : Nat) (p : List Int) (hi : i < n) : (keysF (putF f i p) n).length = if (f i).isSome then (keysF f n).length else (keysF f n).length + 1 := by
  unfold keysF
  have key : ∀ m, ((List.range m).filter fun j => (putF f i p j).isSome).length = ((List.range m).filter fun j => (f j).isSome).length + (if i < m ∧ (f i).isSome = false then 1 else 0) := by
    intro m
    induction m with
    | zero => simp
    | succ m ih =>
      rw [List.range_succ, List.filter_append, List.filter_append, List.length_append, List.length_append, ih]
      by_cases e : m = i
      · subst e
        have h1 : (putF f m p m).isSome = true := by simp [putF]
        cases hf : (f m).isSome <;> simp [h1, hf]
      · have h1 : (putF f i p m).isSome = (f m).isSome := by simp [putF, e]
        have h2 : (i < m + 1) ↔ i < m := by omega
        cases hf : (f m).isSome <;> simp [h1, hf, h2] <;> omega
  rw [key n]
  cases hf : (f i).isSome <;> simp [hi]
theorem keysF_none (n : Nat) : keysF (fun _ => none) n = [] := by simp [keysF]
theorem keysF_le (f : PgF) (n : Nat) : (keysF f n).length ≤ n := by
  unfold keysF
  exact Nat.le_trans (List.length_filter_le _ _) (by simp)
def PgMap (f : PgF) (n : Nat) : Prop := ∀ i p, f i = some p → i < n ∧ PgOk p
theorem PgMap.none (n : Nat) : PgMap (fun _ => Option.none) n := fun i p h => by cases h
theorem PgMap.put {f : PgF} {n : Nat} (h : PgMap f n) {i : Nat} {p : List Int} (hi : i < n) (hp : PgOk p) : PgMap (putF f i p) n := fun j q hq => by
  unfold putF at hq
  by_cases e : j = i
  · rw [if_pos e] at hq; cases hq; exact ⟨by omega, hp⟩
  · rw [if_neg e] at hq; exact h j q hq
structure BookS.ok (B : BookS) : Prop where
  size : 96 ≤ B.size ∧ B.size ≤ 4096
  n : 1 ≤ B.n ∧ B.n ≤ 2048
  room : 2 + B.size + B.n ≤ B.disk.firm.length
  gen : 0 ≤ B.gen ∧ B.gen < 4611686018427387904
  news : PgMap B.news B.n
  opn : ∀ f, B.opn = some f → PgMap f B.n
  pl : B.pl < B.size
  num : 0 ≤ B.num ∧ B.num < 4611686018427387904
  last : B.last.length = 32 ∧ U8s B.last
  used : B.used ≤ B.size
  disk : B.disk.ok
/-- What a page holds, as the transaction under way has it. -/
def BookS.view (B : BookS) (i : Nat) : List Int :=
  match B.opn.bind (fun f => f i) with
  | some p => p
  | none => match B.news i with
    | some p => p
    | none => B.disk.view (2 + B.size + i)
theorem BookS.view_ok {B : BookS} (h : B.ok) (i : Nat) (hi : i < B.n) : PgOk (B.view i) := by
  unfold BookS.view
  split
  · rename_i p hp
    cases ho : B.opn with
    | none => rw [ho] at hp; cases hp
    | some f => rw [ho] at hp; exact (h.opn f ho i p hp).2
  · split
    · rename_i p hp; exact (h.news i p hp).2
    · exact slot_view_len h.disk _ (by have := h.room; omega)
def OpenI (w : World) (ov : Value) (n : Nat) : Option PgF → Prop
  | none => ov = .map none
  | some f => ∃ ob, ov = .map (some ob) ∧ MapIs Tryz.prog 3 w ob (keysF f n).length (pgL f)
def ovB (ov : Value) (k : Nat) : Prop := ov = .map (some k)
def bookC (db rb : Nat) (B : BookS) (nb : Nat) (ov : Value) : Array Value :=
  #[.pointer (some ⟨db, 0, none⟩), .pointer (some ⟨rb, 0, none⟩), .int .i64 (B.size : Int), .int .i64 (B.n : Int), .int .u64 B.gen, .map (some nb), ov, .bool false]
structure BookX (w : World) (bb : Nat) (N : Nat → Prop) (B : BookS) (db rb nb : Nat) (ov : Value) : Prop where
  cells : w.heap[bb]? = some (.cells (bookC db rb B nb ov) 146)
  ring : w.heap[rb]? = some (.cells (ringC db 2 B.size B.pl B.num B.last B.used) 252)
  disk : DiskI w db (fun k => N k ∨ k = bb ∨ k = rb ∨ k = nb ∨ ovB ov k) B.disk
  news : MapIs Tryz.prog 3 w nb (keysF B.news B.n).length (pgL B.news)
  opn : OpenI w ov B.n B.opn
  ne : ¬ ovB ov nb
  nots : ¬ N bb ∧ ¬ N rb ∧ ¬ N nb ∧ (∀ k, ovB ov k → ¬ N k)
  ok : B.ok
  dbs : ∀ k, B.db = some k → k = db
/-- Block bb is a book; what is in N is none of its blocks. -/
def BookI (w : World) (bb : Nat) (N : Nat → Prop) (B : BookS) : Prop := ∃ db rb nb ov, BookX w bb N B db rb nb ov
theorem DiskI.N_lt {w : World} {db : Nat} {N : Nat → Prop} {d : DiskS} (h : DiskI w db N d) : ∀ k, N k → k < w.heap.size := by
  obtain ⟨_, _, _, _, _, _, _, _, _, _, _, _, _, h5, _⟩ := h; exact h5
theorem DiskI.isOk {w : World} {db : Nat} {N : Nat → Prop} {d : DiskS} (h : DiskI w db N d) : d.ok := by
  obtain ⟨_, _, _, _, _, _, _, _, _, _, _, _, _, _, h6⟩ := h; exact h6
theorem DiskI.below {w w' : World} {db : Nat} {N : Nat → Prop} {d : DiskS} (h : DiskI w db N d) (hb : Below w.heap.size w w') : DiskI w' db N d :=
  h.keep hb (fun k hk => ⟨Nat.lt_of_lt_of_le (h.N_lt k hk) hb.size, .inl hk⟩)
theorem OpenI.below {w w' : World} {ov : Value} {n : Nat} {o : Option PgF} (h : OpenI w ov n o) (hb : Below w.heap.size w w') : OpenI w' ov n o := by
  cases o with
  | none => exact h
  | some f => obtain ⟨ob, h1, h2⟩ := h; exact ⟨ob, h1, h2.below hb h2.lt⟩
theorem OpenI.lt {w : World} {ov : Value} {n : Nat} {o : Option PgF} (h : OpenI w ov n o) {k : Nat} (hk : ovB ov k) : k < w.heap.size := by
  unfold ovB at hk
  cases o with
  | none => unfold OpenI at h; rw [h] at hk; simp at hk
  | some f => obtain ⟨ob, h1, h2⟩ := h; rw [h1] at hk; simp at hk; subst hk; exact h2.lt
theorem BookX.keep {w w' : World} {bb : Nat} {N N' : Nat → Prop} {B : BookS} {db rb nb : Nat} {ov : Value} (h : BookX w bb N B db rb nb ov) (hb : Below w.heap.size w w') (hn : ∀ i, N' i → i < w'.heap.size ∧ (N i ∨ w.heap.size ≤ i)) : BookX w' bb N' B db rb nb ov := by
  have hx : ∀ i, i < w.heap.size → ¬ N i → ¬ N' i := fun i hi hni hN' => by
    rcases (hn i hN').2 with h | h
    · exact hni h
    · omega
  refine ⟨(hb.block _ (lt_of_blk h.cells)).trans h.cells, (hb.block _ (lt_of_blk h.ring)).trans h.ring, h.disk.keep hb ?_, h.news.below hb h.news.lt, h.opn.below hb, h.ne, ⟨hx _ (lt_of_blk h.cells) h.nots.1, hx _ (lt_of_blk h.ring) h.nots.2.1, hx _ h.news.lt h.nots.2.2.1, fun k hk => hx _ (h.opn.lt hk) (h.nots.2.2.2 k hk)⟩, h.ok, h.dbs⟩
  intro i hi
  rcases hi with hi | hi | hi | hi | hi
  · rcases hn i hi with ⟨h1, h2 | h2⟩
    · exact ⟨h1, .inl (.inl h2)⟩
    · exact ⟨h1, .inr h2⟩
  · have := hb.size; have := lt_of_blk h.cells; exact ⟨by omega, .inl (.inr (.inl hi))⟩
  · have := hb.size; have := lt_of_blk h.ring; exact ⟨by omega, .inl (.inr (.inr (.inl hi)))⟩
  · have := hb.size; have := h.news.lt; exact ⟨by omega, .inl (.inr (.inr (.inr (.inl hi))))⟩
  · have := hb.size; have := h.opn.lt hi; exact ⟨by omega, .inl (.inr (.inr (.inr (.inr hi))))⟩
theorem BookI.keep {w w' : World} {bb : Nat} {N N' : Nat → Prop} {B : BookS} (h : BookI w bb N B) (hb : Below w.heap.size w w') (hn : ∀ i, N' i → i < w'.heap.size ∧ (N i ∨ w.heap.size ≤ i)) : BookI w' bb N' B := by
  obtain ⟨db, rb, nb, ov, h⟩ := h
  exact ⟨db, rb, nb, ov, h.keep hb hn⟩
theorem BookX.N_lt {w : World} {bb : Nat} {N : Nat → Prop} {B : BookS} {db rb nb : Nat} {ov : Value} (h : BookX w bb N B db rb nb ov) : ∀ k, N k → k < w.heap.size := fun k hk => h.disk.N_lt k (.inl hk)
theorem BookI.N_lt {w : World} {bb : Nat} {N : Nat → Prop} {B : BookS} (h : BookI w bb N B) : ∀ k, N k → k < w.heap.size := by
  obtain ⟨db, rb, nb, ov, h⟩ := h; exact h.N_lt
theorem BookI.below {w w' : World} {bb : Nat} {N : Nat → Prop} {B : BookS} (h : BookI w bb N B) (hb : Below w.heap.size w w') : BookI w' bb N B :=
  h.keep hb (fun k hk => ⟨Nat.lt_of_lt_of_le (h.N_lt k hk) hb.size, .inl hk⟩)
theorem BookI.isOk {w : World} {bb : Nat} {N : Nat → Prop} {B : BookS} (h : BookI w bb N B) : B.ok := by
  obtain ⟨db, rb, nb, ov, h⟩ := h; exact h.ok
theorem BookI.blk {w : World} {bb : Nat} {N : Nat → Prop} {B : BookS} (h : BookI w bb N B) : ∃ cs, w.heap[bb]? = some (.cells cs 146) := by
  obtain ⟨db, rb, nb, ov, h⟩ := h; exact ⟨_, h.cells⟩
theorem book_cells {w : World} {b db rb nb : Nat} {B : BookS} {ov : Value} {T : Nat} (h : w.heap[b]? = some (.cells (bookC db rb B nb ov) T)) :
    w.cell? ⟨b, 0, none⟩ = some (.pointer (some ⟨db, 0, none⟩)) ∧ w.cell? ⟨b, 1, none⟩ = some (.pointer (some ⟨rb, 0, none⟩)) ∧ w.cell? ⟨b, 2, none⟩ = some (.int .i64 (B.size : Int)) ∧ w.cell? ⟨b, 3, none⟩ = some (.int .i64 (B.n : Int)) ∧ w.cell? ⟨b, 4, none⟩ = some (.int .u64 B.gen) ∧ w.cell? ⟨b, 5, none⟩ = some (.map (some nb)) ∧ w.cell? ⟨b, 6, none⟩ = some ov ∧ w.cell? ⟨b, 7, none⟩ = some (.bool false) ∧
    w.frozen? ⟨b, 4, none⟩ = false ∧ w.frozen? ⟨b, 6, none⟩ = false := by
  simp [World.cell?, World.frozen?, h, bookC]
end Go.Proofs.YtajmcplanlibnaaGreatDoor
namespace Go.Proofs.YtajmcplanlibnaaGreatDoor
open Go.RowKit Go.Maps
def cntIf (b : Bool) (c : Nat) : Nat := if b = true then c else c + 1
/-- 'm[k] = v', the number of entries behind a plain word. -/
theorem wpList_store_cnt {P : Program} (w : World) {ops : Array Oper} {rest : List Oper} {o : Oper} {a : Act} {Q : Exit → Act → World → Prop}
    (hg : o.guard = none) (m x v : Operand) (t : TypeId) (hop : o.op = Op.mapUpdate t m x v)
    (k e : TypeId) (K : Keyed P k) (ht : P.underlying t = some (.map k e)) (b c : Nat) (f : Lit → Option Value)
    (hm : a.eval m = .map (some b)) (hown : MapIs P k w b c f) (hc : c < maxLen) (key val : Value) (kl : Lit) (hx : a.eval x = key) (hv : a.eval v = val) (hkey : keyOf P k key = some kl)
    (hK : ∀ w', MapIs P k w' b (cntIf (f kl).isSome c) (upd f kl (some val)) → w.mapTurned w' b → wpList P ops Q rest (a.put o.dst undef) w') : wpList P ops Q (o :: rest) a w :=
  wpList_store_is w hg m x v t hop k e K ht b c f hm hown hc key val kl hx hv hkey hK
section
variable {ops : Array Oper} {rest : List Oper} {o : Oper} {a : Act} {w : World} {Q : Exit → Act → World → Prop}
theorem pgsz {p : List Int} (hp : p.length = 64) : (v8a p).size = 64 := by simp [v8a, v8, hp]
theorem info_at {p : List Int} (hp : p.length = 64) : (Tryz.prog.info? 37).map (·.size) = some (v8a p).size := by rw [pgsz hp]; exact info_pgs
theorem info_at' {p : List Int} (hp : p.length = 64) : (Tryz.prog.info? 37).map (·.size) = some (v8 p).length := by rw [v8_length, hp]; exact info_pgs
theorem page_store (hgd : o.guard = none) (x y : Operand) (ho : o.op = .store 37 x y) (g : Nat) (p old : List Int) (hx : a.eval x = .pointer (some ⟨g, 0, none⟩)) (hy : a.eval y = .agg (v8a p))
    (hg : w.heap[g]? = some (.cells (v8a old) 37)) (hp : p.length = 64) (hq : old.length = 64) (h : wpList Tryz.prog ops Q rest (a.put o.dst undef) (w.setRow g (v8a p))) : wpList Tryz.prog ops Q (o :: rest) a w :=
  wpList_store_row hgd _ x y ho g (v8a p) hx hy _ (v8a old) hg (info_at hp) (by rw [pgsz hp, pgsz hq]) (v8a_one p) h
theorem page_load (hgd : o.guard = none) (x : Operand) (ho : o.op = .load 37 x) (g : Nat) (p : List Int) (hx : a.eval x = .pointer (some ⟨g, 0, none⟩)) (hg : w.heap[g]? = some (.cells (v8a p) 37)) (hp : p.length = 64)
    (h : wpList Tryz.prog ops Q rest (a.put o.dst (.agg (v8a p))) w) : wpList Tryz.prog ops Q (o :: rest) a w :=
  wpList_load_mid hgd _ x ho g 0 hx (v8 p) _ (row_range hg) Tryz.underlying37 rfl (info_at' hp) h
theorem page_eql (hgd : o.guard = none) (x y : Operand) (t2 : TypeId) (ho : o.op = .binOp .eql 37 x y t2) (p q : List Int) (hx : a.eval x = .agg (v8a p)) (hy : a.eval y = .agg (v8a q)) (hp : p.length = 64) (hq : q.length = 64)
    (h : wpList Tryz.prog ops Q rest (a.put o.dst (.bool (decide (p = q)))) w) : wpList Tryz.prog ops Q (o :: rest) a w := by
  refine wpList_plain hgd fun K' hK' => ?_
  unfold Oper.wp execOp
  simp only [ho, hx, hy, Sem.run_bind, run_eqGuard_agg w .eql _ x y (v8a p) (v8a q) guard_pg, pg_eql w p q hp hq, Result.andThen_ok]
  exact hK' _ _ h
theorem quiet_page {op : Oper} {C : World → Prop} {K : Act → Prop} (x : Operand) (ho : op.op = .load 37 x) (g : Nat) (p : List Int) (hx : a.eval x = .pointer (some ⟨g, 0, none⟩)) (hS : ∀ w, C w → w.heap[g]? = some (.cells (v8a p) 37)) (hp : p.length = 64)
    (h : K (a.put op.dst (.agg (v8a p)))) : op.quiet Tryz.prog a C K :=
  quiet_load_mid _ x ho g 0 hx (v8 p) _ (fun w hw => row_range (hS w hw)) Tryz.underlying37 rfl (info_at' hp) h
theorem blk_regrown {W : World} {k : Nat} {ob : Obj} (h : W.heap[k]? = some ob) : ∀ w', (∃ p : Regrown, w' = Go.Sort.grow (redrawn W p.d) p.os) → w'.heap[k]? = some ob := fun w' hw => ((below_of_regrown hw).block _ (lt_of_blk h)).trans h
theorem blk_regrownB {W : World} {k R : Nat} {ob : Obj} (h : W.heap[k]? = some ob) (hne : k ≠ R) : ∀ w', (∃ p : RegrownB, w' = setO (Go.Sort.grow (redrawn W p.d) p.os) R p.o) → w'.heap[k]? = some ob := fun w' hw => by
  obtain ⟨q, rfl⟩ := hw; exact blkB h hne _ _ _
end
end Go.Proofs.YtajmcplanlibnaaGreatDoor
