/- A disk behind a crash; a book is flushed; what waits is counted. -/
import Derived.Test.YtajmcplanlibnaaGreatDoorKYB5
import Derived.Test.YtajmcplanlibnaaGreatDoorKYB6
import Derived.Test.YtajmcplanlibnaaGreatDoorKYS2
import Derived.Test.YtajmcplanlibnaaGreatDoorKYV8
set_option linter.unusedSimpArgs false
set_option linter.unusedVariables false
set_option linter.unnecessarySimpa false
namespace Go.Proofs.YtajmcplanlibnaaGreatDoor
open Go.RowKit Go.Maps
set_option maxRecDepth 100000 in
set_option maxHeartbeats 1000000 in
theorem sync_any (bb : Nat) (N : Nat → Prop) (B : BookS) (w : World) (h : BookI w bb N B) :
    Calls Tryz.prog 33 #[.pointer (some ⟨bb, 0, none⟩)] w fun e w' => e = .returned .nilIface ∧ BookI w' bb N B.synced ∧ Keeps N w w' := by
  obtain ⟨db, rb, nb, ov, hX⟩ := h
  have HX := hZ hX
  obtain ⟨z0, z1, z2, z3, z4, z5, z6, z7, y4, y6⟩ := Xz1 hX.cells
  clear hX
  go_enter Tryz.func33, Tryz.ntmps33
  go_wp2_with fail
  refine (Wze db _ B.disk w HX.out.disk).mono ?_
  rintro e w1 ⟨rfl, hd, hk⟩
  try dsimp only
  go_wp2_with fail
  go_ret
  exact ⟨rfl, ⟨db, rb, nb, ov, HX.out.disked _ hk hd (by show (Qz3 B.disk.firm B.disk.cache).length = _; rw [Kz2])⟩, hk.mono (fun k _ hk => .inl hk)⟩
open Go.RowKit Go.Maps
structure GdS (B : BookS) (size n S k db : Nat) : Prop where
  ok : B.ok
  logged : B.logged
  lim : B.lim k
  size : B.size = size
  n : B.n = n
  len : B.disk.firm.length = S
  db : B.db = some db
theorem BookI.disk_at {w : World} {bb db : Nat} {N : Nat → Prop} {B : BookS} (h : BookI w bb N B) (hd : B.db = some db) : ∃ N', DiskI w db N' B.disk := by
  obtain ⟨db', rb, nb, ov, hX⟩ := h
  have := hX.dbs db hd
  subst this
  exact ⟨_, hX.disk⟩
theorem GdS.same {B B' : BookS} {size n S k db : Nat} (h : GdS B size n S k db) (hok : B'.ok) (hs : B'.shut = B.shut) : GdS B' size n S k db := by
  have e1 : B'.size = B.size := (congrArg BookS.size hs : B'.shut.size = B.shut.size)
  have e2 : B'.n = B.n := (congrArg BookS.n hs : B'.shut.n = B.shut.n)
  have e3 : B'.disk = B.disk := (congrArg BookS.disk hs : B'.shut.disk = B.shut.disk)
  have e4 : B'.db = B.db := (congrArg BookS.db hs : B'.shut.db = B.shut.db)
  have e5 : B'.gen = B.gen := (congrArg BookS.gen hs : B'.shut.gen = B.shut.gen)
  have e6 : B'.pl = B.pl := (congrArg BookS.pl hs : B'.shut.pl = B.shut.pl)
  have e7 : B'.num = B.num := (congrArg BookS.num hs : B'.shut.num = B.shut.num)
  have e8 : B'.last = B.last := (congrArg BookS.last hs : B'.shut.last = B.shut.last)
  have e9 : B'.used = B.used := (congrArg BookS.used hs : B'.shut.used = B.shut.used)
  have e10 : B'.news = B.news := (congrArg BookS.news hs : B'.shut.news = B.shut.news)
  have hl := h.logged
  unfold BookS.logged at hl
  rw [← e1, ← e2, ← e3, ← e5, ← e6, ← e7, ← e8, ← e9, ← e10] at hl
  exact ⟨hok, hl, h.lim.same hs, by rw [e1]; exact h.size, by rw [e2]; exact h.n, by rw [e3]; exact h.len, by rw [e4]; exact h.db⟩
theorem GdS.wrote {B : BookS} {size n S k db : Nat} (h : GdS B size n S k db) (i : Nat) (p : List Int) (hok : (B.wrote i p).ok) : GdS (B.wrote i p) size n S k db := h.same hok (BookS.wrote_shut B i p)
theorem BookS.done_fix (B : BookS) : B.done.size = B.size ∧ B.done.db = B.db := by
  unfold BookS.done
  split
  · exact ⟨rfl, rfl⟩
  · split <;> exact ⟨rfl, rfl⟩
theorem BookS.homed_len {B : BookS} : B.homed.disk.firm.length = B.disk.firm.length := by
  show ((Qz3 (Qz3 B.disk.firm B.disk.cache) (newsC B)).set _ _).length = _
  rw [List.length_set, Kz2, Kz2]
theorem BookS.done_len (B : BookS) : B.done.disk.firm.length = B.disk.firm.length := by
  unfold BookS.done
  split
  · rfl
  · split
    · rfl
    · show B.shut.homed.disk.firm.length = _
      rw [BookS.homed_len]; rfl
theorem GdS.done {B : BookS} {size n S k db : Nat} (h : GdS B size n S k db) (hok : B.done.ok) (hk : k ≤ 10000) (hc : B.cnt ≤ 60) (ht : ∀ i p, B.f i = some p → i < 256 ∧ Tame p) : GdS B.done size n S (k + 1) db :=
  ⟨hok, BookS.logged_done h.ok (by have := h.lim.gen; omega) h.logged hc ht, h.lim.done hc, by rw [(BookS.done_fix B).1]; exact h.size, by rw [BookS.done_n]; exact h.n, by rw [BookS.done_len]; exact h.len, by rw [(BookS.done_fix B).2]; exact h.db⟩
theorem GdS.synced {B : BookS} {size n S k db : Nat} (h : GdS B size n S k db) (hok : B.synced.ok) : GdS B.synced size n S k db :=
  ⟨hok, BookS.logged_synced h.ok h.logged, ⟨Nat.zero_le _, h.lim.gen, h.lim.num⟩, h.size, h.n, by
    show (Qz3 B.disk.firm B.disk.cache).length = S
    rw [Kz2]; exact h.len, h.db⟩
def BookS.moved (B : BookS) (eb : Nat) : BookS := { B with db := some eb }
theorem GdS.moved {B : BookS} {size n S k db : Nat} (h : GdS B size n S k db) (eb : Nat) : GdS (B.moved eb) size n S k eb := by
  obtain ⟨⟨o1, o2, o3, o4, o5, o6, o7, o8, o9, o10, o11⟩, h2, ⟨l1, l2, l3⟩, h4, h5, h6, h7⟩ := h
  exact ⟨⟨o1, o2, o3, o4, o5, o6, o7, o8, o9, o10, o11⟩, h2, ⟨l1, l2, l3⟩, h4, h5, h6, rfl⟩
theorem GdS.homed {B : BookS} {size n S k db : Nat} (h : GdS B size n S k db) (hok : B.homed.ok) (hk : k ≤ 10000) : GdS B.homed size n S (k + 1) db :=
  ⟨hok, BookS.logged_homed h.ok (by have := h.lim.gen; omega) h.logged, ⟨Nat.zero_le _, by have := h.lim.gen; show B.gen + 1 ≤ _; push_cast; omega, by have := h.lim.num; show B.num ≤ _; push_cast; omega⟩, h.size, h.n, by rw [BookS.homed_len]; exact h.len, h.db⟩
theorem g_commitT {bb : Nat} {N : Nat → Prop} {B : BookS} {size n S k db : Nat} (hk : k ≤ 10000) (hc : B.cnt ≤ 60) (ht : ∀ i p, B.f i = some p → i < 256 ∧ Tame p) (w : World) (h : BookI w bb N B) (hg : GdS B size n S k db) :
    Calls Tryz.prog 17 #[.pointer (some ⟨bb, 0, none⟩)] w fun e w' => e = .returned .nilIface ∧ BookI w' bb N B.done ∧ GdS B.done size n S (k + 1) db ∧ Keeps N w w' :=
  (commit_any bb N B k hg.lim hk hc w h).mono fun e w' ⟨h1, h2, h3⟩ => ⟨h1, h2, hg.done h2.isOk hk hc ht, h3⟩
theorem g_sync {bb : Nat} {N : Nat → Prop} {B : BookS} {size n S k db : Nat} (w : World) (h : BookI w bb N B) (hg : GdS B size n S k db) :
    Calls Tryz.prog 33 #[.pointer (some ⟨bb, 0, none⟩)] w fun e w' => e = .returned .nilIface ∧ BookI w' bb N B.synced ∧ GdS B.synced size n S k db ∧ Keeps N w w' :=
  (sync_any bb N B w h).mono fun e w' ⟨h1, h2, h3⟩ => ⟨h1, h2, hg.synced h2.isOk, h3⟩
theorem g_mount {N : Nat → Prop} {B : BookS} {size n S k db eb : Nat} (hk : k ≤ 10000) (hS : n = min 2048 (S - 2 - size)) (w : World) (hN : ¬ N eb) (hD : DiskI w eb N B.disk) (hg : GdS B size n S k db) (ho : B.opn = none) :
    Calls Tryz.prog 13 #[.pointer (some ⟨eb, 0, none⟩), .int .i64 (size : Int)] w fun e w' => (∃ bb, e = .returned (.tuple #[.pointer (some ⟨bb, 0, none⟩), .nilIface]) ∧ w.heap.size ≤ bb ∧ BookI w' bb N (B.moved eb).homed ∧ GdS (B.moved eb).homed size n S (k + 1) eb) ∧ Keeps N w w' := by
  have hm := hg.moved eb
  have hh := mount_any eb N (B.moved eb) w hm.ok ho (by show B.n = min 2048 (B.disk.firm.length - 2 - B.size); rw [hg.n, hg.len, hg.size]; exact hS) (by have := hg.lim.gen; show B.gen < _; omega) hm.logged (fun k hk => by cases hk; rfl) hN hD
  rw [show (B.moved eb).size = size from hg.size] at hh
  refine hh.mono ?_
  rintro e w' ⟨⟨bb, h1, h2, h3⟩, h4⟩
  exact ⟨⟨bb, h1, h2, h3, hm.homed h3.isOk hk⟩, h4⟩
theorem BookS.moved_base (B : BookS) (eb i : Nat) : (B.moved eb).base i = B.base i := rfl
theorem g_mount_base {B : BookS} {size n S k db : Nat} (hg : GdS B size n S k db) (eb i : Nat) (hi : i < n) : (B.moved eb).homed.base i = B.base i := by
  rw [BookS.homed_base (hg.moved eb).ok i (by rw [(hg.moved eb).n]; exact hi), BookS.moved_base]
theorem BookS.base_view {B : BookS} (h : B.opn = none) (i : Nat) : B.view i = B.base i := by
  unfold BookS.view BookS.base
  rw [h]; rfl
theorem newB_ok (size n S : Nat) (hs : 96 ≤ size ∧ size ≤ 4096) (hn : 1 ≤ n ∧ n ≤ 2048) (hS : 2 + size + n ≤ S) (h4 : S ≤ 4096) (db : Nat) : GdS ((newB size n ⟨List.replicate S (zer 64), []⟩).moved db) size n S 0 db := by
  have h0 : (0 : Int) ≤ 0 ∧ (0 : Int) < 4611686018427387904 := by decide
  have hd : DiskS.ok ⟨List.replicate S (zer 64), []⟩ := ⟨by rw [List.length_replicate]; omega, fun p hp => by rw [(List.mem_replicate.1 hp).2]; exact zer_pg, (fun x hx => by cases hx), Nat.zero_le _⟩
  exact ⟨⟨hs, hn, by show _ ≤ (List.replicate S (zer 64)).length; rw [List.length_replicate]; exact hS, h0, PgMap.none _, (fun f hf => by cases hf), by show 0 < size; omega, h0, ⟨rfl, zer_u8 32⟩, Nat.zero_le _, hd⟩, newB_logged size n _ (by omega) (fun i hi => zero_view S i (by omega)), ⟨Nat.zero_le _, by show (0 : Int) ≤ _; decide, by show (0 : Int) ≤ _; decide⟩, rfl, rfl, List.length_replicate, rfl⟩
open Go.RowKit Go.Maps
theorem page_eql_g2 {ops : Array Oper} {rest : List Oper} {o : Oper} {a : Act} {w : World} {Q : Exit → Act → World → Prop} (hw : Region.wanted o (yielded ops a.tmps) = true) (x y : Operand) (t2 : TypeId) (ho : o.op = .binOp .eql 37 x y t2) (p q : List Int) (hx : a.eval x = .agg (v8a p)) (hy : a.eval y = .agg (v8a q)) (hp : p.length = 64) (hq : q.length = 64)
    (h : wpList Tryz.prog ops Q rest (a.put o.dst (.bool (decide (p = q)))) w) : wpList Tryz.prog ops Q (o :: rest) a w := by
  refine wpList_step fun K hK => ?_
  rw [if_pos hw]
  unfold Oper.wp execOp
  simp only [ho, hx, hy, Sem.run_bind, run_eqGuard_agg w .eql _ x y (v8a p) (v8a q) guard_pg, pg_eql w p q hp hq, Result.andThen_ok]
  exact hK _ _ h
def fr (size n S db : Nat) : BookS := (((newB size n ⟨List.replicate S (zer 64), []⟩).moved db).moved db).homed
theorem fr_opn (size n S db : Nat) : (fr size n S db).opn = none := rfl
theorem fr_cache (size n S db : Nat) : (fr size n S db).disk.cache = [] := rfl
theorem fr_base (size n S db : Nat) (hs : 96 ≤ size ∧ size ≤ 4096) (hn : 1 ≤ n ∧ n ≤ 2048) (hS : 2 + size + n ≤ S) (h4 : S ≤ 4096) (i : Nat) (hi : i < n) : (fr size n S db).base i = zer 64 := by
  have h := g_mount_base (newB_ok size n S hs hn hS h4 db) db i hi
  show (((newB size n ⟨List.replicate S (zer 64), []⟩).moved db).moved db).homed.base i = _
  rw [h]
  show (DiskS.mk (List.replicate S (zer 64)) []).view (2 + size + i) = _
  exact zero_view S _ (by omega)
theorem fr_view (size n S db : Nat) (hs : 96 ≤ size ∧ size ≤ 4096) (hn : 1 ≤ n ∧ n ≤ 2048) (hS : 2 + size + n ≤ S) (h4 : S ≤ 4096) (i : Nat) (hi : i < n) : (fr size n S db).view i = zer 64 := by
  rw [BookS.base_view (fr_opn _ _ _ _), fr_base size n S db hs hn hS h4 i hi]
theorem g_fresh (size n S db : Nat) (hs : 96 ≤ size ∧ size ≤ 4096) (hn : 1 ≤ n ∧ n ≤ 2048) (hS : 2 + size + n ≤ S) (h4 : S ≤ 4096) (hmin : n = min 2048 (S - 2 - size)) (N : Nat → Prop) (w : World) (hN : ¬ N db) (hD : DiskI w db N ⟨List.replicate S (zer 64), []⟩) :
    Calls Tryz.prog 13 #[.pointer (some ⟨db, 0, none⟩), .int .i64 (size : Int)] w fun e w' => (∃ bb, e = .returned (.tuple #[.pointer (some ⟨bb, 0, none⟩), .nilIface]) ∧ w.heap.size ≤ bb ∧ BookI w' bb N (fr size n S db) ∧ GdS (fr size n S db) size n S 1 db) ∧ Keeps N w w' :=
  g_mount (B := (newB size n ⟨List.replicate S (zer 64), []⟩).moved db) (by decide) hmin w hN hD (newB_ok size n S hs hn hS h4 db) rfl
end Go.Proofs.YtajmcplanlibnaaGreatDoor
