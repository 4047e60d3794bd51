/- A disk behind a crash; a book is flushed; what waits is counted. -/
import Derived.Test.YtajmcplanlibnaaGreatDoorKB5
import Derived.Test.YtajmcplanlibnaaGreatDoorKB6
import Derived.Test.YtajmcplanlibnaaGreatDoorKS2
import Derived.Test.YtajmcplanlibnaaGreatDoorKV8
set_option linter.unusedSimpArgs false
set_option linter.unusedVariables false
set_option linter.unnecessarySimpa false
namespace Go.Proofs.YtajmcplanlibnaaGreatDoor
open Go.RowKit Go.Maps
set_option maxRecDepth 100000 in
set_option maxHeartbeats 1000000 in
theorem sync_any (bb : Nat) (N : Nat → Prop) (B : BookS) (w : World) (h : BookI w bb N B) :
    Calls Tryz.prog 33 #[.pointer (some ⟨bb, 0, none⟩)] w fun e w' => e = .returned .nilIface ∧ BookI w' bb N B.synced ∧ Keeps N w w' := by
  obtain ⟨db, rb, nb, ov, hX⟩ := h
  have HX := Lib.hid hX
  obtain ⟨z0, z1, z2, z3, z4, z5, z6, z7, y4, y6⟩ := book_cells hX.cells
  clear hX
  go_enter Tryz.func33, Tryz.ntmps33
  go_wp2_with fail
  refine (diskFlush_any db _ B.disk w HX.out.disk).mono ?_
  rintro e w1 ⟨rfl, hd, hk⟩
  try dsimp only
  go_wp2_with fail
  go_ret
  exact ⟨rfl, ⟨db, rb, nb, ov, HX.out.disked _ hk hd (by show (flushF B.disk.firm B.disk.cache).length = _; rw [flushF_length])⟩, hk.mono (fun k _ hk => .inl hk)⟩
set_option maxRecDepth 100000 in
set_option maxHeartbeats 1000000 in
theorem pending_any (db : Nat) (N : Nat → Prop) (d : DiskS) (w : World) (h : DiskI w db N d) :
    Calls Tryz.prog 16 #[.pointer (some ⟨db, 0, none⟩)] w fun e w' => e = .returned (.int .i64 (d.cache.length : Int)) ∧ w = w' := by
  obtain ⟨fb, cv, lb, c, ⟨fc, hfc, h1⟩, h2, h3, _⟩ := h
  obtain ⟨ac, cc, rfl⟩ := own_slice h3
  obtain ⟨z0, z1, z2, z3, z4, _⟩ := blk5 h1
  clear h1 h2 h3
  go_enter Tryz.func16, Tryz.ntmps16
  go_wp2_with fail
  go_ret
  exact ⟨rfl, rfl⟩
set_option maxRecDepth 100000 in
set_option maxHeartbeats 4000000 in
theorem crash_nil (db : Nat) (N : Nat → Prop) (d : DiskS) (hc : d.cache = []) (w : World) (h : DiskI w db N d) :
    Calls Tryz.prog 23 #[.pointer (some ⟨db, 0, none⟩), .slice none 0 0] w fun e w' => (∃ eb, e = .returned (.pointer (some ⟨eb, 0, none⟩)) ∧ w.heap.size ≤ eb ∧ DiskI w' eb (fun k => k < w.heap.size) ⟨d.firm, []⟩) ∧ Below w.heap.size w w' := by
  have HOK := Lib.hid h.isOk
  obtain ⟨fb, cv, lb, c, ⟨fc, hfc, h1⟩, ⟨rest, h2⟩, h3, _⟩ := h
  obtain ⟨ac, cc, rfl⟩ := own_slice h3
  rw [hc] at h1
  have H1 := Lib.hid h1
  have H2 := Lib.hid h2
  obtain ⟨z0, z1, z2, z3, z4, _⟩ := blk5 h1
  clear h1 h2 h3
  have HSRC : Hid (∀ wx, Below w.heap.size w wx → SrcIs wx (.slice (some ⟨fb, 0, none⟩) d.firm.length fc) d.firm.length 64 (v8 d.firm.flatten)) := Lib.hid (fun wx hb => .inr ⟨⟨fb, 0, none⟩, fc, rfl, by rw [v8_length, flat64 _ HOK.out.2.1]; omega, fun j v hj => by
    have ea : (⟨fb, 0, none⟩ : Addr).add j = ⟨fb, j, none⟩ := by unfold Addr.add; split <;> simp_all
    rw [ea, cell_of_row wx fb j _ _ (0, 0) ((hb.block _ (lt_of_blk H2.out)).trans H2.out), List.getElem?_toArray, List.getElem?_append_left (List.getElem?_eq_some_iff.1 hj).1]
    exact hj, v8_one _⟩)
  have hfl := HOK.out.1
  have hmb : ∀ wx : World, (Instr.makeSlice 176 (.int .i64 0) (.int .i64 0)).run Tryz.prog wx = .ok (.slice (some ⟨wx.heap.size, 0, none⟩) 0 0) (wx.alloc (.cells #[] 4)) := fun _ => by kernel_rfl
  have hmm : ∀ wx : World, (Instr.makeMap 138 none).run Tryz.prog wx = .ok (.map (some wx.heap.size)) (wx.alloc (.map #[] 0)) := fun _ => by kernel_rfl
  obtain ⟨ip, hip, hpz0, hpz1, hpz2⟩ := info_parts info_pg
  go_enter Tryz.func23, Tryz.ntmps23
  go_upto_region 4 with fail
  refine gen_code (fun wx => Hid (Below w.heap.size w wx)) (Lib.hid ((Below.refl _ _).alloc (Nat.le_refl _) _)) ?_
  clear z0 z1 z2 z3 z4 hmb
  intro w0 HB0
  obtain ⟨z0, z1, z2, z3, z4, _⟩ := blk5 ((HB0.out.block _ (lt_of_blk H1.out)).trans H1.out)
  have hs0 := HB0.out.size
  go_wp2_with fail
  refine wp_loop_once ?_
  go_upto_region 10 with fail
  repeat ((fail_if_success (with_reducible refine stop_at 41 rfl ?_)); (first | go_values | go_skip | go_guarded | go_step | go_upon))
  refine step_append_list rfl (.const (.slice none 0 0)) (.tmp 40) 52 rfl w.heap.size 37 ip _ 64 64 Tryz.underlying52 hip hpz0 hpz1 hpz2 rfl (by decide) (.slice none 0 0) 0 [] rfl ?c0 (.slice (some ⟨fb, 0, none⟩) d.firm.length fc) d.firm.length (v8 d.firm.flatten) rfl ?c4 ?c1 ?c2 ?c3 ?_
  case c0 => exact World.ownsRow_nil _ _ _ _
  case c4 => exact HSRC.out _ HB0.out
  case c1 => unfold maxLen; omega
  case c2 => omega
  case c3 => exact hs0
  intro v1 w1 ho1 hg1
  have hb1 : Below w.heap.size w w1 := HB0.out.grown hg1 hs0 (fun k hk => by simp [Value.ownBlock] at hk)
  have ho1' := ho1
  rcases ho1.2 with ⟨hv, hn⟩ | ⟨g, cap, cur, hv, hgb, hgk, hn, hm, hs, ht⟩
  · omega
  subst hv
  rw [List.nil_append, Nat.zero_add] at ht
  rw [Nat.zero_add] at hn
  have hrest : ∃ rest : List Value, cur = (v8 d.firm.flatten ++ rest).toArray := ⟨cur.toList.drop (d.firm.length * 64), by
    apply Array.ext'
    rw [← ht]
    simp⟩
  obtain ⟨rst, hcur⟩ := hrest
  subst hcur
  have HG := Lib.hid hgk
  have HB1 := Lib.hid hb1
  have hgl := lt_of_blk hgk
  clear ho1 ho1' hg1 hgk hb1 hm hs ht HSRC z0 z1 z2 z3 z4
  have hs1 := HB1.out.size
  obtain ⟨z0, z1, z2, z3, z4, _⟩ := blk5 ((HB1.out.block _ (lt_of_blk H1.out)).trans H1.out)
  rw [Nat.zero_add]
  go_upto_region 11 with fail
  have hm1 := heap_alloc_new w1 (.map #[] 0)
  have hq : MapIs Tryz.prog 3 (w1.alloc (.map #[] 0)) w1.heap.size 0 (fun _ => none) := mapIs_made Tryz.prog 3 w1
  have hdk : ((w1.alloc (.map #[] 0)).alloc (.cells #[.slice (some ⟨g, 0, none⟩) d.firm.length cap, .slice none 0 0, .map (some w1.heap.size), .int .i64 (-1), .bool false] 141)).heap[w1.heap.size + 1]? = some (.cells #[.slice (some ⟨g, 0, none⟩) d.firm.length cap, .slice none 0 0, .map (some w1.heap.size), .int .i64 (-1), .bool false] 141) := by
    have h := heap_alloc_new (w1.alloc (.map #[] 0)) (.cells #[.slice (some ⟨g, 0, none⟩) d.firm.length cap, .slice none 0 0, .map (some w1.heap.size), .int .i64 (-1), .bool false] 141)
    simp only [World.size_alloc] at h
    exact h
  refine gen_code (fun wx => Hid (wx.heap[w1.heap.size + 1]? = some (.cells #[.slice (some ⟨g, 0, none⟩) d.firm.length cap, .slice none 0 0, .map (some w1.heap.size), .int .i64 (-1), .bool false] 141)) ∧ Hid (MapIs Tryz.prog 3 wx w1.heap.size 0 (fun _ => none)) ∧ Hid (wx.heap[g]? = some (.cells (v8 d.firm.flatten ++ rst).toArray 37)) ∧ Hid (Below w.heap.size w wx ∧ w1.heap.size + 2 ≤ wx.heap.size)) ⟨Lib.hid hdk, Lib.hid (hq.alloc _), Lib.hid ((heap_alloc_old _ _ (by simp; omega)).trans ((heap_alloc_old _ _ hgl).trans HG.out)), Lib.hid ⟨(HB1.out.alloc hs1 _).alloc (by simp; omega) _, by simp⟩⟩ ?_
  clear hm1 hq hdk z0 z1 z2 z3 z4
  rintro w2 ⟨HD2, HM2, HG2, HB2⟩
  obtain ⟨z0, z1, z2, z3, z4, _⟩ := blk5 ((HB2.out.1.block _ (lt_of_blk H1.out)).trans H1.out)
  go_wp2_with fail
  refine wp_loop_once ?_
  go_wp2_with fail
  go_ret
  refine ⟨⟨w1.heap.size + 1, rfl, by omega, g, .slice none 0 0, w1.heap.size, 0, ⟨cap, hn, HD2.out⟩, ⟨rst, HG2.out⟩, World.ownsRow_nil _ _ _ _, by rw [lastL_nil]; exact HM2.out, Nat.zero_le _, by omega, by omega, by omega, fun k hk => by simp [Value.ownBlock] at hk, fun i hi => by have := HB2.out.1.size; omega, ⟨HOK.out.1, HOK.out.2.1, (fun x hx => by cases hx), Nat.zero_le _⟩⟩, HB2.out.1⟩
end Go.Proofs.YtajmcplanlibnaaGreatDoor
set_option linter.unnecessarySimpa false
namespace Go.Proofs.YtajmcplanlibnaaGreatDoor
open Go.RowKit Go.Maps
/-- A book in order, far from its bounds. -/
structure GdS (B : BookS) (size n S k db : Nat) : Prop where
  ok : B.ok
  logged : B.logged
  lim : B.lim k
  size : B.size = size
  n : B.n = n
  len : B.disk.firm.length = S
  db : B.db = some db
/-- Its disk, by name. -/
theorem BookI.disk_at {w : World} {bb db : Nat} {N : Nat → Prop} {B : BookS} (h : BookI w bb N B) (hd : B.db = some db) : ∃ N', DiskI w db N' B.disk := by
  obtain ⟨db', rb, nb, ov, hX⟩ := h
  have := hX.dbs db hd
  subst this
  exact ⟨_, hX.disk⟩
theorem GdS.same {B B' : BookS} {size n S k db : Nat} (h : GdS B size n S k db) (hok : B'.ok) (hs : B'.shut = B.shut) : GdS B' size n S k db := by
  have e1 : B'.size = B.size := (congrArg BookS.size hs : B'.shut.size = B.shut.size)
  have e2 : B'.n = B.n := (congrArg BookS.n hs : B'.shut.n = B.shut.n)
  have e3 : B'.disk = B.disk := (congrArg BookS.disk hs : B'.shut.disk = B.shut.disk)
  have e4 : B'.db = B.db := (congrArg BookS.db hs : B'.shut.db = B.shut.db)
  have e5 : B'.gen = B.gen := (congrArg BookS.gen hs : B'.shut.gen = B.shut.gen)
  have e6 : B'.pl = B.pl := (congrArg BookS.pl hs : B'.shut.pl = B.shut.pl)
  have e7 : B'.num = B.num := (congrArg BookS.num hs : B'.shut.num = B.shut.num)
  have e8 : B'.last = B.last := (congrArg BookS.last hs : B'.shut.last = B.shut.last)
  have e9 : B'.used = B.used := (congrArg BookS.used hs : B'.shut.used = B.shut.used)
  have e10 : B'.news = B.news := (congrArg BookS.news hs : B'.shut.news = B.shut.news)
  have hl := h.logged
  unfold BookS.logged at hl
  rw [← e1, ← e2, ← e3, ← e5, ← e6, ← e7, ← e8, ← e9, ← e10] at hl
  exact ⟨hok, hl, h.lim.same hs, by rw [e1]; exact h.size, by rw [e2]; exact h.n, by rw [e3]; exact h.len, by rw [e4]; exact h.db⟩
theorem GdS.wrote {B : BookS} {size n S k db : Nat} (h : GdS B size n S k db) (i : Nat) (p : List Int) (hok : (B.wrote i p).ok) : GdS (B.wrote i p) size n S k db := h.same hok (BookS.wrote_shut B i p)
theorem BookS.added_db (B : BookS) (L : List (Nat × List Int)) : (B.added L).db = B.db := rfl
theorem BookS.done_fix (B : BookS) : B.done.size = B.size ∧ B.done.db = B.db := by
  unfold BookS.done
  split
  · exact ⟨rfl, rfl⟩
  · split <;> exact ⟨rfl, rfl⟩
theorem BookS.homed_len {B : BookS} : B.homed.disk.firm.length = B.disk.firm.length := by
  show ((flushF (flushF B.disk.firm B.disk.cache) (newsC B)).set _ _).length = _
  rw [List.length_set, flushF_length, flushF_length]
theorem BookS.done_len (B : BookS) : B.done.disk.firm.length = B.disk.firm.length := by
  unfold BookS.done
  split
  · rfl
  · split
    · rfl
    · show B.shut.homed.disk.firm.length = _
      rw [BookS.homed_len]; rfl
theorem GdS.done {B : BookS} {size n S k db : Nat} (h : GdS B size n S k db) (hok : B.done.ok) (hk : k ≤ 10000) (hc : B.cnt ≤ 60) (ht : ∀ i p, B.f i = some p → i < 256 ∧ Tame p) : GdS B.done size n S (k + 1) db :=
  ⟨hok, BookS.logged_done h.ok (by have := h.lim.gen; omega) h.logged hc ht, h.lim.done hc, by rw [(BookS.done_fix B).1]; exact h.size, by rw [BookS.done_n]; exact h.n, by rw [BookS.done_len]; exact h.len, by rw [(BookS.done_fix B).2]; exact h.db⟩
theorem GdS.synced {B : BookS} {size n S k db : Nat} (h : GdS B size n S k db) (hok : B.synced.ok) : GdS B.synced size n S k db :=
  ⟨hok, BookS.logged_synced h.ok h.logged, ⟨Nat.zero_le _, h.lim.gen, h.lim.num⟩, h.size, h.n, by
    show (flushF B.disk.firm B.disk.cache).length = S
    rw [flushF_length]; exact h.len, h.db⟩
/-- A book on another disk that is the same. -/
def BookS.moved (B : BookS) (eb : Nat) : BookS := { B with db := some eb }
theorem GdS.moved {B : BookS} {size n S k db : Nat} (h : GdS B size n S k db) (eb : Nat) : GdS (B.moved eb) size n S k eb := by
  obtain ⟨⟨o1, o2, o3, o4, o5, o6, o7, o8, o9, o10, o11⟩, h2, ⟨l1, l2, l3⟩, h4, h5, h6, h7⟩ := h
  exact ⟨⟨o1, o2, o3, o4, o5, o6, o7, o8, o9, o10, o11⟩, h2, ⟨l1, l2, l3⟩, h4, h5, h6, rfl⟩
theorem GdS.homed {B : BookS} {size n S k db : Nat} (h : GdS B size n S k db) (hok : B.homed.ok) (hk : k ≤ 10000) : GdS B.homed size n S (k + 1) db :=
  ⟨hok, BookS.logged_homed h.ok (by have := h.lim.gen; omega) h.logged, ⟨Nat.zero_le _, by have := h.lim.gen; show B.gen + 1 ≤ _; push_cast; omega, by have := h.lim.num; show B.num ≤ _; push_cast; omega⟩, h.size, h.n, by rw [BookS.homed_len]; exact h.len, h.db⟩
theorem g_commitT {bb : Nat} {N : Nat → Prop} {B : BookS} {size n S k db : Nat} (hk : k ≤ 10000) (hc : B.cnt ≤ 60) (ht : ∀ i p, B.f i = some p → i < 256 ∧ Tame p) (w : World) (h : BookI w bb N B) (hg : GdS B size n S k db) :
    Calls Tryz.prog 17 #[.pointer (some ⟨bb, 0, none⟩)] w fun e w' => e = .returned .nilIface ∧ BookI w' bb N B.done ∧ GdS B.done size n S (k + 1) db ∧ Keeps N w w' :=
  (commit_any bb N B k hg.lim hk hc w h).mono fun e w' ⟨h1, h2, h3⟩ => ⟨h1, h2, hg.done h2.isOk hk hc ht, h3⟩
theorem g_commit {bb : Nat} {N : Nat → Prop} {B : BookS} {size n S k db : Nat} (hk : k ≤ 10000) (hn : n ≤ 256) (hc : B.cnt ≤ 60) (ht : ∀ i p, B.f i = some p → Tame p) (w : World) (h : BookI w bb N B) (hg : GdS B size n S k db) :
    Calls Tryz.prog 17 #[.pointer (some ⟨bb, 0, none⟩)] w fun e w' => e = .returned .nilIface ∧ BookI w' bb N B.done ∧ GdS B.done size n S (k + 1) db ∧ Keeps N w w' :=
  g_commitT hk hc (fun i p hp => ⟨by have := (BookS.f_map hg.ok i p hp).1; rw [hg.n] at this; omega, ht i p hp⟩) w h hg
theorem g_sync {bb : Nat} {N : Nat → Prop} {B : BookS} {size n S k db : Nat} (w : World) (h : BookI w bb N B) (hg : GdS B size n S k db) :
    Calls Tryz.prog 33 #[.pointer (some ⟨bb, 0, none⟩)] w fun e w' => e = .returned .nilIface ∧ BookI w' bb N B.synced ∧ GdS B.synced size n S k db ∧ Keeps N w w' :=
  (sync_any bb N B w h).mono fun e w' ⟨h1, h2, h3⟩ => ⟨h1, h2, hg.synced h2.isOk, h3⟩
theorem g_crash {bb : Nat} {N : Nat → Prop} {B : BookS} {size n S k db : Nat} (w : World) (h : BookI w bb N B) (hg : GdS B size n S k db) (hc : B.disk.cache = []) :
    Calls Tryz.prog 23 #[.pointer (some ⟨db, 0, none⟩), .slice none 0 0] w fun e w' => (∃ eb, e = .returned (.pointer (some ⟨eb, 0, none⟩)) ∧ w.heap.size ≤ eb ∧ DiskI w' eb (fun k => k < w.heap.size) B.disk) ∧ Below w.heap.size w w' := by
  obtain ⟨N', hD⟩ := h.disk_at hg.db
  refine (crash_nil db N' B.disk hc w hD).mono ?_
  rintro e w' ⟨⟨eb, h1, h2, h3⟩, h4⟩
  have e : (⟨B.disk.firm, []⟩ : DiskS) = B.disk := by rw [← hc]
  rw [e] at h3
  exact ⟨⟨eb, h1, h2, h3⟩, h4⟩
theorem g_mount {N : Nat → Prop} {B : BookS} {size n S k db eb : Nat} (hk : k ≤ 10000) (hS : n = min 2048 (S - 2 - size)) (w : World) (hN : ¬ N eb) (hD : DiskI w eb N B.disk) (hg : GdS B size n S k db) (ho : B.opn = none) :
    Calls Tryz.prog 13 #[.pointer (some ⟨eb, 0, none⟩), .int .i64 (size : Int)] w fun e w' => (∃ bb, e = .returned (.tuple #[.pointer (some ⟨bb, 0, none⟩), .nilIface]) ∧ w.heap.size ≤ bb ∧ BookI w' bb N (B.moved eb).homed ∧ GdS (B.moved eb).homed size n S (k + 1) eb) ∧ Keeps N w w' := by
  have hm := hg.moved eb
  have hh := mount_any eb N (B.moved eb) w hm.ok ho (by show B.n = min 2048 (B.disk.firm.length - 2 - B.size); rw [hg.n, hg.len, hg.size]; exact hS) (by have := hg.lim.gen; show B.gen < _; omega) hm.logged (fun k hk => by cases hk; rfl) hN hD
  rw [show (B.moved eb).size = size from hg.size] at hh
  refine hh.mono ?_
  rintro e w' ⟨⟨bb, h1, h2, h3⟩, h4⟩
  exact ⟨⟨bb, h1, h2, h3, hm.homed h3.isOk hk⟩, h4⟩
theorem BookS.moved_base (B : BookS) (eb i : Nat) : (B.moved eb).base i = B.base i := rfl
theorem g_mount_base {B : BookS} {size n S k db : Nat} (hg : GdS B size n S k db) (eb i : Nat) (hi : i < n) : (B.moved eb).homed.base i = B.base i := by
  rw [BookS.homed_base (hg.moved eb).ok i (by rw [(hg.moved eb).n]; exact hi), BookS.moved_base]
theorem BookS.homed_opn (B : BookS) : B.homed.opn = B.opn := rfl
theorem BookS.base_view {B : BookS} (h : B.opn = none) (i : Nat) : B.view i = B.base i := by
  unfold BookS.view BookS.base
  rw [h]; rfl
theorem newB_ok (size n S : Nat) (hs : 96 ≤ size ∧ size ≤ 4096) (hn : 1 ≤ n ∧ n ≤ 2048) (hS : 2 + size + n ≤ S) (h4 : S ≤ 4096) (db : Nat) : GdS ((newB size n ⟨List.replicate S (zer 64), []⟩).moved db) size n S 0 db := by
  have h0 : (0 : Int) ≤ 0 ∧ (0 : Int) < 4611686018427387904 := by decide
  have hd : DiskS.ok ⟨List.replicate S (zer 64), []⟩ := ⟨by rw [List.length_replicate]; omega, fun p hp => by rw [(List.mem_replicate.1 hp).2]; exact zer_pg, (fun x hx => by cases hx), Nat.zero_le _⟩
  exact ⟨⟨hs, hn, by show _ ≤ (List.replicate S (zer 64)).length; rw [List.length_replicate]; exact hS, h0, PgMap.none _, (fun f hf => by cases hf), by show 0 < size; omega, h0, ⟨rfl, zer_u8 32⟩, Nat.zero_le _, hd⟩, newB_logged size n _ (by omega) (fun i hi => zero_view S i (by omega)), ⟨Nat.zero_le _, by show (0 : Int) ≤ _; decide, by show (0 : Int) ≤ _; decide⟩, rfl, rfl, List.length_replicate, rfl⟩
end Go.Proofs.YtajmcplanlibnaaGreatDoor
set_option linter.unnecessarySimpa false
namespace Go.Proofs.YtajmcplanlibnaaGreatDoor
open Go.RowKit Go.Maps
/-- A page of some first bytes. -/
def pgU (x : Int) : List Int := x :: zer 63
theorem pgU_ok (x : Int) (h : 0 ≤ x ∧ x < 256) : PgOk (pgU x) := ⟨rfl, fun y hy => by
  rcases List.mem_cons.1 hy with rfl | hy
  · exact h
  · exact zer_u8 63 y hy⟩
theorem pgU_tame (x : Int) : Tame (pgU x) := .inr rfl
theorem pgU_inj {x y : Int} (h : pgU x = pgU y) : x = y := by
  unfold pgU at h
  exact (List.cons.inj h).1
theorem built_pgU (x : Int) : Tryz.prog.built 37 [(0, .int .u8 x)] = some (v8a (pgU x)) := by kernel_rfl
theorem page_load_g2 {ops : Array Oper} {rest : List Oper} {o : Oper} {a : Act} {w : World} {Q : Exit → Act → World → Prop} (hw : Region.wanted o (yielded ops a.tmps) = true) (x : Operand) (ho : o.op = .load 37 x) (g : Nat) (p : List Int) (hx : a.eval x = .pointer (some ⟨g, 0, none⟩)) (hg : w.heap[g]? = some (.cells (v8a p) 37)) (hp : p.length = 64)
    (h : wpList Tryz.prog ops Q rest (a.put o.dst (.agg (v8a p))) w) : wpList Tryz.prog ops Q (o :: rest) a w := by
  refine wpList_step fun K hK => ?_
  rw [if_pos hw]
  exact wp_load_mid _ x ho g 0 hx (v8 p) _ (row_range hg) Tryz.underlying37 rfl (by rw [v8_length, hp]; exact info_pgs) (hK _ _ h)
theorem build_g2 {P : Program} {ops : Array Oper} {rest : List Oper} {o : Oper} {a : Act} {w : World} {Q : Exit → Act → World → Prop} (hw : Region.wanted o (yielded ops a.tmps) = true) (t : TypeId) (parts : Array (Nat × Operand)) (ho : o.op = .build t parts)
    (cs : Array Value) (hb : P.built t (parts.map fun (i, x) => (i, a.eval x)).toList = some cs) (h : wpList P ops Q rest (a.put o.dst (.agg cs)) w) : wpList P ops Q (o :: rest) a w := by
  refine wpList_step fun K hK => ?_
  rw [if_pos hw]
  unfold Oper.wp execOp
  simp only [ho, Sem.run_bind, run_build w t _ cs hb, Result.andThen_ok]
  exact hK _ _ h
theorem page_eql_g2 {ops : Array Oper} {rest : List Oper} {o : Oper} {a : Act} {w : World} {Q : Exit → Act → World → Prop} (hw : Region.wanted o (yielded ops a.tmps) = true) (x y : Operand) (t2 : TypeId) (ho : o.op = .binOp .eql 37 x y t2) (p q : List Int) (hx : a.eval x = .agg (v8a p)) (hy : a.eval y = .agg (v8a q)) (hp : p.length = 64) (hq : q.length = 64)
    (h : wpList Tryz.prog ops Q rest (a.put o.dst (.bool (decide (p = q)))) w) : wpList Tryz.prog ops Q (o :: rest) a w := by
  refine wpList_step fun K hK => ?_
  rw [if_pos hw]
  unfold Oper.wp execOp
  simp only [ho, hx, hy, Sem.run_bind, run_eqGuard_agg w .eql _ x y (v8a p) (v8a q) guard_pg, pg_eql w p q hp hq, Result.andThen_ok]
  exact hK _ _ h
set_option maxRecDepth 100000 in
theorem num06_nil (w : World) : Calls Tryz.prog 22 #[.nilIface] w fun e w' => e = .returned (.int .i64 0) ∧ w = w' := by
  go_enter Tryz.func22, Tryz.ntmps22
  go_wp2_with fail
  go_ret
  exact ⟨rfl, rfl⟩
/-- A book just mounted on a disk of zeros. -/
def fr (size n S db : Nat) : BookS := (((newB size n ⟨List.replicate S (zer 64), []⟩).moved db).moved db).homed
theorem fr_opn (size n S db : Nat) : (fr size n S db).opn = none := rfl
theorem fr_cache (size n S db : Nat) : (fr size n S db).disk.cache = [] := rfl
theorem fr_n (size n S db : Nat) : (fr size n S db).n = n := rfl
theorem fr_cnt (size n S db : Nat) : (fr size n S db).cnt = 0 := by
  unfold BookS.cnt BookS.f
  rw [fr_opn]
  show (keysF (fun _ => none) _).length = 0
  rw [keysF_none]; rfl
theorem fr_f (size n S db i : Nat) : (fr size n S db).f i = none := by
  unfold BookS.f
  rw [fr_opn]; rfl
theorem fr_base (size n S db : Nat) (hs : 96 ≤ size ∧ size ≤ 4096) (hn : 1 ≤ n ∧ n ≤ 2048) (hS : 2 + size + n ≤ S) (h4 : S ≤ 4096) (i : Nat) (hi : i < n) : (fr size n S db).base i = zer 64 := by
  have h := g_mount_base (newB_ok size n S hs hn hS h4 db) db i hi
  show (((newB size n ⟨List.replicate S (zer 64), []⟩).moved db).moved db).homed.base i = _
  rw [h]
  show (DiskS.mk (List.replicate S (zer 64)) []).view (2 + size + i) = _
  exact zero_view S _ (by omega)
theorem fr_view (size n S db : Nat) (hs : 96 ≤ size ∧ size ≤ 4096) (hn : 1 ≤ n ∧ n ≤ 2048) (hS : 2 + size + n ≤ S) (h4 : S ≤ 4096) (i : Nat) (hi : i < n) : (fr size n S db).view i = zer 64 := by
  rw [BookS.base_view (fr_opn _ _ _ _), fr_base size n S db hs hn hS h4 i hi]
theorem g_fresh (size n S db : Nat) (hs : 96 ≤ size ∧ size ≤ 4096) (hn : 1 ≤ n ∧ n ≤ 2048) (hS : 2 + size + n ≤ S) (h4 : S ≤ 4096) (hmin : n = min 2048 (S - 2 - size)) (N : Nat → Prop) (w : World) (hN : ¬ N db) (hD : DiskI w db N ⟨List.replicate S (zer 64), []⟩) :
    Calls Tryz.prog 13 #[.pointer (some ⟨db, 0, none⟩), .int .i64 (size : Int)] w fun e w' => (∃ bb, e = .returned (.tuple #[.pointer (some ⟨bb, 0, none⟩), .nilIface]) ∧ w.heap.size ≤ bb ∧ BookI w' bb N (fr size n S db) ∧ GdS (fr size n S db) size n S 1 db) ∧ Keeps N w w' :=
  g_mount (B := (newB size n ⟨List.replicate S (zer 64), []⟩).moved db) (by decide) hmin w hN hD (newB_ok size n S hs hn hS h4 db) rfl
noncomputable def st2 (db : Nat) : BookS := (fr 96 22 120 db).wrote 5 (pgU 7)
noncomputable def st3 (db : Nat) : BookS := (st2 db).wrote 6 (pgU 8)
theorem st2_n (db : Nat) : (st2 db).n = 22 := BookS.wrote_n _ _ _
theorem st3_n (db : Nat) : (st3 db).n = 22 := (BookS.wrote_n _ _ _).trans (st2_n db)
theorem st2_cnt (db : Nat) : (st2 db).cnt ≤ 1 := by
  have := BookS.wrote_cnt (fr 96 22 120 db) 5 (pgU 7) (by rw [fr_n]; decide)
  rw [fr_cnt] at this
  exact this
theorem st3_cnt (db : Nat) : (st3 db).cnt ≤ 2 := by
  have := BookS.wrote_cnt (st2 db) 6 (pgU 8) (by rw [st2_n]; decide)
  have := st2_cnt db
  unfold st3; omega
theorem st3_tame (db : Nat) : ∀ i p, (st3 db).f i = some p → Tame p := fun i p h => by
  rcases BookS.wrote_f (st2 db) 6 (pgU 8) i with h1 | ⟨_, h1⟩
  · have h : ((st2 db).wrote 6 (pgU 8)).f i = some p := h
    rw [h1] at h
    rcases BookS.wrote_f (fr 96 22 120 db) 5 (pgU 7) i with h2 | ⟨_, h2⟩
    · have h : ((fr 96 22 120 db).wrote 5 (pgU 7)).f i = some p := h
      rw [h2, fr_f] at h; cases h
    · have h : ((fr 96 22 120 db).wrote 5 (pgU 7)).f i = some p := h
      rw [h2] at h; cases h; exact pgU_tame 7
  · have h : ((st2 db).wrote 6 (pgU 8)).f i = some p := h
    rw [h1] at h; cases h; exact pgU_tame 8
theorem st3_view (db : Nat) : (st3 db).view 5 = pgU 7 ∧ (st3 db).view 6 = pgU 8 := by
  have h1 := BookS.wrote_view (st2 db) 6 (pgU 8)
  have h2 := BookS.wrote_view (fr 96 22 120 db) 5 (pgU 7)
  constructor
  · exact (h1 5).trans ((if_neg (by decide)).trans ((h2 5).trans (if_pos rfl)))
  · exact (h1 6).trans (if_pos rfl)
noncomputable def st5 (db : Nat) : BookS := (st3 db).done.synced
noncomputable def st6 (db eb : Nat) : BookS := ((st5 db).moved eb).homed
theorem st5_opn (db : Nat) : (st5 db).opn = none := BookS.done_opn _
theorem st6_opn (db eb : Nat) : (st6 db eb).opn = none := st5_opn db
theorem st5_cache (db : Nat) : (st5 db).disk.cache = [] := rfl
theorem st6_view {db eb : Nat} (h3 : GdS (st3 db) 96 22 120 1 db) (hd : (st3 db).done.ok) (h5 : GdS (st5 db) 96 22 120 2 db) (i : Nat) (hi : i < 22) : (st6 db eb).view i = (st3 db).view i := by
  have e1 : (st6 db eb).view i = (st6 db eb).base i := BookS.base_view (st6_opn db eb) i
  rw [e1]
  have e2 := g_mount_base h5 eb i hi
  have e3 : (st5 db).base i = (st3 db).done.base i := BookS.synced_base (B := (st3 db).done) hd i (by rw [BookS.done_n, st3_n]; exact hi)
  exact e2.trans (e3.trans (BookS.done_base_lim h3.ok h3.lim (by decide) i (by rw [st3_n]; exact hi)))
def SbF (N : Nat → Prop) (w : World) (b10 b12 : Nat) (wx : World) : Prop := wx.heap[b10]? = some (.cells (v8a (pgU 7)) 37) ∧ wx.heap[b12]? = some (.cells (v8a (pgU 8)) 37) ∧ Keeps N w wx
set_option maxRecDepth 100000 in
set_option maxHeartbeats 4000000 in
theorem stands06_any (N : Nat → Prop) (w : World) (hN : ∀ i, N i → i < w.heap.size) :
    Calls Tryz.prog 10 #[] w fun e w' => e = .returned (.bool true) ∧ Keeps N w w' := by
  have HN := Lib.hid hN
  have hND := diskNew_any 120 (by decide) N w hN
  clear hN
  go_enter Tryz.func10, Tryz.ntmps10
  go_wp2_with fail
  refine hND.mono ?_
  clear hND
  rintro e w1 ⟨⟨db, rfl, hdb, hD⟩, hb1⟩
  have hNdb : ¬ N db := fun h => by have := HN.out db h; omega
  have hMT := g_fresh 96 22 120 db (by decide) (by decide) (by decide) (by decide) (by decide) N w1 hNdb hD
  have HK1 : Hid (Keeps N w w1) := Lib.hid (Keeps.of_below hb1)
  clear hD hb1 hNdb hdb
  try dsimp only
  go_wp2_with fail
  refine hMT.mono ?_
  clear hMT
  rintro e w2 ⟨⟨bb, rfl, hbb, hB, hG⟩, hk2⟩
  have HG := Lib.hid hG
  have HK2 : Hid (Keeps N w w2) := Lib.hid (HK1.out.trans hk2)
  have hWR := bookWrite_any bb N (fr 96 22 120 db) 5 (pgU 7) (by rw [fr_n]; decide) (pgU_ok 7 (by decide)) (.inr (.inr (by show (fr 96 22 120 db).cnt ≠ 60; rw [fr_cnt]; decide))) w2 hB
  clear hB hk2 HK1 hG hbb
  try dsimp only
  go_wp2_with (refine wpList_build_to rfl 37 _ rfl (v8a (pgU 7)) (built_pgU 7) ?_)
  refine hWR.mono ?_
  clear hWR
  rintro e w3 ⟨rfl, hB3, hk3⟩
  have HK3 : Hid (Keeps N w w3) := Lib.hid (HK2.out.trans hk3)
  have HG3 := Lib.hid (HG.out.wrote 5 (pgU 7) hB3.isOk)
  have hWR := bookWrite_any bb N (st2 db) 6 (pgU 8) (by rw [st2_n]; decide) (pgU_ok 8 (by decide)) (.inr (.inr (by show (st2 db).cnt ≠ 60; have := st2_cnt db; omega))) w3 hB3
  clear hB3 hk3 HK2 HG
  try dsimp only
  go_wp2_with (refine wpList_build_to rfl 37 _ rfl (v8a (pgU 8)) (built_pgU 8) ?_)
  refine hWR.mono ?_
  clear hWR
  rintro e w4 ⟨rfl, hB4, hk4⟩
  have HK4 : Hid (Keeps N w w4) := Lib.hid (HK3.out.trans hk4)
  have HG4 : Hid (GdS (st3 db) 96 22 120 1 db) := Lib.hid (HG3.out.wrote 6 (pgU 8) hB4.isOk)
  have hCM := g_commit (B := st3 db) (by decide) (by decide) (by have := st3_cnt db; omega) (st3_tame db) w4 hB4 HG4.out
  clear hB4 hk4 HK3 HG3
  try dsimp only
  go_wp2_with fail
  refine hCM.mono ?_
  clear hCM
  rintro e w5 ⟨rfl, hB5, hG5, hk5⟩
  have HK5 : Hid (Keeps N w w5) := Lib.hid (HK4.out.trans hk5)
  have hSY := g_sync w5 hB5 hG5
  have HDO := Lib.hid hG5.ok
  clear hB5 hk5 hG5 HK4
  try dsimp only
  go_wp2_with fail
  refine hSY.mono ?_
  clear hSY
  rintro e w6 ⟨rfl, hB6, hG6, hk6⟩
  have HK6 : Hid (Keeps N w w6) := Lib.hid (HK5.out.trans hk6)
  have HG6 : Hid (GdS (st5 db) 96 22 120 2 db) := Lib.hid hG6
  have hNlt : ∀ k, N k → k < w6.heap.size := fun k hk => Nat.lt_of_lt_of_le (HN.out k hk) HK6.out.size
  have hCR := g_crash w6 hB6 hG6 (st5_cache db)
  clear hB6 hk6 hG6 HK5
  try dsimp only
  go_wp2_with fail
  refine hCR.mono ?_
  clear hCR
  rintro e w7 ⟨⟨eb, rfl, heb, hD7⟩, hb7⟩
  have hNeb : ¬ N eb := fun h => by have := hNlt eb h; omega
  have hMT := g_mount (N := N) (n := 22) (by decide) (by decide) w7 hNeb (hD7.keep (Below.refl _ _) (fun k hk => ⟨Nat.lt_of_lt_of_le (hNlt k hk) hb7.size, .inl (hNlt k hk)⟩)) HG6.out (st5_opn db)
  have HK7 : Hid (Keeps N w w7) := Lib.hid (HK6.out.trans (Keeps.of_below hb7))
  clear hD7 hb7 hNeb hNlt heb HK6
  try dsimp only
  go_wp2_with fail
  refine hMT.mono ?_
  clear hMT
  rintro e w8 ⟨⟨cb, rfl, hcb, hB8, hG8⟩, hk8⟩
  have HK8 : Hid (Keeps N w w8) := Lib.hid (HK7.out.trans hk8)
  have HB8 := Lib.hid hB8
  have hn8 : (st6 db eb).n = 22 := hG8.n
  have v5 : (st6 db eb).view 5 = pgU 7 := (st6_view HG4.out HDO.out HG6.out 5 (by decide)).trans (st3_view db).1
  have v6 : (st6 db eb).view 6 = pgU 8 := (st6_view HG4.out HDO.out HG6.out 6 (by decide)).trans (st3_view db).2
  have hRD := bookRead_any cb N (st6 db eb) 5 (by rw [hn8]; decide) w8 hB8
  rw [v5] at hRD
  have HR6 := Lib.hid (fun wx (hx : BookI wx cb N (st6 db eb)) => (by have h := bookRead_any cb N (st6 db eb) 6 (by rw [hn8]; decide) wx hx; rw [v6] at h; exact h : Calls Tryz.prog 19 #[.pointer (some ⟨cb, 0, none⟩), .int .i64 ((6 : Nat) : Int)] wx fun e w' => e = .returned (.tuple #[.agg (v8a (pgU 8)), .nilIface]) ∧ Below wx.heap.size wx w'))
  have HPG := Lib.hid (fun wx (hx : BookI wx cb N (st6 db eb)) => (by have h := bookPages_any cb N (st6 db eb) wx hx; rw [hn8] at h; exact h : Calls Tryz.prog 18 #[.pointer (some ⟨cb, 0, none⟩)] wx fun e w' => e = .returned (.int .i64 ((22 : Nat) : Int)) ∧ wx = w'))
  clear hB8 hk8 hG8 HK7 HG4 HG6 v5 v6 hn8 hcb
  try dsimp only
  go_wp2_with fail
  refine hRD.mono ?_
  clear hRD
  rintro e w9 ⟨rfl, hb9⟩
  have HB9 := Lib.hid (HB8.out.below hb9)
  have HK9 : Hid (Keeps N w w9) := Lib.hid (HK8.out.trans (Keeps.of_below hb9))
  clear hb9 HB8 HK8
  try dsimp only
  go_upto_region 9 with (refine page_store rfl (.tmp 10) (.tmp 42) rfl w9.heap.size (pgU 7) (zer 64) rfl rfl (heap_alloc_new w9 _) rfl rfl ?_)
  have hbx : ∀ o : Obj, Below w9.heap.size w9 ((w9.alloc o).setRow w9.heap.size (v8a (pgU 7))) := fun o => below_setRow ((Below.refl _ _).alloc (Nat.le_refl _) _) (Nat.le_refl _) _
  refine gen_code (fun wx => Hid (wx.heap[w9.heap.size]? = some (.cells (v8a (pgU 7)) 37)) ∧ Hid (BookI wx cb N (st6 db eb)) ∧ Hid (Keeps N w wx)) ⟨Lib.hid (setRow_heap _ _ _ _ _ (0, 0) (heap_alloc_new w9 _)), Lib.hid (HB9.out.below (hbx _)), Lib.hid (HK9.out.trans (Keeps.of_below (hbx _)))⟩ ?_
  clear hbx HB9 HK9
  generalize w9.heap.size = b10
  clear w9
  rintro w9 ⟨HP10, HB9, HK9⟩
  try simp only [Act.put]
  go_wp2_with fail
  refine (HR6.out w9 HB9.out).mono ?_
  clear HR6
  rintro e w10 ⟨rfl, hb10⟩
  have HB10 := Lib.hid (HB9.out.below hb10)
  have HK10 : Hid (Keeps N w w10) := Lib.hid (HK9.out.trans (Keeps.of_below hb10))
  have HP10b : Hid (w10.heap[b10]? = some (.cells (v8a (pgU 7)) 37)) := Lib.hid ((hb10.block _ (lt_of_blk HP10.out)).trans HP10.out)
  clear hb10 HB9 HK9 HP10
  try dsimp only
  go_upto_region 10 with (refine page_store rfl (.tmp 12) (.tmp 47) rfl w10.heap.size (pgU 8) (zer 64) rfl rfl (heap_alloc_new w10 _) rfl rfl ?_)
  have hbx : ∀ o : Obj, Below w10.heap.size w10 ((w10.alloc o).setRow w10.heap.size (v8a (pgU 8))) := fun o => below_setRow ((Below.refl _ _).alloc (Nat.le_refl _) _) (Nat.le_refl _) _
  refine gen_code (fun wx => Hid (wx.heap[w10.heap.size]? = some (.cells (v8a (pgU 8)) 37)) ∧ Hid (wx.heap[b10]? = some (.cells (v8a (pgU 7)) 37)) ∧ Hid (BookI wx cb N (st6 db eb)) ∧ Hid (Keeps N w wx)) ⟨Lib.hid (setRow_heap _ _ _ _ _ (0, 0) (heap_alloc_new w10 _)), Lib.hid (((hbx _).block _ (lt_of_blk HP10b.out)).trans HP10b.out), Lib.hid (HB10.out.below (hbx _)), Lib.hid (HK10.out.trans (Keeps.of_below (hbx _)))⟩ ?_
  clear hbx HB10 HK10 HP10b
  generalize w10.heap.size = b12
  clear w10
  rintro w11 ⟨HP12, HP10, HB11, HK11⟩
  try simp only [Act.put]
  have hNM := Lib.hid num06_nil
  go_wp2_with fail
  refine (hNM.out w11).mono ?_
  rintro e w12 ⟨rfl, rfl⟩
  try dsimp only
  go_wp2_with fail
  refine (hNM.out w11).mono ?_
  rintro e w12 ⟨rfl, rfl⟩
  try dsimp only
  go_wp2_with fail
  refine (hNM.out w11).mono ?_
  rintro e w12 ⟨rfl, rfl⟩
  try dsimp only
  go_wp2_with fail
  refine (hNM.out w11).mono ?_
  rintro e w12 ⟨rfl, rfl⟩
  try dsimp only
  go_wp2_with fail
  refine (hNM.out w11).mono ?_
  rintro e w12 ⟨rfl, rfl⟩
  try dsimp only
  go_wp2_with fail
  refine (hNM.out w11).mono ?_
  rintro e w12 ⟨rfl, rfl⟩
  try dsimp only
  go_wp2_with fail
  refine (hNM.out w11).mono ?_
  rintro e w12 ⟨rfl, rfl⟩
  try dsimp only
  go_wp2_with fail
  refine (hNM.out w11).mono ?_
  rintro e w12 ⟨rfl, rfl⟩
  try dsimp only
  have hd7 : decide (pgU 7 = pgU 7) = true := decide_eq_true rfl
  have hd8 : decide (pgU 8 = pgU 8) = true := decide_eq_true rfl
  go_wp2_with (first | (refine page_eql_g2 rfl (.tmp 74) (.tmp 75) _ rfl (pgU 7) (pgU 7) rfl rfl rfl rfl ?_; rw [hd7]) | (refine page_eql_g2 rfl (.tmp 79) (.tmp 80) _ rfl (pgU 8) (pgU 8) rfl rfl rfl rfl ?_; rw [hd8]) | (refine page_load_g2 rfl (.tmp 10) rfl b10 (pgU 7) rfl HP10.out rfl ?_) | (refine page_load_g2 rfl (.tmp 12) rfl b12 (pgU 8) rfl HP12.out rfl ?_) | (refine build_g2 rfl 37 _ rfl (v8a (pgU 7)) (built_pgU 7) ?_) | (refine build_g2 rfl 37 _ rfl (v8a (pgU 8)) (built_pgU 8) ?_))
  refine (HPG.out w11 HB11.out).mono ?_
  rintro e w12 ⟨rfl, rfl⟩
  try dsimp only
  go_wp2_with fail
  go_ret
  exact ⟨rfl, HK11.out⟩
end Go.Proofs.YtajmcplanlibnaaGreatDoor
