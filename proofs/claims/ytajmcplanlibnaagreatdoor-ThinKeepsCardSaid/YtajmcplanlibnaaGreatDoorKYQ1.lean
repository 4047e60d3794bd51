/- A book: its ring's head has turned, what isn't at home has turned, no transaction is under way any more. -/
import Derived.Test.YtajmcplanlibnaaGreatDoorKYE4
set_option linter.unusedSimpArgs false
set_option linter.unusedVariables false
set_option linter.unnecessarySimpa false
namespace Go.Proofs.YtajmcplanlibnaaGreatDoor
open Go.RowKit Go.Maps
theorem BookX.newsed {w w' : World} {bb : Nat} {N : Nat → Prop} {B : BookS} {db rb nb : Nat} {ov : Value} (h : BookX w bb N B db rb nb ov) (f : PgF) (hf : PgMap f B.n) (hk : Keeps (fun k => k ≠ nb) w w') (hm : MapIs Tryz.prog 3 w' nb (keysF f B.n).length (pgL f)) :
    BookX w' bb N { B with news := f } db rb nb ov := by
  have hbn : nb ≠ bb := Xz4 h.cells h.news
  have hrn : nb ≠ rb := Xz4 h.ring h.news
  obtain ⟨o1, o2, o3, o4, o5, o6, o7, o8, o9, o10, o11⟩ := h.ok
  refine ⟨hk.blk (fun e => hbn e.symm) h.cells, hk.blk (fun e => hrn e.symm) h.ring, h.disk.keeps (hk.mono (fun k _ hn e => hn (.inr (.inr (.inr (.inl e)))))), hm, ?_, h.ne, h.nots, ⟨o1, o2, o3, o4, hf, o6, o7, o8, o9, o10, o11⟩, h.dbs⟩
  have ho := h.opn
  show OpenI _ ov B.n B.opn
  cases hB : B.opn with
  | none => rw [hB] at ho; exact ho
  | some f =>
    rw [hB] at ho
    obtain ⟨ob, h1, h2⟩ := ho
    exact ⟨ob, h1, hk.map (fun e => h.ne (by rw [← e]; exact h1)) h2⟩
def BookS.shut (B : BookS) : BookS := { B with opn := none }
theorem BookX.closed {w : World} {bb : Nat} {N : Nat → Prop} {B : BookS} {db rb nb : Nat} {ov : Value} (h : BookX w bb N B db rb nb ov) :
    BookX (w.setCell ⟨bb, 6, none⟩ (.map none)) bb N B.shut db rb nb (.map none) := by
  have hbr : bb ≠ rb := Zze h.cells h.ring (by decide)
  have hbn : nb ≠ bb := Xz4 h.cells h.news
  obtain ⟨o1, o2, o3, o4, o5, o6, o7, o8, o9, o10, o11⟩ := h.ok
  have hd : DiskI (w.setCell ⟨bb, 6, none⟩ (.map none)) db (fun k => N k ∨ k = bb ∨ k = rb ∨ k = nb ∨ ovB (.map none) k) B.disk := by
    refine (h.disk.keep (N' := fun k => N k ∨ k = bb ∨ k = rb ∨ k = nb ∨ ovB (.map none) k) (Below.refl _ _) (fun k hk => ?_)).keeps (Keeps.set _ _ _ _ (fun hn => hn (.inr (.inl rfl))))
    rcases hk with hk | hk | hk | hk | hk
    · exact ⟨h.N_lt k hk, .inl (.inl hk)⟩
    · exact ⟨by rw [hk]; exact Zz0 h.cells, .inl (.inr (.inl hk))⟩
    · exact ⟨by rw [hk]; exact Zz0 h.ring, .inl (.inr (.inr (.inl hk)))⟩
    · exact ⟨by rw [hk]; exact h.news.lt, .inl (.inr (.inr (.inr (.inl hk))))⟩
    · simp [ovB] at hk
  exact ⟨Xz3 (i := 6) h.cells (.map none), Zz1 hbr h.ring, hd, h.news.setCell hbn _, rfl, by simp [ovB], ⟨h.nots.1, h.nots.2.1, h.nots.2.2.1, fun k hk => by simp [ovB] at hk⟩, ⟨o1, o2, o3, o4, o5, fun f hf => (by cases hf), o7, o8, o9, o10, o11⟩, h.dbs⟩
def BookS.base (B : BookS) (i : Nat) : List Int := match B.news i with
  | some p => p
  | none => B.disk.view (2 + B.size + i)
theorem BookS.shut_base (B : BookS) (i : Nat) : B.shut.base i = B.base i := rfl
theorem BookS.wrote_shut (B : BookS) (i : Nat) (p : List Int) : (B.wrote i p).shut = B.shut := by
  unfold BookS.wrote
  split <;> rfl
theorem BookS.shut_same {B B' : BookS} (h : B'.shut = B.shut) : B'.n = B.n ∧ B'.gen = B.gen ∧ B'.num = B.num ∧ B'.disk = B.disk ∧ B'.size = B.size ∧ ∀ i, B'.base i = B.base i :=
  ⟨(congrArg BookS.n h : B'.shut.n = B.shut.n), (congrArg BookS.gen h : B'.shut.gen = B.shut.gen), (congrArg BookS.num h : B'.shut.num = B.shut.num), (congrArg BookS.disk h : B'.shut.disk = B.shut.disk), (congrArg BookS.size h : B'.shut.size = B.shut.size), fun i => by rw [← BookS.shut_base B', h, BookS.shut_base]⟩
open Go.RowKit Go.Maps
set_option maxRecDepth 100000 in
theorem room_any (rb db first n pl used : Nat) (num : Int) (last : List Int) (w : World) (hl : last.length = 32) (hu : used ≤ n) (hn : n ≤ 4096) (h : w.heap[rb]? = some (.cells (ringC db first n pl num last used) 252)) :
    Calls Tryz.prog 155 #[.pointer (some ⟨rb, 0, none⟩)] w fun e w' => e = .returned (.int .i64 ((n : Int) - used)) ∧ Below w.heap.size w w' := by
  obtain ⟨z0, z1, z2, z3, z4, z5⟩ := Wz6 hl h
  have r2 := cell_regrown z2
  have r5 := cell_regrown z5
  have h0 : (0 : Int) ≤ used := by omega
  have h1 : (used : Int) ≤ n := by omega
  have h2 : (n : Int) ≤ 4096 := by omega
  clear h
  go_enter Tryz.func155, Tryz.ntmps155
  go_wp2_with fail
  go_quiet (fail)
  go_wp2_with fail
  go_ret
  exact ⟨rfl, Qz2 (Below.refl _ _) _⟩
set_option maxRecDepth 100000 in
theorem fits_any (rb db first n pl used k : Nat) (num : Int) (last : List Int) (w : World) (hl : last.length = 32) (hu : used ≤ n) (hn : n ≤ 4096) (hk : 1 ≤ k ∧ k ≤ 60) (h : w.heap[rb]? = some (.cells (ringC db first n pl num last used) 252)) :
    Calls Tryz.prog 70 #[.pointer (some ⟨rb, 0, none⟩), .int .i64 (k : Int)] w fun e w' => e = .returned (.bool (decide (1 + ((k : Int) + 15) / 16 + k ≤ (n : Int) - used))) ∧ Below w.heap.size w w' := by
  have hR := room_any rb db first n pl used num last w hl hu hn h
  obtain ⟨k1, k2⟩ := hk
  have h1 : (1 : Int) ≤ k := by omega
  have h2 : (k : Int) ≤ 60 := by omega
  clear h
  go_enter Tryz.func70, Tryz.ntmps70
  go_wp2_with fail
  refine (sectors_any k w (by omega)).mono ?_
  rintro e w2 ⟨rfl, rfl⟩
  try dsimp only
  go_wp2_with fail
  refine hR.mono ?_
  clear hR
  rintro e w3 ⟨rfl, hb⟩
  try dsimp only
  go_wp2_with fail
  go_ret
  exact ⟨rfl, hb⟩
open Go.RowKit Go.Maps
def putR (p : List Int) (a : Nat) (x : Int) : Nat → List Int
  | 0 => p
  | i + 1 => (putR p a x i).set (a + i) (Kz9 x i)
theorem putR_ok {p : List Int} (hp : PgOk p) (a : Nat) (x : Int) : ∀ i, PgOk (putR p a x i)
  | 0 => hp
  | i + 1 => by
    have ih := putR_ok hp a x i
    refine ⟨by show ((putR p a x i).set (a + i) (Kz9 x i)).length = 64; rw [List.length_set]; exact ih.1, fun y hy => ?_⟩
    rcases List.mem_or_eq_of_mem_set hy with hy | rfl
    · exact ih.2 y hy
    · unfold Kz9
      exact ⟨Int.emod_nonneg _ (by decide), Int.emod_lt_of_pos _ (by decide)⟩
set_option maxRecDepth 100000 in
set_option maxHeartbeats 2000000 in
theorem put_any (b : Nat) (p : List Int) (hp : PgOk p) (a n : Nat) (hn : n ≤ 8) (ha : a + n ≤ 64) (x : Int) (hx : 0 ≤ x ∧ x < 18446744073709551616) (w : World) (hb : w.heap[b]? = some (.cells (v8a p) 37)) :
    Calls Tryz.prog 156 #[.pointer (some ⟨b, 0, none⟩), .int .i64 (a : Int), .int .i64 (n : Int), .int .u64 x] w fun e w' => e = .returned (.tuple #[]) ∧ w'.heap[b]? = some (.cells (v8a (putR p a x n)) 37) ∧ w.grownBy w' (some b) := by
  have HB := hZ hb
  have HPO := hZ (putR_ok hp a x)
  obtain ⟨x0, x1⟩ := hx
  have n0 : (0 : Int) ≤ n := by omega
  have n8 : (n : Int) ≤ 8 := by omega
  have a0 : (0 : Int) ≤ a := by omega
  have a1 : (a : Int) + n ≤ 64 := by omega
  clear hb hp
  go_enter Tryz.func156, Tryz.ntmps156
  go_wp2_with fail
  go_loopw [10] (fun iv wr => ∃ i : Nat, iv = .int .i64 (i : Int) ∧ i ≤ n ∧ Hid (wr.heap[b]? = some (.cells (v8a (putR p a x i)) 37) ∧ w.grownBy wr (some b))) (fun iv _ => n + 1 - (intOf iv).toNat)
  case atStart => exact ⟨0, rfl, by omega, hZ ⟨HB.out, Zz2 (Below.refl _ _) _⟩⟩
  case round =>
    obtain ⟨i, rfl, hi, H⟩ := hrel
    by_cases hlt : i < n
    · have i0 : (0 : Int) ≤ i := by omega
      have i1 : (i : Int) < n := by omega
      have hR : b < wr.heap.size := Zz0 H.out.1
      obtain ⟨c0, f0⟩ := Qz6 H.out.1 (a + i) (by rw [(HPO.out i).1]; omega)
      have HNX : Hid (putR p a x (i + 1) = (putR p a x i).set (a + i) (Kz9 x i)) := hZ rfl
      go_wp2_with fail
      refine Vz0 [(0, true), (1, true), (2, true), (3, true), (4, true), (5, true), (6, true), (7, true), (8, true), (9, true), (10, true), (11, false)] 11 (fun w' => ∃ p : RegrownB, w' = setO (Go.Sort.grow (redrawn wr p.d) p.os) (b) p.o) (by kernel_rfl) (by kernel_rfl) (fun _ _ d _ _ h => by cases d <;> exact h) (Kz6 hR) ?_
      (repeat (with_reducible refine mix_q ?_; simp only [qd1, qd0, qt1, qt0]; go_big_quiet_step (fail); with_reducible refine wpQuiet_nil ?_))
      with_reducible refine mix_a ?_; simp only [qd1, qd0, qt1, qt0]
      go_wp2_with fail
      with_reducible refine Qz0 ?_
      have hg1 : ∀ v, wr.grownBy (wr.setCell ⟨b, a + i, none⟩ v).drew (some b) := fun v => Xz2 (Zz4 _ _ _ _) (Zz2 (Below.refl _ _).drew _)
      refine ⟨fun _ => Qz5 hR (hg1 _), ?_⟩
      refine gen_mix (fun wx => Hid (wx.heap[b]? = some (.cells (v8a (putR p a x (i + 1))) 37) ∧ w.grownBy wx (some b))) (hZ ⟨by rw [HNX.out]; exact v8_set H.out.1 _ _, Xz2 H.out.2 (hg1 _)⟩) ?_
      clear hg1 c0 f0 H
      intro w3 H3
      with_reducible refine Wz1 ?_
      go_wp2_with fail
      exact ⟨⟨i + 1, by push_cast; rfl, by omega, H3⟩, by simp [intOf]; omega⟩
    · have hin : i = n := by omega
      have hi1 : ¬ ((i : Int) < n) := by omega
      have HIN := hZ hin
      clear hin hlt hi
      go_wp2_with fail
      go_end0
      rw [← HIN.out]
      exact ⟨rfl, H.out⟩
open Go.RowKit Go.Maps
theorem DiskS.view_snoc (f : List (List Int)) (c : List (Nat × List Int)) (x : Nat × List Int) (i : Nat) : (DiskS.mk f (c ++ [x])).view i = if x.1 = i then x.2 else (DiskS.mk f c).view i := by
  unfold DiskS.view
  simp only
  rw [lastOf_snoc]
  by_cases h : x.1 = i
  · rw [if_pos h, if_pos h]
    simp [List.getD]
  · rw [if_neg h, if_neg h]
    cases hl : lastOf c i with
    | none => rfl
    | some k =>
      have := lastOf_lt hl
      simp [List.getD, List.getElem?_append_left this]
theorem DiskS.view_append (f : List (List Int)) (i : Nat) : ∀ (ws c : List (Nat × List Int)), (∀ x ∈ ws, x.1 ≠ i) → (DiskS.mk f (c ++ ws)).view i = (DiskS.mk f c).view i
  | [], c, _ => by rw [List.append_nil]
  | x :: ws, c, h => by
    rw [show c ++ x :: ws = (c ++ [x]) ++ ws by simp, DiskS.view_append f i ws (c ++ [x]) (fun y hy => h y (by simp [hy])), DiskS.view_snoc, if_neg (h x (by simp))]
theorem Vzc (f : List (List Int)) (i : Nat) (hi : i < f.length) : ∀ (n : Nat) (c : List (Nat × List Int)), c.length = n → (Qz3 f c).getD i [] = (DiskS.mk f c).view i
  | 0, c, h => by
    rw [List.eq_nil_of_length_eq_zero h]; rfl
  | n + 1, c, h => by
    have hne : c ≠ [] := fun e => by rw [e] at h; cases h
    have hc := (List.dropLast_concat_getLast hne).symm
    generalize c.getLast hne = x at hc
    generalize hd : c.dropLast = d at hc
    have hl : d.length = n := by rw [← hd, List.length_dropLast, h]; rfl
    subst hc
    have ih := Vzc f i hi n d hl
    have hfl : (Qz3 f d).length = f.length := by first | exact Kz2 f d | exact Kz2 d f
    rw [DiskS.view_snoc, ← ih]
    show ((d ++ [x]).foldl (fun f x => f.set x.1 x.2) f).getD i [] = _
    rw [List.foldl_append]
    show ((Qz3 f d).set x.1 x.2).getD i [] = _
    by_cases h : x.1 = i
    · rw [if_pos h, h]
      simp [List.getD, List.getElem?_set_self (show i < (Qz3 f d).length by rw [hfl]; exact hi)]
    · rw [if_neg h]
      simp [List.getD, List.getElem?_set_ne h]
theorem view_const (f : List (List Int)) (i : Nat) (p : List Int) : ∀ (n : Nat) (c : List (Nat × List Int)), c.length = n → (∀ x ∈ c, x.1 = i → x.2 = p) → (∃ x ∈ c, x.1 = i) → (DiskS.mk f c).view i = p
  | 0, c, h, _, he => by
    rw [List.eq_nil_of_length_eq_zero h] at he
    obtain ⟨x, hx, _⟩ := he
    cases hx
  | n + 1, c, h, ha, he => by
    have hne : c ≠ [] := fun e => by rw [e] at h; cases h
    have hc := (List.dropLast_concat_getLast hne).symm
    generalize c.getLast hne = x at hc
    generalize hd : c.dropLast = d at hc
    have hl : d.length = n := by rw [← hd, List.length_dropLast, h]; rfl
    subst hc
    rw [DiskS.view_snoc]
    by_cases hx : x.1 = i
    · rw [if_pos hx]; exact ha x (by simp) hx
    · rw [if_neg hx]
      refine view_const f i p n d hl (fun y hy => ha y (by simp [hy])) ?_
      obtain ⟨y, hy, hyi⟩ := he
      rcases List.mem_append.1 hy with hy | hy
      · exact ⟨y, hy, hyi⟩
      · rw [List.mem_singleton.1 hy] at hyi; exact absurd hyi hx
theorem BookS.homed_base {B : BookS} (h : B.ok) (i : Nat) (hi : i < B.n) : B.homed.base i = B.base i := by
  have hroom := h.room
  have hfl : (Qz3 B.disk.firm B.disk.cache).length = B.disk.firm.length := by first | exact Kz2 _ _
  have hfl2 : (Qz3 (Qz3 B.disk.firm B.disk.cache) (newsC B)).length = B.disk.firm.length := by rw [← hfl]; first | exact Kz2 _ _
  have hg : ((B.gen + 1) % 2).toNat < 2 := by omega
  show (DiskS.mk _ []).view (2 + B.size + i) = _
  have e1 : (DiskS.mk ((Qz3 (Qz3 B.disk.firm B.disk.cache) (newsC B)).set ((B.gen + 1) % 2).toNat (Wz5 (B.gen + 1) B.num B.pl B.lastH)) []).view (2 + B.size + i) = (Qz3 (Qz3 B.disk.firm B.disk.cache) (newsC B)).getD (2 + B.size + i) [] := by
    show ((Qz3 (Qz3 B.disk.firm B.disk.cache) (newsC B)).set ((B.gen + 1) % 2).toNat (Wz5 (B.gen + 1) B.num B.pl B.lastH)).getD (2 + B.size + i) [] = _
    simp [List.getD, List.getElem?_set_ne (show ((B.gen + 1) % 2).toNat ≠ 2 + B.size + i by omega)]
  rw [e1, Vzc _ _ (by rw [hfl]; omega) _ _ rfl]
  unfold BookS.base
  cases hn : B.news i with
  | none =>
    have hno : ∀ x ∈ newsC B, x.1 ≠ 2 + B.size + i := fun x hx e => by
      unfold newsC at hx
      obtain ⟨j, hj, rfl⟩ := List.mem_map.1 hx
      have hj2 := (List.mem_filter.1 hj).2
      have : j = i := by simp only at e; omega
      rw [this, hn] at hj2
      cases hj2
    have := DiskS.view_append (Qz3 B.disk.firm B.disk.cache) (2 + B.size + i) (newsC B) [] hno
    rw [List.nil_append] at this
    rw [this]
    show (Qz3 B.disk.firm B.disk.cache).getD (2 + B.size + i) [] = _
    rw [Vzc _ _ (by omega) _ _ rfl]
  | some p =>
    refine view_const _ _ p _ _ rfl (fun x hx e => ?_) ⟨(2 + B.size + i, pgD (B.news i)), List.mem_map.2 ⟨i, List.mem_filter.2 ⟨List.mem_range.2 hi, by rw [hn]; rfl⟩, rfl⟩, rfl⟩
    unfold newsC at hx
    obtain ⟨j, hj, rfl⟩ := List.mem_map.1 hx
    have : j = i := by simp only at e; omega
    subst this
    simp only
    rw [hn]; rfl
open Go.RowKit Go.Maps
def headF (k : Nat) (num : Int) : List Int := putR (((zer 64).set 0 84).set 9 (k : Int)) 1 num 8
theorem headF_ok (k : Nat) (num : Int) (hk : k ≤ 60) : PgOk (headF k num) := by
  refine putR_ok ⟨by simp [zer], u8_set (u8_set zer_pg.2 _ _ (by decide)) _ _ (by omega)⟩ _ _ _
def idxP (L : List (Nat × List Int)) (i m : Nat) : List Int := (List.range m).foldl (fun p t => putR p (4 * t) ((L.getD (i + t) (0, [])).1 : Int) 4) (zer 64)
theorem idxP_succ (L : List (Nat × List Int)) (i m : Nat) : idxP L i (m + 1) = putR (idxP L i m) (4 * m) ((L.getD (i + m) (0, [])).1 : Int) 4 := by
  unfold idxP
  rw [List.range_succ, List.foldl_append]; rfl
theorem idxP_ok (L : List (Nat × List Int)) (i : Nat) : ∀ m, PgOk (idxP L i m)
  | 0 => zer_pg
  | m + 1 => by rw [idxP_succ]; exact putR_ok (idxP_ok L i m) _ _ _
def idxPs (L : List (Nat × List Int)) (q : Nat) : List (List Int) := (List.range q).map fun t => idxP L (16 * t) (min 16 (L.length - 16 * t))
theorem idxPs_succ (L : List (Nat × List Int)) (q : Nat) : idxPs L (q + 1) = idxPs L q ++ [idxP L (16 * q) (min 16 (L.length - 16 * q))] := by
  unfold idxPs
  rw [List.range_succ, List.map_append]; rfl
theorem Vzh (L : List (Nat × List Int)) (q : Nat) : (idxPs L q).length = q := by simp [idxPs]
def recQ (L : List (Nat × List Int)) : List (List Int) := idxPs L ((L.length + 15) / 16) ++ L.map (·.2)
theorem recQ_length (L : List (Nat × List Int)) : (recQ L).length = (L.length + 15) / 16 + L.length := by simp [recQ, Vzh]
def recS (num : Int) (last : List Int) (L : List (Nat × List Int)) : List Int := shaF (last ++ (headF L.length num).take 10 ++ (recQ L).flatten)
theorem Xzg (num : Int) (last : List Int) (L : List (Nat × List Int)) : (recS num last L).length = 32 := Vz8 _
def recP (num : Int) (last : List Int) (L : List (Nat × List Int)) : List (List Int) := ((headF L.length num).take 10 ++ (recS num last L ++ (headF L.length num).drop 42)) :: recQ L
def recW (first n pl : Nat) (P : List (List Int)) : List (Nat × List Int) := (List.range P.length).map fun i => (first + (pl + i) % n, P.getD i [])
theorem recW_take (first n pl : Nat) (P : List (List Int)) (i : Nat) (hi : i < P.length) : (recW first n pl P).take (i + 1) = (recW first n pl P).take i ++ [(first + (pl + i) % n, P[i])] := by
  have hl : i < (recW first n pl P).length := by simp [recW]; exact hi
  rw [List.take_succ_eq_append_getElem hl]
  congr 2
  simp [recW, List.getD, List.getElem?_eq_getElem hi]
open Go.RowKit Go.Maps
def getR (p : List Int) (a : Nat) : Nat → Int
  | 0 => 0
  | i + 1 => getR p a i + p.getD (a + i) 0 * 2 ^ (8 * i)
theorem pow8_succ (i : Nat) : (2 : Int) ^ (8 * (i + 1)) = 2 ^ (8 * i) * 256 := by
  rw [show 8 * (i + 1) = 8 * i + 8 by omega, Int.pow_add]; rfl
theorem pow8_pos (i : Nat) : (0 : Int) < 2 ^ (8 * i) := Int.pow_pos (by decide)
theorem getR_lt {p : List Int} (hp : U8s p) (a : Nat) : ∀ i, 0 ≤ getR p a i ∧ getR p a i < 2 ^ (8 * i)
  | 0 => by simp [getR]
  | i + 1 => by
    have ih := getR_lt hp a i
    have hb := hp.at (a + i)
    have hq := pow8_pos i
    unfold getR
    rw [pow8_succ]
    generalize (2 : Int) ^ (8 * i) = q at ih hq ⊢
    generalize p.getD (a + i) 0 = y at hb ⊢
    have h1 : 0 ≤ y * q := Int.mul_nonneg hb.1 (Int.le_of_lt hq)
    have h2 : y * q ≤ 255 * q := Int.mul_le_mul_of_nonneg_right (by omega) (Int.le_of_lt hq)
    omega
theorem or_two (a b i : Nat) (h : a < 2 ^ i) : a ||| (b * 2 ^ i) = a + b * 2 ^ i := by
  rw [Nat.or_comm, Nat.mul_comm b, ← Nat.two_pow_add_eq_or_of_lt h, Nat.add_comm]
theorem bits_or_u64 (x y : Int) (i : Nat) (hi : i < 8) (hx : 0 ≤ x ∧ x < 2 ^ (8 * i)) (hy : 0 ≤ y ∧ y < 256) : bits BinOp.or IntKind.u64 x (y * 2 ^ (8 * i)) = x + y * 2 ^ (8 * i) := by
  obtain ⟨a, rfl⟩ := Int.eq_ofNat_of_zero_le hx.1
  obtain ⟨b, rfl⟩ := Int.eq_ofNat_of_zero_le hy.1
  have ha : a < 2 ^ (8 * i) := by have := hx.2; exact_mod_cast this
  have hb : b < 256 := by omega
  have e : ((b : Int) * 2 ^ (8 * i)) = ((b * 2 ^ (8 * i) : Nat) : Int) := by rw [Int.natCast_mul, Int.natCast_pow]; rfl
  have hq : (2 : Nat) ^ (8 * i) * 256 ≤ 2 ^ 64 := by
    rw [show (256 : Nat) = 2 ^ 8 by rfl, ← Nat.pow_add]
    exact Nat.pow_le_pow_right (by decide) (by omega)
  have hlt : a + b * 2 ^ (8 * i) < 2 ^ 64 := by
    have h2 : b * 2 ^ (8 * i) ≤ 255 * 2 ^ (8 * i) := Nat.mul_le_mul_right _ (by omega)
    omega
  have e1 : (BitVec.ofInt 64 (a : Int)).toNat = a := by rw [BitVec.toNat_ofInt]; omega
  have e2 : (BitVec.ofInt 64 ((b * 2 ^ (8 * i) : Nat) : Int)).toNat = b * 2 ^ (8 * i) := by rw [BitVec.toNat_ofInt]; omega
  rw [e]
  show IntKind.u64.wrap (((BitVec.ofInt 64 (a : Int) ||| BitVec.ofInt 64 ((b * 2 ^ (8 * i) : Nat) : Int)).toNat : Nat) : Int) = _
  rw [BitVec.toNat_or, e1, e2, or_two a b _ ha]
  have hc : (a : Int) + ((b * 2 ^ (8 * i) : Nat) : Int) = ((a + b * 2 ^ (8 * i) : Nat) : Int) := by rw [Int.natCast_add]
  rw [hc]
  generalize a + b * 2 ^ (8 * i) = n at hlt ⊢
  clear e e1 e2 hc ha hb hq hx hy
  simp [IntKind.wrap, IntKind.bits, IntKind.signed]
  omega
theorem wrap_u64 (z : Int) (h : 0 ≤ z ∧ z < 18446744073709551616) : IntKind.u64.wrap z = z := by
  simp [IntKind.wrap, IntKind.bits, IntKind.signed]
  omega
theorem shl8_lt (y : Int) (i : Nat) (hi : i < 8) (hy : 0 ≤ y ∧ y < 256) : 0 ≤ y * 2 ^ (8 * i) ∧ y * 2 ^ (8 * i) < 18446744073709551616 := by
  have h2 : (2 : Int) ^ (8 * i) * 256 ≤ 18446744073709551616 := by
    rw [← pow8_succ]
    have h3 : (2 : Nat) ^ (8 * (i + 1)) ≤ 18446744073709551616 := (Nat.pow_le_pow_right (show 2 > 0 by decide) (show 8 * (i + 1) ≤ 64 by omega) : 2 ^ (8 * (i + 1)) ≤ 2 ^ 64)
    have h4 : ((2 ^ (8 * (i + 1)) : Nat) : Int) ≤ ((18446744073709551616 : Nat) : Int) := Int.ofNat_le.2 h3
    rw [Int.natCast_pow] at h4
    exact h4
  have h5 := pow8_pos i
  have h6 : y * 2 ^ (8 * i) ≤ 255 * 2 ^ (8 * i) := Int.mul_le_mul_of_nonneg_right (by omega) (Int.le_of_lt h5)
  exact ⟨Int.mul_nonneg hy.1 (Int.le_of_lt h5), by omega⟩
theorem bits_or_shl (x y : Int) (i : Nat) (hi : i < 8) (hx : 0 ≤ x ∧ x < 2 ^ (8 * i)) (hy : 0 ≤ y ∧ y < 256) : bits BinOp.or IntKind.u64 x (IntKind.u64.wrap (y * 2 ^ (8 * i))) = x + y * 2 ^ (8 * i) := by
  rw [wrap_u64 _ (shl8_lt y i hi hy), bits_or_u64 x y i hi hx hy]
theorem or16x (x y : Int) (hx : 0 ≤ x ∧ x < 256) (hy : 0 ≤ y ∧ y < 256) : bits BinOp.or IntKind.i64 x (y * 256) = x + y * 256 := by
  obtain ⟨a, rfl⟩ := Int.eq_ofNat_of_zero_le hx.1
  obtain ⟨b, rfl⟩ := Int.eq_ofNat_of_zero_le hy.1
  have e1 : (BitVec.ofInt 64 (a : Int)).toNat = a := by rw [BitVec.toNat_ofInt]; omega
  have e2 : (BitVec.ofInt 64 ((b : Int) * 256)).toNat = b * 256 := by rw [BitVec.toNat_ofInt]; omega
  show IntKind.i64.wrap (((BitVec.ofInt 64 (a : Int) ||| BitVec.ofInt 64 ((b : Int) * 256)).toNat : Nat) : Int) = _
  rw [BitVec.toNat_or, e1, e2, show (256 : Nat) = 2 ^ 8 by rfl, or_two a b 8 (by omega)]
  simp [IntKind.wrap, IntKind.bits, IntKind.signed]
  omega
theorem byteAt_nat (n i : Nat) : Kz9 (n : Int) i = ((n / 2 ^ (8 * i) % 256 : Nat) : Int) := by
  unfold Kz9
  rw [Int.natCast_emod, Int.natCast_ediv, Int.natCast_pow]; rfl
theorem getR_bytes (p : List Int) (a : Nat) (x : Int) (hx : 0 ≤ x) (m : Nat) (h : ∀ i, i < m → p.getD (a + i) 0 = Kz9 x i) : ∀ i, i ≤ m → getR p a i = x % 2 ^ (8 * i)
  | 0, _ => by simp [getR]
  | i + 1, hi => by
    have ih := getR_bytes p a x hx m h i (by omega)
    unfold getR
    rw [ih, h i (by omega)]
    obtain ⟨n, rfl⟩ := Int.eq_ofNat_of_zero_le hx
    rw [byteAt_nat, pow8_succ]
    have := Nat.mod_mul (x := n) (a := 2 ^ (8 * i)) (b := 256)
    have e : ((n : Int) % (2 ^ (8 * i) * 256)) = ((n % (2 ^ (8 * i) * 256) : Nat) : Int) := by rw [Int.natCast_emod, Int.natCast_mul, Int.natCast_pow]; rfl
    rw [e, this, Int.natCast_add, Int.natCast_emod, Int.natCast_mul, Int.natCast_pow, Int.mul_comm]; rfl
theorem getR_all (p : List Int) (a : Nat) (x : Int) (m : Nat) (hx : 0 ≤ x ∧ x < 2 ^ (8 * m)) (h : ∀ i, i < m → p.getD (a + i) 0 = Kz9 x i) : getR p a m = x := by
  rw [getR_bytes p a x hx.1 m h m (Nat.le_refl _), Int.emod_eq_of_lt hx.1 hx.2]
theorem getD_set_ne (l : List Int) {i j : Nat} (x : Int) (h : i ≠ j) : (l.set i x).getD j 0 = l.getD j 0 := by
  simp [List.getD, List.getElem?_set_ne h]
theorem Wz9 (l : List Int) {i : Nat} (x : Int) (h : i < l.length) : (l.set i x).getD i 0 = x := by
  simp [List.getD, h]
theorem putR_out (p : List Int) (a : Nat) (x : Int) (j : Nat) : ∀ m, (j < a ∨ a + m ≤ j) → (putR p a x m).getD j 0 = p.getD j 0
  | 0, _ => rfl
  | m + 1, h => by
    unfold putR
    rw [getD_set_ne _ _ (by omega), putR_out p a x j m (by omega)]
theorem putR_in {p : List Int} (hp : PgOk p) (a : Nat) (x : Int) : ∀ m i, a + m ≤ 64 → i < m → (putR p a x m).getD (a + i) 0 = Kz9 x i
  | 0, _, _, h => by omega
  | m + 1, i, hm, hi => by
    have hl := (putR_ok hp a x m).1
    by_cases e : i = m
    · subst e
      unfold putR
      rw [Wz9 _ _ (by omega)]
    · unfold putR
      rw [getD_set_ne _ _ (by omega), putR_in hp a x m i (by omega) (by omega)]
theorem zer_getD (n j : Nat) : (zer n).getD j 0 = 0 := by
  unfold zer
  rw [List.getD, List.getElem?_replicate]
  split <;> rfl
theorem idxP_out (L : List (Nat × List Int)) (i j : Nat) : ∀ m, 4 * m ≤ j → (idxP L i m).getD j 0 = 0
  | 0, _ => zer_getD 64 j
  | m + 1, h => by rw [idxP_succ, putR_out _ _ _ _ _ (by omega), idxP_out L i j m (by omega)]
theorem idxP_in (L : List (Nat × List Int)) (i t r : Nat) (hr : r < 4) : ∀ m, m ≤ 16 → t < m → (idxP L i m).getD (4 * t + r) 0 = Kz9 ((L.getD (i + t) (0, [])).1 : Int) r
  | 0, _, h => by omega
  | m + 1, hm, ht => by
    rw [idxP_succ]
    by_cases e : t = m
    · subst e
      exact putR_in (idxP_ok L i t) (4 * t) _ 4 r (by omega) hr
    · rw [putR_out _ _ _ _ _ (by omega), idxP_in L i t r hr m (by omega) (by omega)]
theorem idxP_get (L : List (Nat × List Int)) (i t m : Nat) (hm : m ≤ 16) (ht : t < m) (hx : (L.getD (i + t) (0, [])).1 ≤ 10000) : getR (idxP L i m) (4 * t) 4 = ((L.getD (i + t) (0, [])).1 : Int) :=
  getR_all _ _ _ 4 ⟨by omega, Int.lt_of_le_of_lt (Int.ofNat_le.2 hx) (by decide)⟩ (fun r hr => idxP_in L i t r hr m hm ht)
def recH (num : Int) (last : List Int) (L : List (Nat × List Int)) : List Int := (headF L.length num).take 10 ++ (recS num last L ++ (headF L.length num).drop 42)
theorem recP_eq (num : Int) (last : List Int) (L : List (Nat × List Int)) : recP num last L = recH num last L :: recQ L := rfl
theorem headF_at (k : Nat) (num : Int) (j : Nat) : (headF k num).getD j 0 = if j = 0 then 84 else if j < 9 then Kz9 num (j - 1) else if j = 9 then (k : Int) else 0 := by
  have hz : PgOk (((zer 64).set 0 84).set 9 (k : Int)) → True := fun _ => trivial
  unfold headF
  by_cases h0 : j = 0
  · subst h0
    rw [putR_out _ _ _ _ _ (by omega), getD_set_ne _ _ (by omega), Wz9 _ _ (by simp [zer])]; rfl
  · by_cases h9 : j < 9
    · have e : ∀ m, j - 1 < m → m ≤ 8 → (putR (((zer 64).set 0 84).set 9 (k : Int)) 1 num m).getD j 0 = Kz9 num (j - 1) := by
        intro m
        induction m with
        | zero => intro h; omega
        | succ m ih =>
          intro h1 h2
          have hl : (putR (((zer 64).set 0 84).set 9 (k : Int)) 1 num m).length = 64 := by
            have : ∀ m, (putR (((zer 64).set 0 84).set 9 (k : Int)) 1 num m).length = 64 := by
              intro m
              induction m with
              | zero => simp [putR, zer]
              | succ m ih => simp [putR, ih]
            exact this m
          unfold putR
          by_cases e : j - 1 = m
          · rw [show j = 1 + m by omega, Wz9 _ _ (by omega)]
            congr 1; omega
          · rw [getD_set_ne _ _ (by omega), ih (by omega) (by omega)]
      rw [e 8 (by omega) (by omega), if_neg h0, if_pos h9]
    · rw [putR_out _ _ _ _ _ (by omega), if_neg h0, if_neg h9]
      by_cases h : j = 9
      · subst h
        rw [Wz9 _ _ (by simp [zer]), if_pos rfl]
      · rw [getD_set_ne _ _ (by omega), getD_set_ne _ _ (by omega), zer_getD, if_neg h]
theorem headF_length (k : Nat) (num : Int) : (headF k num).length = 64 := by
  unfold headF
  have : ∀ m, (putR (((zer 64).set 0 84).set 9 (k : Int)) 1 num m).length = 64 := by
    intro m
    induction m with
    | zero => simp [putR, zer]
    | succ m ih => simp [putR, ih]
  exact this 8
theorem take_getD (l m : List Int) (n j : Nat) (h : j < n) (hn : n ≤ l.length) : (l.take n ++ m).getD j 0 = l.getD j 0 := by
  simp only [List.getD]
  rw [List.getElem?_append_left (by rw [List.length_take]; omega), List.getElem?_take_of_lt h]
theorem recH_at (num : Int) (last : List Int) (L : List (Nat × List Int)) (j : Nat) (h : j < 10) : (recH num last L).getD j 0 = (headF L.length num).getD j 0 :=
  take_getD _ _ _ _ h (by rw [headF_length]; decide)
theorem recH_zero (num : Int) (last : List Int) (L : List (Nat × List Int)) : (recH num last L).getD 0 0 = 84 := by
  rw [recH_at _ _ _ _ (by omega), headF_at, if_pos rfl]
theorem recH_nine (num : Int) (last : List Int) (L : List (Nat × List Int)) : (recH num last L).getD 9 0 = (L.length : Int) := by
  rw [recH_at _ _ _ _ (by omega), headF_at, if_neg (by decide), if_neg (by decide), if_pos rfl]
theorem recH_num {num : Int} (last : List Int) (L : List (Nat × List Int)) (h : 0 ≤ num ∧ num < 18446744073709551616) : getR (recH num last L) 1 8 = num :=
  getR_all _ _ _ 8 ⟨h.1, by have := h.2; simpa using this⟩ (fun i hi => by
    rw [recH_at _ _ _ _ (by omega), headF_at, if_neg (by omega), if_pos (by omega), show 1 + i - 1 = i by omega])
theorem recH_take (num : Int) (last : List Int) (L : List (Nat × List Int)) : (recH num last L).take 10 = (headF L.length num).take 10 := by
  unfold recH
  rw [List.take_append_of_le_length (by rw [List.length_take, headF_length]; decide), List.take_take]; rfl
theorem recH_sum (num : Int) (last : List Int) (L : List (Nat × List Int)) : ((recH num last L).drop 10).take 32 = recS num last L := by
  have h10 : ((headF L.length num).take 10).length = 10 := by rw [List.length_take, headF_length]; rfl
  unfold recH
  rw [List.drop_append_of_le_length (by omega), List.drop_of_length_le (by omega), List.nil_append, List.take_append_of_le_length (by rw [Xzg]; decide), List.take_of_length_le (by rw [Xzg]; decide)]
def Stale (num : Int) (p : List Int) : Prop := p.getD 0 0 ≠ 84 ∨ p.getD 9 0 = 0 ∨ getR p 1 8 < num
theorem Stale.mono {a b : Int} {p : List Int} (h : Stale a p) (hab : a ≤ b) : Stale b p := by
  rcases h with h | h | h
  · exact .inl h
  · exact .inr (.inl h)
  · exact .inr (.inr (by omega))
theorem Stale.zero (num : Int) : Stale num (zer 64) := .inl (by rw [zer_getD]; decide)
theorem Stale.head {num : Int} (last : List Int) (L : List (Nat × List Int)) (h : 0 ≤ num ∧ num < 18446744073709551616) : Stale (num + 1) (recH num last L) := .inr (.inr (by rw [recH_num _ _ h]; omega))
theorem Stale.idx (num : Int) (L : List (Nat × List Int)) (i m : Nat) (hm : m ≤ 16) (hL : ∀ x ∈ L, x.1 < 256) : Stale num (idxP L i m) := by
  refine .inr (.inl ?_)
  by_cases h : 2 < m
  · rw [show 9 = 4 * 2 + 1 by rfl, idxP_in L i 2 1 (by omega) m hm h]
    have hx : (L.getD (i + 2) (0, [])).1 < 256 := by
      unfold List.getD
      cases hq : L[i + 2]? with
      | none => simp
      | some x => exact hL x (List.mem_of_getElem? hq)
    rw [byteAt_nat]
    have : (L.getD (i + 2) (0, [])).1 / 2 ^ (8 * 1) = 0 := Nat.div_eq_of_lt hx
    rw [this]; rfl
  · exact idxP_out L i 9 m (by omega)
open Go.RowKit Go.Maps
theorem recS_ok {num : Int} {last : List Int} {L : List (Nat × List Int)} (hl : last.length = 32 ∧ U8s last) (hL : ∀ x ∈ L, PgOk x.2) (hk : L.length ≤ 60) : (recS num last L).length = 32 ∧ U8s (recS num last L) := by
  refine ⟨Xzg _ _ _, shaF_u8 _ (fun x hx => ?_)⟩
  rcases List.mem_append.1 hx with hx | hx
  · rcases List.mem_append.1 hx with hx | hx
    · exact hl.2 x hx
    · exact (headF_ok _ _ hk).2 x (List.mem_of_mem_take hx)
  · obtain ⟨p, hp, hxp⟩ := List.mem_flatten.1 hx
    unfold recQ at hp
    rcases List.mem_append.1 hp with hp | hp
    · unfold idxPs at hp
      obtain ⟨t, _, rfl⟩ := List.mem_map.1 hp
      exact (idxP_ok _ _ _).2 x hxp
    · obtain ⟨y, hy, rfl⟩ := List.mem_map.1 hp
      exact (hL y hy).2 x hxp
theorem recQ_ok {L : List (Nat × List Int)} (hL : ∀ x ∈ L, PgOk x.2) : ∀ p ∈ recQ L, PgOk p := fun p hp => by
  unfold recQ at hp
  rcases List.mem_append.1 hp with hp | hp
  · unfold idxPs at hp
    obtain ⟨t, _, rfl⟩ := List.mem_map.1 hp
    exact idxP_ok _ _ _
  · obtain ⟨y, hy, rfl⟩ := List.mem_map.1 hp
    exact hL y hy
theorem recP_length (num : Int) (last : List Int) (L : List (Nat × List Int)) : (recP num last L).length = 1 + (L.length + 15) / 16 + L.length := by
  unfold recP
  rw [List.length_cons, recQ_length]; omega
theorem recW_mem {first n pl : Nat} (hn : 0 < n) {P : List (List Int)} {x : Nat × List Int} (h : x ∈ recW first n pl P) : first ≤ x.1 ∧ x.1 < first + n ∧ x.2 ∈ P := by
  unfold recW at h
  obtain ⟨i, hi, rfl⟩ := List.mem_map.1 h
  have hi' := List.mem_range.1 hi
  have := Nat.mod_lt (pl + i) hn
  refine ⟨by simp, by simp only; omega, ?_⟩
  simp only [List.getD, List.getElem?_eq_getElem hi', Option.getD_some]
  exact List.getElem_mem hi'
def openL (f : PgF) (n : Nat) : List (Nat × List Int) := (keysF f n).map fun i => (i, pgD (f i))
theorem Xzb (f : PgF) (n : Nat) : (openL f n).length = (keysF f n).length := by simp [openL]
theorem Jzd {f : PgF} {n : Nat} (hf : PgMap f n) {x : Nat × List Int} (h : x ∈ openL f n) : x.1 < n ∧ PgOk x.2 ∧ f x.1 = some x.2 := by
  unfold openL at h
  obtain ⟨i, hi, rfl⟩ := List.mem_map.1 h
  have hi2 := List.mem_filter.1 hi
  obtain ⟨p, hp⟩ := Option.isSome_iff_exists.1 hi2.2
  have := hf i p hp
  simp only [hp, pgD, Option.getD_some]
  exact ⟨this.1, this.2, trivial⟩
def foldP (L : List (Nat × List Int)) (g : PgF) : PgF := L.foldl (fun f x => putF f x.1 x.2) g
theorem foldP_snoc (L : List (Nat × List Int)) (g : PgF) (x : Nat × List Int) : foldP (L ++ [x]) g = putF (foldP L g) x.1 x.2 := by
  unfold foldP
  rw [List.foldl_append]; rfl
theorem foldP_none (i : Nat) : ∀ (L : List (Nat × List Int)) (g : PgF), (∀ x ∈ L, x.1 ≠ i) → foldP L g i = g i
  | [], g, _ => rfl
  | x :: L, g, h => by
    show foldP L (putF g x.1 x.2) i = _
    rw [foldP_none i L _ (fun y hy => h y (by simp [hy]))]
    unfold putF
    rw [if_neg (fun e => h x (by simp) e.symm)]
theorem foldP_some (i : Nat) (p : List Int) : ∀ (L : List (Nat × List Int)) (g : PgF), (∃ x ∈ L, x.1 = i) → (∀ x ∈ L, x.1 = i → x.2 = p) → foldP L g i = some p
  | [], g, h, _ => by
    obtain ⟨x, hx, _⟩ := h
    cases hx
  | x :: L, g, h, ha => by
    show foldP L (putF g x.1 x.2) i = _
    by_cases hL : ∃ y ∈ L, y.1 = i
    · exact foldP_some i p L _ hL (fun y hy => ha y (by simp [hy]))
    · have hn : ∀ y ∈ L, y.1 ≠ i := fun y hy e => hL ⟨y, hy, e⟩
      rw [foldP_none i L _ hn]
      obtain ⟨y, hy, hyi⟩ := h
      rcases List.mem_cons.1 hy with rfl | hy
      · unfold putF
        rw [if_pos hyi.symm, ha y (by simp) hyi]
      · exact absurd hyi (hn y hy)
theorem foldP_open {f : PgF} {n : Nat} (hf : PgMap f n) (g : PgF) (i : Nat) : foldP (openL f n) g i = (f i).or (g i) := by
  cases hi : f i with
  | none =>
    rw [foldP_none i _ _ (fun x hx e => by have := (Jzd hf hx).2.2; rw [e, hi] at this; cases this)]
    rfl
  | some p =>
    have hn := (hf i p hi).1
    have hm : (i, pgD (f i)) ∈ openL f n := by
      unfold openL
      exact List.mem_map.2 ⟨i, List.mem_filter.2 ⟨List.mem_range.2 hn, by rw [hi]; rfl⟩, rfl⟩
    rw [foldP_some i p (openL f n) g ⟨_, hm, rfl⟩ (fun x hx e => by
      have := (Jzd hf hx).2.2
      rw [e, hi] at this
      cases this; rfl)]
    rfl
def recZ (k : Nat) : Nat := 1 + (k + 15) / 16 + k
def BookS.ringed (B : BookS) (L : List (Nat × List Int)) : BookS :=
  { B with disk := ⟨B.disk.firm, B.disk.cache ++ recW 2 B.size B.pl (recP B.num B.last L)⟩, pl := (B.pl + recZ L.length) % B.size, num := B.num + 1, last := recS B.num B.last L, used := B.used + recZ L.length }
def BookS.added (B : BookS) (L : List (Nat × List Int)) : BookS := { B.ringed L with news := foldP L B.news }
def BookS.done (B : BookS) : BookS :=
  if B.cnt = 0 then B.shut
  else if recZ B.cnt ≤ B.size - B.used then B.shut.added (openL B.f B.n)
  else B.shut.homed.added (openL B.f B.n)
theorem BookS.f_map {B : BookS} (h : B.ok) : PgMap B.f B.n := by
  unfold BookS.f
  cases ho : B.opn with
  | none => exact PgMap.none _
  | some f => exact h.opn f ho
theorem BookS.f_none {B : BookS} (h : B.ok) (hc : B.cnt = 0) (i : Nat) : B.f i = none := by
  cases hi : B.f i with
  | none => rfl
  | some p =>
    have hn := (BookS.f_map h i p hi).1
    have : i ∈ keysF B.f B.n := List.mem_filter.2 ⟨List.mem_range.2 hn, by rw [hi]; rfl⟩
    have hl := List.length_pos_of_mem this
    unfold BookS.cnt at hc
    omega
theorem BookS.view_f (B : BookS) (i : Nat) : B.view i = match B.f i with
    | some p => p
    | none => B.base i := by
  unfold BookS.view
  rw [BookS.bind_f]
  cases B.f i <;> rfl
theorem BookS.added_base {B : BookS} (h : B.ok) (f : PgF) (hf : PgMap f B.n) (i : Nat) : (B.added (openL f B.n)).base i = match f i with
    | some p => p
    | none => B.base i := by
  have hs := h.size
  unfold BookS.base
  show (match foldP (openL f B.n) B.news i with
    | some p => p
    | none => (DiskS.mk B.disk.firm (B.disk.cache ++ recW 2 B.size B.pl (recP B.num B.last (openL f B.n)))).view (2 + B.size + i)) = _
  rw [foldP_open hf]
  cases hi : f i with
  | some p => rfl
  | none =>
    show (match B.news i with
      | some p => p
      | none => _) = _
    cases hn : B.news i with
    | some p => rfl
    | none =>
      show (DiskS.mk B.disk.firm (B.disk.cache ++ recW 2 B.size B.pl (recP B.num B.last (openL f B.n)))).view (2 + B.size + i) = _
      rw [DiskS.view_append B.disk.firm (2 + B.size + i) (recW 2 B.size B.pl (recP B.num B.last (openL f B.n))) B.disk.cache (fun x hx => by have := recW_mem (by omega) hx; omega)]
theorem BookS.done_n (B : BookS) : B.done.n = B.n := by
  unfold BookS.done
  split
  · rfl
  · split <;> rfl
theorem BookS.done_opn (B : BookS) : B.done.opn = none := by
  unfold BookS.done
  split
  · rfl
  · split <;> rfl
theorem BookS.done_f (B : BookS) (i : Nat) : B.done.f i = none := by
  unfold BookS.f
  rw [BookS.done_opn]; rfl
theorem BookS.done_gen (B : BookS) : B.gen ≤ B.done.gen ∧ B.done.gen ≤ B.gen + 1 := by
  unfold BookS.done
  split
  · show B.gen ≤ B.gen ∧ B.gen ≤ B.gen + 1; omega
  · split
    · show B.gen ≤ B.gen ∧ B.gen ≤ B.gen + 1; omega
    · show B.gen ≤ B.gen + 1 ∧ B.gen + 1 ≤ B.gen + 1; omega
theorem BookS.done_num (B : BookS) : B.num ≤ B.done.num ∧ B.done.num ≤ B.num + 1 := by
  unfold BookS.done
  split
  · show B.num ≤ B.num ∧ B.num ≤ B.num + 1; omega
  · split
    · show B.num ≤ B.num + 1 ∧ B.num + 1 ≤ B.num + 1; omega
    · show B.num ≤ B.num + 1 ∧ B.num + 1 ≤ B.num + 1; omega
theorem Qzg (first n pl : Nat) (P : List (List Int)) : (recW first n pl P).length = P.length := by simp [recW]
theorem BookS.done_cache (B : BookS) (hc : B.cnt ≤ 60) : B.done.disk.cache.length ≤ B.disk.cache.length + 80 := by
  unfold BookS.done
  have hl : ∀ num last, (recP num last (openL B.f B.n)).length ≤ 80 := fun num last => by
    rw [recP_length, Xzb]
    show 1 + (B.cnt + 15) / 16 + B.cnt ≤ 80
    omega
  split
  · show B.disk.cache.length ≤ _; omega
  · split
    · have e : ∀ (C : BookS) L, (C.added L).disk.cache.length = C.disk.cache.length + (recP C.num C.last L).length := fun C L => by
        show (C.disk.cache ++ recW 2 C.size C.pl (recP C.num C.last L)).length = _
        rw [List.length_append, Qzg]
      rw [e]
      have := hl B.shut.num B.shut.last
      show B.disk.cache.length + _ ≤ _
      omega
    · have e : ∀ (C : BookS) L, (C.added L).disk.cache.length = C.disk.cache.length + (recP C.num C.last L).length := fun C L => by
        show (C.disk.cache ++ recW 2 C.size C.pl (recP C.num C.last L)).length = _
        rw [List.length_append, Qzg]
      rw [e]
      have h0 : B.shut.homed.disk.cache.length = 0 := rfl
      have := hl B.shut.homed.num B.shut.homed.last
      omega
theorem BookS.shut_ok {B : BookS} (h : B.ok) : B.shut.ok := by
  obtain ⟨o1, o2, o3, o4, o5, o6, o7, o8, o9, o10, o11⟩ := h
  exact ⟨o1, o2, o3, o4, o5, fun f hf => (by cases hf), o7, o8, o9, o10, o11⟩
theorem BookS.done_view {B : BookS} (h : B.ok) (hh : B.shut.homed.ok) (i : Nat) (hi : i < B.n) : B.done.view i = B.view i := by
  have e1 : B.done.view i = B.done.base i := by
    rw [BookS.view_f, BookS.done_f]
  rw [e1, BookS.view_f]
  unfold BookS.done
  split
  case isTrue hc =>
    rw [BookS.f_none h hc]; rfl
  case isFalse hc =>
    split
    · exact BookS.added_base (BookS.shut_ok h) B.f (BookS.f_map h) i
    · have hx := BookS.added_base hh B.f (BookS.f_map h) i
      rw [BookS.homed_base (BookS.shut_ok h) i hi] at hx
      exact hx
theorem BookS.done_base {B : BookS} (h : B.ok) (hh : B.shut.homed.ok) (i : Nat) (hi : i < B.n) : B.done.base i = B.view i := by
  rw [← BookS.done_view h hh i hi, BookS.view_f, BookS.done_f]
open Go.RowKit Go.Maps
def plT (p : List Int) : Nat := (p.getD 17 0 + p.getD 18 0 * 256).toNat
def lastT (p : List Int) : List Int := (p.drop 19).take 32
structure TitQ where
  gen : Int
  pl : Nat
  num : Int
  last : List Int
def titS (s : TitQ) (p : List Int) : TitQ :=
  if p = Wz5 (getR p 1 8) (getR p 9 8) (plT p) (lastT p) ∧ s.gen < getR p 1 8 then ⟨getR p 1 8, plT p, getR p 9 8, lastT p⟩ else s
theorem t1F_at (g n : Int) : ∀ m i, i < m → m ≤ 8 → (t1F g n m).getD (1 + i) 0 = Kz9 g i ∧ (t1F g n m).getD (9 + i) 0 = Kz9 n i
  | 0, _, h, _ => by omega
  | m + 1, i, hi, hm => by
    have hl := Qzf g n m
    unfold t1F
    by_cases e : i = m
    · subst e
      exact ⟨by rw [getD_set_ne _ _ (by omega), Wz9 _ _ (by omega)], by rw [Wz9 _ _ (by rw [List.length_set]; omega)]⟩
    · have ih := t1F_at g n m i (by omega) (by omega)
      exact ⟨by rw [getD_set_ne _ _ (by omega), getD_set_ne _ _ (by omega), ih.1], by rw [getD_set_ne _ _ (by omega), getD_set_ne _ _ (by omega), ih.2]⟩
theorem titleF_eq (g n : Int) (pl : Nat) (last : List Int) (hl : last.length = 32) : Wz5 g n pl last = (t2F g n pl).take 19 ++ (last ++ (shaF ((t3F g n pl last).take 51)).take 13) := by
  unfold Wz5
  have h19 : ((t2F g n pl).take 19).length = 19 := by rw [List.length_take, Xzc]; rfl
  have e : (t3F g n pl last).take 51 = (t2F g n pl).take 19 ++ last := by
    unfold t3F
    rw [← List.append_assoc, List.take_append_of_le_length (by rw [List.length_append, h19, hl]; decide), List.take_of_length_le (by rw [List.length_append, h19, hl]; decide)]
  rw [e, List.append_assoc]
theorem titleF_at (g n : Int) (pl : Nat) (last : List Int) (hl : last.length = 32) (j : Nat) (hj : j < 19) : (Wz5 g n pl last).getD j 0 = (t2F g n pl).getD j 0 := by
  rw [titleF_eq _ _ _ _ hl]
  exact take_getD _ _ _ _ hj (by rw [Xzc]; decide)
theorem titleF_gen (g n : Int) (pl : Nat) (last : List Int) (hl : last.length = 32) (h : 0 ≤ g ∧ g < 18446744073709551616) : getR (Wz5 g n pl last) 1 8 = g :=
  getR_all _ _ _ 8 ⟨h.1, by have := h.2; simpa using this⟩ (fun i hi => by
    rw [titleF_at _ _ _ _ hl _ (by omega)]
    unfold t2F
    rw [getD_set_ne _ _ (by omega), getD_set_ne _ _ (by omega), (t1F_at g n 8 i hi (Nat.le_refl _)).1])
theorem titleF_num (g n : Int) (pl : Nat) (last : List Int) (hl : last.length = 32) (h : 0 ≤ n ∧ n < 18446744073709551616) : getR (Wz5 g n pl last) 9 8 = n :=
  getR_all _ _ _ 8 ⟨h.1, by have := h.2; simpa using this⟩ (fun i hi => by
    rw [titleF_at _ _ _ _ hl _ (by omega)]
    unfold t2F
    rw [getD_set_ne _ _ (by omega), getD_set_ne _ _ (by omega), (t1F_at g n 8 i hi (Nat.le_refl _)).2])
theorem titleF_pl (g n : Int) (pl : Nat) (last : List Int) (hl : last.length = 32) : plT (Wz5 g n pl last) = pl := by
  unfold plT
  rw [titleF_at _ _ _ _ hl _ (by omega), titleF_at _ _ _ _ hl _ (by omega)]
  have h := Qzf g n 8
  unfold t2F
  rw [getD_set_ne _ _ (by omega), Wz9 _ _ (by omega), Wz9 _ _ (by rw [List.length_set]; omega)]
  omega
theorem titleF_last (g n : Int) (pl : Nat) (last : List Int) (hl : last.length = 32) : lastT (Wz5 g n pl last) = last := by
  have h19 : ((t2F g n pl).take 19).length = 19 := by rw [List.length_take, Xzc]; rfl
  unfold lastT
  rw [titleF_eq _ _ _ _ hl, List.drop_append_of_le_length (by omega), List.drop_of_length_le (by omega), List.nil_append, List.take_append_of_le_length (by omega), List.take_of_length_le (by omega)]
theorem titS_title (s : TitQ) (g n : Int) (pl : Nat) (last : List Int) (hg : 0 ≤ g ∧ g < 18446744073709551616) (hn : 0 ≤ n ∧ n < 18446744073709551616) (hl : last.length = 32) : titS s (Wz5 g n pl last) = if s.gen < g then ⟨g, pl, n, last⟩ else s := by
  unfold titS
  rw [titleF_gen g n pl last hl hg, titleF_num g n pl last hl hn, titleF_pl g n pl last hl, titleF_last g n pl last hl]
  by_cases h : s.gen < g
  · rw [if_pos ⟨rfl, h⟩, if_pos h]
  · rw [if_neg (fun e => h e.2), if_neg h]
theorem titS_zero (s : TitQ) : titS s (zer 64) = s := by
  unfold titS
  rw [if_neg]
  rintro ⟨h, _⟩
  have := zero_title (getR (zer 64) 1 8) (getR (zer 64) 9 8) (plT (zer 64)) (lastT (zer 64))
  rw [decide_eq_false_iff_not] at this
  exact this h
def tit0 : TitQ := ⟨0, 0, 0, zer 32⟩
def TitB (n : Int) (l : List Int) : Prop := (0 ≤ n ∧ n < 18446744073709551616) ∧ l.length = 32 ∧ U8s l
def Tits (v0 v1 : List Int) (t : TitQ) : Prop :=
  (t = tit0 ∧ v0 = zer 64 ∧ v1 = zer 64) ∨
  (1 ≤ t.gen ∧ TitB t.num t.last ∧ t.pl ≤ 65535 ∧ (if t.gen % 2 = 0 then v0 else v1) = Wz5 t.gen t.num t.pl t.last ∧
    ((if t.gen % 2 = 0 then v1 else v0) = zer 64 ∨ ∃ s : TitQ, (if t.gen % 2 = 0 then v1 else v0) = Wz5 s.gen s.num s.pl s.last ∧ 0 ≤ s.gen ∧ s.gen < t.gen ∧ TitB s.num s.last))
theorem Tits.said {v0 v1 : List Int} {t : TitQ} (h : Tits v0 v1 t) (ht : t.gen < 4611686018427387904) : titS (titS tit0 v0) v1 = t := by
  rcases h with ⟨rfl, rfl, rfl⟩ | ⟨h1, hb, hp, h2, h3⟩
  · rw [titS_zero, titS_zero]
  · have hT : ∀ s : TitQ, titS s (Wz5 t.gen t.num t.pl t.last) = if s.gen < t.gen then t else s := fun s => titS_title s _ _ _ _ ⟨by omega, by omega⟩ hb.1 hb.2.1
    by_cases hg : t.gen % 2 = 0
    · rw [if_pos hg] at h2 h3
      rw [h2, hT, if_pos (by show (0 : Int) < _; omega)]
      rcases h3 with h3 | ⟨s, h3, s0, s1, sb⟩
      · rw [h3, titS_zero]
      · rw [h3, titS_title t _ _ _ _ ⟨by omega, by omega⟩ sb.1 sb.2.1, if_neg (by omega)]
    · rw [if_neg hg] at h2 h3
      rw [h2]
      rcases h3 with h3 | ⟨s, h3, s0, s1, sb⟩
      · rw [h3, titS_zero, hT, if_pos (by show (0 : Int) < _; omega)]
      · rw [h3, titS_title tit0 _ _ _ _ ⟨by omega, by omega⟩ sb.1 sb.2.1]
        by_cases hs : tit0.gen < s.gen
        · rw [if_pos hs, hT, if_pos s1]
        · rw [if_neg hs, hT, if_pos (by show (0 : Int) < _; omega)]
theorem Tits.next {v0 v1 : List Int} {t u : TitQ} (h : Tits v0 v1 t) (ht : t.gen < 4611686018427387904) (hu : u.gen = t.gen + 1) (hb : TitB u.num u.last) (hp : u.pl ≤ 65535) (w0 w1 : List Int)
    (h0 : w0 = if u.gen % 2 = 0 then Wz5 u.gen u.num u.pl u.last else v0) (h1 : w1 = if u.gen % 2 = 0 then v1 else Wz5 u.gen u.num u.pl u.last) : Tits w0 w1 u := by
  have hg0 : 0 ≤ t.gen := by
    rcases h with ⟨rfl, _⟩ | ⟨h1, _⟩
    · exact Int.le_refl _
    · omega
  subst h0 h1
  refine .inr ⟨by omega, hb, hp, ?_, ?_⟩
  · by_cases e : u.gen % 2 = 0
    · rw [if_pos e, if_pos e]
    · rw [if_neg e, if_neg e]
  · have e2 : (if u.gen % 2 = 0 then (if u.gen % 2 = 0 then v1 else Wz5 u.gen u.num u.pl u.last) else (if u.gen % 2 = 0 then Wz5 u.gen u.num u.pl u.last else v0)) = if t.gen % 2 = 0 then v0 else v1 := by
      by_cases e : u.gen % 2 = 0
      · rw [if_pos e, if_pos e, if_neg (by omega)]
      · rw [if_neg e, if_neg e, if_pos (by omega)]
    rw [e2]
    rcases h with ⟨rfl, rfl, rfl⟩ | ⟨h1, hb', hp', h2, h3⟩
    · left; split <;> rfl
    · exact .inr ⟨t, h2, by omega, by omega, hb'⟩
structure RgT where
  pl : Nat
  num : Int
  last : List Int
  used : Nat
def RgT.next (n : Nat) (r : RgT) (L : List (Nat × List Int)) : RgT := ⟨(r.pl + recZ L.length) % n, r.num + 1, recS r.num r.last L, r.used + recZ L.length⟩
def ChsOk (m : Nat) (L : List (Nat × List Int)) : Prop := (1 ≤ L.length ∧ L.length ≤ 60) ∧ ∀ x ∈ L, x.1 < m ∧ PgOk x.2
def RecAt (v : Nat → List Int) (n : Nat) (r : RgT) (L : List (Nat × List Int)) : Prop := ∀ i p, (recP r.num r.last L)[i]? = some p → v ((r.pl + i) % n) = p
def Recs (v : Nat → List Int) (n m : Nat) : RgT → List (List (Nat × List Int)) → RgT → Prop
  | r, [], r' => r = r'
  | r, L :: LL, r' => ChsOk m L ∧ r.used + recZ L.length ≤ n ∧ RecAt v n r L ∧ Recs v n m (r.next n L) LL r'
theorem Recs.nil {v : Nat → List Int} {n m : Nat} (r r' : RgT) (h : r = r') : Recs v n m r [] r' := h
theorem Recs.used_le {v : Nat → List Int} {n m : Nat} : ∀ (LL : List (List (Nat × List Int))) (r r' : RgT), Recs v n m r LL r' → r.used ≤ r'.used
  | [], r, r', h => by rw [(h : r = r')]; exact Nat.le_refl _
  | L :: LL, r, r', h => by
    have := Recs.used_le LL _ _ h.2.2.2
    have e : (r.next n L).used = r.used + recZ L.length := rfl
    omega
theorem Recs.place {v : Nat → List Int} {n m : Nat} : ∀ (LL : List (List (Nat × List Int))) (r r' : RgT), r.pl < n → Recs v n m r LL r' → r'.pl = (r.pl + (r'.used - r.used)) % n
  | [], r, r', hp, h => by
    rw [(h : r = r')] at hp ⊢
    rw [Nat.sub_self, Nat.add_zero, Nat.mod_eq_of_lt hp]
  | L :: LL, r, r', hp, h => by
    have hn : 0 < n := by omega
    have e : (r.next n L).used = r.used + recZ L.length := rfl
    have e2 : (r.next n L).pl = (r.pl + recZ L.length) % n := rfl
    have hu := Recs.used_le LL _ _ h.2.2.2
    rw [Recs.place LL _ _ (by rw [e2]; exact Nat.mod_lt _ hn) h.2.2.2, e2, Nat.mod_add_mod]
    congr 1; omega
theorem recZ_len (num : Int) (last : List Int) (L : List (Nat × List Int)) : (recP num last L).length = recZ L.length := recP_length num last L
theorem Recs.congr {v v' : Nat → List Int} {n m : Nat} : ∀ (LL : List (List (Nat × List Int))) (r r' : RgT), Recs v n m r LL r' → (∀ j, j < r'.used - r.used → v' ((r.pl + j) % n) = v ((r.pl + j) % n)) → Recs v' n m r LL r'
  | [], r, r', h, _ => h
  | L :: LL, r, r', h, hv => by
    obtain ⟨h1, h2, h3, h4⟩ := h
    have hu := Recs.used_le LL _ _ h4
    have e : (r.next n L).used = r.used + recZ L.length := rfl
    refine ⟨h1, h2, fun i p hi => ?_, Recs.congr LL _ _ h4 (fun j hj => ?_)⟩
    · have hlt := (List.getElem?_eq_some_iff.1 hi).1
      rw [recZ_len] at hlt
      rw [hv i (by omega)]
      exact h3 i p hi
    · have e2 : (r.next n L).pl = (r.pl + recZ L.length) % n := rfl
      rw [e2, Nat.mod_add_mod, Nat.add_assoc]
      exact hv _ (by omega)
theorem Recs.snoc {v : Nat → List Int} {n m : Nat} (L : List (Nat × List Int)) : ∀ (LL : List (List (Nat × List Int))) (r r' : RgT), Recs v n m r LL r' → ChsOk m L → r'.used + recZ L.length ≤ n → RecAt v n r' L → Recs v n m r (LL ++ [L]) (r'.next n L)
  | [], r, r', h, h1, h2, h3 => by
    have h : r = r' := h
    subst h
    exact ⟨h1, h2, h3, rfl⟩
  | K :: LL, r, r', h, h1, h2, h3 => ⟨h.1, h.2.1, h.2.2.1, Recs.snoc L LL _ _ h.2.2.2 h1 h2 h3⟩
theorem mod_ne {a b n : Nat} (h : a < b) (h2 : b < a + n) : a % n ≠ b % n := fun e => by
  have h3 : (b - a) % n = 0 := Nat.sub_mod_eq_zero_of_mod_eq e.symm
  have h4 : (b - a) % n = b - a := Nat.mod_eq_of_lt (by omega)
  omega
theorem recW_view (f : List (List Int)) (c : List (Nat × List Int)) (n pl : Nat) (P : List (List Int)) (hP : P.length ≤ n) (i : Nat) (p : List Int) (hi : P[i]? = some p) : (DiskS.mk f (c ++ recW 2 n pl P)).view (2 + (pl + i) % n) = p := by
  have hlt := (List.getElem?_eq_some_iff.1 hi).1
  have hpi : P[i] = p := (List.getElem?_eq_some_iff.1 hi).2
  have hspl : recW 2 n pl P = (recW 2 n pl P).take (i + 1) ++ (recW 2 n pl P).drop (i + 1) := (List.take_append_drop _ _).symm
  rw [hspl, ← List.append_assoc, DiskS.view_append, recW_take _ _ _ _ _ hlt, ← List.append_assoc, DiskS.view_snoc, if_pos rfl, hpi]
  intro x hx e
  obtain ⟨j, hj, hje⟩ := List.getElem_of_mem hx
  rw [List.length_drop, Qzg] at hj
  have hx2 : x = (2 + (pl + (i + 1 + j)) % n, P.getD (i + 1 + j) []) := by
    rw [← hje, List.getElem_drop]
    simp [recW]
  rw [hx2] at e
  simp only at e
  exact mod_ne (a := pl + i) (b := pl + (i + 1 + j)) (n := n) (by omega) (by omega) (by omega)
theorem recW_other (f : List (List Int)) (c : List (Nat × List Int)) (n pl : Nat) (P : List (List Int)) (i : Nat) (h : ∀ j, j < P.length → i ≠ 2 + (pl + j) % n) : (DiskS.mk f (c ++ recW 2 n pl P)).view i = (DiskS.mk f c).view i := by
  rw [DiskS.view_append]
  intro x hx e
  unfold recW at hx
  obtain ⟨j, hj, rfl⟩ := List.mem_map.1 hx
  exact h j (List.mem_range.1 hj) e.symm
open Go.RowKit Go.Maps
set_option maxRecDepth 100000 in
theorem less_any (blk off c Bs size : Nat) (W : World) (G : Nat → Int) (hs : W.cell? ⟨Bs, 0, none⟩ = some (.slice (some ⟨blk, off, none⟩) size c))
    (hc : ∀ t, t < size → W.cell? ⟨blk, off + t * 65, none⟩ = some (.int .i64 (G t))) (i j : Nat) (hi : i < size) (hj : j < size) (hsz : size < 4611686018427387904) :
    Calls Tryz.prog 69 #[.int .i64 (i : Int), .int .i64 (j : Int), .pointer (some ⟨Bs, 0, none⟩)] W fun e w' => e = .returned (.bool (decide (G i < G j))) ∧ ∃ q, w' = W.drewN q := by
  have ci := hc i hi
  have cj := hc j hj
  have hi0 : (0 : Int) ≤ i := by omega
  have hj0 : (0 : Int) ≤ j := by omega
  have hi1 : (i : Int) < size := by omega
  have hj1 : (j : Int) < size := by omega
  have r0 := cell_regrown hs
  have r1 := cell_regrown ci
  have r2 := cell_regrown cj
  clear hc
  go_enter Tryz.func69, Tryz.ntmps69
  go_wp2_with fail
  go_quiet (fail)
  go_wp2_with fail
  go_ret
  exact ⟨rfl, _, rfl⟩
end Go.Proofs.YtajmcplanlibnaaGreatDoor
