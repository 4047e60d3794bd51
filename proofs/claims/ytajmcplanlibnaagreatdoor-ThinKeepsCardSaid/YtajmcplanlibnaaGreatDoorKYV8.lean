/- A book is mounted on a disk that has one: it is as it was, all at home. -/
import Derived.Test.YtajmcplanlibnaaGreatDoorKYV5
import Derived.Test.YtajmcplanlibnaaGreatDoorKYV2
import Derived.Test.YtajmcplanlibnaaGreatDoorKYS2
set_option linter.unusedSimpArgs false
set_option linter.unusedVariables false
set_option linter.unnecessarySimpa false
namespace Go.Proofs.YtajmcplanlibnaaGreatDoor
open Go.RowKit Go.Maps
theorem Recs.count {v : Nat → List Int} {n m : Nat} : ∀ (LL : List (List (Nat × List Int))) (r r' : RgT), Recs v n m r LL r' → r.used + LL.length ≤ r'.used
  | [], r, r', h => by rw [(h : r = r')]; simp
  | L :: LL, r, r', h => by
    have := Recs.count LL _ _ h.2.2.2
    have e : (r.next n L).used = r.used + recZ L.length := rfl
    have hz : 1 ≤ recZ L.length := by unfold recZ; omega
    rw [List.length_cons]; omega
theorem Recs.all {v : Nat → List Int} {n m : Nat} : ∀ (LL : List (List (Nat × List Int))) (r r' : RgT), Recs v n m r LL r' → ∀ L ∈ LL, ChsOk m L
  | [], _, _, _, L, hL => by cases hL
  | K :: LL, r, r', h, L, hL => by
    rcases List.mem_cons.1 hL with rfl | hL
    · exact h.1
    · exact Recs.all LL _ _ h.2.2.2 L hL
theorem newsOf_snoc (LL : List (List (Nat × List Int))) (L : List (Nat × List Int)) : Jzg (LL ++ [L]) = foldP L (Jzg LL) := by
  unfold Jzg
  rw [List.foldl_append]; rfl
def titI (v : Nat → List Int) : Nat → TitQ
  | 0 => tit0
  | i + 1 => titS (titI v i) (v i)
theorem titS_last {s : TitQ} (h : s.last.length = 32) {p : List Int} (hp : p.length = 64) : (titS s p).last.length = 32 := by
  unfold titS
  split
  · show (lastT p).length = 32
    unfold lastT
    simp [hp]
  · exact h
theorem titI_last {v : Nat → List Int} (hv : ∀ i, i < 2 → (v i).length = 64) : ∀ i, i ≤ 2 → (titI v i).last.length = 32
  | 0, _ => rfl
  | i + 1, h => titS_last (titI_last hv i (by omega)) (hv i (by omega))
def MtY (w : World) (db bb nb mb size : Nat) (n : Int) (t : TitQ) (wx : World) : Prop :=
  wx.heap[bb]? = some (.cells #[.pointer (some ⟨db, 0, none⟩), .pointer none, .int .i64 (size : Int), .int .i64 n, .int .u64 t.gen, .map (some nb), .map none, .bool false] 146) ∧ MapIs Tryz.prog 3 wx nb 0 (fun _ => none) ∧
  wx.heap[mb]? = some (.cells (markC t.pl t.num t.last) 148) ∧ Below w.heap.size w wx ∧ w.heap.size ≤ bb ∧ w.heap.size ≤ nb ∧ w.heap.size ≤ mb
theorem MtY.below {w wx wy : World} {db bb nb mb size : Nat} {n : Int} {t : TitQ} (h : MtY w db bb nb mb size n t wx) (hb : Below wx.heap.size wx wy) : MtY w db bb nb mb size n t wy :=
  ⟨(hb.block _ (Zz0 h.1)).trans h.1, h.2.1.below hb h.2.1.lt, (hb.block _ (Zz0 h.2.2.1)).trans h.2.2.1, h.2.2.2.1.trans (hb.mono h.2.2.2.1.size), h.2.2.2.2⟩
theorem LLRow.other {b : Nat} {w w' : World} {v : Value} {LL : List (List (Nat × List Int))} (h : LLRow b w v LL) {rb T : Nat} {cs : Array Value} (h1 : 154 ≠ T) (h2 : 156 ≠ T) (hr : w.heap[rb]? = some (.cells cs T)) (hg : w.grownBy w' (some rb)) : LLRow b w' v LL := by
  obtain ⟨vs5, q1, q2⟩ := h
  refine ⟨vs5, Xz5 q1 (fun k hk => ?_), fun t K hK => ?_⟩
  · obtain ⟨cur, hc⟩ := own_blk q1 hk
    exact hg.block k (Zz0 hc) (fun e => Zze hc hr h1 (Option.some.inj e))
  · obtain ⟨g', g1, g2⟩ := q2 t K hK
    exact ⟨g', g1, (hg.block g' (Zz0 g2) (fun e => Zze g2 hr h2 (Option.some.inj e))).trans g2⟩
def MkF (b12 : Nat) (cs : Array Value) (wx : World) : Prop := wx.heap[b12]? = some (.cells cs 148)
set_option maxRecDepth 100000 in
set_option maxHeartbeats 4000000 in
theorem mount_any (db : Nat) (N : Nat → Prop) (B : BookS) (w : World) (hB : B.ok) (hopn : B.opn = none) (hBn : B.n = min 2048 (B.disk.firm.length - 2 - B.size)) (hg : B.gen < 4611686018427387903) (hlog : B.logged) (hdb : ∀ k, B.db = some k → k = db) (hN : ¬ N db) (h : DiskI w db N B.disk) :
    Calls Tryz.prog 13 #[.pointer (some ⟨db, 0, none⟩), .int .i64 (B.size : Int)] w fun e w' => (∃ bb, e = .returned (.tuple #[.pointer (some ⟨bb, 0, none⟩), .nilIface]) ∧ w.heap.size ≤ bb ∧ BookI w' bb N B.homed) ∧ Keeps N w w' := by
  obtain ⟨t, LL, a1, a2, a3, a4, a5, a6, a7⟩ := hlog
  have HD := hZ h
  have HBO := hZ hB
  have hfl := h.isOk.1
  have hok := h.isOk
  have hsz := hB.size
  have hroom := hB.room
  have hbn := hB.n
  have HV : Hid (∀ i, i < 2 → PgOk (B.disk.view i)) := hZ (fun i hi => Vze hok i (by omega))
  have HT : Hid (titI B.disk.view 2 = t) := hZ (a2.said (by rw [a1]; omega))
  have HL32 : Hid (∀ i, i ≤ 2 → (titI B.disk.view i).last.length = 32) := hZ (titI_last (fun i hi => (HV.out i hi).1))
  have HRD := hZ (fun wx (hx : DiskI wx db N B.disk) (i : Nat) (hi : i < 2) => Kzh db N B.disk i (by omega) wx hx)
  have HTG := hZ a1
  have HOPN : Hid (∀ wx, DiskI wx db N B.disk → Calls Tryz.prog 66 #[.pointer (some ⟨db, 0, none⟩), .int .i64 ((2 : Nat) : Int), .int .i64 (B.size : Int), .agg (markC t.pl t.num t.last)] wx fun e w' => (∃ rb v, e = .returned (.tuple #[.pointer (some ⟨rb, 0, none⟩), v, .nilIface]) ∧ wx.heap.size ≤ rb ∧ OpF rb db 2 B.size ⟨B.pl, B.num, B.last, B.used⟩ w' ∧ LLRow wx.heap.size w' v LL) ∧ Below wx.heap.size wx w') := hZ (fun wx hx =>
    open_any db 2 B.size B.n ⟨t.pl, t.num, t.last, 0⟩ ⟨B.pl, B.num, B.last, B.used⟩ LL N B.disk wx hsz (by omega) ⟨a3, a4.1.1, Nat.zero_le _, a4.2⟩ rfl hB.num.2 (by omega) (by have := Recs.count LL _ _ a5; have := hB.used; dsimp only at *; omega) hx a5 (a7 _ (Nat.mod_lt _ (by omega))))
  have HLA : Hid (∀ L ∈ LL, ChsOk B.n L) := hZ (Recs.all LL _ _ a5)
  have HLN : LL.length ≤ 4096 := by have := Recs.count LL _ _ a5; have := hB.used; dsimp only at *; omega
  have HNW := hZ a6
  have HPL : t.pl < B.size := a3
  clear a2 a4 a5 a6 a7 a3 a1 h hok
  generalize hsS : B.size = size at *
  obtain ⟨hs1, hs2⟩ := hsz
  have hnn : (B.n : Int) = min 2048 ((B.disk.firm.length : Int) - 2 - size) := by omega
  have HNN := hZ hnn
  have HSS := hZ hsS
  have HOP := hZ hopn
  have HDB := hZ hdb
  have HNDB := hZ hN
  clear hBn hsS hopn hdb hN hnn hB
  have g1 : (96 : Int) ≤ size := by omega
  have g2 : (size : Int) ≤ 4096 := by omega
  have g3 : (2 : Int) + size + 1 ≤ B.disk.firm.length := by omega
  have g4 : (B.disk.firm.length : Int) ≤ 4096 := by omega
  have hSZ := hZ (fun wx (hx : DiskI wx db N B.disk) => diskSize_any db N B.disk wx hx)
  go_enter Tryz.func13, Tryz.ntmps13
  go_wp2_with fail
  refine (hSZ.out w HD.out).mono ?_
  rintro e w1 ⟨rfl, rfl⟩
  try dsimp only
  go_wp2_with fail
  refine (hSZ.out w HD.out).mono ?_
  rintro e w1 ⟨rfl, rfl⟩
  try dsimp only
  have hmm : ∀ wx : World, (Instr.makeMap 142 none).run Tryz.prog wx = .ok (.map (some wx.heap.size)) (wx.alloc (.map #[] 0)) := fun _ => by kernel_rfl
  repeat ((fail_if_success (with_reducible refine Kz1 51 rfl ?_)); (first | go_values | go_skip | go_guarded | go_step | go_upon))
  refine book_build rfl (.tmp 42) (.tmp 43) (.tmp 49) (.tmp 50) rfl db size w.heap.size _ rfl rfl rfl rfl ?_
  simp only [Act.put, qs0, qs1, qs2]
  repeat ((fail_if_success (with_reducible refine Kz1 53 rfl ?_)); (first | go_values | go_skip | go_guarded | go_step | go_upon))
  obtain ⟨b0, b1, b2⟩ := heap3 w (.map #[] 0) (.cells #[.pointer (some ⟨db, 0, none⟩), .pointer none, .int .i64 (size : Int), .int .i64 (min 2048 ((B.disk.firm.length : Int) - 2 - size)), .int .u64 0, .map (some w.heap.size), .map none, .bool false] 146) (.cells (markC 0 0 (zer 32)) 148)
  refine Xz0 (fun wx => Hid (MtY w db (w.heap.size + 1) w.heap.size (w.heap.size + 1 + 1) size (min 2048 ((B.disk.firm.length : Int) - 2 - size)) (titI B.disk.view 0) wx)) (hZ ⟨b1, (mapIs_made Tryz.prog 3 w).of_block (b0.trans (heap_alloc_new w _).symm), b2, by repeat (first | with_reducible assumption | (with_reducible refine Below.setCell ?_ (by first | omega | (simp; done) | (simp; omega)) _) | (with_reducible refine Below.alloc ?_ (by first | omega | (simp; done) | (simp; omega)) _) | (with_reducible refine Below.drew ?_) | (with_reducible refine Qz2 ?_ _) | with_reducible exact Below.refl _ _ | (with_reducible refine Below.trans ?_ (Below.mono (by assumption) (by first | omega | (simp; done) | (simp; omega))))), by omega, Nat.le_refl _, by omega⟩) ?_
  clear b0 b1 b2 hmm
  rw [← HNN.out]
  have hb1 : w.heap.size ≤ w.heap.size + 1 := by omega
  have hbn2 : w.heap.size ≠ w.heap.size + 1 := by omega
  have hbm2 : w.heap.size + 1 ≠ w.heap.size + 1 + 1 := by omega
  generalize hmb : w.heap.size + 1 + 1 = mb at hbm2 ⊢
  generalize hbb : w.heap.size + 1 = bb at hb1 hbn2 hbm2 ⊢
  generalize hnb : w.heap.size = nb at hbn2 ⊢
  intro w1 H1
  clear hmb
  go_wp2_with fail
  go_loopw [8, 53] (fun _ iv wr => ∃ i : Nat, iv = .int .i64 i ∧ i ≤ 2 ∧ Hid (MtY w db bb nb mb size B.n (titI B.disk.view i) wr)) (fun _ iv _ => 2 - (intOf iv).toNat)
  case atStart => exact ⟨0, rfl, by omega, H1⟩
  case round =>
    clear H1
    obtain ⟨i, rfl, hi, H⟩ := hrel
    by_cases hlt : i < 2
    · have hi0 : (0 : Int) ≤ i := by omega
      have hi2 : (i : Int) < 2 := by omega
      have hRD := HRD.out wr (HD.out.below H.out.2.2.2.1) i hlt
      have HPO := hZ (HV.out i hlt)
      have hl32 := HL32.out i (by omega)
      have HNX : Hid (titI B.disk.view (i + 1) = titS (titI B.disk.view i) (B.disk.view i)) := hZ rfl
      generalize titI B.disk.view i = s at H hl32 HNX
      generalize B.disk.view i = p at hRD HPO HNX
      have hp64 := HPO.out.1
      go_wp2_with fail
      refine hRD.mono ?_
      clear hRD
      rintro e w2 ⟨rfl, hb2⟩
      have H2 := hZ (H.out.below hb2)
      clear hb2 H
      try dsimp only
      repeat ((fail_if_success (with_reducible refine Kz1 62 rfl ?_)); (first | (refine Wz2 rfl (.tmp 9) (.tmp 60) rfl w2.heap.size p (zer 64) rfl rfl (heap_alloc_new w2 _) hp64 rfl ?_) | go_values | go_skip | go_guarded | go_step | go_upon))
      have hbx : ∀ o : Obj, Below w2.heap.size w2 ((w2.alloc o).setRow w2.heap.size (v8a p)) := fun o => below_setRow (bZ) (Nat.le_refl _) _
      refine Xz0 (fun wx => Hid (MtY w db bb nb mb size B.n s wx ∧ wx.heap[w2.heap.size]? = some (.cells (v8a p) 37))) (hZ ⟨H2.out.below (hbx _), setRow_heap _ _ _ _ _ (0, 0) (heap_alloc_new w2 _)⟩) ?_
      clear hbx H2
      generalize w2.heap.size = box
      intro w3 H3
      have hRE := readx_any p w3 HPO.out
      go_wp2_with (refine Wz3 rfl (.tmp 9) rfl box p rfl H3.out.2 hp64 ?_)
      refine hRE.mono ?_
      clear hRE
      rintro e w4 ⟨rfl, hb4⟩
      have H4 := hZ (H3.out.1.below hb4)
      clear hb4 H3
      have HTS : Hid (titI B.disk.view (i + 1) = if p = Wz5 (getR p 1 8) (getR p 9 8) (plT p) (lastT p) ∧ s.gen < getR p 1 8 then ⟨getR p 1 8, plT p, getR p 9 8, lastT p⟩ else s) := hZ HNX.out
      have hl : (lastT p).length = 32 := by unfold lastT; simp [hp64]
      have hG := getR_lt HPO.out.2 1 8
      clear HNX HPO
      generalize getR p 1 8 = G at HTS hG ⊢
      generalize getR p 9 8 = num at HTS ⊢
      generalize plT p = pl at HTS ⊢
      generalize lastT p = last at HTS hl ⊢
      obtain ⟨ok, hok⟩ : ∃ ok, decide (p = Wz5 G num pl last) = ok := ⟨_, rfl⟩
      rw [hok]
      obtain ⟨hG0, hG1⟩ := hG
      try dsimp only
      go_upto_region 12 with (refine wpList_store_row rfl 148 (.tmp 12) (.tmp 70) rfl w4.heap.size (markC pl num last) rfl rfl 148 (markC 0 0 (zer 32)) (heap_alloc_new w4 _) (by rw [Jz5 _ _ _ hl]; exact Wz7) (by rw [Jz5 _ _ _ hl]; rfl) (Xza _ _ _) ?_)
      have hbx : ∀ o : Obj, Below w4.heap.size w4 ((w4.alloc o).setRow w4.heap.size (markC pl num last)) := fun o => below_setRow (bZ) (Nat.le_refl _) _
      refine Kz0 (fun wx => Hid (MtY w db bb nb mb size B.n s wx) ∧ Hid (wx.heap[w4.heap.size]? = some (.cells (markC pl num last) 148))) ⟨hZ (H4.out.below (hbx _)), hZ (setRow_heap _ _ _ _ _ (0, 0) (heap_alloc_new w4 _))⟩ ?_
      have hmbl := Zz0 H4.out.2.2.1
      have hbbl := Zz0 H4.out.1
      clear hbx H4
      generalize w4.heap.size = b12 at hmbl hbbl ⊢
      clear w4
      rintro w5 ⟨H5, HK5⟩
      try simp only [Act.put]
      obtain ⟨z0, z1, z2, z3, z4, f1⟩ := blk8c H5.out.1
      cases ok with
      | false =>
        have hno : titI B.disk.view (i + 1) = s := by
          rw [HTS.out, if_neg]
          rintro ⟨h1, _⟩
          rw [decide_eq_false_iff_not] at hok
          exact hok h1
        go_wp2_with fail
        exact ⟨⟨i + 1, by go_num, by omega, by rw [hno]; exact H5⟩, by simp [intOf]; omega⟩
      | true =>
        by_cases hgt : s.gen < G
        · have hyes : titI B.disk.view (i + 1) = ⟨G, pl, num, last⟩ := by
            rw [HTS.out, if_pos]
            exact ⟨of_decide_eq_true hok, hgt⟩
          have hgt2 : G > s.gen := hgt
          have f4 : w5.frozen? ⟨bb, 4, none⟩ = false := by simp [World.frozen?, H5.out.1]
          have hb12 : bb ≠ b12 := by omega
          have hm12 : mb ≠ b12 := by omega
          have hnm : nb ≠ mb := Xz4 H5.out.2.2.1 H5.out.2.1
          have HML : Hid ((Value.int .i64 (pl : Int) :: .int .u64 num :: v8 last).length = 34) := hZ (by simp only [List.length_cons, Wz0, hl])
          go_wp2_with fail
          have hne : Nonempty (SatW (MkF b12 (markC pl num last))) := ⟨⟨_, (show MkF b12 (markC pl num last) w5.drew from HK5.out)⟩⟩
          refine Vz0 [(0, true), (1, true), (2, true), (3, true), (4, true), (5, false), (6, false)] 6 (fun w' => ∃ p : SatW (MkF b12 (markC pl num last)), w' = p.w) (by kernel_rfl) (by kernel_rfl) (fun _ _ d _ _ h => by cases d <;> exact h) (Jz3 (show MkF b12 (markC pl num last) w5.drew from HK5.out)) ?_
          (repeat (with_reducible refine mix_q ?_; simp only [qd1, qd0, qt1, qt0]; go_big_quiet_step (fail); with_reducible refine wpQuiet_nil ?_))
          with_reducible refine mix_q ?_
          simp only [qd1, qd0, qt1, qt0]
          go_big_quiet_want
          refine Jz1 148 (.tmp 12) rfl b12 0 rfl (.int .i64 (pl : Int) :: .int .u64 num :: v8 last) _ (fun w' hw' => by obtain ⟨q, rfl⟩ := hw'; exact Jzc q.h) Tryz.underlying148 rfl (by rw [HML.out]; exact Wz7) ?_
          simp only [Act.put, qs0, qs1, qs2]
          go_big_quiet_on
          with_reducible refine wpQuiet_nil ?_
          (repeat (with_reducible refine mix_q ?_; simp only [qd1, qd0, qt1, qt0]; go_big_quiet_step (fail); with_reducible refine wpQuiet_nil ?_))
          with_reducible refine mix_a ?_; simp only [qd1, qd0, qt1, qt0]
          go_wp2_with fail
          try with_reducible refine wpList_nil ?_
          with_reducible refine Qz0 ?_
          refine ⟨fun _ => Jz3 (F := MkF b12 (markC pl num last)) (show (w5.setCell ⟨bb, 4, none⟩ (.int .u64 G)).heap[b12]? = _ from Zz1 hb12 HK5.out), ?_⟩
          have hc1 := Xz3 (i := 4) H5.out.1 (.int .u64 G)
          have hbs : Below w.heap.size w (w5.setCell ⟨bb, 4, none⟩ (.int .u64 G)).drew := (H5.out.2.2.2.1.setCell (by show w.heap.size ≤ bb; exact H5.out.2.2.2.2.1) _).drew
          have hm1 : (w5.setCell ⟨bb, 4, none⟩ (.int .u64 G)).heap[mb]? = some (.cells (markC s.pl s.num s.last) 148) := Zz1 hbm2 H5.out.2.2.1
          have hn1 : (w5.setCell ⟨bb, 4, none⟩ (.int .u64 G)).heap[nb]? = w5.heap[nb]? := Zz1 (fun e => hbn2 e.symm) rfl
          change (w5.setCell ⟨bb, 4, none⟩ (.int .u64 G)).drew.heap[bb]? = _ at hc1
          change (w5.setCell ⟨bb, 4, none⟩ (.int .u64 G)).drew.heap[mb]? = _ at hm1
          change (w5.setCell ⟨bb, 4, none⟩ (.int .u64 G)).drew.heap[nb]? = _ at hn1
          generalize (w5.setCell ⟨bb, 4, none⟩ (.int .u64 G)).drew = w6 at hc1 hbs hm1 hn1 ⊢
          with_reducible refine mix_a ?_; simp only [qd1, qd0, qt1, qt0]
          refine wpList_store_row rfl 148 (.tmp 7) (.tmp 83) rfl mb (markC pl num last) rfl rfl 148 (markC s.pl s.num s.last) hm1 (by rw [Jz5 _ _ _ hl]; exact Wz7) (by rw [Jz5 _ _ _ hl, Jz5 _ _ _ hl32]) (Xza _ _ _) ?_
          have HF : Hid (MtY w db bb nb mb size B.n ⟨G, pl, num, last⟩ (w6.setRow mb (markC pl num last))) := hZ ⟨by rw [setRow_other _ _ _ _ hbm2]; exact hc1, H5.out.2.1.of_block (by rw [setRow_other _ _ _ _ hnm]; exact hn1), setRow_heap _ _ _ _ _ (0, 0) hm1, below_setRow hbs (by have := H5.out.2.2.2.2.2.2; omega) _, H5.out.2.2.2.2⟩
          generalize w6.setRow mb (markC pl num last) = w7 at HF ⊢
          simp only [Act.put]
          with_reducible refine wpList_nil ?_
          with_reducible refine Qz0 ?_
          refine ⟨fun h => absurd h (by simp), Wz1 ?_⟩
          go_wp2_with fail
          exact ⟨⟨i + 1, by go_num, by omega, by rw [hyes]; exact HF⟩, by simp [intOf]; omega⟩
        · have hno : titI B.disk.view (i + 1) = s := by
            rw [HTS.out, if_neg]
            rintro ⟨_, h2⟩
            exact hgt h2
          have hgt2 : ¬ (G > s.gen) := hgt
          go_wp2_with fail
          exact ⟨⟨i + 1, by go_num, by omega, by rw [hno]; exact H5⟩, by simp [intOf]; omega⟩
    · obtain rfl : i = 2 := by omega
      rw [HT.out] at H
      obtain ⟨m0, m1⟩ := mark_cells H.out.2.2.1
      have HML : Hid ((Value.int .i64 (t.pl : Int) :: .int .u64 t.num :: v8 t.last).length = 34) := hZ (by simp only [List.length_cons, Wz0]; have := HL32.out 2 (by omega); rw [HT.out] at this; omega)
      have hpl1 : ¬ ((t.pl : Int) ≥ size) := by omega
      have hOP := HOPN.out wr (HD.out.below H.out.2.2.2.1)
      go_wp2_with (refine wpList_load_mid rfl 148 (.tmp 7) rfl mb 0 rfl (.int .i64 (t.pl : Int) :: .int .u64 t.num :: v8 t.last) _ (Jzc H.out.2.2.1) Tryz.underlying148 rfl ?s1 ?_)
      case s1 =>
        rw [show (v8 t.last).length + 1 + 1 = 34 from HML.out]
        have h := Wz7
        simp only [Option.map_eq_some_iff] at h
        exact h
      refine hOP.mono ?_
      clear hOP
      rintro e w6 ⟨⟨rb, v, rfl, hrb, hring, hrow⟩, hb6⟩
      have H6 := hZ (H.out.below hb6)
      have HR := hZ hring
      have HRW := hZ hrow
      have hsz6 := H.out.2.2.2.1.size
      have hrb' : w.heap.size ≤ rb := by omega
      clear hb6 hring hrow H m0 m1 HML
      obtain ⟨z0, z1, z2, z3, z4, f1⟩ := blk8c H6.out.1
      try dsimp only
      go_upto_region 21 with fail
      have hbr : bb ≠ rb := Zze H6.out.1 HR.out (by decide)
      have hbw : Below w.heap.size w (w6.setCell ⟨bb, 1, none⟩ (.pointer (some ⟨rb, 0, none⟩))) := H6.out.2.2.2.1.setCell H6.out.2.2.2.2.1 _
      have hNl := HD.out.N_lt
      have hlb := Zz0 H6.out.1
      have hlr := Zz0 HR.out
      have hln := H6.out.2.1.lt
      have hX : BookX (w6.setCell ⟨bb, 1, none⟩ (.pointer (some ⟨rb, 0, none⟩))) bb N { B with news := fun _ => none } db rb nb (.map none) := by
        refine ⟨?_, Zz1 hbr ?_, HD.out.keep hbw (fun k hk => ?_), ?_, (by show OpenI _ _ _ B.opn; rw [HOP.out]; rfl), by simp [ovB], ⟨fun h => ?_, fun h => ?_, fun h => ?_, fun k hk => by simp [ovB] at hk⟩, ?_, HDB.out⟩
        · have e := Xz3 (i := 1) H6.out.1 (.pointer (some ⟨rb, 0, none⟩))
          rw [HTG.out, ← HSS.out] at e
          exact e
        · have e := HR.out
          rw [← HSS.out] at e
          exact e
        · have e : (w6.setCell ⟨bb, 1, none⟩ (.pointer (some ⟨rb, 0, none⟩))).heap.size = w6.heap.size := by simp [World.setCell]
          have hs6 := H6.out.2.2.2.1.size
          rw [e]
          rcases hk with hk | hk | hk | hk | hk
          · have := hNl k hk; exact ⟨by omega, .inl hk⟩
          · subst hk; exact ⟨hlb, .inr H6.out.2.2.2.2.1⟩
          · subst hk; exact ⟨hlr, .inr hrb'⟩
          · subst hk; exact ⟨hln, .inr H6.out.2.2.2.2.2.1⟩
          · simp [ovB] at hk
        · show MapIs Tryz.prog 3 _ nb (keysF (fun _ => none) _).length (pgL fun _ => none)
          rw [Zzj, pgL_none]
          exact H6.out.2.1.setCell (Xz4 H6.out.1 H6.out.2.1) _
        · have := hNl _ h; have := H6.out.2.2.2.2.1; omega
        · have := hNl _ h; omega
        · have := hNl _ h; have := H6.out.2.2.2.2.2.1; omega
        · obtain ⟨o1, o2, o3, o4, o5, o6, o7, o8, o9, o10, o11⟩ := HBO.out
          exact ⟨o1, o2, o3, o4, PgMap.none _, o6, o7, o8, o9, o10, o11⟩
      have hrow7 : LLRow wr.heap.size (w6.setCell ⟨bb, 1, none⟩ (.pointer (some ⟨rb, 0, none⟩))) v LL := HRW.out.other (by decide) (by decide) H6.out.1 (Zz4 _ _ _ _)
      refine Kz0 (fun wx => Hid (BookX wx bb N { B with news := fun _ => none } db rb nb (.map none)) ∧ Hid (LLRow wr.heap.size wx v LL) ∧ Hid (Below w.heap.size w wx)) ⟨hZ hX, hZ hrow7, hZ hbw⟩ ?_
      clear hX hrow7 hbw hNl hlb hlr hln hbr HR HRW z0 z1 z2 z3 z4 f1
      have hbbw : w.heap.size ≤ bb := H6.out.2.2.2.2.1
      clear H6
      clear w6
      rintro w7 ⟨HX, HRW, HB7⟩
      obtain ⟨vs, hvo, hvs⟩ := HRW.out
      obtain ⟨va, vc, hv⟩ := Kz3 hvo
      subst hv
      have HVO := hZ hvo
      have HVS := hZ hvs
      clear hvo hvs HRW
      try simp only [Act.put]
      go_wp2_with fail
      go_loopw [111] (fun iv wr => ∃ i : Nat, iv = .int .i64 (i : Int) ∧ i ≤ LL.length ∧ Hid (BookX wr bb N { B with news := Jzg (LL.take i) } db rb nb (.map none)) ∧ Hid (Keeps (fun k => k ≠ nb) w7 wr)) (fun iv _ => 5000 - (intOf iv).toNat)
      case atStart => exact ⟨0, rfl, by omega, HX, hZ (Keeps.refl _ _)⟩
      case round =>
        obtain ⟨i, rfl, hi, HBX, HK⟩ := hrel
        by_cases hlt : i < LL.length
        · have hi0 : (0 : Int) ≤ i := by omega
          have hi1 : (i : Int) < LL.length := by omega
          have hNS : Jzg (LL.take (i + 1)) = foldP LL[i] (Jzg (LL.take i)) := by rw [List.take_succ_eq_append_getElem hlt, newsOf_snoc]
          obtain ⟨L, hL⟩ : ∃ L, LL[i] = L := ⟨_, rfl⟩
          rw [hL] at hNS
          have HNS := hZ hNS
          have HLO := hZ (HLA.out L (by rw [← hL]; exact List.getElem_mem hlt))
          obtain ⟨g, hg1, hg2⟩ := HVS.out i L (by rw [List.getElem?_eq_getElem hlt, hL])
          have hnbg : g ≠ nb := fun e => Xz4 hg2 HX.out.news e.symm
          obtain ⟨ga, rfl⟩ : ∃ ga, va = some ⟨ga, 0, none⟩ := by
            rcases HVO.out.2 with ⟨hv, hn⟩ | ⟨g', c, cur, hv, _⟩
            · omega
            · simp only [Value.slice.injEq] at hv; exact ⟨g', hv.1⟩
          obtain ⟨gcur, hgc⟩ := own_blk HVO.out (k := ga) rfl
          have hnga : ga ≠ nb := fun e => Xz4 hgc HX.out.news e.symm
          have HROW := HK.out.own HVO.out (fun k hk => by simp only [Value.ownBlock, Option.some.injEq] at hk; subst hk; exact hnga)
          have zc := HROW.cells (g := ga) rfl i _ hg1
          have ea : (⟨ga, 0, none⟩ : Addr).add i = ⟨ga, i, none⟩ := by unfold Addr.add; split <;> simp_all
          rw [ea] at zc
          have HG7 := hZ hg2
          have hL60 := HLO.out.1.2
          clear hL hNS hg1 hg2 HROW ea hgc
          go_wp2_with fail
          clear zc
          go_loopw [117] (fun jv wr => ∃ j : Nat, jv = .int .i64 (j : Int) ∧ j ≤ L.length ∧ Hid (BookX wr bb N { B with news := foldP (L.take j) (Jzg (LL.take i)) } db rb nb (.map none)) ∧ Hid (Keeps (fun k => k ≠ nb) w7 wr)) (fun jv _ => 61 - (intOf jv).toNat)
          case atStart => exact ⟨0, rfl, by omega, HBX, HK⟩
          case round =>
            clear HBX HK
            obtain ⟨j, rfl, hj, HBX, HK⟩ := hrel
            by_cases hjt : j < L.length
            · have hj0 : (0 : Int) ≤ j := by omega
              have hj1 : (j : Int) < L.length := by omega
              have HRG := hZ ((chRow_of (HK.out.blk hnbg HG7.out) (fun x hx => (HLO.out.2 x hx).2.1)) j hjt)
              have HXO := hZ (HLO.out.2 L[j] (List.getElem_mem hjt))
              have HTK : Hid (foldP (L.take (j + 1)) (Jzg (LL.take i)) = putF (foldP (L.take j) (Jzg (LL.take i))) L[j].1 L[j].2) := hZ (by rw [List.take_succ_eq_append_getElem hjt, foldP_snoc])
              generalize L[j] = x at HRG HXO HTK
              obtain ⟨at_, pg⟩ := x
              dsimp only at HRG HXO HTK
              generalize foldP (L.take j) (Jzg (LL.take i)) = f0 at HBX HTK
              have hsz5 : (Array.mk (Value.int .i64 (at_ : Int) :: v8 pg)).size = 65 := by simp [v8, HXO.out.2.1]
              have HLN5 : Hid ((Value.int .i64 (at_ : Int) :: v8 pg).length = 65) := hZ (by simp [v8, HXO.out.2.1])
              have HI65 : Hid ((Tryz.prog.info? 156).map (·.size) = some 65) := hZ (by kernel_rfl)
              have HAL : (Array.mk (Value.int .i64 (at_ : Int) :: v8 pg)).all (·.oneCell') = true := all_oneCell_toArray (fun v hv => by
                rcases List.mem_cons.1 hv with rfl | hv
                · rfl
                · exact Kz7 pg v hv)
              go_upto_region 27 with (first | (refine wpList_load_mid rfl 156 (.tmp 119) rfl g (j * 65) rfl (.int .i64 (at_ : Int) :: v8 pg) _ HRG.out Tryz.underlying156 rfl (by rw [HLN5.out]; exact HI65.out) ?_) | (refine wpList_store_row rfl 156 (.tmp 20) (.tmp 120) rfl wr.heap.size (.mk (.int .i64 (at_ : Int) :: v8 pg)) rfl rfl 156 (.mk (.int .i64 0 :: v8 (zer 64))) (by rw [zcCh]; exact heap_alloc_new wr _) (by rw [hsz5]; exact HI65.out) (by rw [hsz5]; simp [v8, zer]) HAL ?_))
              have hal : ∀ o : Obj, Below wr.heap.size wr ((wr.alloc o).setRow wr.heap.size (.mk (.int .i64 (at_ : Int) :: v8 pg))) := fun o => below_setRow (bZ) (Nat.le_refl _) _
              refine Kz0 (fun wx => Hid (wx.heap[wr.heap.size]? = some (.cells (.mk (.int .i64 (at_ : Int) :: v8 pg)) 156)) ∧ Hid (BookX wx bb N { B with news := f0 } db rb nb (.map none)) ∧ Hid (Keeps (fun k => k ≠ nb) w7 wx)) ⟨hZ (setRow_heap _ _ _ _ _ (0, 0) (heap_alloc_new wr _)), hZ (HBX.out.keep (hal _) (fun k hk => ⟨Nat.lt_of_lt_of_le (HBX.out.N_lt k hk) (hal _).size, .inl hk⟩)), hZ (HK.out.trans (Keeps.of_below (hal _)))⟩ ?_
              clear hal HBX HK HRG HAL hsz5 HLN5
              generalize wr.heap.size = cb
              clear wr
              rintro w9 ⟨HC9, H9, HK9⟩
              try simp only [Act.put]
              obtain ⟨z0, z1, z2, z3, z4, z5, z6, z7, _⟩ := Xz1 H9.out.cells
              have k3 := cell_regrown z3
              have kb := cell_regrown (box_at HC9.out)
              have hat0 : (0 : Int) ≤ at_ := by omega
              have hat1 : (at_ : Int) < B.n := by have := HXO.out.1; omega
              have d1 : decide ((at_ : Int) < 0) = false := decide_eq_false (by omega)
              have d2 : decide ((at_ : Int) ≥ (B.n : Int)) = false := decide_eq_false (by omega)
              have e1 : ¬ ((at_ : Int) < 0) := by omega
              have e2 : ¬ ((at_ : Int) ≥ (B.n : Int)) := by omega
              refine wp_region_quiet_below (by kernel_rfl) (by kernel_rfl) ?_
              (repeat (go_big_quiet_step (fail)))
              refine wpQuiet_nil ?_
              intro wq hwq
              have hq := Qz1 hwq
              clear hwq
              have HC10 : Hid (wq.heap[cb]? = some (.cells (.mk (.int .i64 (at_ : Int) :: v8 pg)) 156)) := hZ ((hq.block _ (Zz0 HC9.out)).trans HC9.out)
              have H10 : Hid (BookX wq bb N { B with news := f0 } db rb nb (.map none)) := hZ (H9.out.keep hq (fun k hk => ⟨Nat.lt_of_lt_of_le (H9.out.N_lt k hk) hq.size, .inl hk⟩))
              have HK10 : Hid (Keeps (fun k => k ≠ nb) w7 wq) := hZ (HK9.out.trans (Keeps.of_below hq))
              clear hq HC9 H9 HK9 z0 z1 z2 z3 z4 z5 z6 z7 k3 kb d1 d2 e1 e2
              obtain ⟨z0, z1, z2, z3, z4, z5, z6, z7, _⟩ := Xz1 H10.out.cells
              have k5 := cell_regrown z5
              have kb := cell_regrown (box_at HC10.out)
              have HM := hZ H10.out.news
              have hkl : (keysF f0 B.n).length ≤ 2048 := Nat.le_trans (Xzh _ _) (HBO.out.n).2
              go_wp2_with fail
              refine Vz0 [(0, true), (1, true), (2, true), (3, true), (4, true), (5, true), (6, true), (7, true), (8, false)] 8 (fun w' => ∃ p : Regrown, w' = Go.Sort.grow (redrawn wq p.d) p.os) (by kernel_rfl) (by kernel_rfl) (fun _ _ d _ _ h => by cases d <;> exact h) (Vz2 _) ?_
              (repeat (with_reducible refine mix_q ?_; simp only [qd1, qd0, qt1, qt0]; go_big_quiet_step (fail); with_reducible refine wpQuiet_nil ?_))
              with_reducible refine mix_q ?_
              simp only [qd1, qd0, qt1, qt0]
              go_big_quiet_want
              refine Jz1 37 (.tmp 141) rfl cb 1 rfl (v8 pg) _ (fun w' hw' => box_page (Wz4 HC10.out w' hw')) Tryz.underlying37 rfl (Jzh HXO.out.2.1) ?_
              simp only [Act.put, qs0, qs1, qs2]
              go_big_quiet_on
              with_reducible refine wpQuiet_nil ?_
              with_reducible refine mix_a ?_; simp only [qd1, qd0, qt1, qt0]
              go_wp2_with (at_mapUpdate; refine Zz7 _ rfl _ _ _ 142 rfl 3 37 (int_keyed Tryz.underlying3) Tryz.underlying142 nb (keysF f0 B.n).length (pgL f0) rfl (HM.out.drew) ?hc9 (.int .i64 (at_ : Int)) (.agg (v8a pg)) (.int .i64 (at_ : Int)) rfl rfl ?hk9 ?_)
              case hc9 => unfold maxLen; omega
              case hk9 => exact Kzb _ (by have := HXO.out.1; omega)
              intro w10 hm ht
              rw [pgL_put] at hm
              have HM10 : Hid (MapIs Tryz.prog 3 w10 nb (keysF (putF f0 at_ pg) B.n).length (pgL (putF f0 at_ pg))) := hZ (by
                rw [Vzd _ _ _ _ HXO.out.1]
                unfold cntIf at hm
                rw [pgL_at] at hm
                cases hq : f0 at_ <;> simpa [hq] using hm)
              have HT10 : Hid (Keeps (fun k => k ≠ nb) wq w10) := hZ ((Keeps.drew _ wq).trans (Keeps.of_turned ht (by simp)))
              clear hm ht HM k5 kb z0 z1 z2 z3 z4 z5 z6 z7
              try with_reducible refine wpList_nil ?_
              with_reducible refine Qz0 ?_
              try with_reducible refine Wz1 ?_
              go_wp2_with fail
              refine ⟨⟨j + 1, by push_cast; rfl, by omega, hZ ?_, hZ (HK10.out.trans HT10.out)⟩, by simp [intOf]; omega⟩
              rw [HTK.out]
              exact H10.out.newsed (putF f0 at_ pg) (PgMap.put H10.out.ok.news HXO.out.1 HXO.out.2) HT10.out HM10.out
            · have hje : j = L.length := by omega
              have hj1 : ¬ ((j : Int) < L.length) := by omega
              have HBF : Hid (BookX wr bb N { B with news := Jzg (LL.take (i + 1)) } db rb nb (.map none)) := hZ (by
                have h := HBX.out
                rw [hje, List.take_length, ← HNS.out] at h
                exact h)
              clear HBX
              go_wp2_with fail
              exact ⟨⟨i + 1, by push_cast; rfl, by omega, HBF, HK⟩, by simp [intOf]; omega⟩
        · have hie : i = LL.length := by omega
          have hi1 : ¬ ((i : Int) < LL.length) := by omega
          have HBF : Hid (BookI wr bb N B) := hZ ⟨db, rb, nb, .map none, by
            have h := HBX.out
            rw [hie, List.take_length, ← HNW.out] at h
            exact h⟩
          have hHM := home_any bb N B hg wr HBF.out
          have HKN : Hid (Keeps N w wr) := hZ ((Keeps.of_below HB7.out).trans (HK.out.mono (fun k _ hk e => HX.out.nots.2.2.1 (e ▸ hk))))
          clear HBX HK
          go_wp2_with fail
          refine hHM.mono ?_
          clear hHM
          rintro e w8 ⟨rfl, hB8, hk8⟩
          try dsimp only
          go_wp2_with fail
          go_ret2
          exact ⟨⟨bb, rfl, hbbw, hB8⟩, HKN.out.trans hk8⟩
end Go.Proofs.YtajmcplanlibnaaGreatDoor
