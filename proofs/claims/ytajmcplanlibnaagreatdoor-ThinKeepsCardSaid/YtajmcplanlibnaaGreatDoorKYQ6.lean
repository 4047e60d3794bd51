/- A ring: a record is added. What is written is not said, but where. -/
import Derived.Test.YtajmcplanlibnaaGreatDoorKYQ1
set_option linter.unusedSimpArgs false
set_option linter.unusedVariables false
set_option linter.unnecessarySimpa false
namespace Go.Proofs.YtajmcplanlibnaaGreatDoor
open Go.RowKit Go.Maps
theorem info_pg3 : (Tryz.prog.info? 37).map (fun i => (i.zero, i.size, i.bytes)) = some (some (.agg (v8a (zer 64))), 64, 64) := by kernel_rfl
theorem info_ch : (Tryz.prog.info? 156).map (fun i => (i.zero, i.size, i.bytes)) = some (some (.agg (.mk (.int .i64 0 :: v8 (zer 64)))), 65, 72) := by kernel_rfl
def PgRow (w : World) (r : Nat) (v : Value) (P : List (List Int)) : Prop := w.ownsRow r 37 64 v P.length (v8 P.flatten)
def ChRow (w : World) (lb : Nat) (L : List (Nat × List Int)) : Prop := ∀ t (ht : t < L.length), w.rangeAt lb (t * 65) (.int .i64 ((L[t].1 : Nat) : Int) :: v8 L[t].2)
theorem rangeAt_below {w w' : World} {b o : Nat} {cs : List Value} (h : w.rangeAt b o cs) (hb : Below w.heap.size w w') (hl : b < w.heap.size) : w'.rangeAt b o cs := fun j v hv => by
  have := h j v hv
  rw [← this]
  unfold World.cell?
  rw [hb.block b hl]
theorem ChRow.below {w w' : World} {lb : Nat} {L : List (Nat × List Int)} (h : ChRow w lb L) (hl : lb < w.heap.size) (hb : Below w.heap.size w w') : ChRow w' lb L := fun t ht => rangeAt_below (h t ht) hb hl
theorem ChRow.at {w : World} {lb : Nat} {L : List (Nat × List Int)} (h : ChRow w lb L) (t : Nat) (ht : t < L.length) : w.cell? ⟨lb, t * 65, none⟩ = some (.int .i64 ((L[t].1 : Nat) : Int)) := by
  have := h t ht 0 _ rfl
  rw [Nat.add_zero] at this
  exact this
theorem zcCh : Tryz.zeroCells156 = .mk (.int .i64 0 :: v8 (zer 64)) := by kernel_rfl
theorem PgRow.snoc (P : List (List Int)) (p : List Int) : v8 (P ++ [p]).flatten = v8 P.flatten ++ v8 p := by
  simp [v8]
theorem PgRow.range {w : World} {r g c : Nat} {P : List (List Int)} (h : PgRow w r (.slice (some ⟨g, 0, none⟩) P.length c) P) (hP : ∀ p ∈ P, PgOk p) (i : Nat) (hi : i < P.length) : w.rangeAt g (i * 64) (v8 P[i]) := fun j v hv => by
  have hj : j < 64 := by
    have := (List.getElem?_eq_some_iff.1 hv).1
    rw [Wz0, (hP _ (List.getElem_mem hi)).1] at this
    exact this
  have hc := h.cells rfl (i * 64 + j) v (by
    unfold v8 at hv ⊢
    rw [List.getElem?_map] at hv ⊢
    rw [pgs_get P i j (fun q hq => (hP q hq).1) hj, List.getElem?_eq_getElem hi]
    exact hv)
  have ea : (⟨g, 0, none⟩ : Addr).add (i * 64 + j) = ⟨g, i * 64 + j, none⟩ := by unfold Addr.add; split <;> simp_all
  rw [ea] at hc
  exact hc
theorem ring_by {w : World} {B T db first n pl used : Nat} {num : Int} {last : List Int} (h : w.heap[B]? = some (.cells (ringC db first n pl num last used) T)) : ByIn w (some ⟨B, 5, none⟩) last := fun i hi => by
  refine ⟨B, 5, rfl, Zz0 h, ?_⟩
  have := ring_range h (2 + i) (.int .u8 (last.getD i 0)) (by
    rw [show 2 + i = i + 1 + 1 by omega, List.getElem?_cons_succ, List.getElem?_cons_succ]
    exact v8_get last i hi)
  rw [show 3 + (2 + i) = 5 + i by omega] at this
  exact this
def AdX (w : World) (pv : Value) (Q : List (List Int)) (hb : Nat) (hp : List Int) (wx : World) : Prop :=
  wx.heap[hb]? = some (.cells (v8a hp) 37) ∧ Below w.heap.size w wx ∧ PgRow wx w.heap.size pv Q ∧ w.heap.size ≤ hb ∧ (∀ k, pv.ownBlock = some k → k < hb)
theorem AdX.below {w wx wy : World} {pv : Value} {Q : List (List Int)} {hb : Nat} {hp : List Int} (h : AdX w pv Q hb hp wx) (hb' : Below wx.heap.size wx wy) : AdX w pv Q hb hp wy :=
  ⟨(hb'.block _ (Zz0 h.1)).trans h.1, h.2.1.trans (hb'.mono h.2.1.size), Vz4 h.2.2.1 hb', h.2.2.2⟩
theorem AdX.turn {w wx wy : World} {pv : Value} {Q : List (List Int)} {hb : Nat} {hp hq : List Int} (h : AdX w pv Q hb hp wx) (hg : wx.grownBy wy (some hb)) (hq' : wy.heap[hb]? = some (.cells (v8a hq) 37)) : AdX w pv Q hb hq wy :=
  ⟨hq', h.2.1.grown hg h.2.1.size (fun k hk => by cases hk; exact h.2.2.2.1), Xz5 h.2.2.1 (fun k hk => hg.block k (h.2.2.1.lt k hk).2 (fun e => by cases e; exact absurd (h.2.2.2.2 _ hk) (Nat.lt_irrefl _))), h.2.2.2⟩
theorem own_oneN (w : World) (l : List Value) (e base n : Nat) (hn : l.length = n) (hb : base ≤ w.heap.size) : (w.alloc (.cells (.mk l) e)).ownsRow base e n (.slice (some ⟨w.heap.size, 0, none⟩) 1 1) 1 l :=
  ⟨by omega, .inr ⟨w.heap.size, 1, .mk l, rfl, hb, heap_alloc_new w _, Nat.le_refl _, by unfold maxLen; omega, by subst hn; simp, by subst hn; simp⟩⟩
theorem own_srcP {w : World} {base : Nat} {v : Value} {P : List (List Int)} (h : PgRow w base v P) : SrcIs w v P.length 64 (v8 P.flatten) := by
  have hlen := h.1
  rcases h.2 with ⟨rfl, hn⟩ | ⟨g, c, cur, hv, _, hg, _, _, hs, ht⟩
  · have : P = [] := List.eq_nil_of_length_eq_zero hn
    subst this
    exact .inl ⟨rfl, rfl, rfl⟩
  · subst hv
    exact .inr ⟨⟨g, 0, none⟩, c, rfl, hlen, World.ownsRow.cells h rfl, Kz7 _⟩
theorem info_mark3 : (Tryz.prog.info? 148).map (fun i => (i.zero, i.size, i.bytes)) = some (some (.agg (markC 0 0 (zer 32))), 34, 48) := by kernel_rfl
theorem mark_places : ∃ (it : TypeInfo) (z : Value) (fields : Array Field), Tryz.prog.info? 148 = some it ∧ Tryz.prog.underlying 148 = some (.struct fields) ∧ it.zero = some z ∧ fields.toList.mapM (fun f => (Tryz.prog.info? f.type).map fun i => (f.offset, i.size)) = some [(0, 1), (1, 1), (2, 32)] ∧ z.cells.toList = .int .i64 0 :: .int .u64 0 :: v8 (zer 32) := by
  obtain ⟨it, h1, h2, h3, h4⟩ := info_parts info_mark3
  refine ⟨it, _, _, h1, Tryz.underlying148, h2, by kernel_rfl, by kernel_rfl⟩
theorem built_mark (pl num : Int) (last : List Int) (hl : last.length = 32) : Tryz.prog.built 148 [(0, .int .i64 pl), (1, .int .u64 num), (2, .agg (v8a last))] = some (.mk (.int .i64 pl :: .int .u64 num :: v8 last)) := by
  obtain ⟨it, z, fields, h1, h2, h3, h4, h5⟩ := mark_places
  rw [Jzb h1 h2 h3 h4]
  generalize z.cells = zc at h5 ⊢
  obtain ⟨zl⟩ := zc
  dsimp only at h5
  subst h5
  have ez : (v8 (zer 32)).length = 32 := by simp [v8, zer]
  have el : (v8 last).length = 32 := by rw [Wz0, hl]
  have e3 : (Value.agg (v8a last)).cells = v8a last := rfl
  have e4 : (v8a last).size = 32 := by simp [v8a, el]
  have e1 : ∀ k i, (Value.int k i).cells = #[.int k i] := fun _ _ => rfl
  rw [Qz7 (off := 0) (by rw [e1]; rfl) (by rw [e1]; simp), Qz7 (off := 1) (by rw [e1]; rfl) (by rw [e1, e1]; simp), Qz7 (off := 2) (by rw [e3, e4]; rfl) (by rw [e1, e1, e3, e4]; simp [ez])]
  rw [e1, e1, e3, e4]
  simp only [Instr.fill, Option.some.injEq]
  apply Array.ext'
  simp [v8a, ez]
theorem ring_mark {w : World} {B T db first n pl used pl' : Nat} {num num' : Int} {last c : List Int} (hl : last.length = 32) (hc : c.length = 32) (h : w.heap[B]? = some (.cells (ringC db first n pl num last used) T)) :
    (w.setCells B 3 (.int .i64 (pl' : Int) :: .int .u64 num' :: v8 c)).heap[B]? = some (.cells (ringC db first n pl' num' c used) T) := by
  have hl8 : (v8 last).length = 32 := by rw [Wz0, hl]
  have hc8 : (v8 c).length = 32 := by rw [Wz0, hc]
  have e : ringC db first n pl num last used = (([.pointer (some ⟨db, 0, none⟩), .int .i64 (first : Int), .int .i64 (n : Int)] : List Value) ++ ((.int .i64 (pl : Int) :: .int .u64 num :: v8 last) ++ [Value.int .i64 (used : Int)])).toArray := by simp [ringC]
  rw [e] at h
  rw [Qzb (vs := .int .i64 (pl' : Int) :: .int .u64 num' :: v8 c) (o := 3) h (by simp [hl8, hc8])]
  congr 2
  apply Array.ext'
  simp [ringC, hc8, hl8]
theorem ring_there3 {w : World} {B T db first n pl used : Nat} {num : Int} {last : List Int} (hl : last.length = 32) (h : w.heap[B]? = some (.cells (ringC db first n pl num last used) T)) : w.there B 3 34 :=
  blk_there h (by simp [ringC, v8, hl])
def RgS (rb b18 : Nat) (rc : Array Value) (pg : List Int) (wx : World) : Prop := wx.heap[rb]? = some (.cells rc 252) ∧ wx.heap[b18]? = some (.cells (v8a pg) 37)
set_option maxRecDepth 100000 in
set_option maxHeartbeats 4000000 in
theorem add_any (rb db first n pl used : Nat) (num : Int) (last : List Int) (N : Nat → Prop) (d : DiskS) (lb lc : Nat) (L : List (Nat × List Int)) (w : World)
    (hl : last.length = 32 ∧ U8s last) (h : w.heap[rb]? = some (.cells (ringC db first n pl num last used) 252))
    (hn : 96 ≤ n ∧ n ≤ 4096) (hf : first ≤ 4096) (hfn : first + n ≤ d.firm.length) (hpl : pl < n) (hnum : 0 ≤ num ∧ num < 4611686018427387904) (hu : used ≤ n)
    (hk : 1 ≤ L.length ∧ L.length ≤ 60) (hL : ∀ x ∈ L, x.1 ≤ 10000 ∧ PgOk x.2) (hfit : 1 + (L.length + 15) / 16 + L.length + used ≤ n)
    (hlb : lb < w.heap.size) (hc : ChRow w lb L) (hcl : d.cache.length ≤ 8000000) (hd : DiskI w db N d) (hrN : N rb) :
    Calls Tryz.prog 71 #[.pointer (some ⟨rb, 0, none⟩), .slice (some ⟨lb, 0, none⟩) L.length lc] w fun e w' => e = .returned .nilIface ∧
      w'.heap[rb]? = some (.cells (ringC db first n ((pl + (1 + (L.length + 15) / 16 + L.length)) % n) (num + 1) (recS num last L) (used + (1 + (L.length + 15) / 16 + L.length))) 252) ∧
      DiskI w' db N ⟨d.firm, d.cache ++ recW first n pl (recP num last L)⟩ ∧ Keeps (fun k => N k ∧ k ≠ rb) w w' := by
  obtain ⟨sm, hsm⟩ : ∃ sm, recS num last L = sm := ⟨_, rfl⟩
  obtain ⟨ws, hws⟩ : ∃ ws, recW first n pl (recP num last L) = ws := ⟨_, rfl⟩
  rw [hsm, hws]
  have HSM : Hid (recS num last L = sm) := hZ hsm
  have HWS : Hid (recW first n pl (recP num last L) = ws) := hZ hws
  have hsl : sm.length = 32 := by rw [← hsm]; exact Xzg _ _ _
  clear hsm hws
  have HR := hZ h
  have HC := hZ hc
  have HD := hZ hd
  have HL := hZ hL
  have HN : Hid (∀ k, N k → k < w.heap.size) := hZ (DiskI.N_lt hd)
  have hFI : Calls Tryz.prog 70 #[.pointer (some ⟨rb, 0, none⟩), .int .i64 (L.length : Int)] w fun e w' => e = .returned (.bool true) ∧ Below w.heap.size w w' := (fits_any rb db first n pl used L.length num last w hl.1 hu hn.2 hk h).mono fun e w' h => ⟨h.1.trans (by
    have : 1 + ((L.length : Int) + 15) / 16 + L.length ≤ (n : Int) - used := by omega
    simp [this]), h.2⟩
  obtain ⟨hk1, hk2⟩ := hk
  have k0 : (1 : Int) ≤ L.length := by omega
  have k1 : (L.length : Int) ≤ 60 := by omega
  have d0 : decide ((L.length : Int) < 1) = false := by simp; omega
  have d1 : decide ((60 : Int) < L.length) = false := by simp; omega
  have HFIT := hZ (And.intro hfit (And.intro hfn (And.intro hcl hnum)))
  clear h hc hd hL hfit hfn hcl hnum
  go_enter Tryz.func71, Tryz.ntmps71
  go_wp2_with fail
  refine hFI.mono ?_
  clear hFI
  rintro e w1 ⟨rfl, hb1⟩
  have HB1 := hZ hb1
  clear hb1
  try dsimp only
  go_wp2_with fail
  obtain ⟨ip, hip, hpz0, hpz1, hpz2⟩ := info_parts info_pg3
  have HIP := hZ (And.intro hip (And.intro hpz0 (And.intro hpz1 hpz2)))
  clear hip hpz0 hpz1 hpz2
  go_loopw [6, 7] (fun pv iv wr => ∃ (i : Nat) (P : List (List Int)), iv = .int .i64 (i : Int) ∧ Hid (i = 16 * P.length ∧ P = idxPs L P.length) ∧ i < L.length + 16 ∧ Hid (∀ p ∈ P, PgOk p) ∧ Hid (PgRow wr w.heap.size pv P) ∧ Hid (Below w.heap.size w wr)) (fun _ iv _ => L.length + 16 - (intOf iv).toNat)
  case atStart => exact ⟨0, [], rfl, hZ ⟨rfl, rfl⟩, by omega, hZ (fun p hp => by cases hp), hZ (World.ownsRow_nil _ _ _ _), HB1⟩
  case round =>
    clear HB1
    obtain ⟨i, P, rfl, HI, hi2, HP, HO, HB⟩ := hrel
    by_cases hlt : i < L.length
    · have hi0 : (0 : Int) ≤ i := by omega
      have hi1 : (i : Int) < L.length := by omega
      go_wp2_with fail
      generalize hmm : min (16 : Int) ((L.length : Int) - (i : Int)) = mm
      obtain ⟨m, rfl, hm16, hmk, HME⟩ : ∃ m : Nat, mm = m ∧ m ≤ 16 ∧ i + m ≤ L.length ∧ Hid (m = min 16 (L.length - i)) := ⟨min 16 (L.length - i), by omega, by omega, by omega, hZ rfl⟩
      clear hmm
      have HPB : Hid (∀ k, u6.ownBlock = some k → k < wr.heap.size) := hZ (fun k hk => (HO.out.lt k hk).2)
      have HSB := hZ HB.out.size
      refine Kz0 (fun wx => Hid (wx.heap[wr.heap.size]? = some (.cells (v8a (zer 64)) 37) ∧ Below w.heap.size w wx ∧ PgRow wx w.heap.size u6 P)) (hZ ⟨heap_alloc_new wr (.cells (v8a (zer 64)) 37), HB.out.alloc HB.out.size _, Vz4 HO.out (bZ)⟩) ?_
      generalize wr.heap.size = pb at HPB HSB ⊢
      clear HO HB
      intro w2 H2
      go_loopw [49] (fun jv wr => ∃ (j : Nat) (p : List Int), jv = .int .i64 (j : Int) ∧ j ≤ m ∧ Hid (PgOk p ∧ p = idxP L i j) ∧ Hid (wr.heap[pb]? = some (.cells (v8a p) 37) ∧ Below pb w2 wr)) (fun jv _ => m - (intOf jv).toNat)
      case atStart => exact ⟨0, zer 64, rfl, by omega, hZ ⟨zer_pg, rfl⟩, hZ ⟨H2.out.1, Below.refl _ _⟩⟩
      case round =>
        obtain ⟨j, p, rfl, hj, HPO, H3⟩ := hrel
        have HB3 : Hid (Below w.heap.size w wr) := hZ (H2.out.2.1.trans (H3.out.2.mono HSB.out))
        by_cases hjt : j < m
        · have hj0 : (0 : Int) ≤ j := by omega
          have hj1 : (j : Int) < m := by omega
          have hj2 : (i : Int) + j < L.length := by omega
          have hij : i + j < L.length := by omega
          have HX := hZ (HL.out L[i + j] (List.getElem_mem hij))
          have zc := (HC.out.below hlb HB3.out).at (i + j) hij
          have HXE : Hid (L.getD (i + j) (0, []) = L[i + j]) := hZ (by simp [List.getD, List.getElem?_eq_getElem hij])
          generalize L[i + j] = x at HX zc HXE
          have hx1 := HX.out.1
          go_wp2_with fail
          have hPU := put_any pb p HPO.out.1 (4 * j) 4 (by omega) (by omega) (x.1 : Int) ⟨by omega, by omega⟩ wr H3.out.1
          rw [show (((4 * j : Nat)) : Int) = 4 * (j : Int) by omega] at hPU
          refine hPU.mono ?_
          clear hPU
          rintro e w3 ⟨rfl, hp3, hg3⟩
          have H4 : Hid (w3.heap[pb]? = some (.cells (v8a (putR p (4 * j) x.1 4)) 37) ∧ Below pb w2 w3) := hZ ⟨hp3, H3.out.2.grown hg3 (Nat.le_of_lt (Zz0 H3.out.1)) (fun k hk => by cases hk; exact Nat.le_refl _)⟩
          clear hp3 hg3 H3
          try dsimp only
          go_wp2_with fail
          exact ⟨⟨j + 1, _, by push_cast; rfl, by omega, hZ ⟨putR_ok HPO.out.1 _ _ _, by rw [idxP_succ, ← HPO.out.2, HXE.out]⟩, H4⟩, by simp [intOf]; omega⟩
        · have hjm : j = m := by omega
          subst hjm
          have HO2 : Hid (PgRow wr w.heap.size u6 P) := hZ (Xz5 H2.out.2.2 (fun k hk => H3.out.2.block k (HPB.out k hk)))
          repeat ((fail_if_success (with_reducible refine Kz1 65 rfl ?_)); (first | go_values | go_skip | go_guarded | go_step | go_upon))
          refine Wz3 rfl (.tmp 8) rfl pb p rfl H3.out.1 HPO.out.1.1 ?_
          simp only [Act.put, qs0, qs1, qs2]
          refine Kz5 rfl 52 37 (.tmp 65) rfl ip _ Tryz.underlying52 HIP.out.1 HIP.out.2.1 64 HIP.out.2.2.1 (by decide) (by decide) (.agg (v8a p)) rfl (v8a p) rfl (pgsz HPO.out.1.1) ?_
          simp only [Act.put, qs0, qs1, qs2]
          refine Jz2 rfl (.tmp 64) (.tmp 66) 52 rfl w.heap.size 37 ip _ 64 64 Tryz.underlying52 HIP.out.1 HIP.out.2.1 HIP.out.2.2.1 HIP.out.2.2.2 rfl (by decide) (u6) P.length (v8 P.flatten) rfl ?c0 (.slice (some ⟨wr.heap.size, 0, none⟩) 1 1) 1 (v8 p) rfl (Xz9 wr (v8 p) 37 64 (by rw [Wz0, HPO.out.1.1]) (fun u hu => Kz7 _ u hu)) ?c1 ?c2 ?c3 ?_
          case c0 => exact Vz4 HO2.out (bZ)
          case c1 => have := HI.out.1; unfold maxLen; omega
          case c2 => have := HI.out.1; omega
          case c3 => have := HB3.out.size; simp; omega
          intro v4 w4 ho4 hg4
          have H4 : Hid (PgRow w4 w.heap.size v4 (P ++ [p]) ∧ Below w.heap.size w w4) := hZ ⟨by unfold PgRow; rw [PgRow.snoc]; simpa using ho4, (HB3.out.alloc HB3.out.size _).grown hg4 (by have := HB3.out.size; simp; omega) (fun k hk => (HO2.out.lt k hk).1)⟩
          clear ho4 hg4 H3 HB3 H2 HO2
          go_wp2_with fail
          refine ⟨⟨i + 16, P ++ [p], by push_cast; rfl, hZ ⟨by have := HI.out.1; simp; omega, by rw [List.length_append, List.length_singleton, idxPs_succ, ← HI.out.2, ← HI.out.1, ← HME.out, ← HPO.out.2]⟩, by omega, hZ (fun q hq => ?_), hZ H4.out.1, hZ H4.out.2⟩, by simp [intOf]; omega⟩
          rcases List.mem_append.1 hq with hq | hq
          · exact HP.out q hq
          · rw [List.mem_singleton.1 hq]; exact HPO.out.1
    · have hi1 : ¬ ((i : Int) < L.length) := by omega
      go_wp2_with fail
      have hm0 : P.length = (L.length + 15) / 16 := by have := HI.out.1; omega
      have HPE : Hid (P = idxPs L ((L.length + 15) / 16)) := hZ (by rw [← hm0]; exact HI.out.2)
      have HI65 : Hid ((Tryz.prog.info? 156).map (·.size) = some 65) := hZ (by kernel_rfl)
      go_loopw [6, 70] (fun pv jv wr => ∃ (t : Nat) (Q : List (List Int)), jv = .int .i64 (t : Int) ∧ t ≤ L.length ∧ Hid (Q.length = P.length + t ∧ Q = P ++ (L.take t).map (·.2)) ∧ Hid (∀ p ∈ Q, PgOk p) ∧ Hid (PgRow wr w.heap.size pv Q) ∧ Hid (Below w.heap.size w wr)) (fun _ jv _ => L.length - (intOf jv).toNat)
      case atStart => exact ⟨0, P, rfl, by omega, hZ ⟨by simp, by simp⟩, HP, HO, HB⟩
      case round =>
        clear HP HO HB
        obtain ⟨t, Q, rfl, ht, HQL, HQ, HO, HB⟩ := hrel
        by_cases hlt2 : t < L.length
        · have ht0 : (0 : Int) ≤ t := by omega
          have ht1 : (t : Int) < L.length := by omega
          have HX := hZ (HL.out L[t] (List.getElem_mem hlt2))
          have HRG := hZ ((HC.out.below hlb HB.out) t hlt2)
          have HTK : Hid (L.take (t + 1) = L.take t ++ [L[t]]) := hZ (List.take_succ_eq_append_getElem hlt2)
          generalize L[t] = x at HX HRG HTK
          obtain ⟨at_, pg⟩ := x
          dsimp only at HX HRG
          have hsz : (Array.mk (Value.int .i64 (at_ : Int) :: v8 pg)).size = 65 := by simp [v8, HX.out.2.1]
          have HLN : Hid ((Value.int .i64 (at_ : Int) :: v8 pg).length = 65) := hZ (by simp [v8, HX.out.2.1])
          have HAL : (Array.mk (Value.int .i64 (at_ : Int) :: v8 pg)).all (·.oneCell') = true := all_oneCell_toArray (fun v hv => by
            rcases List.mem_cons.1 hv with rfl | hv
            · rfl
            · exact Kz7 pg v hv)
          repeat ((fail_if_success (with_reducible refine Kz1 74 rfl ?_)); (first | (first | (refine wpList_load_mid rfl 156 (.tmp 72) rfl lb (t * 65) rfl (.int .i64 (at_ : Int) :: v8 pg) _ HRG.out Tryz.underlying156 rfl (by rw [HLN.out]; exact HI65.out) ?_) | (refine wpList_store_row rfl 156 (.tmp 11) (.tmp 73) rfl wr.heap.size (.mk (.int .i64 (at_ : Int) :: v8 pg)) rfl rfl 156 (.mk (.int .i64 0 :: v8 (zer 64))) (by rw [zcCh]; exact heap_alloc_new wr _) (by rw [hsz]; exact HI65.out) (by rw [hsz]; simp [v8, zer]) HAL ?_)) | go_values | go_skip | go_guarded | go_step | go_upon))
          refine Xz0 (fun wx => Hid (wx.heap[wr.heap.size]? = some (.cells (.mk (.int .i64 (at_ : Int) :: v8 pg)) 156) ∧ Below w.heap.size w wx ∧ PgRow wx w.heap.size u6 Q ∧ (∀ k, u6.ownBlock = some k → w.heap.size ≤ k))) (hZ ⟨setRow_heap _ _ _ _ _ (0, 0) (heap_alloc_new wr _), below_setRow (HB.out.alloc HB.out.size _) HB.out.size _, Vz4 HO.out (below_setRow (bZ) (Nat.le_refl _) _), fun k hk => (HO.out.lt k hk).1⟩) ?_
          generalize wr.heap.size = cb
          clear HO HB HRG
          intro w2 H2
          repeat ((fail_if_success (with_reducible refine Kz1 76 rfl ?_)); (first | go_values | go_skip | go_guarded | go_step | go_upon))
          refine wpList_load_mid rfl 37 (.tmp 75) rfl cb 1 rfl (v8 pg) _ (box_page H2.out.1) Tryz.underlying37 rfl (Jzh HX.out.2.1) ?_
          simp only [Act.put, qs0, qs1, qs2]
          refine Kz5 rfl 52 37 (.tmp 76) rfl ip _ Tryz.underlying52 HIP.out.1 HIP.out.2.1 64 HIP.out.2.2.1 (by decide) (by decide) (.agg (v8a pg)) rfl (v8a pg) rfl (pgsz HX.out.2.1) ?_
          simp only [Act.put, qs0, qs1, qs2]
          refine Jz2 rfl (.tmp 74) (.tmp 77) 52 rfl w.heap.size 37 ip _ 64 64 Tryz.underlying52 HIP.out.1 HIP.out.2.1 HIP.out.2.2.1 HIP.out.2.2.2 rfl (by decide) (u6) Q.length (v8 Q.flatten) rfl ?c0 (.slice (some ⟨w2.heap.size, 0, none⟩) 1 1) 1 (v8 pg) rfl (Xz9 w2 (v8 pg) 37 64 (by rw [Wz0, HX.out.2.1]) (fun u hu => Kz7 _ u hu)) ?c1 ?c2 ?c3 ?_
          case c0 => exact Vz4 H2.out.2.2.1 (bZ)
          case c1 => have := HQL.out.1; unfold maxLen; omega
          case c2 => have := HQL.out.1; omega
          case c3 => have := H2.out.2.1.size; simp; omega
          intro v4 w4 ho4 hg4
          have H4 : Hid (PgRow w4 w.heap.size v4 (Q ++ [pg]) ∧ Below w.heap.size w w4) := hZ ⟨by unfold PgRow; rw [PgRow.snoc]; simpa using ho4, (H2.out.2.1.alloc H2.out.2.1.size _).grown hg4 (by have := H2.out.2.1.size; simp; omega) H2.out.2.2.2⟩
          clear ho4 hg4 H2
          go_wp2_with fail
          refine ⟨⟨t + 1, Q ++ [pg], by push_cast; rfl, by omega, hZ ⟨by have := HQL.out.1; simp; omega, by rw [HTK.out, List.map_append, ← List.append_assoc, ← HQL.out.2]; rfl⟩, hZ (fun q hq => ?_), hZ H4.out.1, hZ H4.out.2⟩, by simp [intOf]; omega⟩
          rcases List.mem_append.1 hq with hq | hq
          · exact HQ.out q hq
          · rw [List.mem_singleton.1 hq]; exact HX.out.2
        · have htk : t = L.length := by omega
          have ht1 : ¬ ((t : Int) < L.length) := by omega
          have hql : Q.length = (L.length + 15) / 16 + L.length := by have := HQL.out.1; omega
          have HQE : Hid (Q = recQ L) := hZ (by rw [HQL.out.2, htk, List.take_length, HPE.out]; rfl)
          have hk256 : (L.length : Int) < 256 := by omega
          repeat ((fail_if_success (with_reducible refine Vz1 "ring.go:147" rfl ?_)); (first | go_values | go_skip | go_guarded | go_step | go_upon))
          refine Xz0 (fun wx => Hid (AdX w u6 Q wr.heap.size (zer 64) wx)) (hZ ⟨heap_alloc_new wr (.cells (v8a (zer 64)) 37), HB.out.alloc HB.out.size _, Vz4 HO.out (bZ), HB.out.size, fun k hk => (HO.out.lt k hk).2⟩) ?_
          generalize wr.heap.size = hb
          clear HO HB
          intro w2 H2
          obtain ⟨c0, f0⟩ := Qz6 H2.out.1 0 (by simp [zer])
          obtain ⟨c9, f9⟩ := Qz6 H2.out.1 9 (by simp [zer])
          repeat ((fail_if_success (with_reducible refine Vz1 "ring.go:148" rfl ?_)); (first | go_values | go_skip | go_guarded | go_step | go_upon))
          refine Xz0 (fun wx => Hid (AdX w u6 Q hb (((zer 64).set 0 84).set 9 (L.length : Int)) wx)) (hZ (H2.out.turn (Xz2 (Zz4 _ _ _ _) (Zz4 _ _ _ _)) (v8_set (v8_set H2.out.1 _ _) _ _))) ?_
          clear H2 c0 f0 c9 f9
          intro w3 H3
          obtain ⟨z0, z1, z2, z3, z4, z5⟩ := Wz6 hl.1 ((H3.out.2.1.block _ (Zz0 HR.out)).trans HR.out)
          go_wp2_with fail
          have hPU := put_any hb _ (show PgOk (((zer 64).set 0 84).set 9 (L.length : Int)) from ⟨by simp [zer], u8_set (u8_set zer_pg.2 _ _ (by decide)) _ _ (by omega)⟩) 1 8 (by omega) (by omega) num ⟨HFIT.out.2.2.2.1, by have := HFIT.out.2.2.2.2; omega⟩ w3 H3.out.1
          refine hPU.mono ?_
          clear hPU
          rintro e w4 ⟨rfl, hp4, hg4⟩
          have H4 : Hid (AdX w u6 Q hb (headF L.length num) w4) := hZ (H3.out.turn hg4 hp4)
          have HHO : Hid (PgOk (headF L.length num)) := hZ (headF_ok _ _ (by omega))
          clear hp4 hg4 H3 z0 z1 z2 z3 z4 z5
          try dsimp only
          go_wp2_with fail
          have hNW := hashNew_D w4 (fun k => k < w4.heap.size) (fun i hi => hi)
          refine hNW.mono ?_
          clear hNW
          rintro e w5 ⟨rfl, hh5, hb5⟩
          have HH5 := hZ hh5
          have HB5 := hZ hb5
          clear hh5 hb5
          try dsimp only
          go_wp2_with fail
          have hs4 := H4.out.2.1.size
          have hrb := Zz0 HR.out
          have H5 : Hid (AdX w u6 Q hb (headF L.length num) w5) := hZ (H4.out.below HB5.out)
          have hWR := Wz8 w4.heap.size (fun k => k < w4.heap.size) [] (some ⟨rb, 5, none⟩) last 32 w5 HH5.out (ring_by ((H5.out.2.1.block _ hrb).trans HR.out)) (by omega) (by simp) hl.2 (fun h => by cases h) (fun x hx _ => by cases hx; show rb ≠ _; omega)
          rw [hl.1] at hWR
          refine hWR.mono ?_
          clear hWR
          rintro e w6 ⟨rfl, hh6, hk6⟩
          have HH6 := hZ hh6
          have HB6 : Hid (Below w4.heap.size w4 w6) := hZ (HB5.out.trans (hk6.below HB5.out.size (fun i hi => hi)))
          clear hh6 hk6 HH5 HB5 H5
          have H6 : Hid (AdX w u6 Q hb (headF L.length num) w6) := hZ (H4.out.below HB6.out)
          have hhb := Zz0 H4.out.1
          try dsimp only
          go_wp2_with fail
          have hWR := Wz8 w4.heap.size (fun k => k < w4.heap.size) ([] ++ last) (some ⟨hb, 0, none⟩) ((headF L.length num).take 10) 64 w6 HH6.out (page_in H6.out.1 10) (by rw [List.length_take, HHO.out.1]; decide) (by simp [hl.1]) (fun x hx => HHO.out.2 x (List.mem_of_mem_take hx)) (fun h => by cases h) (fun x hx _ => by cases hx; show hb ≠ _; omega)
          rw [show ((headF L.length num).take 10).length = 10 by rw [List.length_take, HHO.out.1]; rfl] at hWR
          refine hWR.mono ?_
          clear hWR
          rintro e w7 ⟨rfl, hh7, hk7⟩
          have HB7 : Hid (Below w4.heap.size w4 w7) := hZ (HB6.out.trans (hk7.below HB6.out.size (fun i hi => hi)))
          have HH7 : Hid (HashD w7 w4.heap.size (fun k => k < w4.heap.size) ([] ++ last ++ (headF L.length num).take 10)) := hZ hh7
          have hdl : ([] ++ last ++ (headF L.length num).take 10).length = 42 + 64 * 0 := by simp [hl.1, HHO.out.1]
          generalize hD7 : [] ++ last ++ (headF L.length num).take 10 = D7 at HH7 hdl
          have HD7 : Hid (last ++ (headF L.length num).take 10 = D7) := hZ (by rw [← hD7, List.nil_append])
          clear hD7
          clear hh7 hk7 HH6 HB6 H6
          obtain ⟨ga, gc, rfl⟩ := Kz3 H4.out.2.2.1
          obtain ⟨g, rfl⟩ : ∃ g, ga = some ⟨g, 0, none⟩ := by
            rcases H4.out.2.2.1.2 with ⟨hv, hn⟩ | ⟨g, c, cur, hv, _⟩
            · omega
            · simp only [Value.slice.injEq] at hv; exact ⟨g, hv.1⟩
          have hql60 : Q.length ≤ 64 := by omega
          have HQL0 := hZ hql
          have HDL7 := hZ hdl
          clear hql hm0 hdl
          try dsimp only
          go_wp2_with fail
          go_loopw [103] (fun jv wr => ∃ (j : Nat) (D : List Int), jv = .int .i64 (j : Int) ∧ j ≤ Q.length ∧ Hid (D.length = 42 + 64 * j ∧ D = D7 ++ (Q.take j).flatten) ∧ Hid (HashD wr w4.heap.size (fun k => k < w4.heap.size) D) ∧ Hid (Below w4.heap.size w4 wr)) (fun jv _ => Q.length - (intOf jv).toNat)
          case atStart => exact ⟨0, D7, rfl, by omega, hZ ⟨HDL7.out, by simp⟩, HH7, HB7⟩
          case round =>
            clear HH7 HB7
            obtain ⟨j, D, rfl, hj, HDL, HH, HB⟩ := hrel
            have H8 : Hid (AdX w (.slice (some ⟨g, 0, none⟩) Q.length gc) Q hb (headF L.length num) wr) := hZ (H4.out.below HB.out)
            by_cases hjt : j < Q.length
            · have hj0 : (0 : Int) ≤ j := by omega
              have hj1 : (j : Int) < Q.length := by omega
              have HRG := hZ (PgRow.range H8.out.2.2.1 HQ.out j hjt)
              have HPO := hZ (HQ.out Q[j] (List.getElem_mem hjt))
              have HTK : Hid (Q.take (j + 1) = Q.take j ++ [Q[j]]) := hZ (List.take_succ_eq_append_getElem hjt)
              generalize Q[j] = pg at HRG HPO HTK
              repeat ((fail_if_success (with_reducible refine Kz1 107 rfl ?_)); (first | (first | (refine wpList_load_mid rfl 37 (.tmp 105) rfl g (j * 64) rfl (v8 pg) _ HRG.out Tryz.underlying37 rfl (Jzh HPO.out.1) ?_) | (refine Wz2 rfl (.tmp 15) (.tmp 106) rfl wr.heap.size pg (zer 64) rfl rfl (heap_alloc_new wr _) HPO.out.1 rfl ?_)) | go_values | go_skip | go_guarded | go_step | go_upon))
              refine Xz0 (fun wx => Hid (wx.heap[wr.heap.size]? = some (.cells (v8a pg) 37) ∧ HashD wx w4.heap.size (fun k => k < w4.heap.size) D ∧ Below w4.heap.size w4 wx)) (hZ ⟨setRow_heap _ _ _ _ _ (0, 0) (heap_alloc_new wr _), HH.out.keep (below_setRow (bZ) (Nat.le_refl _) _) (fun i hi => ⟨by have := HB.out.size; simp; omega, .inl hi⟩), HB.out.trans ((below_setRow (bZ) (Nat.le_refl _) _).mono HB.out.size)⟩) ?_
              have hsz4 := HB.out.size
              have hbl := HH.out.1.lt
              generalize wr.heap.size = b15 at hsz4 hbl
              clear HH HB H8 HRG
              intro wy HY
              go_wp2_with fail
              have hWR := Wz8 w4.heap.size (fun k => k < w4.heap.size) D (some ⟨b15, 0, none⟩) (pg.take 64) 64 wy HY.out.2.1 (page_in HY.out.1 64) (by rw [List.length_take, HPO.out.1]; decide) (by have := HDL.out.1; omega) (fun x hx => HPO.out.2 x (List.mem_of_mem_take hx)) (fun h => by cases h) (fun x hx _ => by cases hx; show b15 ≠ _; omega)
              rw [show (pg.take 64).length = 64 by rw [List.length_take, HPO.out.1]; rfl, show pg.take 64 = pg from List.take_of_length_le (by rw [HPO.out.1]; exact Nat.le_refl _)] at hWR
              refine hWR.mono ?_
              clear hWR
              rintro e wz ⟨rfl, hhz, hkz⟩
              have HZ : Hid (HashD wz w4.heap.size (fun k => k < w4.heap.size) (D ++ pg) ∧ Below w4.heap.size w4 wz) := hZ ⟨hhz, HY.out.2.2.trans (hkz.below HY.out.2.2.size (fun i hi => hi))⟩
              clear hhz hkz HY
              try dsimp only
              go_wp2_with fail
              exact ⟨⟨j + 1, D ++ pg, by push_cast; rfl, by omega, hZ ⟨by have := HDL.out.1; have := HPO.out.1; simp; omega, by rw [HTK.out, List.flatten_append, ← List.append_assoc, ← HDL.out.2]; simp⟩, hZ HZ.out.1, hZ HZ.out.2⟩, by simp [intOf]; omega⟩
            · have hjq : j = Q.length := by omega
              have hj1 : ¬ ((j : Int) < Q.length) := by omega
              have hSM := hashSum_D w4.heap.size (fun k => k < w4.heap.size) D wr HH.out
              rw [show shaF D = sm by rw [← HSM.out]; unfold recS; rw [HD7.out, ← HQE.out, HDL.out.2, hjq, List.take_length]] at hSM
              clear HH
              go_wp2_with fail
              refine hSM.mono ?_
              clear hSM
              rintro e w9 ⟨rfl, hb9⟩
              have H9 : Hid (AdX w (.slice (some ⟨g, 0, none⟩) Q.length gc) Q hb (headF L.length num) w9) := hZ (H8.out.below hb9)
              clear hb9 H8 HB hjq
              have hsz : (v8a sm).size = 32 := by unfold v8a; rw [List.size_toArray, Wz0, hsl]
              try dsimp only
              go_wp2_with (refine wpList_store_row rfl 67 (.tmp 16) (.tmp 112) rfl w9.heap.size (v8a sm) rfl rfl 67 (v8a (zer 32)) ?s1 ?s2 ?s3 ?s4 ?_)
              case s1 => exact heap_alloc_new w9 _
              case s2 => rw [hsz]; exact Vz9
              case s3 => rw [hsz]; simp [v8a, v8, zer]
              case s4 => exact all_oneCell_toArray (Kz7 sm)
              refine Kz0 (fun wx => Hid (AdX w (.slice (some ⟨g, 0, none⟩) Q.length gc) Q hb (headF L.length num) wx ∧ wx.heap[w9.heap.size]? = some (.cells (v8a sm) 67))) (hZ ⟨H9.out.below (below_setRow (bZ) (Nat.le_refl _) _), setRow_heap _ _ _ _ _ (0, 0) (heap_alloc_new w9 _)⟩) ?_
              have hsb := Zz0 H9.out.1
              have hsw : w.heap.size ≤ w9.heap.size := H9.out.2.1.size
              generalize w9.heap.size = sb at hsb hsw
              clear H9
              intro w10 H10
              simp only [Act.put]
              obtain ⟨hd, hhd⟩ : ∃ hd, (headF L.length num).take 10 ++ (sm ++ (headF L.length num).drop (10 + sm.length)) = hd := ⟨_, rfl⟩
              have HRP : Hid (recP num last L = hd :: Q) := hZ (by unfold recP; rw [HSM.out, ← HQE.out, ← hhd, hsl])
              have hd64 : hd.length = 64 := by rw [← hhd]; simp [HHO.out.1, hsl]
              have HDO : Hid (PgOk hd) := hZ (by
                refine ⟨hd64, fun x hx => ?_⟩
                have hs8 : U8s sm := by
                  rw [← HSM.out]
                  exact (recS_ok hl (fun x hx => (HL.out x hx).2) hk2).2
                rw [← hhd] at hx
                rcases List.mem_append.1 hx with hx | hx
                · exact HHO.out.2 x (List.mem_of_mem_take hx)
                · rcases List.mem_append.1 hx with hx | hx
                  · exact hs8 x hx
                  · exact HHO.out.2 x (List.mem_of_mem_drop hx))
              have hl8 : (v8 sm).length = 32 := by rw [Wz0, hsl]
              refine Zz3 2 (fun w' => ∃ p : Regrown, w' = Go.Sort.grow (redrawn w10 p.d) p.os) (by kernel_rfl) (by kernel_rfl) (fun _ _ d _ _ h => by cases d <;> exact h) (Vz2 _) ?_
              simp only [List.take_succ_cons, List.take_zero]
              repeat (go_big_quiet_step (fail))
              with_reducible refine wpQuiet_nil ?_
              with_reducible refine mix_a ?_
              simp only [qd1, qd0, qt1, qt0]
              refine wpList_copy_own rfl (.tmp 113) (.tmp 114) 118 118 rfl 5 Tryz.underlying118 (by kernel_rfl) hb 10 54 54 ⟨sb, 0, none⟩ 32 32 rfl rfl (v8a (headF L.length num)) 37 H10.out.1.1 (v8 sm) hl8 (fun j v hj => v8_from (w := w10.drew) H10.out.2 j v 32 (by rw [List.take_of_length_le (by omega)]; exact hj)) ?k2 (Kz7 _) ?_
              case k2 => unfold v8a; rw [hl8, List.size_toArray, Wz0, HHO.out.1]; decide
              refine Xz0 (fun wx => Hid (AdX w (.slice (some ⟨g, 0, none⟩) Q.length gc) Q hb hd wx ∧ wx.heap[sb]? = some (.cells (v8a sm) 67))) (hZ (by
                rw [set_row_v8, hhd]
                exact ⟨(H10.out.1.below (Below.refl _ _).drew).turn (Wzd _ _ _) (setRow_heap _ _ _ _ _ (0, 0) (show w10.drew.heap[hb]? = _ from H10.out.1.1)), by rw [setRow_other _ _ _ _ (by omega)]; exact H10.out.2⟩)) ?_
              clear H10 hhd
              intro w11 H11
              simp only [Act.put]
              rw [show goInt (((v8 sm).length : Nat) : Int) = Value.int .i64 32 from by rw [hl8]; rfl]
              with_reducible refine wpList_nil ?_
              refine Qz0 ⟨fun h => absurd h (by simp), Wz1 ?_⟩
              repeat ((fail_if_success (with_reducible refine Kz1 116 rfl ?_)); (first | go_values | go_skip | go_guarded | go_step | go_upon))
              refine Wz3 rfl (.tmp 12) rfl hb hd rfl H11.out.1.1 hd64 ?_
              simp only [Act.put, qs0, qs1, qs2]
              refine Kz5 rfl 52 37 (.tmp 116) rfl ip _ Tryz.underlying52 HIP.out.1 HIP.out.2.1 64 HIP.out.2.2.1 (by decide) (by decide) (.agg (v8a hd)) rfl (v8a hd) rfl (pgsz hd64) ?_
              simp only [Act.put, qs0, qs1, qs2]
              repeat ((fail_if_success (with_reducible refine Kz1 119 rfl ?_)); (first | go_values | go_skip | go_guarded | go_step | go_upon))
              have hs11 := H11.out.1.2.1.size
              refine Jz2 rfl (.tmp 117) (.tmp 118) 52 rfl w.heap.size 37 ip _ 64 64 Tryz.underlying52 HIP.out.1 HIP.out.2.1 HIP.out.2.2.1 HIP.out.2.2.2 rfl (by decide) (.slice (some ⟨w11.heap.size, 0, none⟩) 1 1) 1 (v8 hd) rfl ?c0 (.slice (some ⟨g, 0, none⟩) Q.length gc) Q.length (v8 Q.flatten) rfl ?c4 ?c1 ?c2 ?c3 ?_
              case c0 => exact own_oneN w11 (v8 hd) _ _ _ (by rw [Wz0, hd64]) hs11
              case c4 => exact own_srcP (Vz4 H11.out.1.2.2.1 (bZ))
              case c1 => unfold maxLen; omega
              case c2 => omega
              case c3 => simp; omega
              intro v4 w12 ho4 hg4
              have hsb2 := Zz0 H11.out.2
              obtain ⟨R, hR⟩ : ∃ R, hd :: Q = R := ⟨_, rfl⟩
              have hRl : R.length = Q.length + 1 := by rw [← hR]; rfl
              have H12 : Hid (PgRow w12 w.heap.size v4 R ∧ w12.heap[sb]? = some (.cells (v8a sm) 67) ∧ Below w.heap.size w w12) := hZ ⟨by
                unfold PgRow
                rw [hRl, ← hR, Nat.add_comm, List.flatten_cons, show v8 (hd ++ Q.flatten) = v8 hd ++ v8 Q.flatten by simp [v8]]
                exact ho4, (hg4.block sb (by simp; omega) (fun e => by simp only [Value.ownBlock, Option.some.injEq] at e; omega)).trans ((bZ).block _ hsb2 |>.trans H11.out.2), (H11.out.1.2.1.alloc hs11 _).grown hg4 (by simp; omega) (fun k hk => by simp only [Value.ownBlock, Option.some.injEq] at hk; omega)⟩
              clear ho4 hg4 H11
              rw [hR] at HRP
              have HRO : Hid (∀ p ∈ R, PgOk p) := hZ (fun p hp => by
                rw [← hR] at hp
                rcases List.mem_cons.1 hp with rfl | hp
                · exact HDO.out
                · exact HQ.out p hp)
              have HWR : Hid (ws = recW first n pl R) := hZ (by rw [← HWS.out, HRP.out])
              obtain ⟨ga, gc2, rfl⟩ := Kz3 H12.out.1
              obtain ⟨g2, rfl⟩ : ∃ g, ga = some ⟨g, 0, none⟩ := by
                rcases H12.out.1.2 with ⟨hv, hn⟩ | ⟨g, c, cur, hv, _⟩
                · omega
                · simp only [Value.slice.injEq] at hv; exact ⟨g, hv.1⟩
              have hg2 := World.ownsRow.lt H12.out.1 g2 rfl
              have hrbw := Zz0 HR.out
              have HDI : Hid (DiskI w12 db (fun k => N k ∨ (w.heap.size ≤ k ∧ k < w12.heap.size)) ⟨d.firm, d.cache ++ (recW first n pl R).take 0⟩) := hZ (by
                rw [List.take_zero, List.append_nil]
                refine HD.out.keep H12.out.2.2 (fun i hi => ?_)
                rcases hi with hi | hi
                · exact ⟨Nat.lt_of_lt_of_le (HN.out i hi) H12.out.2.2.size, .inl hi⟩
                · exact ⟨hi.2, .inr hi.1⟩)
              have hR64 : R.length ≤ 65 := by omega
              have HRL := hZ hRl
              clear hRl hR
              simp only [Act.put, qs0, qs1, qs2]
              go_wp2_with fail
              go_loopw [121] (fun iv wr => ∃ i : Nat, iv = .int .i64 (i : Int) ∧ i ≤ R.length ∧ Hid (DiskI wr db (fun k => N k ∨ (w.heap.size ≤ k ∧ k < w12.heap.size)) ⟨d.firm, d.cache ++ (recW first n pl R).take i⟩) ∧ Hid (Keeps (fun k => N k ∨ (w.heap.size ≤ k ∧ k < w12.heap.size)) w12 wr)) (fun iv _ => R.length - (intOf iv).toNat)
              case atStart => exact ⟨0, rfl, by omega, HDI, hZ (Keeps.refl _ _)⟩
              case round =>
                clear HDI
                obtain ⟨i, rfl, hi, HDI, HK⟩ := hrel
                have HRC : Hid (wr.heap[rb]? = some (.cells (ringC db first n pl num last used) 252)) := hZ (HK.out.blk (.inl hrN) ((H12.out.2.2.block _ hrbw).trans HR.out))
                by_cases hit : i < R.length
                · have hi0 : (0 : Int) ≤ i := by omega
                  have hi1 : (i : Int) < R.length := by omega
                  have HRG := hZ (PgRow.range (HK.out.own H12.out.1 (fun k hk => by simp only [Value.ownBlock, Option.some.injEq] at hk; exact .inr (by omega))) HRO.out i hit)
                  have HPO := hZ (HRO.out R[i] (List.getElem_mem hit))
                  have HTK := hZ (recW_take first n pl R i hit)
                  generalize R[i] = pg at HRG HPO HTK
                  repeat ((fail_if_success (with_reducible refine Kz1 126 rfl ?_)); (first | (first | (refine wpList_load_mid rfl 37 (.tmp 124) rfl g2 (i * 64) rfl (v8 pg) _ HRG.out Tryz.underlying37 rfl (Jzh HPO.out.1) ?_) | (refine Wz2 rfl (.tmp 18) (.tmp 125) rfl wr.heap.size pg (zer 64) rfl rfl (heap_alloc_new wr _) HPO.out.1 rfl ?_)) | go_values | go_skip | go_guarded | go_step | go_upon))
                  have hbx : ∀ o : Obj, Below wr.heap.size wr ((wr.alloc o).setRow wr.heap.size (v8a pg)) := fun o => below_setRow (bZ) (Nat.le_refl _) _
                  have hrbr := Zz0 HRC.out
                  refine Kz0 (fun wx => Hid (wx.heap[wr.heap.size]? = some (.cells (v8a pg) 37) ∧ wx.heap[rb]? = some (.cells (ringC db first n pl num last used) 252) ∧ DiskI wx db (fun k => (N k ∨ (w.heap.size ≤ k ∧ k < w12.heap.size)) ∨ k = wr.heap.size) ⟨d.firm, d.cache ++ (recW first n pl R).take i⟩ ∧ Keeps (fun k => N k ∨ (w.heap.size ≤ k ∧ k < w12.heap.size)) w12 wx)) (hZ ⟨setRow_heap _ _ _ _ _ (0, 0) (heap_alloc_new wr _), ((hbx _).block _ hrbr).trans HRC.out, HDI.out.keep (hbx _) (fun k hk => by
                    rcases hk with hk | hk
                    · exact ⟨Nat.lt_of_lt_of_le (HDI.out.N_lt k hk) (hbx _).size, .inl hk⟩
                    · exact ⟨by rw [hk, setRow_size]; simp, .inr (by omega)⟩), HK.out.trans (Keeps.of_below (hbx _))⟩) ?_
                  generalize wr.heap.size = b18
                  clear hbx HDI HK HRC HRG hrbr
                  intro wy HY
                  simp only [Act.put]
                  have hrt : (recW first n pl R).take i = (recW first n pl R).take i := rfl
                  have HAT := hZ (fun wx (hx : wx.heap[rb]? = some (.cells (ringC db first n pl num last used) 252)) => ringAt_any rb db first n pl used (pl + i) num last wx hl.1 hx ⟨by omega, hn.2⟩ hf (by omega))
                  have hmod : first + (pl + i) % n < d.firm.length := by have := Nat.mod_lt (pl + i) (show 0 < n by omega); have := HFIT.out.2.1; omega
                  have HDW := hZ (fun wx (hx : DiskI wx db (fun k => (N k ∨ (w.heap.size ≤ k ∧ k < w12.heap.size)) ∨ k = b18) ⟨d.firm, d.cache ++ (recW first n pl R).take i⟩) => diskWrite_any db _ ⟨d.firm, d.cache ++ (recW first n pl R).take i⟩ (first + (pl + i) % n) pg hmod HPO.out (by show (d.cache ++ (recW first n pl R).take i).length ≤ _; rw [List.length_append, List.length_take, Qzg]; have := HFIT.out.2.2.1; omega) wx hx)
                  have r0 : ∀ q : SatW (RgS rb b18 (ringC db first n pl num last used) pg), q.w.cell? ⟨rb, 0, none⟩ = some (.pointer (some ⟨db, 0, none⟩)) := fun q => (Wz6 hl.1 q.h.1).1
                  have r3 : ∀ q : SatW (RgS rb b18 (ringC db first n pl num last used) pg), q.w.cell? ⟨rb, 3, none⟩ = some (.int .i64 (pl : Int)) := fun q => (Wz6 hl.1 q.h.1).2.2.2.1
                  have hpl0 : (0 : Int) ≤ pl := by omega
                  have hpl1 : (pl : Int) ≤ 4096 := by omega
                  have hi65 : (i : Int) ≤ 65 := by omega
                  clear hmod
                  have hne : Nonempty (SatW (RgS rb b18 (ringC db first n pl num last used) pg)) := ⟨⟨_, (show RgS rb b18 (ringC db first n pl num last used) pg wy.drew from ⟨HY.out.2.1, HY.out.1⟩)⟩⟩
                  refine Vz0 [(0, true), (1, true), (2, true), (3, true), (4, true), (5, true), (6, true), (7, true), (8, true), (9, true), (10, true), (11, true), (13, true), (12, false), (14, false), (15, true)] 15 (fun w' => ∃ p : SatW (RgS rb b18 (ringC db first n pl num last used) pg), w' = p.w) (by kernel_rfl) (by kernel_rfl) (fun _ _ d _ _ h => by cases d <;> exact h) (Jz3 (show RgS rb b18 (ringC db first n pl num last used) pg wy.drew from ⟨HY.out.2.1, HY.out.1⟩)) ?_
                  (repeat (with_reducible refine mix_q ?_; simp only [qd1, qd0, qt1, qt0]; go_big_quiet_step (fail); with_reducible refine wpQuiet_nil ?_))
                  with_reducible refine mix_q ?_
                  simp only [qd1, qd0, qt1, qt0]
                  go_big_quiet_want
                  refine Zz6 (.tmp 18) rfl b18 pg rfl (fun w' hw' => by obtain ⟨q, rfl⟩ := hw'; exact q.h.2) HPO.out.1 ?_
                  simp only [Act.put, qs0, qs1, qs2]
                  go_big_quiet_on
                  with_reducible refine wpQuiet_nil ?_
                  with_reducible refine mix_a ?_; simp only [qd1, qd0, qt1, qt0]
                  have hA := HAT.out wy.drew HY.out.2.1
                  rw [show ((pl + i : Nat) : Int) = (pl : Int) + (i : Int) by omega] at hA
                  go_wp2_with fail
                  refine hA.mono ?_
                  clear hA HAT
                  rintro e wz ⟨rfl, hbz⟩
                  have HZ : Hid (wz.heap[b18]? = some (.cells (v8a pg) 37) ∧ wz.heap[rb]? = some (.cells (ringC db first n pl num last used) 252) ∧ DiskI wz db (fun k => (N k ∨ (w.heap.size ≤ k ∧ k < w12.heap.size)) ∨ k = b18) ⟨d.firm, d.cache ++ (recW first n pl R).take i⟩ ∧ Keeps (fun k => N k ∨ (w.heap.size ≤ k ∧ k < w12.heap.size)) w12 wz) := hZ (by
                    have hd : Below wy.heap.size wy wz := (Below.refl _ _).drew.trans hbz
                    exact ⟨(hd.block _ (Zz0 HY.out.1)).trans HY.out.1, (hd.block _ (Zz0 HY.out.2.1)).trans HY.out.2.1, HY.out.2.2.1.below hd, HY.out.2.2.2.trans (Keeps.of_below hd)⟩)
                  clear hbz HY
                  try dsimp only
                  go_wp2_with fail
                  try with_reducible refine wpList_nil ?_
                  with_reducible refine Qz0 ?_
                  refine ⟨fun _ => Jz3 (F := RgS rb b18 (ringC db first n pl num last used) pg) ⟨HZ.out.2.1, HZ.out.1⟩, ?_⟩
                  with_reducible refine mix_a ?_; simp only [qd1, qd0, qt1, qt0]
                  have hDW := HDW.out wz HZ.out.2.2.1
                  rw [show ((first + (pl + i) % n : Nat) : Int) = (first : Int) + ((pl : Int) + (i : Int)) % n by push_cast; rfl] at hDW
                  go_wp2_with fail
                  refine hDW.mono ?_
                  clear hDW HDW
                  rintro e wv ⟨rfl, hdv, hkv⟩
                  have HV : Hid (wv.heap[b18]? = some (.cells (v8a pg) 37) ∧ wv.heap[rb]? = some (.cells (ringC db first n pl num last used) 252) ∧ DiskI wv db (fun k => N k ∨ (w.heap.size ≤ k ∧ k < w12.heap.size)) ⟨d.firm, d.cache ++ (recW first n pl R).take (i + 1)⟩ ∧ Keeps (fun k => N k ∨ (w.heap.size ≤ k ∧ k < w12.heap.size)) w12 wv) := hZ (by
                    rw [HTK.out, ← List.append_assoc]
                    exact ⟨hkv.blk (.inr rfl) HZ.out.1, hkv.blk (.inl (.inl hrN)) HZ.out.2.1, hdv.keep (Below.refl _ _) (fun k hk => ⟨hdv.N_lt k (.inl hk), .inl (.inl hk)⟩), HZ.out.2.2.2.trans (hkv.mono (fun k _ hk => .inl hk))⟩)
                  clear hdv hkv HZ
                  try dsimp only
                  go_wp2_with fail
                  try with_reducible refine wpList_nil ?_
                  with_reducible refine Qz0 ?_
                  refine ⟨fun _ => Jz3 (F := RgS rb b18 (ringC db first n pl num last used) pg) ⟨HV.out.2.1, HV.out.1⟩, ?_⟩
                  (repeat (with_reducible refine mix_q ?_; simp only [qd1, qd0, qt1, qt0]; go_big_quiet_step (fail); with_reducible refine wpQuiet_nil ?_))
                  with_reducible refine Wz1 ?_
                  go_wp2_with fail
                  exact ⟨⟨i + 1, by push_cast; rfl, by omega, hZ HV.out.2.2.1, hZ HV.out.2.2.2⟩, by simp [intOf]; omega⟩
                · have hiq : i = R.length := by omega
                  have hi1 : ¬ ((i : Int) < R.length) := by omega
                  have HDF : Hid (DiskI wr db (fun k => N k ∨ (w.heap.size ≤ k ∧ k < w12.heap.size)) ⟨d.firm, d.cache ++ ws⟩) := hZ (by
                    have h := HDI.out
                    rw [hiq, List.take_of_length_le (by rw [Qzg]; exact Nat.le_refl _), ← HWR.out] at h
                    exact h)
                  have hsbw : sb < w12.heap.size := Zz0 H12.out.2.1
                  have HSB : Hid (wr.heap[sb]? = some (.cells (v8a sm) 67)) := hZ (HK.out.blk (.inr ⟨by omega, hsbw⟩) H12.out.2.1)
                  have HLN : Hid ((v8 sm).length = 32) := hZ hl8
                  obtain ⟨z0, z1, z2, z3, z4, z5⟩ := Wz6 hl.1 HRC.out
                  have k2 := cell_regrown z2
                  have k3 := cell_regrown z3
                  have k4 := cell_regrown z4
                  have HSL := hZ hsl
                  have hpl0 : (0 : Int) ≤ pl := by omega
                  have hpl1 : (pl : Int) ≤ 4096 := by omega
                  have hnn : (n : Int) ≠ 0 := by omega
                  have hn1 : (1 : Int) ≤ n := by omega
                  have hn2 : (n : Int) ≤ 4096 := by omega
                  have hq0 : (Q.length : Int) ≤ 64 := by have := HRL.out; omega
                  have hnm := HFIT.out.2.2.2
                  clear HDI hiq hsbw
                  go_wp2_with fail
                  refine Vz0 [(0, true), (1, true), (2, true), (3, true), (4, true), (5, true), (6, true), (7, true), (8, true), (9, true), (10, true), (11, true), (12, true), (13, true), (14, true), (15, true), (16, true), (17, true), (18, true), (19, true), (20, true), (21, true), (22, true), (23, true), (24, true), (25, false)] 25 (fun w' => ∃ p : Regrown, w' = Go.Sort.grow (redrawn wr p.d) p.os) (by kernel_rfl) (by kernel_rfl) (fun _ _ d _ _ h => by cases d <;> exact h) (Vz2 _) ?_
                  (repeat (with_reducible refine mix_q ?_; simp only [qd1, qd0, qt1, qt0]; go_big_quiet_step (fail); with_reducible refine wpQuiet_nil ?_))
                  with_reducible refine mix_q ?_
                  simp only [qd1, qd0, qt1, qt0]
                  go_big_quiet_want
                  refine Jz1 67 (.tmp 16) rfl sb 0 rfl (v8 sm) _ (fun w' hw' => Vz6 (Wz4 HSB.out w' hw')) Tryz.underlying67 rfl (by rw [HLN.out]; exact Vz9) ?_
                  simp only [Act.put, qs0, qs1, qs2]
                  go_big_quiet_on
                  with_reducible refine wpQuiet_nil ?_
                  with_reducible refine mix_q ?_
                  simp only [qd1, qd0, qt1, qt0]
                  go_big_quiet_want
                  refine Zzd 148 _ rfl (.mk (.int .i64 (((pl : Int) + Q.length + 1) % n) :: .int .u64 (num + 1) :: v8 sm)) ?hb ?_
                  case hb => simp only [List.map_toArray, List.map_cons, List.map_nil]; exact built_mark _ _ sm HSL.out
                  simp only [Act.put, qs0, qs1, qs2]
                  go_big_quiet_on
                  with_reducible refine wpQuiet_nil ?_
                  (repeat (with_reducible refine mix_q ?_; simp only [qd1, qd0, qt1, qt0]; go_big_quiet_step (fail); with_reducible refine wpQuiet_nil ?_))
                  with_reducible refine mix_a ?_; simp only [qd1, qd0, qt1, qt0]
                  have HCS : Hid ((Array.mk (Value.int .i64 (((pl : Int) + Q.length + 1) % n) :: .int .u64 (num + 1) :: v8 sm)).size = 34) := hZ (by show (_ :: _ :: v8 sm : List Value).length = 34; rw [List.length_cons, List.length_cons, HLN.out])
                  have hpe : ((pl : Int) + Q.length + 1) % n = (((pl + (1 + (L.length + 15) / 16 + L.length)) % n : Nat) : Int) := by
                    have e : pl + Q.length + 1 = pl + (1 + (L.length + 15) / 16 + L.length) := by have := HQL0.out; omega
                    rw [← e]; push_cast; rfl
                  have HPE2 := hZ hpe
                  clear hpe
                  refine wpList_store_mid rfl 148 (.tmp 170) (.tmp 168) rfl rb 3 (.mk (.int .i64 (((pl : Int) + Q.length + 1) % n) :: .int .u64 (num + 1) :: v8 sm)) rfl rfl (by rw [HCS.out]; exact ring_there3 (w := wr.drew) hl.1 HRC.out) (by rw [HCS.out]; exact Jza) (all_oneCell_toArray (fun v hv => by
                    rcases List.mem_cons.1 hv with rfl | hv
                    · rfl
                    · rcases List.mem_cons.1 hv with rfl | hv
                      · rfl
                      · exact Kz7 sm v hv)) ?_
                  have hgs : wr.grownBy (wr.drew.setCells rb 3 (.int .i64 (((pl : Int) + Q.length + 1) % n) :: .int .u64 (num + 1) :: v8 sm)) (some rb) := Xz2 (Zz2 (Below.refl _ _).drew _) (Jz7 _ _ _ _)
                  have hks : Keeps (fun k => k ≠ rb) wr (wr.drew.setCells rb 3 (.int .i64 (((pl : Int) + Q.length + 1) % n) :: .int .u64 (num + 1) :: v8 sm)) := Keeps.of_grown hgs (fun k hk e => by cases hk; exact e rfl)
                  refine Xz0 (fun wx => Hid (wx.heap[rb]? = some (.cells (ringC db first n ((pl + (1 + (L.length + 15) / 16 + L.length)) % n) (num + 1) sm used) 252) ∧ DiskI wx db (fun k => N k ∨ (w.heap.size ≤ k ∧ k < w12.heap.size)) ⟨d.firm, d.cache ++ ws⟩ ∧ Keeps (fun k => N k ∧ k ≠ rb) w wx)) (hZ ⟨by rw [HPE2.out]; exact ring_mark (w := wr.drew) hl.1 HSL.out HRC.out, HDF.out.keeps (hks.mono (fun k _ hk e => hk (.inl (by rw [e]; exact hrN)))), (Keeps.of_below H12.out.2.2).trans ((HK.out.mono (fun k _ hk => .inl hk.1)).trans (hks.mono (fun k _ hk => hk.2)))⟩) ?_
                  clear hgs hks HRC HDF HK HPE2 HCS z0 z1 z2 z3 z4 z5 k2 k3 k4
                  intro wv HV
                  simp only [Act.put]
                  with_reducible refine wpList_nil ?_
                  refine Qz0 ⟨fun h => absurd h (by simp), Wz1 ?_⟩
                  obtain ⟨z0, z1, z2, z3, z4, z5⟩ := Wz6 HSL.out HV.out.1
                  have f5 := ring_fr HV.out.1 37
                  have hu1 : (used : Int) ≤ 4096 := by omega
                  have hu0 : (0 : Int) ≤ used := by omega
                  go_wp2_with fail
                  go_ret
                  have hus : (used : Int) + ((Q.length : Int) + 1) = ((used + (1 + (L.length + 15) / 16 + L.length) : Nat) : Int) := by rw [HQL0.out]; push_cast; omega
                  refine ⟨rfl, ?_, ?_, HV.out.2.2.trans (Keeps.set _ _ _ _ (fun e => e.2 rfl))⟩
                  · rw [hus]
                    exact ring_used HSL.out _ HV.out.1
                  · exact (HV.out.2.1.keeps (Keeps.set _ _ _ _ (fun e => e (.inl hrN)))).keep (Below.refl _ _) (fun k hk => ⟨by simpa using Nat.lt_of_lt_of_le (HN.out k hk) HV.out.2.2.size, .inl (.inl hk)⟩)
end Go.Proofs.YtajmcplanlibnaaGreatDoor
