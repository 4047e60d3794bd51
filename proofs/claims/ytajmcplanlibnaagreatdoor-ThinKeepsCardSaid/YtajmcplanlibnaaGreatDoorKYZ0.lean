/- A volume: its block, its book, its depot, its table, its forest; what a turn of one of these makes of it. -/
import Derived.Test.YtajmcplanlibnaaGreatDoorKYUg
import Derived.Test.YtajmcplanlibnaaGreatDoorKYM20
import Derived.Test.YtajmcplanlibnaaGreatDoorKYG1
import Derived.Lib.QuietBelow
set_option linter.unusedSimpArgs false
set_option linter.unusedVariables false
set_option linter.unnecessarySimpa false
namespace Go.Proofs.YtajmcplanlibnaaGreatDoor
open Go.RowKit Go.Maps
structure Cfg where
  sec : Nat
  ring : Nat
  boxes : Nat
  prints : Nat
  nodes : Nat
  luns : List Nat
def Cfg.f2 (C : Cfg) : Nat := 5 + C.boxes * 5
def Cfg.f3 (C : Cfg) : Nat := C.f2 + C.prints
def cfgL (C : Cfg) (lv : Value) : List Value := [.int .i64 (C.sec : Int), .int .i64 (C.ring : Int), .int .i64 (C.boxes : Int), .int .i64 (C.prints : Int), .int .i64 (C.nodes : Int), lv]
def lunsV (C : Cfg) : List Value := C.luns.map fun n : Nat => .int .i64 (n : Int)
def ptrV (b : Nat) : Value := .pointer (some ⟨b, 0, none⟩)
def volC (C : Cfg) (lv : Value) (bb t1 t2 t3 : Nat) : Array Value := (cfgL C lv ++ [ptrV bb, ptrV t1, ptrV t2, ptrV t3]).toArray
def NV (N : Nat → Prop) (vb t1 t2 t3 : Nat) (lv : Value) : Nat → Prop := fun k => N k ∨ k = vb ∨ k = t1 ∨ k = t2 ∨ k = t3 ∨ lv.ownBlock = some k
def NX (N : Nat → Prop) (vb t1 t2 t3 : Nat) (lv : Value) (t : Nat) : Nat → Prop := fun k => NV N vb t1 t2 t3 lv k ∧ k ≠ t
structure VolI (w : World) (vb : Nat) (N : Nat → Prop) (C : Cfg) (lv : Value) (bb t1 t2 t3 : Nat) (B : BookS) : Prop where
  vol : w.heap[vb]? = some (.cells (volC C lv bb t1 t2 t3) 235)
  luns : w.ownsRow 0 3 1 lv C.luns.length (lunsV C)
  dep : w.heap[t1]? = some (.cells (tabC bb 5 C.boxes) 215)
  tab : w.heap[t2]? = some (.cells (tabC bb C.f2 C.prints) 190)
  rad : w.heap[t3]? = some (.cells (tabC bb C.f3 C.nodes) 201)
  book : BookI w bb (NV N vb t1 t2 t3 lv) B
  nots : ¬ N vb ∧ ¬ N t1 ∧ ¬ N t2 ∧ ¬ N t3 ∧ ∀ k, lv.ownBlock = some k → ¬ N k
section
variable {w w' : World} {vb : Nat} {N : Nat → Prop} {C : Cfg} {lv : Value} {bb t1 t2 t3 : Nat} {B B' : BookS}
theorem VolI.N_lt (h : VolI w vb N C lv bb t1 t2 t3 B) : ∀ k, NV N vb t1 t2 t3 lv k → k < w.heap.size := h.book.N_lt
theorem VolI.keep {N' : Nat → Prop} (h : VolI w vb N C lv bb t1 t2 t3 B) (hb : Below w.heap.size w w') (hn : ∀ i, N' i → i < w'.heap.size ∧ (N i ∨ w.heap.size ≤ i)) : VolI w' vb N' C lv bb t1 t2 t3 B := by
  have hs := hb.size
  have hl : ∀ k, NV N vb t1 t2 t3 lv k → k < w.heap.size := h.N_lt
  have hx : ∀ k, NV N vb t1 t2 t3 lv k → ¬ N k → ¬ N' k := fun k hk hnk hN => by
    have := hl k hk
    rcases (hn k hN).2 with q | q
    · exact hnk q
    · omega
  refine ⟨(hb.block _ (hl _ (.inr (.inl rfl)))).trans h.vol, Xz5 h.luns (fun k hk => hb.block k (hl k (.inr (.inr (.inr (.inr (.inr hk))))))), (hb.block _ (hl _ (.inr (.inr (.inl rfl))))).trans h.dep, (hb.block _ (hl _ (.inr (.inr (.inr (.inl rfl)))))).trans h.tab, (hb.block _ (hl _ (.inr (.inr (.inr (.inr (.inl rfl))))))).trans h.rad, h.book.keep hb (fun i hi => ?_), ?_⟩
  · rcases hi with hi | hi
    · rcases hn i hi with ⟨q1, q2 | q2⟩
      · exact ⟨q1, .inl (.inl q2)⟩
      · exact ⟨q1, .inr q2⟩
    · exact ⟨Nat.lt_of_lt_of_le (hl i (.inr hi)) hs, .inl (.inr hi)⟩
  · obtain ⟨n1, n2, n3, n4, n5⟩ := h.nots
    exact ⟨hx _ (.inr (.inl rfl)) n1, hx _ (.inr (.inr (.inl rfl))) n2, hx _ (.inr (.inr (.inr (.inl rfl)))) n3, hx _ (.inr (.inr (.inr (.inr (.inl rfl))))) n4, fun k hk => hx k (.inr (.inr (.inr (.inr (.inr hk))))) (n5 k hk)⟩
theorem VolI.below (h : VolI w vb N C lv bb t1 t2 t3 B) (hb : Below w.heap.size w w') : VolI w' vb N C lv bb t1 t2 t3 B :=
  h.keep hb (fun i hi => ⟨Nat.lt_of_lt_of_le (h.N_lt i (.inl hi)) hb.size, .inl hi⟩)
theorem VolI.less {N' : Nat → Prop} (h : VolI w vb N C lv bb t1 t2 t3 B) (hn : ∀ k, N' k → N k) : VolI w vb N' C lv bb t1 t2 t3 B :=
  h.keep (Below.refl _ _) (fun i hi => ⟨h.N_lt i (.inl (hn i hi)), .inl (hn i hi)⟩)
theorem VolI.holder (h : VolI w vb N C lv bb t1 t2 t3 B) {t f n T : Nat} (ht : t = t1 ∨ t = t2 ∨ t = t3) (hc : w.heap[t]? = some (.cells (tabC bb f n) T)) : HolI T w t (NX N vb t1 t2 t3 lv t) bb f n B :=
  ⟨hc, h.book.less (fun k hk => by
    rcases hk with hk | rfl
    · exact hk.1
    · rcases ht with rfl | rfl | rfl
      · exact .inr (.inr (.inl rfl))
      · exact .inr (.inr (.inr (.inl rfl)))
      · exact .inr (.inr (.inr (.inr (.inl rfl))))), fun hk => hk.2 rfl⟩
theorem VolI.hdep (h : VolI w vb N C lv bb t1 t2 t3 B) : HolI 215 w t1 (NX N vb t1 t2 t3 lv t1) bb 5 C.boxes B := h.holder (.inl rfl) h.dep
theorem VolI.hrad (h : VolI w vb N C lv bb t1 t2 t3 B) : HolI 201 w t3 (NX N vb t1 t2 t3 lv t3) bb C.f3 C.nodes B := h.holder (.inr (.inr rfl)) h.rad
theorem VolI.htab (h : VolI w vb N C lv bb t1 t2 t3 B) (hp : 1 ≤ C.prints) (hf : C.f3 ≤ B.n) : TabI w t2 (NX N vb t1 t2 t3 lv t2) bb C.f2 C.prints B := by
  obtain ⟨a, b, c⟩ := h.holder (.inr (.inl rfl)) h.tab
  exact ⟨a, b, c, hf, hp⟩
theorem VolI.held (h : VolI w vb N C lv bb t1 t2 t3 B) {t f n T : Nat} (ht : t = t1 ∨ t = t2 ∨ t = t3) (hc : w.heap[t]? = some (.cells (tabC bb f n) T)) (h' : HolI T w' t (NX N vb t1 t2 t3 lv t) bb f n B') (hk : Keeps (NX N vb t1 t2 t3 lv t) w w') : VolI w' vb N C lv bb t1 t2 t3 B' ∧ Keeps N w w' := by
  have hblk : ∀ k, NV N vb t1 t2 t3 lv k → w'.heap[k]? = w.heap[k]? := fun k hk' => by
    by_cases e : k = t
    · subst e; rw [h'.1, hc]
    · exact hk.block k (h.N_lt k hk') ⟨hk', e⟩
  refine ⟨⟨(hblk _ (.inr (.inl rfl))).trans h.vol, Xz5 h.luns (fun k hk' => hblk k (.inr (.inr (.inr (.inr (.inr hk')))))), (hblk _ (.inr (.inr (.inl rfl)))).trans h.dep, (hblk _ (.inr (.inr (.inr (.inl rfl))))).trans h.tab, (hblk _ (.inr (.inr (.inr (.inr (.inl rfl)))))).trans h.rad, h'.2.1.less (fun k hk' => ?_), h.nots⟩, hk.mono (fun k _ hN => ⟨.inl hN, fun e => ?_⟩)⟩
  · by_cases e : k = t
    · exact .inr e
    · exact .inl ⟨hk', e⟩
  · obtain ⟨_, n2, n3, n4, _⟩ := h.nots
    rcases ht with q | q | q
    · rw [e, q] at hN; exact n2 hN
    · rw [e, q] at hN; exact n3 hN
    · rw [e, q] at hN; exact n4 hN
theorem VolI.booked (h : VolI w vb N C lv bb t1 t2 t3 B) (h' : BookI w' bb (NV N vb t1 t2 t3 lv) B') (hk : Keeps (NV N vb t1 t2 t3 lv) w w') : VolI w' vb N C lv bb t1 t2 t3 B' ∧ Keeps N w w' := by
  have hblk : ∀ k, NV N vb t1 t2 t3 lv k → w'.heap[k]? = w.heap[k]? := fun k hk' => hk.block k (h.N_lt k hk') hk'
  exact ⟨⟨(hblk _ (.inr (.inl rfl))).trans h.vol, Xz5 h.luns (fun k hk' => hblk k (.inr (.inr (.inr (.inr (.inr hk')))))), (hblk _ (.inr (.inr (.inl rfl)))).trans h.dep, (hblk _ (.inr (.inr (.inr (.inl rfl))))).trans h.tab, (hblk _ (.inr (.inr (.inr (.inr (.inl rfl)))))).trans h.rad, h', h.nots⟩, hk.mono (fun k _ hN => .inl hN)⟩
theorem VolI.cells (h : VolI w vb N C lv bb t1 t2 t3 B) : w.cell? ⟨vb, 5, none⟩ = some lv ∧ w.cell? ⟨vb, 6, none⟩ = some (ptrV bb) ∧ w.cell? ⟨vb, 7, none⟩ = some (ptrV t1) ∧ w.cell? ⟨vb, 8, none⟩ = some (ptrV t2) ∧ w.cell? ⟨vb, 9, none⟩ = some (ptrV t3) := by
  refine ⟨?_, ?_, ?_, ?_, ?_⟩ <;> (rw [cell_of_row w vb _ _ _ (0, 0) h.vol]; rfl)
end
structure EnV (fs : Nat) (B : BookS) (n : Nat) (M : Nat → Option En) : Prop where
  pg : ∀ p, p < n → B.view (fs + p) = pgE (M p)
  ok : ∀ p e, p < n → M p = some e → EnOk e
section
variable {fs : Nat} {B : BookS} {n : Nat} {M : Nat → Option En}
theorem EnV.ent (h : EnV fs B n M) (p : Nat) (hp : p < n) : isEnt (B.view (fs + p)) = (M p).isSome := by
  rw [h.pg p hp]
  cases hm : M p with
  | none => rfl
  | some e =>
    have ho := h.ok p e hp hm
    show isEnt (setP e.1 e.2.1 e.2.2) = true
    rw [setP_is _ _ _ ho.1.1, decide_eq_true_eq]
    have := ho.2.2.1; omega
theorem EnV.parts (h : EnV fs B n M) {p : Nat} (hp : p < n) {e : En} (hm : M p = some e) : pDg (B.view (fs + p)) = e.1 ∧ pSlot (B.view (fs + p)) = e.2.1 ∧ pRefs (B.view (fs + p)) = e.2.2 := by
  rw [h.pg p hp, hm]
  have ho := h.ok p e hp hm
  have hr : 0 < e.2.2 := by have := ho.2.2.1; omega
  exact ⟨setP_dg _ _ _ ho.1.1 hr, setP_slot _ _ _ ho.1.1 hr ho.2.1, setP_refs _ _ _ ho.1.1 hr ho.2.2.2⟩
theorem EnV.find (h : EnV fs B n M) (d : List Int) (p : Nat) (hp : p < n) : findQ B fs d p = fQ M d p := by
  unfold findQ fQ
  rw [h.ent p hp]
  cases hm : M p with
  | none => rfl
  | some e =>
    obtain ⟨h1, h2, h3⟩ := h.parts hp hm
    rw [h1, h3]; rfl
theorem EnV.free (h : EnV fs B n M) (p : Nat) (hp : p < n) : freeQ B fs p = (M p).isNone := by
  unfold freeQ
  rw [h.ent p hp]
  cases M p <;> rfl
theorem EnV.ents (h : EnV fs B n M) : entN B fs n = (List.range n).filter fun p => (M p).isSome := by
  unfold entN
  refine List.filter_congr (fun p hp => h.ent p (List.mem_range.1 hp))
theorem EnV.set (h : EnV fs B n M) {p : Nat} (hp : p < n) {dg : List Int} {sl rf : Int} (hd : dg.length = 32 ∧ U8s dg) (hs : 0 ≤ sl ∧ sl < 256) (hr : 0 ≤ rf ∧ rf ≤ 15) :
    EnV fs (B.wrote (fs + p) (setP dg sl rf)) n (setM M p (if 0 < rf then some (dg, sl, rf) else none)) := by
  refine ⟨fun q hq => ?_, fun q e hq hm => ?_⟩
  · rw [BookS.wrote_view]
    unfold setM
    by_cases e : q = p
    · rw [if_pos (by omega), if_pos e]
      by_cases h0 : 0 < rf
      · rw [if_pos h0]; rfl
      · rw [if_neg h0]
        unfold setP
        rw [if_neg h0]; rfl
    · rw [if_neg (by omega), if_neg e]; exact h.pg q hq
  · unfold setM at hm
    by_cases eq : q = p
    · rw [if_pos eq] at hm
      by_cases h0 : 0 < rf
      · rw [if_pos h0] at hm; cases hm; exact ⟨hd, hs, by show 1 ≤ rf; omega, hr.2⟩
      · rw [if_neg h0] at hm; cases hm
    · rw [if_neg eq] at hm; exact h.ok q e hq hm
theorem EnV.congr {B' : BookS} (h : EnV fs B n M) (hv : ∀ i, fs ≤ i → i < fs + n → B'.view i = B.view i) : EnV fs B' n M :=
  ⟨fun p hp => by rw [hv _ (by omega) (by omega)]; exact h.pg p hp, h.ok⟩
theorem EnV.start (hz : ∀ i, fs ≤ i → i < fs + n → B.view i = zer 64) : EnV fs B n (fun _ => none) :=
  ⟨fun p hp => hz _ (by omega) (by omega), fun p e _ h => by cases h⟩
end
theorem ForI.congrV {rd rd' : Nat → List Int} {n : Nat} {M M' : Nat → Nat → Nat → Int} {r1 : Nat → Nat} {r2 : Nat → Nat → Nat} (h : ForI rd n (fun _ => False) M r1 r2) (he : ∀ p, p ≤ n → rd' p = rd p)
    (hM : ∀ l g b, l < 4 → g < 16 → b < 16 → M' l g b = M l g b) : ForI rd' n (fun _ => False) M' r1 r2 :=
  ⟨fun l hl => by rw [he 0 (Nat.zero_le _)]; exact h.root l hl, fun l g hl hg h1 => by rw [he _ (h.le1 l hl)]; exact h.mid l g hl hg h1, h.mid0,
   fun l g b hl hg hb h2 => by rw [he _ (h.le2 l g hl hg), hM l g b hl hg hb]; exact h.leaf l g b hl hg hb h2, fun l g b hl hg hb h2 => by rw [hM l g b hl hg hb]; exact h.leaf0 l g b hl hg hb h2,
   h.le1, h.le2, h.inj1, h.inj2, h.apart, fun p h1 h2 => by rw [he p h2]; exact h.used p h1 h2, fun p hp => hp.elim, fun p hp => by rw [he p hp]; exact h.ok p hp⟩
structure VolM (C : Cfg) (B : BookS) (st : Nat → Int) (blk : Nat → List Int) (E : Nat → Option En) (M : Nat → Nat → Nat → Int) (r1 : Nat → Nat) (r2 : Nat → Nat → Nat) : Prop where
  dep : DpI 5 B C.boxes st blk
  tab : EnV C.f2 B C.prints E
  rad : ForI (rdOf B C.f3) C.nodes (fun _ => False) M r1 r2
structure Cfg.fits (C : Cfg) (n : Nat) : Prop where
  ring : 96 ≤ C.ring ∧ C.ring ≤ 4096
  sec : 1 ≤ C.sec ∧ C.sec ≤ 4096
  boxes : 1 ≤ C.boxes ∧ C.boxes ≤ 64
  prints : 1 ≤ C.prints ∧ C.prints ≤ 2048
  nodes : 1 ≤ C.nodes ∧ C.nodes ≤ 2048
  luns : 1 ≤ C.luns.length ∧ C.luns.length ≤ 4
  size : ∀ n ∈ C.luns, 1 ≤ n ∧ n ≤ 256
  need : C.f3 + 1 + C.nodes ≤ n
section
variable {C : Cfg} {B B' : BookS} {st : Nat → Int} {blk : Nat → List Int} {E : Nat → Option En} {M : Nat → Nat → Nat → Int} {r1 : Nat → Nat} {r2 : Nat → Nat → Nat}
theorem VolM.congr (h : VolM C B st blk E M r1 r2) (hv : ∀ i, 5 ≤ i → i ≤ C.f3 + C.nodes → B'.view i = B.view i) : VolM C B' st blk E M r1 r2 :=
  ⟨h.dep.congr (fun i h1 h2 => hv i h1 (by unfold Cfg.f3 Cfg.f2; omega)), h.tab.congr (fun i h1 h2 => hv i (by unfold Cfg.f2 at h1; omega) (by unfold Cfg.f3; omega)), h.rad.congrV (fun p hp => hv _ (by unfold Cfg.f3 Cfg.f2; omega) (by omega)) (fun _ _ _ _ _ _ => rfl)⟩
theorem VolM.depot {st' : Nat → Int} {blk' : Nat → List Int} (h : VolM C B st blk E M r1 r2) (hd : DpI 5 B' C.boxes st' blk') (hv : ∀ i, C.f2 ≤ i → B'.view i = B.view i) : VolM C B' st' blk' E M r1 r2 :=
  ⟨hd, h.tab.congr (fun i h1 h2 => hv i h1), h.rad.congrV (fun p hp => hv _ (by unfold Cfg.f3; omega)) (fun _ _ _ _ _ _ => rfl)⟩
theorem VolM.table {E' : Nat → Option En} (h : VolM C B st blk E M r1 r2) (hd : EnV C.f2 B' C.prints E') (hv : ∀ i, i < C.f2 ∨ C.f3 ≤ i → B'.view i = B.view i) : VolM C B' st blk E' M r1 r2 :=
  ⟨h.dep.congr (fun i h1 h2 => hv i (.inl (by unfold Cfg.f2; omega))), hd, h.rad.congrV (fun p hp => hv _ (.inr (by omega))) (fun _ _ _ _ _ _ => rfl)⟩
theorem VolM.forest {M' : Nat → Nat → Nat → Int} {r1' : Nat → Nat} {r2' : Nat → Nat → Nat} (h : VolM C B st blk E M r1 r2) (hd : ForI (rdOf B' C.f3) C.nodes (fun _ => False) M' r1' r2') (hv : ∀ i, i < C.f3 → B'.view i = B.view i) : VolM C B' st blk E M' r1' r2' :=
  ⟨h.dep.congr (fun i h1 h2 => hv i (by unfold Cfg.f3 Cfg.f2; omega)), h.tab.congr (fun i h1 h2 => hv i (by unfold Cfg.f3; omega)), hd⟩
end
open Go.RowKit Go.Maps
def sizeF (C : Cfg) (lun : Int) : Nat := if 0 ≤ lun then C.luns.getD lun.toNat 0 else 0
theorem lunsV_ints (C : Cfg) : lunsV C = (C.luns.map fun n : Nat => (n : Int)).map (Value.int .i64) := by unfold lunsV; rw [List.map_map]; rfl
theorem vol_luns {w : World} {vb : Nat} {N : Nat → Prop} {C : Cfg} {lv : Value} {bb t1 t2 t3 : Nat} {B : BookS} (h : VolI w vb N C lv bb t1 t2 t3 B) : ∃ a cap, lv = .slice a C.luns.length cap ∧ ∀ i, i < C.luns.length → ∃ b off, a = some ⟨b, off, none⟩ ∧ w.cell? ⟨b, off + i, none⟩ = some (.int .i64 ((C.luns.getD i 0 : Nat) : Int)) := by
  have ho := h.luns
  obtain ⟨a, cap, rfl⟩ := Kz3 ho
  refine ⟨a, cap, rfl, fun i hi => ?_⟩
  rw [lunsV_ints] at ho
  have hI : Wzb w a (C.luns.map fun n : Nat => (n : Int)) := Wzb.of_own (cap := cap) (by rw [List.length_map]; exact ho)
  obtain ⟨b, off, h1, _, h2, _⟩ := hI i (by rw [List.length_map]; exact hi)
  rw [List.getElem_map] at h2
  refine ⟨b, off, h1, ?_⟩
  rw [h2]
  simp [List.getD, hi]
set_option maxRecDepth 100000 in
set_option maxHeartbeats 1000000 in
theorem size_any (vb : Nat) (N : Nat → Prop) (C : Cfg) (lv : Value) (bb t1 t2 t3 : Nat) (B : BookS) (hC : C.luns.length ≤ 4) (lun : Int) (w : World) (h : VolI w vb N C lv bb t1 t2 t3 B) :
    Calls Tryz.prog 126 #[ptrV vb, .int .i64 lun] w fun e w' => e = .returned (.int .i64 (sizeF C lun : Int)) ∧ w = w' := by
  obtain ⟨z5, z6, z7, z8, z9⟩ := h.cells
  obtain ⟨a, cap, rfl, hl⟩ := vol_luns h
  clear h
  unfold ptrV
  by_cases h0 : lun < 0
  · have hs : sizeF C lun = 0 := by unfold sizeF; rw [if_neg (by omega)]
    rw [hs]
    go_enter Tryz.func126, Tryz.ntmps126
    go_wp2_with fail
    go_ret
    exact ⟨rfl, rfl⟩
  · obtain ⟨i, rfl⟩ := Int.eq_ofNat_of_zero_le (show 0 ≤ lun by omega)
    have hs : sizeF C (i : Int) = C.luns.getD i 0 := by unfold sizeF; rw [if_pos (by omega), Int.toNat_natCast]
    rw [hs]
    by_cases h1 : i < C.luns.length
    · obtain ⟨b, off, rfl, c0⟩ := hl i h1
      have hi1 : ¬ ((i : Int) ≥ (C.luns.length : Int)) := by omega
      have hi2 : (i : Int) < (C.luns.length : Int) := by omega
      have hi0 : (0 : Int) ≤ i := by omega
      generalize C.luns.getD i 0 = s at c0
      generalize C.luns.length = m at *
      clear hl hs
      go_enter Tryz.func126, Tryz.ntmps126
      go_wp2_with fail
      go_ret
      exact ⟨rfl, rfl⟩
    · have hd : C.luns.getD i 0 = 0 := by simp [List.getD, List.getElem?_eq_none (show C.luns.length ≤ i by omega)]
      rw [hd]
      have hi1 : (i : Int) ≥ (C.luns.length : Int) := by omega
      generalize C.luns.length = m at *
      clear hl hs hd
      go_enter Tryz.func126, Tryz.ntmps126
      go_wp2_with fail
      go_ret
      exact ⟨rfl, rfl⟩
set_option maxRecDepth 100000 in
set_option maxHeartbeats 1000000 in
theorem span_ok (vb : Nat) (N : Nat → Prop) (C : Cfg) (lv : Value) (bb t1 t2 t3 : Nat) (B : BookS) (hC : C.luns.length ≤ 4) (lun lba n : Int) (h0 : 1 ≤ sizeF C lun ∧ sizeF C lun ≤ 256) (h1 : 0 ≤ n ∧ n ≤ 8) (h2 : 0 ≤ lba ∧ lba ≤ (sizeF C lun : Int) - n) (w : World) (h : VolI w vb N C lv bb t1 t2 t3 B) :
    Calls Tryz.prog 180 #[ptrV vb, .int .i64 lun, .int .i64 lba, .int .i64 n] w fun e w' => e = .returned .nilIface ∧ w = w' := by
  have hS := size_any vb N C lv bb t1 t2 t3 B hC lun w h
  clear h
  unfold ptrV at *
  generalize sizeF C lun = s at *
  obtain ⟨h01, h02⟩ := h0
  obtain ⟨h11, h12⟩ := h1
  obtain ⟨h21, h22⟩ := h2
  have e1 : ((s : Int) == 0) = false := by simp; omega
  have e2 : ¬ (n < 0) := by omega
  have e3 : ¬ (n > 8) := by omega
  have e4 : ¬ (lba < 0) := by omega
  have e5 : ¬ (lba > (s : Int) - n) := by omega
  go_enter Tryz.func180, Tryz.ntmps180
  go_wp2_with fail
  refine hS.mono ?_
  rintro e w2 ⟨rfl, rfl⟩
  try dsimp only
  go_wp2_with fail
  refine hS.mono ?_
  rintro e w2 ⟨rfl, rfl⟩
  try dsimp only
  go_wp2_with fail
  go_ret
  exact ⟨rfl, rfl⟩
open Go.RowKit Go.Maps
def cfgC (C : Cfg) (lv : Value) : Array Value := #[.int .i64 (C.sec : Int), .int .i64 (C.ring : Int), .int .i64 (C.boxes : Int), .int .i64 (C.prints : Int), .int .i64 (C.nodes : Int), lv]
theorem Zz8 {w : World} {b T : Nat} {C : Cfg} {lv : Value} (h : w.heap[b]? = some (.cells (cfgC C lv) T)) : w.cell? ⟨b, 0, none⟩ = some (.int .i64 (C.sec : Int)) ∧ w.cell? ⟨b, 1, none⟩ = some (.int .i64 (C.ring : Int)) ∧ w.cell? ⟨b, 2, none⟩ = some (.int .i64 (C.boxes : Int)) ∧ w.cell? ⟨b, 3, none⟩ = some (.int .i64 (C.prints : Int)) ∧ w.cell? ⟨b, 4, none⟩ = some (.int .i64 (C.nodes : Int)) ∧ w.cell? ⟨b, 5, none⟩ = some lv := by
  refine ⟨?_, ?_, ?_, ?_, ?_, ?_⟩ <;> (rw [cell_of_row w b _ _ _ (0, 0) h]; rfl)
theorem info_cfg : (Tryz.prog.info? 102).map (·.size) = some 6 := by kernel_rfl
def Cfg.need (C : Cfg) : Nat := C.f3 + 1 + C.nodes
set_option maxRecDepth 100000 in
set_option maxHeartbeats 2000000 in
theorem need_any (C : Cfg) (lv : Value) (hb : C.boxes ≤ 64) (hp : C.prints ≤ 2048) (hn : C.nodes ≤ 2048) (w : World) :
    Calls Tryz.prog 183 #[.agg (cfgC C lv)] w fun e w' => e = .returned (.int .i64 (C.need : Int)) ∧ Below w.heap.size w w' := by
  have hb0 : ∀ o : Obj, Below w.heap.size w (w.alloc o) := fun o => bZ
  have e : (C.need : Int) = 5 + (C.boxes : Int) * 5 + C.prints + 1 + C.nodes := by unfold Cfg.need Cfg.f3 Cfg.f2; push_cast; omega
  rw [e]
  clear e
  have h0 : (0 : Int) ≤ C.boxes := by omega
  have h1 : (C.boxes : Int) ≤ 64 := by omega
  have h2 : (0 : Int) ≤ C.prints := by omega
  have h3 : (C.prints : Int) ≤ 2048 := by omega
  have h4 : (0 : Int) ≤ C.nodes := by omega
  have h5 : (C.nodes : Int) ≤ 2048 := by omega
  have HPG := hZ (fun wx => Zzi (C.boxes : Int) ⟨h0, h1⟩ wx)
  go_enter Tryz.func183, Tryz.ntmps183
  go_upto_region 1 with fail
  refine Kz0 (fun wx => Hid (wx.heap[w.heap.size]? = some (.cells (cfgC C lv) 102) ∧ Below w.heap.size w wx)) (hZ ⟨heap_alloc_new w _, hb0 _⟩) ?_
  clear hb0
  intro w1 H1
  obtain ⟨z0, z1, z2, z3, z4, z5⟩ := Zz8 H1.out.1
  have q2 := cell_regrown z2
  have q3 := cell_regrown z3
  have q4 := cell_regrown z4
  have HQ := hZ (fun (d : Nat) (os : Array Obj) => Calls.regrown_of ((HPG.out (Go.Sort.grow (redrawn w1 d) os)).mono (fun e w' ⟨h1, h2⟩ => ⟨h1, by subst h2; exact Below.refl _ _⟩)))
  clear z0 z1 z2 z3 z4 z5
  go_wp2_with fail
  refine wp_region_quiet_below (by kernel_rfl) (by kernel_rfl) ?_
  repeat (go_big_quiet_step (exact HQ.out _ _))
  with_reducible refine wpQuiet_nil ?_
  intro wq hwq
  have hq := Qz1 hwq
  clear hwq
  go_wp2_with fail
  go_ret
  exact ⟨rfl, H1.out.2.trans (hq.mono H1.out.2.size)⟩
def LunsAt (w : World) (C : Cfg) (a : Option Addr) : Prop := ∀ i, i < C.luns.length → ∃ b off, a = some ⟨b, off, none⟩ ∧ b < w.heap.size ∧ w.cell? ⟨b, off + i, none⟩ = some (.int .i64 ((C.luns.getD i 0 : Nat) : Int))
theorem LunsAt.below {w w' : World} {C : Cfg} {a : Option Addr} (h : LunsAt w C a) (hb : Below w.heap.size w w') : LunsAt w' C a := fun i hi => by
  obtain ⟨b, off, h1, h2, h3⟩ := h i hi
  exact ⟨b, off, h1, Nat.lt_of_lt_of_le h2 hb.size, (hb.cell (p := ⟨b, off + i, none⟩) h2).trans h3⟩
set_option maxRecDepth 100000 in
set_option maxHeartbeats 4000000 in
theorem vright_ok (C : Cfg) (a : Option Addr) (cap : Nat) (hC : C.fits (min 2048 (C.sec - 2 - C.ring))) (w : World) (hl : LunsAt w C a) :
    Calls Tryz.prog 124 #[.agg (cfgC C (.slice a C.luns.length cap))] w fun e w' => e = .returned (.bool true) ∧ Below w.heap.size w w' := by
  have hb0 : ∀ o : Obj, Below w.heap.size w (w.alloc o) := fun o => bZ
  have HL := hZ hl
  have HN := hZ (fun wx => need_any C (.slice a C.luns.length cap) hC.boxes.2 hC.prints.2 hC.nodes.2 wx)
  have HSZ := hZ hC.size
  have hneed : C.need ≤ min 2048 (C.sec - 2 - C.ring) := hC.need
  have hneed0 : 1 ≤ C.need := by unfold Cfg.need; omega
  obtain ⟨a0, a1⟩ := hC.sec
  obtain ⟨b0, b1⟩ := hC.ring
  obtain ⟨c0, c1⟩ := hC.boxes
  obtain ⟨d0, d1⟩ := hC.prints
  obtain ⟨e0, e1⟩ := hC.nodes
  obtain ⟨g0, g1⟩ := hC.luns
  have f0 : ¬ ((C.sec : Int) < 1) := by omega
  have f1 : ¬ ((C.sec : Int) > 4096) := by omega
  have f2 : ¬ ((C.ring : Int) < 96) := by omega
  have f3 : ¬ ((C.ring : Int) > 4096) := by omega
  have f4 : ¬ ((C.boxes : Int) < 1) := by omega
  have f5 : ¬ ((C.boxes : Int) > 64) := by omega
  have f6 : ¬ ((C.prints : Int) < 1) := by omega
  have f7 : ¬ ((C.prints : Int) > 2048) := by omega
  have f8 : ¬ ((C.nodes : Int) < 1) := by omega
  have f9 : ¬ ((C.nodes : Int) > 2048) := by omega
  have g2 : ¬ ((C.luns.length : Int) < 1) := by omega
  have g3 : ¬ ((C.luns.length : Int) > 4) := by omega
  clear hl hC
  go_enter Tryz.func124, Tryz.ntmps124
  go_upto_region 1 with fail
  refine Kz0 (fun wx => Hid (wx.heap[w.heap.size]? = some (.cells (cfgC C (.slice a C.luns.length cap)) 102) ∧ Below w.heap.size w wx)) (hZ ⟨heap_alloc_new w _, hb0 _⟩) ?_
  clear hb0
  intro w1 H1
  obtain ⟨z0, z1, z2, z3, z4, z5⟩ := Zz8 H1.out.1
  go_wp2_with fail
  go_loopw [68] (fun iv wr => ∃ i : Nat, iv = .int .i64 (i : Int) ∧ i ≤ C.luns.length ∧ wr = w1) (fun iv _ => 5 - (intOf iv).toNat)
  case atStart => exact ⟨0, rfl, by omega, rfl⟩
  case round =>
    obtain ⟨i, rfl, hi, rfl⟩ := hrel
    have hi0 : (0 : Int) ≤ i := by omega
    by_cases hit : i < C.luns.length
    · have hi1 : (i : Int) < C.luns.length := by omega
      obtain ⟨b, off, rfl, hb, hcl⟩ := (HL.out.below H1.out.2) i hit
      have hs := HSZ.out (C.luns.getD i 0) (by simp [List.getD, hit])
      generalize C.luns.getD i 0 = s at hcl hs
      have s1 : ¬ ((s : Int) < 1) := by omega
      have s2 : ¬ ((s : Int) > 256) := by omega
      go_wp2_with fail
      exact ⟨⟨i + 1, by push_cast; rfl, by omega, trivial⟩, by simp [intOf]; omega⟩
    · have hi1 : ¬ ((i : Int) < C.luns.length) := by omega
      go_wp2_with fail
      have q0 := cell_regrown z0
      have q1 := cell_regrown z1
      have HQ := hZ (fun (d : Nat) (os : Array Obj) => Calls.regrown_of (HN.out (Go.Sort.grow (redrawn wr d) os)))
      have hm1 : (C.need : Int) ≤ 2048 := by omega
      have hm2 : (C.need : Int) ≤ (C.sec : Int) - 2 - C.ring := by omega
      clear z0 z1 z2 z3 z4 z5
      refine wp_region_quiet_below (by kernel_rfl) (by kernel_rfl) ?_
      repeat (go_big_quiet_step (exact HQ.out _ _))
      go_big_quiet_want
      refine Jz1 102 (.tmp 1) rfl w.heap.size 0 rfl [.int .i64 (C.sec : Int), .int .i64 (C.ring : Int), .int .i64 (C.boxes : Int), .int .i64 (C.prints : Int), .int .i64 (C.nodes : Int), .slice a C.luns.length cap] _ (fun wx hwx j v hv => by
        rw [cell_of_row wx w.heap.size (0 + j) _ _ (0, 0) (Wz4 H1.out.1 wx hwx)]
        simpa [cfgC] using hv) Tryz.underlying102 rfl info_cfg ?_
      simp only [Act.put, qs0, qs1, qs2]
      go_big_quiet_on
      repeat (go_big_quiet_step (exact HQ.out _ _))
      with_reducible refine wpQuiet_nil ?_
      intro wq hwq
      have hq := Qz1 hwq
      clear hwq
      go_wp2_with fail
      have hmm : (C.need : Int) ≤ min 2048 ((C.sec : Int) - 2 - C.ring) := by omega
      go_ret
      exact ⟨congrArg (fun b => Ending.returned (Value.bool b)) (decide_eq_true hmm), H1.out.2.trans (hq.mono H1.out.2.size)⟩
open Go.RowKit Go.Maps
def cfgN (C : Cfg) : List Nat := [C.ring, C.boxes, C.prints, C.nodes, C.luns.length] ++ C.luns
def sgB (l : List Nat) : List Int := l.flatMap fun n : Nat => ([(n : Int) % 256, (n : Int) / 256 % 256] : List Int)
def signF (C : Cfg) : List Int := 86 :: (shaF (sgB (cfgN C)) ++ zer 31)
theorem sgB_u8 (l : List Nat) : U8s (sgB l) := fun x hx => by
  unfold sgB at hx
  obtain ⟨n, _, hn⟩ := List.mem_flatMap.1 hx
  simp only [List.mem_cons, List.not_mem_nil, or_false] at hn
  rcases hn with rfl | rfl <;> exact ⟨Int.emod_nonneg _ (by decide), Int.emod_lt_of_pos _ (by decide)⟩
theorem signF_ok (C : Cfg) : PgOk (signF C) := by
  refine ⟨by unfold signF; rw [List.length_cons, List.length_append, Vz8]; rfl, fun x hx => ?_⟩
  unfold signF at hx
  rcases List.mem_cons.1 hx with rfl | hx
  · decide
  · rcases List.mem_append.1 hx with hx | hx
    · exact shaF_u8 _ (sgB_u8 _) x hx
    · exact zer_u8 31 x hx
theorem signF_tame (C : Cfg) : Tame (signF C) := .inl (by show (86 : Int) ≠ 84; decide)
theorem signF_nz (C : Cfg) : signF C ≠ zer 64 := fun h => by
  have h2 := congrArg (fun l : List Int => l.getD 0 0) h
  exact absurd h2 (by show (86 : Int) ≠ 0; decide)
theorem SrcIs.belowZ {w w' : World} {x : Value} {m size : Nat} {news : List Value} (h : SrcIs w x m size news) (hb : Below w.heap.size w w') : SrcIs w' x m size news := by
  rcases h with h | ⟨ad, c, h1, h2, h3, h4⟩
  · exact .inl h
  · exact .inr ⟨ad, c, h1, h2, fun j u hu => (hb.cell (World.block_lt_of_cell? w _ (h3 j u hu))).trans (h3 j u hu), h4⟩
theorem own_new (w : World) (l : List Value) (e base n : Nat) (hn : l.length = n) (hm : n ≤ 4096) (hb : base ≤ w.heap.size) : (w.alloc (.cells (.mk l) e)).ownsRow base e 1 (.slice (some ⟨w.heap.size, 0, none⟩) n n) n l :=
  ⟨by omega, .inr ⟨w.heap.size, n, .mk l, rfl, hb, heap_alloc_new w _, Nat.le_refl _, by unfold maxLen; omega, by subst hn; simp, by subst hn; simp⟩⟩
theorem fill5 (x0 x1 x2 x3 x4 : Value) (h0 : x0.cells = #[x0]) (h1 : x1.cells = #[x1]) (h2 : x2.cells = #[x2]) (h3 : x3.cells = #[x3]) (h4 : x4.cells = #[x4]) : Instr.fill (fun i => some (i * 1, 1)) ((Array.range (5 * 1)).map ((Value.int .i64 0).cells[· % (Value.int .i64 0).cells.size]!)) [(0, x0), (1, x1), (2, x2), (3, x3), (4, x4)] = some #[x0, x1, x2, x3, x4] := by
  simp only [Instr.fill, h0, h1, h2, h3, h4]
  kernel_rfl
def cfgI (C : Cfg) : List Int := (cfgN C).map fun n : Nat => (n : Int)
theorem cfgI_length (C : Cfg) : (cfgI C).length = (cfgN C).length := by unfold cfgI; rw [List.length_map]
theorem cfgI_vals (C : Cfg) : [Value.int .i64 (C.ring : Int), .int .i64 (C.boxes : Int), .int .i64 (C.prints : Int), .int .i64 (C.nodes : Int), .int .i64 (C.luns.length : Int)] ++ lunsV C = (cfgI C).map (Value.int .i64) := by
  unfold cfgI cfgN lunsV
  rw [List.map_append, List.map_append, List.map_map, List.map_map]
  rfl
def sgI (l : List Int) : List Int := l.flatMap fun n : Int => ([n % 256, n / 256 % 256] : List Int)
theorem sgI_length (l : List Int) : (sgI l).length = l.length * 2 := by
  unfold sgI
  induction l with
  | nil => rfl
  | cons a l ih => rw [List.flatMap_cons, List.length_append, ih]; simp; omega
theorem sgI_u8 (l : List Int) : U8s (sgI l) := fun x hx => by
  unfold sgI at hx
  obtain ⟨n, _, hn⟩ := List.mem_flatMap.1 hx
  simp only [List.mem_cons, List.not_mem_nil, or_false] at hn
  rcases hn with rfl | rfl <;> exact ⟨Int.emod_nonneg _ (by decide), Int.emod_lt_of_pos _ (by decide)⟩
theorem sgI_take (l : List Int) (i : Nat) (h : i < l.length) : sgI (l.take (i + 1)) = sgI (l.take i) ++ [l[i] % 256, l[i] / 256 % 256] := by
  unfold sgI
  rw [List.take_succ_eq_append_getElem h, List.flatMap_append]
  simp
theorem Wzb.grownO {w w' : World} {a : Option Addr} {ns : List Int} {base e s n : Nat} {v : Value} {xs : List Value} (h : Wzb w a ns) (hT : e ≠ 3) (ho : w.ownsRow base e s v n xs) (hg : w.grownBy w' v.ownBlock) : Wzb w' a ns := fun i hi =>
  let ⟨b, off, ha, hs, c1, cur, hc⟩ := h i hi
  have hk := hg.block b hs (fun e' => Vz5 hc ho (fun h => hT h.symm) e'.symm rfl)
  ⟨b, off, ha, Nat.lt_of_lt_of_le hs hg.size, (World.cell?_of_block hk).trans c1, cur, hk.trans hc⟩
theorem blk_grownO {w w' : World} {i T base e s n : Nat} {cs : Array Value} {v : Value} {xs : List Value} (hT : T ≠ e) (ho : w.ownsRow base e s v n xs) (hg : w.grownBy w' v.ownBlock) (hi : w.heap[i]? = some (.cells cs T)) : w'.heap[i]? = some (.cells cs T) :=
  (hg.block i (Zz0 hi) (fun e' => Vz5 hi ho hT e'.symm rfl)).trans hi
theorem fill2 (x0 x1 : Value) (h0 : x0.cells = #[x0]) (h1 : x1.cells = #[x1]) : Instr.fill (fun i => some (i * 1, 1)) ((Array.range (2 * 1)).map ((Value.int .u8 0).cells[· % (Value.int .u8 0).cells.size]!)) [(0, x0), (1, x1)] = some #[x0, x1] := by
  simp only [Instr.fill, h0, h1]
  kernel_rfl
set_option maxRecDepth 100000 in
set_option maxHeartbeats 4000000 in
theorem sign_any (C : Cfg) (a : Option Addr) (cap : Nat) (hr : C.ring ≤ 4096) (hb : C.boxes ≤ 64) (hp : C.prints ≤ 2048) (hn : C.nodes ≤ 2048) (hu : C.luns.length ≤ 4) (hl : ∀ n ∈ C.luns, n ≤ 256) (w : World) (hL : SrcIs w (.slice a C.luns.length cap) C.luns.length 1 (lunsV C)) :
    Calls Tryz.prog 125 #[.agg (cfgC C (.slice a C.luns.length cap))] w fun e w' => e = .returned (.agg (v8a (signF C))) ∧ Below w.heap.size w w' := by
  have HS := hZ hL
  have hb0 : ∀ o : Obj, Below w.heap.size w (w.alloc o) := fun o => bZ
  clear hL
  go_enter Tryz.func125, Tryz.ntmps125
  go_upto_region 2 with fail
  refine Kz0 (fun wx => Hid (wx.heap[w.heap.size]? = some (.cells (cfgC C (.slice a C.luns.length cap)) 102) ∧ wx.heap[w.heap.size + 1]? = some (.cells (v8a (zer 64)) 37) ∧ Below w.heap.size w wx)) (hZ ⟨(heap_alloc_old _ _ (by simp)).trans (heap_alloc_new w _), by
    have h := heap_alloc_new (w.alloc (.cells (cfgC C (.slice a C.luns.length cap)) 102)) (.cells (v8a (zer 64)) 37)
    rwa [World.size_alloc] at h, (hb0 _).alloc (by simp) _⟩) ?_
  clear hb0
  intro w1 H1
  obtain ⟨z0, z1, z2, z3, z4, z5⟩ := Zz8 H1.out.1
  obtain ⟨i1, hi1, hy0, hy1, hy2⟩ := info_parts info_int
  have HI := hZ (And.intro hi1 (And.intro hy0 (And.intro hy1 hy2)))
  obtain ⟨i0, hi0, hz0, hz1, hz2⟩ := info_parts info_u8
  have HI0 := hZ (And.intro hi0 (And.intro hz0 (And.intro hz1 hz2)))
  clear hi0 hz0 hz1 hz2
  clear hi1 hy0 hy1 hy2
  repeat ((fail_if_success (with_reducible refine Kz1 19 rfl ?_)); (first | go_values | go_skip | go_guarded | go_step | go_upon))
  refine wpList_buildSlice rfl 33 3 5 _ rfl #[.int .i64 (C.ring : Int), .int .i64 (C.boxes : Int), .int .i64 (C.prints : Int), .int .i64 (C.nodes : Int), .int .i64 (C.luns.length : Int)] i1 (.int .i64 0) Tryz.underlying33 HI.out.1 HI.out.2.1 (by rw [HI.out.2.2.1]; decide) (by rw [HI.out.2.2.1]; decide) ?fl ?_
  case fl =>
    simp only [HI.out.2.2.1, List.map_toArray, List.map_cons, List.map_nil]
    exact fill5 _ _ _ _ _ rfl rfl rfl rfl rfl
  clear z0 z1 z2 z3 z4
  simp only [Act.put, qs0, qs1, qs2]
  have hba : ∀ o : Obj, Below w.heap.size w1 (w1.alloc o) := fun o => (Below.refl _ _).alloc H1.out.2.2.size _
  refine Xz0 (fun wx => Hid (wx.ownsRow w.heap.size 3 1 (.slice (some ⟨w1.heap.size, 0, none⟩) 5 5) 5 [.int .i64 (C.ring : Int), .int .i64 (C.boxes : Int), .int .i64 (C.prints : Int), .int .i64 (C.nodes : Int), .int .i64 (C.luns.length : Int)] ∧ wx.heap[w.heap.size]? = some (.cells (cfgC C (.slice a C.luns.length cap)) 102) ∧ wx.heap[w.heap.size + 1]? = some (.cells (v8a (zer 64)) 37) ∧ Below w.heap.size w wx)) (hZ ⟨own_new w1 _ _ _ _ rfl (by decide) H1.out.2.2.size, (heap_alloc_old _ _ (Zz0 H1.out.1)).trans H1.out.1, (heap_alloc_old _ _ (Zz0 H1.out.2.1)).trans H1.out.2.1, H1.out.2.2.trans (hba _)⟩) ?_
  generalize w1.heap.size = b19
  clear hba H1 z5
  intro w1' H1
  obtain ⟨_, _, _, _, _, z5⟩ := Zz8 H1.out.2.1
  repeat ((fail_if_success (with_reducible refine Kz1 22 rfl ?_)); (first | go_values | go_skip | go_guarded | go_step | go_upon))
  refine Jz2 rfl (.tmp 19) (.tmp 21) 33 rfl w.heap.size 3 i1 (.int .i64 0) 1 8 Tryz.underlying33 HI.out.1 HI.out.2.1 HI.out.2.2.1 HI.out.2.2.2 rfl (by decide) (.slice (some ⟨b19, 0, none⟩) 5 5) 5 [.int .i64 (C.ring : Int), .int .i64 (C.boxes : Int), .int .i64 (C.prints : Int), .int .i64 (C.nodes : Int), .int .i64 (C.luns.length : Int)] rfl ?c0 (.slice a C.luns.length cap) C.luns.length (lunsV C) rfl ?c4 ?c1 ?c2 ?c3 ?_
  case c0 => exact H1.out.1
  case c4 => exact HS.out.belowZ H1.out.2.2.2
  case c1 => unfold maxLen; omega
  case c2 => omega
  case c3 => exact H1.out.2.2.2.size
  intro v2 w2 ho2 hg2
  obtain ⟨a2, c2, rfl⟩ := Kz3 ho2
  have hNl : (cfgN C).length = 5 + C.luns.length := by unfold cfgN; simp; omega
  have hbk := (H1.out.1.lt b19 rfl)
  have HB2 : Below w.heap.size w w2 := H1.out.2.2.2.grown hg2 H1.out.2.2.2.size (fun k hk => by simp only [Value.ownBlock, Option.map_some, Option.some.injEq] at hk; subst hk; exact hbk.1)
  have H2 : Hid (Wzb w2 a2 (cfgI C) ∧ w2.heap[w.heap.size + 1]? = some (.cells (v8a (zer 64)) 37) ∧ Below w.heap.size w w2) := hZ ⟨Wzb.of_own (base := w.heap.size) (cap := c2) (by rw [cfgI_length, hNl, ← cfgI_vals]; exact ho2), (hg2.block _ (Zz0 H1.out.2.2.1) (by intro e; simp only [Value.ownBlock, Option.map_some, Option.some.injEq] at e; subst e; exact Vz5 H1.out.2.2.1 H1.out.1 (by decide) rfl rfl)).trans H1.out.2.2.1, HB2⟩
  clear ho2 hg2 HB2 z5 H1 HS hbk
  simp only [Act.put, qs0, qs1, qs2]
  generalize hN : C.luns.length = N at hNl hu ⊢
  have hN5 : (5 : Nat) + N ≤ 9 := by omega
  have HIL : Hid ((cfgI C).length = 5 + N) := hZ (by rw [cfgI_length, hNl])
  have HIR : Hid (∀ x ∈ cfgI C, 0 ≤ x ∧ x ≤ 4096) := hZ (by
    intro x hx
    unfold cfgI cfgN at hx
    rw [List.map_append, List.mem_append] at hx
    rcases hx with hx | hx
    · simp only [List.map_cons, List.map_nil, List.mem_cons, List.not_mem_nil, or_false] at hx
      omega
    · obtain ⟨n, hn, rfl⟩ := List.mem_map.1 hx
      have := hl n hn
      omega)
  have HSG : Hid (sgB (cfgN C) = sgI (cfgI C)) := hZ (by unfold sgB sgI cfgI; rw [List.flatMap_map])
  have HSF : Hid (signF C = 86 :: (shaF (sgI (cfgI C)) ++ zer 31)) := hZ (by unfold signF; rw [HSG.out])
  generalize cfgI C = L at H2 HIL HIR HSF
  obtain ⟨sg, hsge⟩ : ∃ sg, signF C = sg := ⟨_, rfl⟩
  rw [hsge] at HSF
  have HSE := hZ hsge
  clear hsge
  clear HSG hl hr hb hp hn hNl hN
  go_wp2_with fail
  go_loopw [3, 24] (fun dv iv wr => ∃ (i : Nat) (a : Option Addr) (c : Nat), iv = .int .i64 (i : Int) ∧ i ≤ 5 + N ∧ dv = .slice a (i * 2) c ∧ Hid (wr.ownsRow w.heap.size 5 1 (.slice a (i * 2) c) (i * 2) (v8 (sgI (L.take i))) ∧ Wzb wr a2 L ∧ wr.heap[w.heap.size + 1]? = some (.cells (v8a (zer 64)) 37) ∧ Below w.heap.size w wr)) (fun _ iv _ => 10 - (intOf iv).toNat)
  case atStart => exact ⟨0, none, 0, rfl, by omega, rfl, hZ ⟨World.ownsRow_nil _ _ _ _, H2.out.1, H2.out.2.1, H2.out.2.2⟩⟩
  case round =>
    clear H2
    obtain ⟨i, a3, c3, rfl, hi, rfl, H⟩ := hrel
    by_cases hlt : i < 5 + N
    · have hi0 : (0 : Int) ≤ i := by omega
      have hi1 : (i : Int) < ((5 + N : Nat) : Int) := by omega
      have hLi : i < L.length := by rw [HIL.out]; exact hlt
      have HX := hZ (HIR.out L[i] (List.getElem_mem hLi))
      have HTK := hZ (sgI_take L i hLi)
      obtain ⟨bi, off, hai, _, hci, _⟩ := H.out.2.1 i hLi
      generalize L[i] = x at hci HX HTK
      subst hai
      repeat ((fail_if_success (with_reducible refine Kz1 34 rfl ?_)); (first | go_values | go_skip | go_guarded | go_step | go_upon))
      refine wpList_buildSlice rfl 118 5 2 _ rfl #[.int .u8 (x % 256), .int .u8 (x / 256 % 256)] i0 (.int .u8 0) Tryz.underlying118 HI0.out.1 HI0.out.2.1 (by rw [HI0.out.2.2.1]; decide) (by rw [HI0.out.2.2.1]; decide) ?fl ?_
      case fl =>
        simp only [HI0.out.2.2.1, List.map_toArray, List.map_cons, List.map_nil]
        exact fill2 _ _ rfl rfl
      simp only [Act.put, qs0, qs1, qs2]
      repeat ((fail_if_success (with_reducible refine Kz1 35 rfl ?_)); (first | go_values | go_skip | go_guarded | go_step | go_upon))
      refine Jz2 rfl (.tmp 28) (.tmp 34) 118 rfl w.heap.size 5 i0 (.int .u8 0) 1 1 Tryz.underlying118 HI0.out.1 HI0.out.2.1 HI0.out.2.2.1 HI0.out.2.2.2 rfl (by decide) (.slice a3 (i * 2) c3) (i * 2) (v8 (sgI (L.take i))) rfl ?c0 (.slice (some ⟨wr.heap.size, 0, none⟩) 2 2) 2 (v8 [x % 256, x / 256 % 256]) rfl ?c4 ?c1 ?c2 ?c3 ?_
      case c0 => exact Vz4 H.out.1 (bZ)
      case c4 => exact own_src8 (l := [x % 256, x / 256 % 256]) (own_new wr [.int .u8 (x % 256), .int .u8 (x / 256 % 256)] 5 0 2 rfl (by decide) (Nat.zero_le _))
      case c1 => unfold maxLen; omega
      case c2 => omega
      case c3 => have := H.out.2.2.2.size; simp; omega
      intro v4 w4 ho4 hg4
      obtain ⟨a4, c4, rfl⟩ := Kz3 ho4
      have hb4 : Below wr.heap.size wr (wr.alloc (.cells #[.int .u8 (x % 256), .int .u8 (x / 256 % 256)] 5)) := bZ
      have hbb : Below w.heap.size w w4 := (H.out.2.2.2.trans (hb4.mono H.out.2.2.2.size)).grown hg4 (by have := H.out.2.2.2.size; simp; omega) (fun q hq => (H.out.1.lt q hq).1)
      have ho0 := Vz4 H.out.1 hb4
      have H4 : Hid (w4.ownsRow w.heap.size 5 1 (.slice a4 ((i + 1) * 2) c4) ((i + 1) * 2) (v8 (sgI (L.take (i + 1)))) ∧ Wzb w4 (some ⟨bi, off, none⟩) L ∧ w4.heap[w.heap.size + 1]? = some (.cells (v8a (zer 64)) 37) ∧ Below w.heap.size w w4) := hZ ⟨by rw [HTK.out, v8_append, show (i + 1) * 2 = i * 2 + 2 by omega]; exact ho4, (H.out.2.1.below hb4).grownO (by decide) ho0 hg4, blk_grownO (by decide) ho0 hg4 ((hb4.block _ (Zz0 H.out.2.2.1)).trans H.out.2.2.1), hbb⟩
      clear ho4 hg4 ho0 hb4 hbb H hci
      simp only [Act.put, qs0, qs1, qs2]
      go_wp2_with fail
      exact ⟨⟨i + 1, a4, c4, by push_cast; rfl, by omega, by rw [show (i + 1) * 2 = i * 2 + 2 by omega], H4⟩, by simp [intOf]; omega⟩
    · obtain rfl : i = 5 + N := by omega
      have HLT : Hid (L.take (5 + N) = L) := hZ (List.take_of_length_le (by rw [HIL.out]; exact Nat.le_refl _))
      have HSL : Hid ((sgI L).length = (5 + N) * 2) := hZ (by rw [sgI_length, HIL.out])
      have HOW : Hid (wr.ownsRow w.heap.size 5 1 (.slice a3 (sgI L).length c3) (sgI L).length (v8 (sgI L))) := hZ (by have h := H.out.1; rw [HLT.out] at h; rw [HSL.out]; exact h)
      have H5 : Hid (wr.heap[w.heap.size + 1]? = some (.cells (v8a (zer 64)) 37) ∧ Below w.heap.size w wr) := hZ H.out.2.2
      have HSH := hZ (shaSum_any a3 (sgI L) c3 wr (ByIn.of_own HOW.out) (by rw [HSL.out]; omega) (sgI_u8 _) (fun e => by
        have h := HOW.out
        rcases h.2 with ⟨hv, _⟩ | ⟨g, c, cur, hv, _⟩
        · simp only [Value.slice.injEq] at hv; exact hv.2.2
        · rw [e] at hv; simp at hv))
      rw [HSL.out] at HSH
      clear H HOW HLT
      go_wp2_with fail
      refine HSH.out.mono ?_
      clear HSH
      rintro e w6 ⟨rfl, hb6⟩
      have H6 : Hid (w6.heap[w.heap.size + 1]? = some (.cells (v8a (zer 64)) 37) ∧ Below w.heap.size w w6) := hZ ⟨(hb6.block _ (Zz0 H5.out.1)).trans H5.out.1, H5.out.2.trans (hb6.mono H5.out.2.size)⟩
      clear hb6 H5
      have hsm := Vz8 (sgI L)
      have HS8 := hZ (shaF_u8 (sgI L) (sgI_u8 _))
      generalize shaF (sgI L) = sm at hsm HSF HS8 ⊢
      try dsimp only
      go_upto_region 8 with (refine dg_store rfl (.tmp 6) (.tmp 38) rfl w6.heap.size sm (zer 32) rfl rfl (heap_alloc_new w6 _) hsm rfl ?_)
      have hbx : ∀ o : Obj, Below w6.heap.size w6 ((w6.alloc o).setRow w6.heap.size (v8a sm)) := fun o => below_setRow (bZ) (Nat.le_refl _) _
      refine Kz0 (fun wx => Hid (wx.heap[w6.heap.size]? = some (.cells (v8a sm) 67) ∧ w.heap.size + 1 < w6.heap.size ∧ wx.heap[w.heap.size + 1]? = some (.cells (v8a (zer 64)) 37) ∧ Below w.heap.size w wx)) (hZ ⟨setRow_heap _ _ _ _ _ (0, 0) (heap_alloc_new w6 _), Zz0 H6.out.1, ((hbx _).block _ (Zz0 H6.out.1)).trans H6.out.1, H6.out.2.trans ((hbx _).mono H6.out.2.size)⟩) ?_
      clear hbx H6
      generalize w6.heap.size = sb
      intro w7 H7
      go_upto_region 10 with fail
      have hb7 : ∀ o : Obj, Below w7.heap.size w7 (w7.alloc o) := fun o => bZ
      refine Kz0 (fun wx => Hid (wx.heap[w7.heap.size]? = some (.cells (v8a (86 :: zer 63)) 37) ∧ wx.heap[sb]? = some (.cells (v8a sm) 67) ∧ w.heap.size + 1 < w7.heap.size ∧ wx.heap[w.heap.size + 1]? = some (.cells (v8a (zer 64)) 37) ∧ Below w.heap.size w wx)) (hZ ⟨?_, ((hb7 _).block _ (Zz0 H7.out.1)).trans H7.out.1, Zz0 H7.out.2.2.1, ((hb7 _).block _ (Zz0 H7.out.2.2.1)).trans H7.out.2.2.1, H7.out.2.2.2.trans ((hb7 _).mono H7.out.2.2.2.size)⟩) ?_
      · rw [heap_alloc_new]
        rfl
      clear hb7 H7
      generalize w7.heap.size = hb
      intro w8 H8
      refine Zz3 2 (fun w' => ∃ p : Regrown, w' = Go.Sort.grow (redrawn w8 p.d) p.os) (by kernel_rfl) (by kernel_rfl) (fun _ _ d _ _ h => by cases d <;> exact h) (Vz2 _) ?_
      simp only [List.take_succ_cons, List.take_zero]
      repeat (go_big_quiet_step (fail))
      with_reducible refine wpQuiet_nil ?_
      with_reducible refine mix_a ?_; simp only [qd1, qd0, qt1, qt0]
      have hl8 : (v8 sm).length = 32 := by rw [Wz0, hsm]
      refine wpList_copy_own rfl (.tmp 40) (.tmp 41) 118 118 rfl 5 Tryz.underlying118 (by kernel_rfl) hb 1 63 63 ⟨sb, 0, none⟩ 32 32 rfl rfl (v8a (86 :: zer 63)) 37 (show w8.drew.heap[hb]? = _ from H8.out.1) (v8 sm) hl8 (fun j v hj => v8_from (w := w8.drew) H8.out.2.1 j v 32 (by rw [List.take_of_length_le (by omega)]; exact hj)) ?k2 (Kz7 _) ?_
      case k2 => unfold v8a; rw [hl8, List.size_toArray, Wz0]; decide
      rw [set_row_v8]
      have hfin : ((86 :: zer 63 : List Int).take 1 ++ (sm ++ (86 :: zer 63 : List Int).drop (1 + sm.length))) = sg := by
        rw [HSF.out, hsm]
        rfl
      rw [hfin]
      have hsg : sg.length = 64 := by rw [HSF.out]; simp [hsm, zer]
      refine Xz0 (fun wx => Hid (wx.heap[hb]? = some (.cells (v8a sg) 37) ∧ wx.heap[w.heap.size + 1]? = some (.cells (v8a (zer 64)) 37) ∧ Below w.heap.size w wx)) (hZ ⟨setRow_heap _ _ _ _ _ (0, 0) (show w8.drew.heap[hb]? = _ from H8.out.1), ?_, ?_⟩) ?_
      · exact (setRow_other _ _ _ _ (by have := H8.out.2.2.1; omega)).trans H8.out.2.2.2.1
      · exact below_setRow H8.out.2.2.2.2.drew (by have := H8.out.2.2.1; omega) _
      clear H8
      intro w9 H9
      simp only [Act.put, qs0, qs1, qs2]
      with_reducible refine wpList_nil ?_
      refine Qz0 ⟨fun h => absurd h (by simp), Wz1 ?_⟩
      go_wp2_with (first | (refine Wz3 rfl (.tmp 7) rfl hb sg rfl H9.out.1 hsg ?_) | (refine Wz2 rfl (.tmp 2) (.tmp 43) rfl (w.heap.size + 1) sg (zer 64) rfl rfl H9.out.2.1 hsg rfl ?_))
      refine bodyPost_ret (results_cell_one Tryz.results125 _ _ (w.heap.size + 1) 37 (v8a sg) (0, 0) _ rfl (setRow_heap _ _ _ _ _ (0, 0) H9.out.2.1) Tryz.underlying37 rfl (by rw [show (v8a sg).size = 64 by rw [v8a, List.size_toArray, Wz0, hsg]]; exact Zz5)) rfl ⟨by rw [HSE.out], below_setRow H9.out.2.2 (by omega) _⟩
open Go.RowKit Go.Maps
structure VolS (vb : Nat) (N : Nat → Prop) (C : Cfg) (lv : Value) (bb t1 t2 t3 : Nat) (B : BookS) (st : Nat → Int) (blk : Nat → List Int) (E : Nat → Option En) (M : Nat → Nat → Nat → Int) (r1 : Nat → Nat) (r2 : Nat → Nat → Nat) (w : World) : Prop where
  vol : VolI w vb N C lv bb t1 t2 t3 B
  mod : VolM C B st blk E M r1 r2
  fit : C.fits B.n
section
variable {vb : Nat} {N : Nat → Prop} {C : Cfg} {lv : Value} {bb t1 t2 t3 : Nat} {B : BookS} {st : Nat → Int} {blk : Nat → List Int} {E : Nat → Option En} {M : Nat → Nat → Nat → Int} {r1 : Nat → Nat} {r2 : Nat → Nat → Nat} {w w' : World}
theorem VolS.below (h : VolS vb N C lv bb t1 t2 t3 B st blk E M r1 r2 w) (hb : Below w.heap.size w w') : VolS vb N C lv bb t1 t2 t3 B st blk E M r1 r2 w' := ⟨h.vol.below hb, h.mod, h.fit⟩
theorem VolS.htab (h : VolS vb N C lv bb t1 t2 t3 B st blk E M r1 r2 w) : TabI w t2 (NX N vb t1 t2 t3 lv t2) bb C.f2 C.prints B :=
  h.vol.htab h.fit.prints.1 (by have := h.fit.need; omega)
theorem v_get (h : VolS vb N C lv bb t1 t2 t3 B st blk E M r1 r2 w) {p : Nat} (hp : p < C.prints) {e : En} (hE : E p = some e) :
    Calls Tryz.prog 86 #[ptrV t2, .int .i64 (p : Int)] w fun e' w' => e' = .returned (.tuple #[.agg (entC e.1 e.2.1 e.2.2), .nilIface]) ∧ Below w.heap.size w w' := by
  refine (get_any t2 _ bb C.f2 C.prints B p hp w h.htab).mono ?_
  rintro e' w' ⟨hG, hb⟩
  unfold GetP at hG
  rw [h.mod.tab.ent p hp, hE] at hG
  obtain ⟨q1, q2, q3⟩ := h.mod.tab.parts hp hE
  rw [← q1, ← q2, ← q3]
  exact ⟨hG, hb⟩
theorem v_find (h : VolS vb N C lv bb t1 t2 t3 B st blk E M r1 r2 w) (d : List Int) (hd : d.length = 32 ∧ U8s d) :
    Calls Tryz.prog 85 #[ptrV t2, .agg (v8a d)] w fun e w' => ((∃ p e', p < C.prints ∧ E p = some e' ∧ e'.1 = d ∧ e'.2.2 < 15 ∧ e = .returned (.tuple #[.int .i64 ((p : Nat) : Int), .bool true, .nilIface])) ∨ ((∀ p e', p < C.prints → E p = some e' → ¬ (e'.1 = d ∧ e'.2.2 < 15)) ∧ e = .returned (.tuple #[.int .i64 0, .bool false, .nilIface]))) ∧ Below w.heap.size w w' := by
  refine (find_any t2 _ bb C.f2 C.prints B d hd w h.htab).mono ?_
  rintro e w' ⟨rfl, hb⟩
  refine ⟨?_, hb⟩
  cases hs : seekO (dgN d) C.prints (findQ B C.f2 d) with
  | some p =>
    obtain ⟨hp, hq⟩ := seekO_spec hs
    rw [h.mod.tab.find d p hp] at hq
    left
    unfold fQ at hq
    cases hm : E p with
    | none => rw [hm] at hq; cases hq
    | some e' =>
      rw [hm] at hq
      simp only [Bool.and_eq_true, decide_eq_true_eq] at hq
      exact ⟨p, e', hp, hm, hq.1, hq.2, rfl⟩
  | none =>
    right
    refine ⟨fun p e' hp hm hq => ?_, rfl⟩
    have := seekO_no hs p hp
    rw [h.mod.tab.find d p hp] at this
    unfold fQ at this
    rw [hm] at this
    simp [hq.1, hq.2] at this
theorem v_free (h : VolS vb N C lv bb t1 t2 t3 B st blk E M r1 r2 w) (d : List Int) (hd : d.length = 32 ∧ U8s d) (hr : ∃ p, p < C.prints ∧ E p = none) :
    Calls Tryz.prog 84 #[ptrV t2, .agg (v8a d)] w fun e w' => (∃ p : Nat, p < C.prints ∧ E p = none ∧ e = .returned (.tuple #[.int .i64 (p : Int), .nilIface])) ∧ Below w.heap.size w w' := by
  refine (free_any t2 _ bb C.f2 C.prints B d hd w h.htab).mono ?_
  rintro e w' ⟨hF, hb⟩
  refine ⟨?_, hb⟩
  cases hs : seekO (dgN d) C.prints (freeQ B C.f2) with
  | some p =>
    rw [hs] at hF
    obtain ⟨hp, hq⟩ := seekO_spec hs
    rw [h.mod.tab.free p hp] at hq
    refine ⟨p, hp, ?_, hF⟩
    cases hm : E p with
    | none => rfl
    | some e => rw [hm] at hq; cases hq
  | none =>
    obtain ⟨p, hp, hm⟩ := hr
    have := seekO_no hs p hp
    rw [h.mod.tab.free p hp, hm] at this
    cases this
theorem v_all (h : VolS vb N C lv bb t1 t2 t3 B st blk E M r1 r2 w) :
    Calls Tryz.prog 89 #[ptrV t2] w fun e w' => (∃ a c, e = .returned (.tuple #[.slice a (cntM E C.prints) c, .nilIface])) ∧ Below w.heap.size w w' := by
  refine (all_any t2 _ bb C.f2 C.prints B w h.htab).mono ?_
  rintro e w' ⟨⟨a, c, rfl, _⟩, hb⟩
  rw [h.mod.tab.ents]
  exact ⟨⟨a, c, rfl⟩, hb⟩
theorem v_tset (h : VolS vb N C lv bb t1 t2 t3 B st blk E M r1 r2 w) (hc : B.cnt ≤ 50) {p : Nat} (hp : p < C.prints) {dg : List Int} {sl rf : Int} (hd : dg.length = 32 ∧ U8s dg) (hs : 0 ≤ sl ∧ sl < 256) (hr : 0 ≤ rf ∧ rf ≤ 15) :
    Calls Tryz.prog 34 #[ptrV t2, .int .i64 (p : Int), .agg (entC dg sl rf)] w fun e w' => e = .returned .nilIface ∧ (∃ B', VolS vb N C lv bb t1 t2 t3 B' st blk (setM E p (if 0 < rf then some (dg, sl, rf) else none)) M r1 r2 w' ∧ B'.cnt ≤ B.cnt + 1 ∧ B'.shut = B.shut ∧ B'.n = B.n) ∧ Keeps N w w' := by
  have hneed := h.fit.need
  have hf3 : C.f3 = C.f2 + C.prints := rfl
  refine (set_any t2 _ bb C.f2 C.prints B p hp dg sl rf hd hs hr (wrOk_le hc (by decide) _ _) w h.htab).mono ?_
  rintro e w' ⟨rfl, hT, hk⟩
  obtain ⟨hv, hkN⟩ := h.vol.held (.inr (.inl rfl)) h.vol.tab ⟨hT.1, hT.2.1, hT.2.2.1⟩ hk
  refine ⟨rfl, ⟨_, ⟨hv, h.mod.table (h.mod.tab.set hp hd hs hr) (fun i hi => by rw [BookS.wrote_view, if_neg (by omega)]), by rw [BookS.wrote_n]; exact h.fit⟩, BookS.wrote_cnt _ _ _ (by omega), BookS.wrote_shut _ _ _, BookS.wrote_n _ _ _⟩, hkN⟩
theorem v_dget (h : VolS vb N C lv bb t1 t2 t3 B st blk E M r1 r2 w) {s : Nat} (hs : s < C.boxes * 4) (hl : st s = 1) :
    Calls Tryz.prog 102 #[ptrV t1, .int .i64 (s : Int)] w fun e w' => e = .returned (.tuple #[.agg (v8a (blk s)), .nilIface]) ∧ Below w.heap.size w w' := by
  have hneed := h.fit.need
  exact hd_get (by unfold Cfg.f3 Cfg.f2 at hneed; omega) hs hl h.vol.hdep h.mod.dep
theorem v_dcount (h : VolS vb N C lv bb t1 t2 t3 B st blk E M r1 r2 w) :
    Calls Tryz.prog 103 #[ptrV t1] w fun e w' => e = .returned (.tuple #[.int .i64 (cntS st 1 (C.boxes * 4) : Nat), .int .i64 (cntS st 2 (C.boxes * 4) : Nat), .int .i64 (cntS st 0 (C.boxes * 4) : Nat), .nilIface]) ∧ Below w.heap.size w w' := by
  have hneed := h.fit.need
  exact hd_count (by unfold Cfg.f3 Cfg.f2 at hneed; omega) h.vol.hdep h.mod.dep
theorem v_dput (h : VolS vb N C lv bb t1 t2 t3 B st blk E M r1 r2 w) (hc : B.cnt ≤ 50) (p : List Int) (hp : PgOk p) (hfree : ∃ s, s < C.boxes * 4 ∧ st s = 0) :
    Calls Tryz.prog 46 #[ptrV t1, .agg (v8a p)] w fun e w' => (∃ s : Nat, e = .returned (.tuple #[.int .i64 (s : Int), .nilIface]) ∧ s < C.boxes * 4 ∧ st s = 0 ∧ ∃ B', VolS vb N C lv bb t1 t2 t3 B' (fun t => if t = s then 1 else st t) (fun t => if t = s then p else blk t) E M r1 r2 w' ∧ B'.cnt ≤ B.cnt + 2 ∧ B'.shut = B.shut ∧ B'.n = B.n) ∧ Keeps N w w' := by
  have hneed := h.fit.need
  have hf : C.f3 = 5 + C.boxes * 5 + C.prints := rfl
  refine (hd_put (by omega) hc p hp hfree h.vol.hdep h.mod.dep).mono ?_
  rintro e w' ⟨⟨s, rfl, hm, hH, hD⟩, hk⟩
  obtain ⟨hv, hkN⟩ := h.vol.held (.inl rfl) h.vol.dep hH hk
  have hs := hm.1
  refine ⟨⟨s, rfl, hs, hm.2.1, _, ⟨hv, h.mod.depot hD (fun i hi => ?_), by rw [putB_n]; exact h.fit⟩, putB_cnt (by omega) p, putB_shut _ _ _ _, putB_n _ _ _⟩, hkN⟩
  have hi' : 5 + C.boxes * 5 ≤ i := hi
  unfold putB
  rw [BookS.wrote_view, if_neg (by omega), BookS.wrote_view, if_neg (by omega)]
theorem v_rget (h : VolS vb N C lv bb t1 t2 t3 B st blk E M r1 r2 w) {l block : Nat} (hl : l < 4) (hb : block < 256) :
    Calls Tryz.prog 92 #[ptrV t3, .int .i64 (l : Int), .int .i64 (block : Int)] w fun e w' => e = .returned (.tuple #[.int .i64 (M l (block / 16) (block % 16)), .nilIface]) ∧ Below w.heap.size w w' :=
  rget_for h.mod.rad t3 _ bb (by have := h.fit.need; omega) hl hb w h.vol.hrad
theorem v_nodes (h : VolS vb N C lv bb t1 t2 t3 B st blk E M r1 r2 w) :
    Calls Tryz.prog 93 #[ptrV t3] w fun e w' => (∃ k : Nat, e = .returned (.tuple #[.int .i64 (k : Int), .nilIface]) ∧ k ≤ C.nodes) ∧ Below w.heap.size w w' := by
  refine (rnodes_any t3 _ bb C.f3 C.nodes B (by have := h.fit.need; omega) w h.vol.hrad).mono ?_
  rintro e w' ⟨rfl, hb⟩
  exact ⟨⟨_, rfl, nodesF_le _ _ _⟩, hb⟩
theorem v_rset (h : VolS vb N C lv bb t1 t2 t3 B st blk E M r1 r2 w) (hc : B.cnt ≤ 50) {l block : Nat} (hl : l < 4) (hb : block < 256) (x : Int) (hx : 1 ≤ x ∧ x < 16777216)
    (hroom : lkF r1 r2 + (if r1 l = 0 then 1 else 0) + (if r2 l (block / 16) = 0 then 1 else 0) ≤ C.nodes) :
    Calls Tryz.prog 40 #[ptrV t3, .int .i64 (l : Int), .int .i64 (block : Int), .int .i64 x] w fun e w' => e = .returned .nilIface ∧ (∃ B' r1' r2', VolS vb N C lv bb t1 t2 t3 B' st blk E (layM M l (block / 16) (block % 16) x) r1' r2' w' ∧ B'.cnt ≤ B.cnt + 3 ∧ B'.shut = B.shut ∧ B'.n = B.n) ∧ Keeps N w w' := by
  have hneed := h.fit.need
  have hnd := h.fit.nodes
  refine (rset_fits h.mod.rad t3 _ bb (by omega) (by omega) hc hl hb x hx hroom w h.vol.hrad).mono ?_
  rintro e w' ⟨rfl, ⟨B', r1', r2', hH, s1, s2, s3, s4, s5⟩, hk⟩
  obtain ⟨hv, hkN⟩ := h.vol.held (.inr (.inr rfl)) h.vol.rad hH hk
  exact ⟨rfl, ⟨B', r1', r2', ⟨hv, h.mod.forest s4 s5, by rw [s1]; exact h.fit⟩, s2, s3, s1⟩, hkN⟩
end
end Go.Proofs.YtajmcplanlibnaaGreatDoor
