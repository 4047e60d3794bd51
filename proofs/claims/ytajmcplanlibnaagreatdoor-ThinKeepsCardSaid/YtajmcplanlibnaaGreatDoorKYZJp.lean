/- The nodes that a forest's numbers take; what counts a slot, an entry. No program is named. -/
import Derived.Test.YtajmcplanlibnaaGreatDoorKYG1
import Derived.Test.YtajmcplanlibnaaGreatDoorKYUg
import Derived.Test.YtajmcplanlibnaaGreatDoorKYM20
import Derived.Test.YtajmcplanlibnaaGreatDoorKYZ3
import Derived.Defers
import Derived.Test.YtajmcplanlibnaaGreatDoorKYZD
set_option linter.unusedSimpArgs false
set_option linter.unusedVariables false
set_option linter.unnecessarySimpa false
namespace Go.Proofs.YtajmcplanlibnaaGreatDoor
open Go.RowKit Go.Maps
def has2 (M : Nat → Nat → Nat → Int) (l g : Nat) : Bool := (List.range 16).any fun b => decide (M l g b ≠ 0)
def has1 (M : Nat → Nat → Nat → Int) (l : Nat) : Bool := (List.range 16).any fun g => has2 M l g
theorem has2_iff (M : Nat → Nat → Nat → Int) (l g : Nat) : has2 M l g = true ↔ ∃ b, b < 16 ∧ M l g b ≠ 0 := by
  unfold has2
  rw [List.any_eq_true]
  constructor
  · rintro ⟨b, hb, h⟩; exact ⟨b, List.mem_range.1 hb, of_decide_eq_true h⟩
  · rintro ⟨b, hb, h⟩; exact ⟨b, List.mem_range.2 hb, decide_eq_true h⟩
theorem has1_iff (M : Nat → Nat → Nat → Int) (l : Nat) : has1 M l = true ↔ ∃ g, g < 16 ∧ ∃ b, b < 16 ∧ M l g b ≠ 0 := by
  unfold has1
  rw [List.any_eq_true]
  constructor
  · rintro ⟨g, hg, h⟩; exact ⟨g, List.mem_range.1 hg, (has2_iff M l g).1 h⟩
  · rintro ⟨g, hg, h⟩; exact ⟨g, List.mem_range.2 hg, (has2_iff M l g).2 h⟩
def cnt1 (M : Nat → Nat → Nat → Int) : Nat := ((List.range 4).filter (has1 M)).length
def cnt2 (M : Nat → Nat → Nat → Int) : Nat := ((List.range 64).filter fun i => has2 M (i / 16) (i % 16)).length
def needN (M : Nat → Nat → Nat → Int) : Nat := cnt1 M + cnt2 M
def moreN (M : Nat → Nat → Nat → Int) (l g : Nat) : Nat := (if has1 M l = true then 0 else 1) + (if has2 M l g = true then 0 else 1)
theorem ForI.has1 {rd : Nat → List Int} {n : Nat} {M : Nat → Nat → Nat → Int} {r1 : Nat → Nat} {r2 : Nat → Nat → Nat} (h : ForI rd n (fun _ => False) M r1 r2) {l : Nat} (hl : l < 4) : r1 l ≠ 0 ↔ Go.Proofs.YtajmcplanlibnaaGreatDoor.has1 M l = true := by
  rw [has1_iff]
  constructor
  · intro h1
    obtain ⟨g, hg, h2⟩ := (h.some1 hl).1 h1
    exact ⟨g, hg, (h.some2 hl hg).1 h2⟩
  · rintro ⟨g, hg, h2⟩
    exact (h.some1 hl).2 ⟨g, hg, (h.some2 hl hg).2 h2⟩
theorem ForI.need {rd : Nat → List Int} {n : Nat} {M : Nat → Nat → Nat → Int} {r1 : Nat → Nat} {r2 : Nat → Nat → Nat} (h : ForI rd n (fun _ => False) M r1 r2) : lkF r1 r2 = needN M := by
  unfold lkF needN cnt1 cnt2 lin1 lin2
  congr 2
  · refine List.filter_congr (fun l hl => ?_)
    rw [Bool.eq_iff_iff, decide_eq_true_eq]
    exact h.has1 (List.mem_range.1 hl)
  · refine List.filter_congr (fun i hi => ?_)
    have hi4 := List.mem_range.1 hi
    rw [Bool.eq_iff_iff, decide_eq_true_eq, has2_iff]
    exact h.some2 (by omega) (by omega)
theorem count_one (p : Nat → Bool) (a n : Nat) : ((List.range n).filter fun i => p i || decide (i = a)).length = ((List.range n).filter p).length + if a < n ∧ p a = false then 1 else 0 := by
  induction n with
  | zero => rw [if_neg (by omega)]; rfl
  | succ m ih =>
    rw [List.range_succ, List.filter_append, List.filter_append, List.length_append, List.length_append, ih]
    by_cases e : m = a
    · subst e
      rw [if_neg (by omega)]
      cases hp : p m <;> simp [hp]
    · have e3 : List.filter (fun i => p i || decide (i = a)) [m] = List.filter p [m] := List.filter_congr (fun q hq => by
        rw [List.mem_singleton.1 hq]
        simp [e])
      rw [e3]
      by_cases hc : a < m ∧ p a = false
      · rw [if_pos hc, if_pos ⟨by omega, hc.2⟩]; omega
      · rw [if_neg hc, if_neg (fun h' => hc ⟨by omega, h'.2⟩)]; omega
theorem has2_lay (M : Nat → Nat → Nat → Int) (l g b : Nat) (hb : b < 16) (x : Int) (hx : x ≠ 0) (l' g' : Nat) : has2 (layM M l g b x) l' g' = (has2 M l' g' || decide (l' = l ∧ g' = g)) := by
  rw [Bool.eq_iff_iff, has2_iff, Bool.or_eq_true, has2_iff, decide_eq_true_eq]
  constructor
  · rintro ⟨b', hb', h⟩
    by_cases e : l' = l ∧ g' = g
    · exact .inr e
    · refine .inl ⟨b', hb', ?_⟩
      unfold layM at h
      rwa [if_neg (fun h' => e ⟨h'.1, h'.2.1⟩)] at h
  · rintro (⟨b', hb', h⟩ | ⟨rfl, rfl⟩)
    · refine ⟨b', hb', ?_⟩
      unfold layM
      split
      · exact hx
      · exact h
    · exact ⟨b, hb, by unfold layM; rw [if_pos ⟨rfl, rfl, rfl⟩]; exact hx⟩
theorem has1_lay (M : Nat → Nat → Nat → Int) (l g b : Nat) (hg : g < 16) (hb : b < 16) (x : Int) (hx : x ≠ 0) (l' : Nat) : has1 (layM M l g b x) l' = (has1 M l' || decide (l' = l)) := by
  have hU : ∀ (M : Nat → Nat → Nat → Int) (l : Nat), has1 M l = true ↔ ∃ g, g < 16 ∧ has2 M l g = true := fun M l => by
    unfold has1
    simp [List.any_eq_true]
  rw [Bool.eq_iff_iff, hU, Bool.or_eq_true, hU, decide_eq_true_eq]
  constructor
  · rintro ⟨g', hg', h⟩
    rw [has2_lay M l g b hb x hx, Bool.or_eq_true, decide_eq_true_eq] at h
    rcases h with h | h
    · exact .inl ⟨g', hg', h⟩
    · exact .inr h.1
  · rintro (⟨g', hg', h⟩ | rfl)
    · exact ⟨g', hg', by rw [has2_lay M l g b hb x hx, h]; rfl⟩
    · exact ⟨g, hg, by rw [has2_lay M l' g b hb x hx]; simp⟩
theorem needN_lay (M : Nat → Nat → Nat → Int) {l g b : Nat} (hl : l < 4) (hg : g < 16) (hb : b < 16) (x : Int) (hx : x ≠ 0) : needN (layM M l g b x) = needN M + moreN M l g := by
  unfold needN cnt1 cnt2 moreN
  have e1 : (List.range 4).filter (has1 (layM M l g b x)) = (List.range 4).filter (fun i => has1 M i || decide (i = l)) := List.filter_congr (fun i _ => has1_lay M l g b hg hb x hx i)
  have e2 : ((List.range 64).filter fun i => has2 (layM M l g b x) (i / 16) (i % 16)) = (List.range 64).filter (fun i => (fun j => has2 M (j / 16) (j % 16)) i || decide (i = 16 * l + g)) := List.filter_congr (fun i _ => by
    rw [has2_lay M l g b hb x hx]
    congr 1
    exact decide_eq_decide.2 ⟨fun h => by omega, fun h => by omega⟩)
  rw [e1, e2, count_one, count_one]
  have h3 : (16 * l + g) / 16 = l := by omega
  have h4 : (16 * l + g) % 16 = g := by omega
  simp only [h3, h4]
  cases has1 M l <;> cases has2 M l g <;> simp [hl, show 16 * l + g < 64 by omega] <;> omega
theorem needN_zero {M : Nat → Nat → Nat → Int} (h : ∀ l g b, l < 4 → g < 16 → b < 16 → M l g b = 0) : needN M = 0 := by
  unfold needN cnt1 cnt2
  have h1 : (List.range 4).filter (has1 M) = [] := List.filter_eq_nil_iff.2 (fun l hl q => by
    obtain ⟨g, hg, b, hb, e⟩ := (has1_iff _ _).1 q
    exact e (h l g b (List.mem_range.1 hl) hg hb))
  have h2 : ((List.range 64).filter fun i => has2 M (i / 16) (i % 16)) = [] := List.filter_eq_nil_iff.2 (fun i hi q => by
    obtain ⟨b, hb, e⟩ := (has2_iff _ _ _).1 q
    exact e (h _ _ b (by have := List.mem_range.1 hi; omega) (by omega) hb))
  rw [h1, h2]; rfl
theorem cntS_one (s : Nat) : ∀ m, cntS (fun t => if t = s then 1 else (0 : Int)) 1 m = if s < m then 1 else 0
  | 0 => rfl
  | m + 1 => by
    have ih := cntS_one s m
    unfold cntS at *
    rw [List.range_succ, List.filter_append, List.length_append, ih]
    by_cases e : m = s
    · subst e
      simp
    · have h2 : ¬ ((if m = s then (1 : Int) else 0) = 1) := by rw [if_neg e]; decide
      by_cases h1 : s < m
      · rw [if_pos h1, if_pos (by omega)]; simp [e]
      · rw [if_neg h1, if_neg (by omega)]; simp [e]
theorem cntM_one (i n : Nat) (e : En) (h : i < n) : cntM (setM (fun _ => none) i (some e)) n = 1 := by
  have h1 := cntM_set (fun _ => none) n i (some e) h
  have h2 : cntM (fun _ => none) n = 0 := by unfold cntM; simp
  rw [h2] at h1
  simpa using h1
open Go.RowKit Go.Maps
theorem shut_of_opnZ {B : BookS} (h : B.opn = none) : B.shut = B := by
  cases B
  simp only at h
  subst h
  rfl
set_option maxRecDepth 100000 in
theorem undo_deferred (bb : Nat) (N : Nat → Prop) (B : BookS) (u : FrameMode) (w : World) (h : BookI w bb N B) :
    CallsD Tryz.prog 15 #[.pointer (some ⟨bb, 0, none⟩)] u w fun e u' w' => u' = u ∧ (e = .returned (.tuple #[]) ∧ BookI w' bb N B.shut ∧ Keeps N w w') := by
  obtain ⟨db, rb, nb, ov, hX⟩ := h
  have HX := hZ hX
  obtain ⟨z0, z1, z2, z3, z4, z5, z6, z7, y4, y6⟩ := Xz1 hX.cells
  clear hX
  go_enter_d Tryz.func15, Tryz.ntmps15
  go_wp2_with fail
  go_end0
  exact ⟨rfl, ⟨db, rb, nb, _, HX.out.closed⟩, Keeps.set _ _ _ _ HX.out.nots.1⟩
section
variable {vb : Nat} {N : Nat → Prop} {C : Cfg} {lv : Value} {bb t1 t2 t3 : Nat} {B : BookS} {st : Nat → Int} {blk : Nat → List Int} {E : Nat → Option En} {M : Nat → Nat → Nat → Int} {r1 : Nat → Nat} {r2 : Nat → Nat → Nat}
def PutQ (vb : Nat) (N : Nat → Prop) (C : Cfg) (lv : Value) (bb t1 t2 t3 : Nat) (B : BookS) (M : Nat → Nat → Nat → Int) (l block : Nat) (P : Nat → (Nat → Int) → (Nat → List Int) → (Nat → Option En) → Prop) (w w' : World) : Prop :=
  (∃ (i : Nat) (st' : Nat → Int) (blk' : Nat → List Int) (E' : Nat → Option En) (B' : BookS) (r1' : Nat → Nat) (r2' : Nat → Nat → Nat), i < C.prints ∧ VolS vb N C lv bb t1 t2 t3 B' st' blk' E' (layM M l (block / 16) (block % 16) ((i : Int) + 1)) r1' r2' w' ∧ B'.cnt ≤ B.cnt + 6 ∧ B'.shut = B.shut ∧ B'.n = B.n ∧ P i st' blk' E') ∧ Keeps N w w'
def AllP (vb : Nat) (N : Nat → Prop) (C : Cfg) (lv : Value) (bb t1 t2 t3 : Nat) (B : BookS) (k : Nat) (M : Nat → Nat → Nat → Int) (l block : Nat) (P : Nat → (Nat → Int) → (Nat → List Int) → (Nat → Option En) → Prop) (w : World) (e : Ending) (w' : World) : Prop :=
  e = .returned .nilIface ∧ (∃ (i : Nat) (st' : Nat → Int) (blk' : Nat → List Int) (E' : Nat → Option En) (B' : BookS) (r1' : Nat → Nat) (r2' : Nat → Nat → Nat), i < C.prints ∧ VolS vb N C lv bb t1 t2 t3 B' st' blk' E' (layM M l (block / 16) (block % 16) ((i : Int) + 1)) r1' r2' w' ∧ B'.opn = none ∧ B'.lim (k + 1) ∧ B'.n = B.n ∧ P i st' blk' E') ∧ Keeps N w w'
set_option maxRecDepth 100000 in
set_option maxHeartbeats 4000000 in
theorem all_one {P : Nat → (Nat → Int) → (Nat → List Int) → (Nat → Option En) → Prop} {k : Nat} (hc : B.cnt ≤ 40) (hlim : B.lim k) (hk : k ≤ 9000) {l block : Nat} (hl : l < 4) (hbk : block < 256) (p : List Int) (hp : p.length = 64) (pb off cap : Nat) (w : World) (hrow : w.rangeAt pb off (v8 p)) (hpb : pb < w.heap.size) (h : VolS vb N C lv bb t1 t2 t3 B st blk E M r1 r2 w)
    (hP : ∀ wx, Below w.heap.size w wx → Calls Tryz.prog 220 #[ptrV vb, .int .i64 (l : Int), .int .i64 (block : Int), .agg (v8a p)] wx (PutP vb N C lv bb t1 t2 t3 B M l block P wx)) :
    Calls Tryz.prog 181 #[ptrV vb, .int .i64 (l : Int), .int .i64 (block : Int), .slice (some ⟨pb, off, none⟩) 1 cap] w (AllP vb N C lv bb t1 t2 t3 B k M l block P w) := by
  have HV := hZ h
  have HP := hZ hP
  have HRW := hZ hrow
  have HL := hZ hlim
  obtain ⟨z5, z6, z7, z8, z9⟩ := h.vol.cells
  have hb0 : (0 : Int) ≤ block := by omega
  have hb1 : (block : Int) < 256 := by omega
  clear h hP hrow hlim
  unfold ptrV at *
  go_enter_defers Tryz.func181, Tryz.ntmps181
  go_wp2_with fail
  clear z5 z6 z7 z8 z9
  go_loopw [18] (fun iv wr => (iv = .int .i64 0 ∧ Hid (Below w.heap.size w wr)) ∨ (iv = .int .i64 1 ∧ Hid (PutQ vb N C lv bb t1 t2 t3 B M l block P w wr))) (fun iv _ => 2 - (intOf iv).toNat)
  case atStart => exact .inl ⟨rfl, hZ (Below.refl _ _)⟩
  case round =>
    rcases hrel with ⟨rfl, HB⟩ | ⟨rfl, HQ⟩
    · have hrg : wr.rangeAt pb off (v8 p) := fun j v hv => (HB.out.cell (p := ⟨pb, off + j, none⟩) hpb).trans (HRW.out j v hv)
      go_upto_region 5 with (first | (refine wpList_load_mid rfl 37 (.tmp 21) rfl pb off rfl (v8 p) _ hrg Tryz.underlying37 rfl (by rw [Wz0, hp]; exact Zz5) ?_) | (refine Wz2 rfl (.tmp 10) (.tmp 22) rfl wr.heap.size p (zer 64) rfl rfl (heap_alloc_new wr _) hp rfl ?_))
      have hbx : ∀ o : Obj, Below wr.heap.size wr ((wr.alloc o).setRow wr.heap.size (v8a p)) := fun o => below_setRow (bZ) (Nat.le_refl _) _
      refine Kz0 (fun wx => Hid (wx.heap[wr.heap.size]? = some (.cells (v8a p) 37) ∧ Below w.heap.size w wx)) (hZ ⟨setRow_heap _ _ _ _ _ (0, 0) (heap_alloc_new wr _), HB.out.trans ((hbx _).mono HB.out.size)⟩) ?_
      clear hbx HB hrg
      generalize wr.heap.size = b10
      intro w2 H2
      try simp only [Act.put]
      have hPT := HP.out w2 H2.out.2
      go_wp2_with (refine Wz3 rfl (.tmp 10) rfl b10 p rfl H2.out.1 hp ?_)
      refine hPT.mono ?_
      clear hPT
      rintro e w3 ⟨rfl, hq, hk3⟩
      have HQ : Hid (PutQ vb N C lv bb t1 t2 t3 B M l block P w w3) := hZ ⟨hq, (Keeps.of_below H2.out.2).trans hk3⟩
      clear hq hk3 H2
      try dsimp only
      go_wp2_with fail
      exact ⟨.inr ⟨rfl, HQ⟩, by simp [intOf]⟩
    · obtain ⟨⟨i, st', blk', E', B', r1', r2', hi, hV, hcn, hsh, hn, hpp⟩, hkq⟩ := HQ.out
      obtain ⟨z5, z6, z7, z8, z9⟩ := hV.vol.cells
      have hl' := HL.out.same hsh
      have hCM := commit_any bb _ B' k hl' (by omega) (by omega) wr hV.vol.book
      have H1 := hZ (And.intro hV (And.intro hl' (And.intro hn (And.intro hpp hkq))))
      have hc46 : B'.cnt ≤ 46 := by omega
      unfold ptrV at z6
      clear hV hl' hcn hsh hn hpp hkq HQ HP HRW HV
      go_wp2_with fail
      refine hCM.mono ?_
      clear hCM z5 z6 z7 z8 z9
      rintro e w2 ⟨rfl, hB, hk2⟩
      obtain ⟨hv2, hkN⟩ := H1.out.1.vol.booked hB hk2
      have hok := H1.out.1.vol.book.isOk
      have hneed := H1.out.1.fit.need
      have H2 : Hid (VolS vb N C lv bb t1 t2 t3 B'.done st' blk' E' (layM M l (block / 16) (block % 16) ((i : Int) + 1)) r1' r2' w2 ∧ B'.done.lim (k + 1) ∧ B'.done.n = B.n ∧ Keeps N w w2) := hZ ⟨⟨hv2, H1.out.1.mod.congr (fun q h1 h2 => BookS.done_view_lim hok H1.out.2.1 (by omega) q (by omega)), by rw [BookS.done_n]; exact H1.out.1.fit⟩, H1.out.2.1.done (by omega), by rw [BookS.done_n]; exact H1.out.2.2.1, H1.out.2.2.2.2.trans hkN⟩
      have hpp := H1.out.2.2.2.1
      clear hB hk2 hv2 hkN H1
      try dsimp only
      go_wp2_with fail
      refine (Qzc _ w2).mono ?_
      rintro e w3 ⟨rfl, rfl⟩
      try dsimp only
      go_wp2_with fail
      refine leaves_cons (f := 15) (args := #[.pointer (some ⟨bb, 0, none⟩)]) (by simp) (by simp [go_sem]) ?_
      refine (undo_deferred bb _ B'.done .returning w2 H2.out.1.vol.book).mono ?_
      rintro e u' w3 ⟨rfl, rfl, hB, hk3⟩
      rw [shut_of_opnZ (BookS.done_opn B')] at hB
      obtain ⟨hv3, hkN⟩ := H2.out.1.vol.booked hB hk3
      exact ⟨_, results_tmp rfl _ _ _, rfl, ⟨i, st', blk', E', B'.done, r1', r2', hi, ⟨hv3, H2.out.1.mod, H2.out.1.fit⟩, BookS.done_opn _, H2.out.2.1, H2.out.2.2.1, hpp⟩, H2.out.2.2.2.trans hkN⟩
end
open Go.RowKit Go.Maps
section
variable {vb : Nat} {N : Nat → Prop} {C : Cfg} {lv : Value} {bb t1 t2 t3 : Nat} {B : BookS} {st : Nat → Int} {blk : Nat → List Int} {E : Nat → Option En} {M : Nat → Nat → Nat → Int} {r1 : Nat → Nat} {r2 : Nat → Nat → Nat}
set_option maxRecDepth 100000 in
set_option maxHeartbeats 4000000 in
theorem write_one {P : Nat → (Nat → Int) → (Nat → List Int) → (Nat → Option En) → Prop} {k : Nat} {l block : Nat} (hl4 : C.luns.length ≤ 4) (hsz : 1 ≤ sizeF C l ∧ sizeF C l ≤ 256) (hlt : block < sizeF C l) (p : List Int) (hp : p.length = 64) (pb off cap : Nat) (hcap : 64 ≤ cap) (hcm : cap ≤ maxLen) (w : World) (hrow : w.rangeAt pb off (v8 p)) (hpb : pb < w.heap.size) (h : VolS vb N C lv bb t1 t2 t3 B st blk E M r1 r2 w)
    (hA : ∀ wx (g c : Nat), Below w.heap.size w wx → wx.rangeAt g 0 (v8 p) → g < wx.heap.size → Calls Tryz.prog 181 #[ptrV vb, .int .i64 (l : Int), .int .i64 (block : Int), .slice (some ⟨g, 0, none⟩) 1 c] wx (AllP vb N C lv bb t1 t2 t3 B k M l block P wx)) :
    Calls Tryz.prog 121 #[ptrV vb, .int .i64 (l : Int), .int .i64 (block : Int), .slice (some ⟨pb, off, none⟩) 64 cap] w (AllP vb N C lv bb t1 t2 t3 B k M l block P w) := by
  have HA := hZ hA
  have HRW := hZ hrow
  have hSP := span_ok vb N C lv bb t1 t2 t3 B hl4 (l : Int) (block : Int) 1 hsz (by decide) ⟨by omega, by omega⟩ w h.vol
  obtain ⟨ip, hip, hpz0, hpz1, hpz2⟩ := info_parts info_pg
  have HIP := hZ (And.intro hip (And.intro hpz0 (And.intro hpz1 hpz2)))
  have hcm' : cap ≤ 9223372036854775807 := by unfold maxLen at hcm; omega
  have hb1 : (block : Int) < 256 := by omega
  have hb0 : (0 : Int) ≤ block := by omega
  have har : ∀ wx : World, (Instr.arrayAt 37 (.slice (some ⟨pb, off, none⟩) 64 cap)).run Tryz.prog wx = .ok (.pointer (some ⟨pb, off, none⟩)) wx := fun wx => by
    simp [Instr.arrayAt, Sem.run_bind, run_underlying Tryz.underlying37]
  clear h hA hrow hip hpz0 hpz1 hpz2 hcm
  unfold ptrV at *
  go_enter Tryz.func121, Tryz.ntmps121
  go_wp2_with fail
  refine hSP.mono ?_
  clear hSP
  rintro e w1 ⟨rfl, rfl⟩
  try dsimp only
  go_wp2_with fail
  go_loopw [3, 10] (fun dv lv' wr => (dv = .slice (some ⟨pb, off, none⟩) 64 cap ∧ lv' = .slice none 0 0 ∧ Hid (Below w.heap.size w wr)) ∨ (∃ a c g c', dv = .slice a 0 c ∧ lv' = .slice (some ⟨g, 0, none⟩) 1 c' ∧ Hid (Below w.heap.size w wr ∧ wr.rangeAt g 0 (v8 p) ∧ g < wr.heap.size))) (fun dv _ _ => match dv with | .slice _ n _ => n | _ => 0)
  case atStart => exact .inl ⟨rfl, rfl, hZ (Below.refl _ _)⟩
  case round =>
    rcases hrel with ⟨rfl, rfl, HB⟩ | ⟨a, c, g, c', rfl, rfl, HG⟩
    · have hrg : wr.rangeAt pb off (v8 p) := fun j v hv => (HB.out.cell (p := ⟨pb, off + j, none⟩) hpb).trans (HRW.out j v hv)
      repeat ((fail_if_success (with_reducible refine Kz1 35 rfl ?_)); (first | (refine wpList_load_mid rfl 37 (.tmp 33) rfl pb off rfl (v8 p) _ hrg Tryz.underlying37 rfl (by rw [Wz0, hp]; exact Zz5) ?_) | go_values | go_skip | go_guarded | go_step | go_upon))
      refine Kz5 rfl 52 37 (.tmp 34) rfl ip _ Tryz.underlying52 HIP.out.1 HIP.out.2.1 64 HIP.out.2.2.1 (by decide) (by decide) (.agg (v8a p)) rfl (v8a p) rfl (pgsz hp) ?_
      simp only [Act.put, qs0, qs1, qs2]
      repeat ((fail_if_success (with_reducible refine Kz1 36 rfl ?_)); (first | go_values | go_skip | go_guarded | go_step | go_upon))
      have hs1 := HB.out.size
      refine Jz2 rfl (.tmp 30) (.tmp 35) 52 rfl w.heap.size 37 ip _ 64 64 Tryz.underlying52 HIP.out.1 HIP.out.2.1 HIP.out.2.2.1 HIP.out.2.2.2 rfl (by decide) (.slice none 0 0) 0 [] rfl ?c0 (.slice (some ⟨wr.heap.size, 0, none⟩) 1 1) 1 (v8 p) rfl ?c4 ?c1 ?c2 ?c3 ?_
      case c0 => exact World.ownsRow_nil _ _ _ _
      case c4 => exact Xz9 wr (v8 p) _ _ (by rw [Wz0, hp]) (fun u hu => by
        unfold v8 at hu
        obtain ⟨x, _, rfl⟩ := List.mem_map.1 hu
        rfl)
      case c1 => unfold maxLen; omega
      case c2 => omega
      case c3 => simp; omega
      intro v1 w1 ho1 hg1
      have hb1 : Below w.heap.size w w1 := (HB.out.alloc hs1 _).grown hg1 (by simp; omega) (fun k hk => by simp [Value.ownBlock] at hk)
      rcases ho1.2 with ⟨hv, hn⟩ | ⟨g, cap1, cur, hv, hgb, hgk, hn, hm, hs, ht⟩
      · omega
      subst hv
      rw [List.nil_append] at ht
      have HG : Hid (Below w.heap.size w w1 ∧ w1.rangeAt g 0 (v8 p) ∧ g < w1.heap.size) := hZ ⟨hb1, (fun j v hv => by
        rw [cell_of_row w1 g (0 + j) _ _ (0, 0) hgk]
        have h2 : (v8 p)[j]? = some v := hv
        rw [← ht] at h2
        simp only [Nat.zero_add]
        rw [List.getElem?_take] at h2
        split at h2
        · simpa using h2
        · cases h2), Zz0 hgk⟩
      clear ho1 hg1 hb1 hgb hgk hn hm hs ht hrg HB
      try simp only [Act.put]
      go_wp2_with fail
      exact ⟨.inr ⟨_, _, g, cap1, rfl, rfl, HG⟩, by show 0 < 64; decide⟩
    · have hAL := HA.out wr g c' HG.out.1 HG.out.2.1 HG.out.2.2
      go_wp2_with fail
      refine hAL.mono ?_
      clear hAL HA
      rintro e w2 ⟨rfl, hx, hk⟩
      have H2 := hZ (And.intro hx ((Keeps.of_below HG.out.1).trans hk))
      clear hx hk HG
      try dsimp only
      go_wp2_with fail
      go_ret
      exact ⟨rfl, H2.out⟩
end
open Go.RowKit Go.Maps
def outL (rd : Nat → List Int) (i : Nat) : List Int := ((List.range i).map rd).flatten
theorem outL_succ (rd : Nat → List Int) (i : Nat) : outL rd (i + 1) = outL rd i ++ rd i := by
  unfold outL
  rw [List.range_succ, List.map_append, List.flatten_append]
  simp
section
variable {vb : Nat} {N : Nat → Prop} {C : Cfg} {lv : Value} {bb t1 t2 t3 : Nat} {B : BookS} {st : Nat → Int} {blk : Nat → List Int} {E : Nat → Option En} {M : Nat → Nat → Nat → Int} {r1 : Nat → Nat} {r2 : Nat → Nat → Nat}
set_option maxRecDepth 100000 in
set_option maxHeartbeats 4000000 in
theorem vread_any {l block n : Nat} (hn : n ≤ 8) (hl4 : C.luns.length ≤ 4) (hsz : 1 ≤ sizeF C l ∧ sizeF C l ≤ 256) (hlt : block + n ≤ sizeF C l) (xs : Nat → Int) (rd : Nat → List Int) (hrd : ∀ i, i < n → (rd i).length = 64) (w : World) (h : VolS vb N C lv bb t1 t2 t3 B st blk E M r1 r2 w)
    (hG : ∀ i, i < n → ∀ wx, Below w.heap.size w wx → Calls Tryz.prog 92 #[ptrV t3, .int .i64 (l : Int), .int .i64 ((block : Int) + (i : Int))] wx fun e w' => e = .returned (.tuple #[.int .i64 (xs i), .nilIface]) ∧ Below wx.heap.size wx w')
    (hK : ∀ i, i < n → ∀ wx, Below w.heap.size w wx → Calls Tryz.prog 182 #[ptrV vb, .int .i64 (xs i)] wx fun e w' => e = .returned (.tuple #[.agg (v8a (rd i)), .nilIface]) ∧ Below wx.heap.size wx w') :
    Calls Tryz.prog 123 #[ptrV vb, .int .i64 (l : Int), .int .i64 (block : Int), .int .i64 (n : Int)] w fun e w' => (∃ a c, e = .returned (.tuple #[.slice a (n * 64) c, .nilIface]) ∧ w'.ownsRow w.heap.size 5 1 (.slice a (n * 64) c) (n * 64) (v8 (outL rd n))) ∧ Below w.heap.size w w' := by
  have HG := hZ hG
  have HK := hZ hK
  have HV := hZ h
  have HRD := hZ hrd
  have hSP := span_ok vb N C lv bb t1 t2 t3 B hl4 (l : Int) (block : Int) (n : Int) hsz ⟨by omega, by omega⟩ ⟨by omega, by omega⟩ w h.vol
  obtain ⟨i0, hi0', hz0, hz1, hz2⟩ := info_parts info_u8
  have HI := hZ (And.intro hi0' (And.intro hz0 (And.intro hz1 hz2)))
  have hb1 : (block : Int) ≤ 256 := by omega
  have hb0 : (0 : Int) ≤ block := by omega
  have hn8 : (n : Int) ≤ 8 := by omega
  have hn0 : (0 : Int) ≤ n := by omega
  clear h hG hK hi0' hz0 hz1 hz2 hrd
  unfold ptrV at *
  go_enter Tryz.func123, Tryz.ntmps123
  go_wp2_with fail
  refine hSP.mono ?_
  clear hSP
  rintro e w1 ⟨rfl, rfl⟩
  try dsimp only
  go_wp2_with fail
  go_loopw [11, 25] (fun ov iv wr => ∃ (i : Nat) (a : Option Addr) (c : Nat), iv = .int .i64 (i : Int) ∧ i ≤ n ∧ ov = .slice a (i * 64) c ∧ Hid (wr.ownsRow w.heap.size 5 1 (.slice a (i * 64) c) (i * 64) (v8 (outL rd i)) ∧ Below w.heap.size w wr)) (fun _ iv _ => 9 - (intOf iv).toNat)
  case atStart => exact ⟨0, none, 0, rfl, by omega, rfl, hZ ⟨World.ownsRow_nil _ _ _ _, Below.refl _ _⟩⟩
  case round =>
    obtain ⟨i, a, c, rfl, hi, rfl, H⟩ := hrel
    have hi0 : (0 : Int) ≤ i := by omega
    by_cases hit : i < n
    · have hi1 : (i : Int) < n := by omega
      obtain ⟨z5, z6, z7, z8, z9⟩ := (HV.out.below H.out.2).vol.cells
      unfold ptrV at z6 z7 z8 z9
      have hGi := HG.out i hit wr H.out.2
      go_wp2_with fail
      refine hGi.mono ?_
      clear hGi z5 z6 z7 z8 z9
      rintro e w2 ⟨rfl, hb2⟩
      have hKi := HK.out i hit w2 (H.out.2.trans (hb2.mono H.out.2.size))
      have H2 : Hid (w2.ownsRow w.heap.size 5 1 (.slice a (i * 64) c) (i * 64) (v8 (outL rd i)) ∧ Below w.heap.size w w2) := hZ ⟨Vz4 H.out.1 hb2, H.out.2.trans (hb2.mono H.out.2.size)⟩
      clear hb2 H
      try dsimp only
      go_wp2_with fail
      refine hKi.mono ?_
      clear hKi
      rintro e w3 ⟨rfl, hb3⟩
      have H3 : Hid (w3.ownsRow w.heap.size 5 1 (.slice a (i * 64) c) (i * 64) (v8 (outL rd i)) ∧ Below w.heap.size w w3) := hZ ⟨Vz4 H2.out.1 hb3, H2.out.2.trans (hb3.mono H2.out.2.size)⟩
      clear hb3 H2
      have hp64 := HRD.out i hit
      have HS1 : Hid (v8 (outL rd (i + 1)) = v8 (outL rd i) ++ v8 (rd i)) := hZ (by rw [outL_succ]; simp [v8])
      generalize rd i = pg at hp64 HS1
      try dsimp only
      go_upto_region 12 with (refine Wz2 rfl (.tmp 15) (.tmp 48) rfl w3.heap.size pg (zer 64) rfl rfl (heap_alloc_new w3 _) hp64 rfl ?_)
      have hbx : ∀ o : Obj, Below w3.heap.size w3 ((w3.alloc o).setRow w3.heap.size (v8a pg)) := fun o => below_setRow (bZ) (Nat.le_refl _) _
      refine Kz0 (fun wx => Hid (wx.heap[w3.heap.size]? = some (.cells (v8a pg) 37) ∧ wx.ownsRow w.heap.size 5 1 (.slice a (i * 64) c) (i * 64) (v8 (outL rd i)) ∧ Below w.heap.size w wx)) (hZ ⟨setRow_heap _ _ _ _ _ (0, 0) (heap_alloc_new w3 _), Vz4 H3.out.1 (hbx _), H3.out.2.trans ((hbx _).mono H3.out.2.size)⟩) ?_
      clear hbx H3
      generalize w3.heap.size = b15
      intro w4 H4
      try simp only [Act.put]
      have hsrc : SrcIs w4 (.slice (some ⟨b15, 0, none⟩) 64 64) 64 1 (v8 pg) := by
        have h := (page_in H4.out.1 64).src (c := 64) (fun h => by cases h)
        rw [show pg.take 64 = pg from List.take_of_length_le (by rw [hp64]; exact Nat.le_refl _), hp64] at h
        exact h
      repeat ((fail_if_success (with_reducible refine Kz1 56 rfl ?_)); (first | go_values | go_skip | go_guarded | go_step | go_upon))
      refine Jz2 rfl (.tmp 54) (.tmp 55) 118 rfl w.heap.size 5 i0 _ 1 1 Tryz.underlying118 HI.out.1 HI.out.2.1 HI.out.2.2.1 HI.out.2.2.2 rfl (by decide) (.slice a (i * 64) c) (i * 64) (v8 (outL rd i)) rfl ?c0 (.slice (some ⟨b15, 0, none⟩) 64 64) 64 (v8 pg) rfl ?c4 ?c1 ?c2 ?c3 ?_
      case c0 => exact H4.out.2.1
      case c4 => exact hsrc
      case c1 => unfold maxLen; omega
      case c2 => omega
      case c3 => exact H4.out.2.2.size
      intro v1 w5 ho1 hg1
      obtain ⟨a1, c1, rfl⟩ := Kz3 ho1
      have H5 : Hid (w5.ownsRow w.heap.size 5 1 (.slice a1 ((i + 1) * 64) c1) ((i + 1) * 64) (v8 (outL rd (i + 1))) ∧ Below w.heap.size w w5) := hZ ⟨by rw [HS1.out, show (i + 1) * 64 = i * 64 + 64 by omega]; exact ho1, H4.out.2.2.grown hg1 H4.out.2.2.size (fun k hk => (H4.out.2.1.lt k hk).1)⟩
      clear ho1 hg1 hsrc H4
      try simp only [Act.put]
      go_wp2_with fail
      exact ⟨⟨i + 1, a1, c1, by push_cast; rfl, by omega, by rw [show (i + 1) * 64 = i * 64 + 64 by omega], H5⟩, by simp [intOf]; omega⟩
    · obtain rfl : i = n := by omega
      go_wp2_with fail
      go_ret2
      exact ⟨⟨a, c, rfl, H.out.1⟩, H.out.2⟩
end
open Go.RowKit Go.Maps
theorem info_five : (Tryz.prog.info? 127).map (·.size) = some 5 := by kernel_rfl
theorem five_cells {w : World} {B : Nat} {c0 c1 c2 c3 c4 : Value} {T : Nat} (h : w.heap[B]? = some (.cells #[c0, c1, c2, c3, c4] T)) : w.cell? ⟨B, 0, none⟩ = some c0 ∧ w.cell? ⟨B, 1, none⟩ = some c1 ∧ w.cell? ⟨B, 2, none⟩ = some c2 ∧ w.cell? ⟨B, 3, none⟩ = some c3 ∧ w.cell? ⟨B, 4, none⟩ = some c4 ∧ ∀ i, w.frozen? ⟨B, i, none⟩ = false := by
  refine ⟨?_, ?_, ?_, ?_, ?_, fun i => by simp [World.frozen?, h]⟩ <;> (rw [cell_of_row w B _ _ _ (0, 0) h]; rfl)
section
variable {vb : Nat} {N : Nat → Prop} {C : Cfg} {lv : Value} {bb t1 t2 t3 : Nat} {B : BookS} {st : Nat → Int} {blk : Nat → List Int} {E : Nat → Option En} {M : Nat → Nat → Nat → Int} {r1 : Nat → Nat} {r2 : Nat → Nat → Nat}
def CtI (w : World) (b2 b4 : Nat) (x0 x1 x2 x3 x4 : Int) (wx : World) : Prop := wx.heap[b2]? = some (.cells #[.int .i64 0, .int .i64 0, .int .i64 0, .int .i64 0, .int .i64 0] 127) ∧ wx.heap[b4]? = some (.cells #[.int .i64 x0, .int .i64 x1, .int .i64 x2, .int .i64 x3, .int .i64 x4] 127) ∧ w.heap.size ≤ b2 ∧ b2 < b4 ∧ Below w.heap.size w wx
theorem CtI.below {w wx wy : World} {b2 b4 : Nat} {x0 x1 x2 x3 x4 : Int} (h : CtI w b2 b4 x0 x1 x2 x3 x4 wx) (hb : Below wx.heap.size wx wy) : CtI w b2 b4 x0 x1 x2 x3 x4 wy :=
  ⟨(hb.block _ (Zz0 h.1)).trans h.1, (hb.block _ (Zz0 h.2.1)).trans h.2.1, h.2.2.1, h.2.2.2.1, h.2.2.2.2.trans (hb.mono h.2.2.2.2.size)⟩
set_option maxRecDepth 100000 in
set_option maxHeartbeats 4000000 in
theorem vcount_any (w : World) (h : VolS vb N C lv bb t1 t2 t3 B st blk E M r1 r2 w) :
    Calls Tryz.prog 61 #[ptrV vb] w fun e w' => (∃ k : Nat, e = .returned (.tuple #[.agg #[.int .i64 (cntS st 1 (C.boxes * 4) : Nat), .int .i64 (cntS st 2 (C.boxes * 4) : Nat), .int .i64 (cntS st 0 (C.boxes * 4) : Nat), .int .i64 (cntM E C.prints : Nat), .int .i64 (k : Int)], .nilIface])) ∧ Below w.heap.size w w' := by
  have HV := hZ h
  have hb0 : ∀ o : Obj, Below w.heap.size w (w.alloc o) := fun o => bZ
  have hpr := h.fit.prints.2
  have hcm := cntM_le E C.prints
  have HAL := hZ (fun wx (hb : Below w.heap.size w wx) => v_all (h.below hb))
  have HDC := hZ (fun wx (hb : Below w.heap.size w wx) => v_dcount (h.below hb))
  generalize cntM E C.prints = x3 at HAL hcm ⊢
  generalize cntS st 1 (C.boxes * 4) = x0 at HDC ⊢
  generalize cntS st 2 (C.boxes * 4) = x1 at HDC ⊢
  generalize cntS st 0 (C.boxes * 4) = x2 at HDC ⊢
  clear h
  unfold ptrV
  go_enter Tryz.func61, Tryz.ntmps61
  go_upto_region 1 with fail
  refine Kz0 (fun wx => Hid (wx.heap[w.heap.size]? = some (.cells #[.int .i64 0, .int .i64 0, .int .i64 0, .int .i64 0, .int .i64 0] 127) ∧ Below w.heap.size w wx)) (hZ ⟨heap_alloc_new w _, hb0 _⟩) ?_
  clear hb0
  obtain ⟨b2, hb2, hb2'⟩ : ∃ b2, w.heap.size = b2 ∧ w.heap.size ≤ b2 := ⟨_, rfl, Nat.le_refl _⟩
  rw [hb2]
  intro w1 H1
  rw [← hb2] at H1
  go_upto_region 2 with fail
  refine Kz0 (fun wx => Hid (CtI w b2 w1.heap.size 0 0 0 0 0 wx)) (hZ ⟨(heap_alloc_old _ _ (by rw [← hb2]; exact Zz0 H1.out.1)).trans (by rw [← hb2]; exact H1.out.1), heap_alloc_new w1 _, hb2', by rw [← hb2]; exact Zz0 H1.out.1, H1.out.2.alloc H1.out.2.size _⟩) ?_
  clear H1 hb2
  generalize w1.heap.size = b4
  intro w2 H2
  obtain ⟨z5, z6, z7, z8, z9⟩ := (HV.out.below H2.out.2.2.2.2).vol.cells
  have hDC := HDC.out w2 H2.out.2.2.2.2
  unfold ptrV at hDC z6 z7 z8 z9
  go_wp2_with fail
  refine hDC.mono ?_
  clear hDC z5 z6 z7 z8 z9
  rintro e w3 ⟨rfl, hb3⟩
  have H3 := hZ (H2.out.below hb3)
  clear hb3 H2
  obtain ⟨y0, y1, y2, y3, y4, f⟩ := five_cells H3.out.2.1
  have f0 := f 0
  have f1 := f 1
  have f2 := f 2
  clear f
  try dsimp only
  go_upto_region 6 with fail
  have hne : b4 ≠ b2 := by have := H3.out.2.2.2.1; omega
  have hle : w.heap.size ≤ b4 := by have := H3.out.2.2.1; have := H3.out.2.2.2.1; omega
  refine Kz0 (fun wx => Hid (CtI w b2 b4 x0 x1 x2 0 0 wx)) (hZ ⟨by rw [Zz1 hne rfl, Zz1 hne rfl, Zz1 hne rfl]; exact H3.out.1, by rw [Xz3 (Xz3 (Xz3 H3.out.2.1 _) _) _]; rfl, H3.out.2.2.1, H3.out.2.2.2.1, ((H3.out.2.2.2.2.setCell hle _).setCell hle _).setCell hle _⟩) ?_
  clear H3 y0 y1 y2 y3 y4 f0 f1 f2
  intro w4 H4
  try simp only [Act.put]
  obtain ⟨z5, z6, z7, z8, z9⟩ := (HV.out.below H4.out.2.2.2.2).vol.cells
  have hAL := HAL.out w4 H4.out.2.2.2.2
  unfold ptrV at hAL z6 z7 z8 z9
  go_wp2_with fail
  refine hAL.mono ?_
  clear hAL z5 z6 z7 z8 z9
  rintro e w5 ⟨⟨al, cl, rfl⟩, hb5⟩
  have H5 := hZ (H4.out.below hb5)
  clear hb5 H4
  have hx3 : (x3 : Int) ≤ 2048 := by omega
  obtain ⟨y0, y1, y2, y3, y4, f⟩ := five_cells H5.out.2.1
  have f3 := f 3
  clear f
  try dsimp only
  go_upto_region 12 with fail
  refine Kz0 (fun wx => Hid (CtI w b2 b4 x0 x1 x2 x3 0 wx)) (hZ ⟨by rw [Zz1 hne rfl]; exact H5.out.1, by rw [Xz3 H5.out.2.1 _]; rfl, H5.out.2.2.1, H5.out.2.2.2.1, H5.out.2.2.2.2.setCell hle _⟩) ?_
  clear H5 y0 y1 y2 y3 y4 f3
  intro w6 H6
  try simp only [Act.put]
  obtain ⟨z5, z6, z7, z8, z9⟩ := (HV.out.below H6.out.2.2.2.2).vol.cells
  have hND := v_nodes (HV.out.below H6.out.2.2.2.2)
  unfold ptrV at hND z6 z7 z8 z9
  go_wp2_with fail
  refine hND.mono ?_
  clear hND z5 z6 z7 z8 z9
  rintro e w7 ⟨⟨k, rfl, hk⟩, hb7⟩
  have H7 := hZ (H6.out.below hb7)
  clear hb7 H6
  obtain ⟨y0, y1, y2, y3, y4, f⟩ := five_cells H7.out.2.1
  have f4 := f 4
  clear f
  try dsimp only
  go_upto_region 13 with fail
  refine Kz0 (fun wx => Hid (CtI w b2 b4 x0 x1 x2 x3 k wx)) (hZ ⟨by rw [Zz1 hne rfl]; exact H7.out.1, by rw [Xz3 H7.out.2.1 _]; rfl, H7.out.2.2.1, H7.out.2.2.2.1, H7.out.2.2.2.2.setCell hle _⟩) ?_
  clear H7 y0 y1 y2 y3 y4 f4
  intro w8 H8
  try simp only [Act.put]
  go_wp2_with (first | (refine wpList_load_row rfl 127 (.tmp 4) rfl b4 rfl _ #[.int .i64 x0, .int .i64 x1, .int .i64 x2, .int .i64 x3, .int .i64 k] (0, 0) _ H8.out.2.1 Tryz.underlying127 rfl info_five ?_) | (refine wpList_store_row rfl 127 (.tmp 2) (.tmp 60) rfl b2 #[.int .i64 x0, .int .i64 x1, .int .i64 x2, .int .i64 x3, .int .i64 k] rfl rfl 127 #[.int .i64 0, .int .i64 0, .int .i64 0, .int .i64 0, .int .i64 0] H8.out.1 info_five rfl (by simp [Value.oneCell']) ?_))
  exact bodyPost_ret (Vz3 Tryz.results61 _ _ b2 127 #[.int .i64 x0, .int .i64 x1, .int .i64 x2, .int .i64 x3, .int .i64 k] (0, 0) _ rfl .nilIface rfl (setRow_heap _ _ _ _ _ (0, 0) H8.out.1) Tryz.underlying127 rfl info_five) rfl ⟨⟨k, rfl⟩, below_setRow H8.out.2.2.2.2 H8.out.2.2.1 _⟩
end
open Go.RowKit Go.Maps
set_option maxRecDepth 100000 in
set_option maxHeartbeats 2000000 in
theorem fresh11_any (a : Option Addr) (cap base : Nat) (N : Nat → Prop) (w : World) (hN : ∀ i, N i → i < w.heap.size) (hL : w.ownsRow base 3 1 (.slice a 2 cap) 2 (lunsV C0)) :
    Calls Tryz.prog 58 #[.agg (cfgC C0 (.slice a 2 cap))] w fun e w' => (∃ vb lv bb t1 t2 t3 db, e = .returned (ptrV vb) ∧ VolI w' vb N C0 lv bb t1 t2 t3 (b0 db) ∧ GdS (b0 db) 100 298 400 2 db ∧ (∀ i, i < 298 → (b0 db).view i = if i = 0 then signF C0 else zer 64)) ∧ Keeps N w w' := by
  have HL := hZ hL
  have HN := hZ hN
  have hb0 : ∀ o : Obj, Below w.heap.size w (w.alloc o) := fun o => bZ
  clear hL hN
  go_enter Tryz.func58, Tryz.ntmps58
  go_upto_region 1 with fail
  refine Kz0 (fun wx => Hid (wx.heap[w.heap.size]? = some (.cells (cfgC C0 (.slice a 2 cap)) 102) ∧ Below w.heap.size w wx)) (hZ ⟨heap_alloc_new w _, hb0 _⟩) ?_
  clear hb0
  intro w1 H1
  have hND := diskNew_any 400 (by decide) N w1 (fun i hi => Nat.lt_of_lt_of_le (HN.out i hi) H1.out.2.size)
  obtain ⟨z0, z1, z2, z3, z4, z5⟩ := Zz8 H1.out.1
  have hc : ((C0.sec : Nat) : Int) = 400 := rfl
  rw [hc] at z0
  go_wp2_with fail
  refine hND.mono ?_
  clear hND z0 z1 z2 z3 z4 z5 hc
  rintro e w2 ⟨⟨db, rfl, hdb, hD⟩, hb2⟩
  have H2 : Hid (w2.heap[w.heap.size]? = some (.cells (cfgC C0 (.slice a 2 cap)) 102) ∧ Below w.heap.size w w2) := hZ ⟨(hb2.block _ (Zz0 H1.out.1)).trans H1.out.1, H1.out.2.trans (hb2.mono H1.out.2.size)⟩
  have hMT := vmount_zero a cap db base N w2 hD (Vz4 HL.out H2.out.2)
  clear hdb hD hb2 H1
  try dsimp only
  obtain ⟨z0, z1, z2, z3, z4, z5⟩ := Zz8 H2.out.1
  unfold ptrV at hMT
  go_wp2_with fail
  refine hMT.mono ?_
  clear hMT z0 z1 z2 z3 z4 z5
  rintro e w3 ⟨⟨vb, lv, bb, t1, t2, t3, rfl, hvb, hV⟩, hG, hv, hk⟩
  have H3 := hZ (And.intro hV (And.intro hG (And.intro hv ((Keeps.of_below H2.out.2).trans hk))))
  clear hV hG hv hk hvb H2
  try dsimp only
  go_wp2_with fail
  go_ret
  exact ⟨⟨vb, lv, bb, t1, t2, t3, db, rfl, H3.out.1, H3.out.2.1, H3.out.2.2.1⟩, H3.out.2.2.2⟩
def P1 (i : Nat) (st' : Nat → Int) (blk' : Nat → List Int) (E' : Nat → Option En) : Prop := ∃ s : Nat, s < 48 ∧ st' = (fun t => if t = s then 1 else 0) ∧ blk' s = blk7 ∧ E' = setM (fun _ => none) i (some (shaF blk7, (s : Int), 1))
def P2 (i s : Nat) (i' : Nat) (st' : Nat → Int) (blk' : Nat → List Int) (E' : Nat → Option En) : Prop := i' = i ∧ st' = (fun t => if t = s then 1 else 0) ∧ blk' s = blk7 ∧ E' = setM (fun _ => none) i (some (shaF blk7, (s : Int), 2))
section
variable {vb : Nat} {N : Nat → Prop} {lv : Value} {bb t1 t2 t3 : Nat} {B : BookS} {k : Nat} {r1 : Nat → Nat} {r2 : Nat → Nat → Nat}
theorem write_first (hl : B.lim k) (hk : k ≤ 9000) (ho : B.opn = none) (w : World) (h : VolS vb N C0 lv bb t1 t2 t3 B (fun _ => 0) (fun _ => zer 64) (fun _ => none) (fun _ _ _ => 0) r1 r2 w) (pb : Nat) (hrow : w.rangeAt pb 0 (v8 blk7)) (hpb : pb < w.heap.size) :
    Calls Tryz.prog 121 #[ptrV vb, .int .i64 ((0 : Nat) : Int), .int .i64 ((1 : Nat) : Int), .slice (some ⟨pb, 0, none⟩) 64 64] w (AllP vb N C0 lv bb t1 t2 t3 B k (fun _ _ _ => 0) 0 1 P1 w) := by
  have hc : B.cnt ≤ 40 := by rw [Wzh ho]; omega
  have hz : lkF r1 r2 + (if r1 0 = 0 then 1 else 0) + (if r2 0 (1 / 16) = 0 then 1 else 0) ≤ C0.nodes := by
    rw [h.mod.rad.need, needN_zero (fun _ _ _ _ _ _ => rfl)]
    show _ ≤ 30
    split <;> split <;> omega
  refine write_one (P := P1) (k := k) (by decide) (by decide) (by decide) blk7 rfl pb 0 64 (Nat.le_refl _) (by decide) w hrow hpb h (fun wx g c hb hr hg => ?_)
  refine all_one (P := P1) hc hl hk (by decide) (by decide) blk7 rfl g 0 c wx hr hg (h.below hb) (fun wy hb' => ?_)
  refine put_nil (P := P1) hc (by decide) (by decide) rfl hz blk7 rfl wy ((h.below hb).below hb') (fun wz hb'' => ?_)
  have hS := ((h.below hb).below hb').below hb''
  refine (want_new (C := C0) (E := fun _ => none) (st := fun _ => 0) hc blk7 blk7_ok blk7_nz (fun q e' _ hE => (by simp at hE)) ⟨0, by decide, rfl⟩ ⟨0, by decide, rfl⟩ wz hS).mono ?_
  rintro e w' ⟨⟨i, s, hi, _, hs, _, he, B', hV, h1, h2, h3⟩, hk'⟩
  exact ⟨⟨i, _, _, _, B', hi, he, hV, by omega, h2, h3, s, hs, rfl, if_pos rfl, rfl⟩, hk'⟩
theorem write_second {i s : Nat} {blk : Nat → List Int} (hi : i < 60) (hs : s < 48) (hb7 : blk s = blk7) (hl : B.lim k) (hk : k ≤ 9000) (ho : B.opn = none) (w : World) (h : VolS vb N C0 lv bb t1 t2 t3 B (fun t => if t = s then 1 else 0) blk (setM (fun _ => none) i (some (shaF blk7, (s : Int), 1))) (layM (fun _ _ _ => 0) 0 0 1 ((i : Int) + 1)) r1 r2 w) (pb : Nat) (hrow : w.rangeAt pb 0 (v8 blk7)) (hpb : pb < w.heap.size) :
    Calls Tryz.prog 121 #[ptrV vb, .int .i64 ((1 : Nat) : Int), .int .i64 ((2 : Nat) : Int), .slice (some ⟨pb, 0, none⟩) 64 64] w (AllP vb N C0 lv bb t1 t2 t3 B k (layM (fun _ _ _ => 0) 0 0 1 ((i : Int) + 1)) 1 2 (P2 i s) w) := by
  have hc : B.cnt ≤ 40 := by rw [Wzh ho]; omega
  have hx : (i : Int) + 1 ≠ 0 := by omega
  have hz : lkF r1 r2 + (if r1 1 = 0 then 1 else 0) + (if r2 1 (2 / 16) = 0 then 1 else 0) ≤ C0.nodes := by
    rw [h.mod.rad.need, needN_lay _ (by decide) (by decide) (by decide) _ hx, needN_zero (fun _ _ _ _ _ _ => rfl)]
    show _ ≤ 30
    unfold moreN
    split <;> split <;> split <;> split <;> omega
  have hone : ∀ q e', setM (fun _ => none) i (some (shaF blk7, (s : Int), (1 : Int))) q = some e' → q = i ∧ e' = (shaF blk7, (s : Int), 1) := fun q e' hE => by
    unfold setM at hE
    split at hE
    · cases hE; exact ⟨‹q = i›, rfl⟩
    · cases hE
  have hE : setM (fun _ => none) i (some (shaF blk7, (s : Int), (1 : Int))) i = some (shaF blk7, (s : Int), 1) := if_pos rfl
  refine write_one (P := P2 i s) (k := k) (by decide) (by decide) (by decide) blk7 rfl pb 0 64 (Nat.le_refl _) (by decide) w hrow hpb h (fun wx g c hb hr hg => ?_)
  refine all_one (P := P2 i s) hc hl hk (by decide) (by decide) blk7 rfl g 0 c wx hr hg (h.below hb) (fun wy hb' => ?_)
  refine put_nil (P := P2 i s) hc (by decide) (by decide) (if_neg (by decide)) hz blk7 rfl wy ((h.below hb).below hb') (fun wz hb'' => ?_)
  refine (want_old hc blk7 blk7_ok blk7_nz ⟨i, _, hi, hE, rfl, (by show (1 : Int) < 15; decide)⟩ (fun q e' _ hq _ _ => ?_) wz (((h.below hb).below hb').below hb'')).mono ?_
  · obtain ⟨_, rfl⟩ := hone q e' hq
    exact ⟨s, rfl, hs, if_pos rfl, hb7⟩
  rintro e w' ⟨⟨i', e', hi', hE', _, _, he, B', hV, h1, h2, h3⟩, hk'⟩
  obtain ⟨rfl, rfl⟩ := hone i' e' hE'
  refine ⟨⟨i', _, _, _, B', hi, he, hV, by omega, h2, h3, rfl, rfl, hb7, ?_⟩, hk'⟩
  funext q
  unfold setM
  split <;> rfl
theorem read_back {i s : Nat} {blk : Nat → List Int} (hi : i < 60) (hs : s < 48) (hb7 : blk s = blk7) (w : World) (h : VolS vb N C0 lv bb t1 t2 t3 B (fun t => if t = s then 1 else 0) blk (setM (fun _ => none) i (some (shaF blk7, (s : Int), 2))) (layM (layM (fun _ _ _ => 0) 0 0 1 ((i : Int) + 1)) 1 0 2 ((i : Int) + 1)) r1 r2 w) :
    Calls Tryz.prog 123 #[ptrV vb, .int .i64 ((1 : Nat) : Int), .int .i64 ((1 : Nat) : Int), .int .i64 ((2 : Nat) : Int)] w fun e w' => (∃ g c, e = .returned (.tuple #[.slice (some ⟨g, 0, none⟩) 128 c, .nilIface]) ∧ g < w'.heap.size ∧ w'.cell? ⟨g, 0, none⟩ = some (.int .u8 0) ∧ w'.cell? ⟨g, 64, none⟩ = some (.int .u8 7)) ∧ Below w.heap.size w w' := by
  have hE : setM (fun _ => none) i (some (shaF blk7, (s : Int), (2 : Int))) i = some (shaF blk7, (s : Int), 2) := if_pos rfl
  refine (vread_any (l := 1) (block := 1) (n := 2) (by decide) (by decide) (by decide) (by decide) (fun j => if j = 0 then 0 else (i : Int) + 1) (fun j => if j = 0 then zer 64 else blk7) (fun j _ => by split <;> rfl) w h (fun j hj wx hb => ?_) (fun j hj wx hb => ?_)).mono ?_
  · rcases (by omega : j = 0 ∨ j = 1) with rfl | rfl
    · exact (v_rget (h.below hb) (l := 1) (block := 1) (by decide) (by decide)).mono (fun e w' h1 => h1)
    · exact (v_rget (h.below hb) (l := 1) (block := 2) (by decide) (by decide)).mono (fun e w' h1 => h1)
  · rcases (by omega : j = 0 ∨ j = 1) with rfl | rfl
    · exact vblock_zero wx
    · have h2 := vblock_some (C := C0) (p := i) (s := s) hi hE rfl hs (if_pos rfl) (by rw [hb7]; exact blk7_ok) wx (h.below hb)
      rw [hb7] at h2
      exact h2
  · rintro e w' ⟨⟨a, c, rfl, ho⟩, hb⟩
    rcases ho.2 with ⟨hv, hn⟩ | ⟨g, cap, cur, hv, hgb, hgk, hn, hm, hs', ht⟩
    · cases hn
    · simp only [Value.slice.injEq] at hv
      obtain ⟨rfl, _, rfl⟩ := hv
      have hc := World.ownsRow.cells ho rfl
      exact ⟨⟨g, c, rfl, Zz0 hgk, hc 0 (.int .u8 0) (by kernel_rfl), hc 64 (.int .u8 7) (by kernel_rfl)⟩, hb⟩
end
set_option maxRecDepth 100000 in
set_option maxHeartbeats 4000000 in
theorem stands11_any (N : Nat → Prop) (w : World) (hN : ∀ i, N i → i < w.heap.size) :
    Calls Tryz.prog 49 #[] w fun e w' => e = .returned (.bool true) ∧ Keeps N w w' := by
  have HN := hZ hN
  have hPL := plain_any w
  clear hN
  go_enter Tryz.func49, Tryz.ntmps49
  go_wp2_with fail
  refine hPL.mono ?_
  clear hPL
  rintro e w1 ⟨⟨a, cap, rfl, hL⟩, hb1⟩
  have hFR := fresh11_any a cap w.heap.size N w1 (fun i hi => Nat.lt_of_lt_of_le (HN.out i hi) hb1.size) hL
  have HB1 := hZ hb1
  clear hL hb1
  try dsimp only
  go_wp2_with fail
  refine hFR.mono ?_
  clear hFR
  rintro e w2 ⟨⟨vb, lv, bb, t1, t2, t3, db, rfl, hV, hG, hv⟩, hk⟩
  have hfit : C0.fits (b0 db).n := by rw [hG.n]; exact C0_fits
  have H2 : Hid (VolS vb N C0 lv bb t1 t2 t3 (b0 db) (fun _ => 0) (fun _ => zer 64) (fun _ => none) (fun _ _ _ => 0) (fun _ => 0) (fun _ _ => 0) w2 ∧ Keeps N w w2) := hZ ⟨⟨hV, VolM.start C0 (b0 db) (fun i h5 h9 => by
    have h9' : i ≤ 155 := h9
    rw [hv i (by omega), if_neg (by omega)]), hfit⟩, (Keeps.of_below HB1.out).trans hk⟩
  have HLM := hZ hG.lim
  clear hV hG hv hk HB1 hfit
  have hBK := block11_any w2
  try dsimp only
  go_wp2_with fail
  refine hBK.mono ?_
  clear hBK
  rintro e w3 ⟨rfl, hr3, hl3, hb3⟩
  have hW1 := write_first HLM.out (by decide) (b0_opn db) w3 (H2.out.1.below hb3) w2.heap.size hr3 hl3
  have HK3 : Hid (Keeps N w w3) := hZ (H2.out.2.trans (Keeps.of_below hb3))
  clear hr3 hl3 hb3 H2
  unfold ptrV at *
  try dsimp only
  go_wp2_with fail
  refine hW1.mono ?_
  clear hW1
  rintro e w4 ⟨rfl, ⟨i, st', blk', E', B1, r1, r2, hi, hV4, ho4, hl4, hn4, s, hs, rfl, hb7, rfl⟩, hk4⟩
  have H4 := hZ (And.intro hV4 (HK3.out.trans hk4))
  have HO4 := hZ (And.intro ho4 hl4)
  have HB7 := hZ hb7
  have HIS : Hid (i < 60 ∧ s < 48) := hZ ⟨hi, hs⟩
  clear hV4 hk4 HK3 HLM ho4 hl4 hn4 hi hs hb7
  have hBK := block11_any w4
  try dsimp only
  go_wp2_with fail
  refine hBK.mono ?_
  clear hBK
  rintro e w5 ⟨rfl, hr5, hl5, hb5⟩
  have hW2 := write_second HIS.out.1 HIS.out.2 HB7.out HO4.out.2 (by decide) HO4.out.1 w5 (H4.out.1.below hb5) w4.heap.size hr5 hl5
  have HK5 : Hid (Keeps N w w5) := hZ (H4.out.2.trans (Keeps.of_below hb5))
  clear hr5 hl5 hb5 H4 HB7 HO4
  unfold ptrV at *
  try dsimp only
  go_wp2_with fail
  refine hW2.mono ?_
  clear hW2
  rintro e w6 ⟨rfl, ⟨i', st', blk2, E', B2, r1', r2', hi', hV6, ho6, hl6, hn6, rfl, rfl, hb7, rfl⟩, hk6⟩
  have H6 := hZ (And.intro hV6 (HK5.out.trans hk6))
  clear hV6 hk6 HK5 ho6 hl6 hn6 hi'
  have hRB := read_back HIS.out.1 HIS.out.2 hb7 w6 H6.out.1
  clear hb7
  unfold ptrV at *
  try dsimp only
  go_wp2_with fail
  refine hRB.mono ?_
  clear hRB
  rintro e w7 ⟨⟨g, c, rfl, hg, c0, c64⟩, hb7⟩
  have H7 := hZ (And.intro (H6.out.1.below hb7) (H6.out.2.trans (Keeps.of_below hb7)))
  have HC := hZ (And.intro hg (And.intro c0 c64))
  clear hb7 H6 hg c0 c64
  have hCT := vcount_any w7 H7.out.1
  rw [show C0.boxes * 4 = 48 from rfl, show C0.prints = 60 from rfl, cntS_one, if_pos HIS.out.2, cntM_one _ _ _ HIS.out.1] at hCT
  unfold ptrV at *
  try dsimp only
  go_wp2_with fail
  refine hCT.mono ?_
  clear hCT
  rintro e w8 ⟨⟨kk, rfl⟩, hb8⟩
  generalize cntS (fun t => if t = s then (1 : Int) else 0) 2 48 = n1
  generalize cntS (fun t => if t = s then (1 : Int) else 0) 0 48 = n2
  have HK8 : Hid (Keeps N w w8) := hZ (H7.out.2.trans (Keeps.of_below hb8))
  have HC8 := hZ (And.intro (Nat.lt_of_lt_of_le HC.out.1 hb8.size) (And.intro ((hb8.cell (p := ⟨g, 0, none⟩) HC.out.1).trans HC.out.2.1) ((hb8.cell (p := ⟨g, 64, none⟩) HC.out.1).trans HC.out.2.2)))
  clear hb8 H7 HC
  try dsimp only
  go_upto_region 6 with fail
  have hb0 : ∀ o : Obj, Below w8.heap.size w8 (w8.alloc o) := fun o => bZ
  refine Kz0 (fun wx => Hid (wx.heap[w8.heap.size]? = some (.cells #[.int .i64 1, .int .i64 (n1 : Int), .int .i64 (n2 : Int), .int .i64 1, .int .i64 (kk : Int)] 127) ∧ wx.cell? ⟨g, 0, none⟩ = some (.int .u8 0) ∧ wx.cell? ⟨g, 64, none⟩ = some (.int .u8 7) ∧ Keeps N w wx)) (hZ ⟨heap_alloc_new w8 _, ((hb0 _).cell (p := ⟨g, 0, none⟩) HC8.out.1).trans HC8.out.2.1, ((hb0 _).cell (p := ⟨g, 64, none⟩) HC8.out.1).trans HC8.out.2.2, HK8.out.trans (Keeps.of_below (hb0 _))⟩) ?_
  clear hb0 HC8 HK8
  generalize w8.heap.size = b6
  intro w9 H9
  obtain ⟨y0, y1, y2, y3, y4, _⟩ := five_cells H9.out.1
  have c0 := H9.out.2.1
  have c64 := H9.out.2.2.1
  go_wp2_with (go_at_call 55; refine (num11_nil _).mono ?_; rintro e wq ⟨rfl, rfl⟩; try dsimp only)
  go_ret
  exact ⟨rfl, H9.out.2.2.2⟩
end Go.Proofs.YtajmcplanlibnaaGreatDoor
