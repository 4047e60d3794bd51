/- A depot at whatever place of a book in order: what each call makes of it, by the states of its slots. -/
import Derived.Test.YtajmcplanlibnaaGreatDoorKU0
import Derived.Test.YtajmcplanlibnaaGreatDoorKUg
import Derived.Test.YtajmcplanlibnaaGreatDoorKA0
set_option linter.unusedSimpArgs false
set_option linter.unusedVariables false
set_option linter.unnecessarySimpa false
namespace Go.Proofs.YtajmcplanlibnaaGreatDoor
open Go.RowKit Go.Maps
set_option maxRecDepth 100000 in
theorem dPut_full (tb : Nat) (N : Nat → Prop) (bb first n : Nat) (B : BookS) (hn : first + n * 5 ≤ B.n) (p : List Int) (hp : PgOk p) (hk : (bestF B first (-1) n).1 < 0) (w : World) (h : HolI 215 w tb N bb first n B) :
    Calls Tryz.prog 46 #[.pointer (some ⟨tb, 0, none⟩), .agg (v8a p)] w fun e w' => (∃ t x, e = .returned (.tuple #[.int .i64 0, .iface t x]) ∧ ErrV w' (.iface t x) 20) ∧ Below w.heap.size w w' := by
  have HP := Lib.hid (fun wx hh => dput_full tb N bb first n B hn p hp (-1) hk wx hh)
  have HT := Lib.hid h
  have hp64 := hp.1
  clear h hk
  have hb0 : ∀ o : Obj, Below w.heap.size w (w.alloc o) := fun o => (Below.refl _ _).alloc (Nat.le_refl _) _
  go_enter Tryz.func46, Tryz.ntmps46
  repeat ((fail_if_success (with_reducible refine stop_at 6 rfl ?_)); (first | go_values | go_skip | go_guarded | go_step | go_upon))
  refine gen_world (fun wx => Hid (wx.heap[w.heap.size]? = some (.cells (v8a p) 37) ∧ Below w.heap.size w wx)) (Lib.hid ⟨heap_alloc_new w (.cells (v8a p) 37), hb0 _⟩) ?_
  intro w1 H1
  clear hb0
  go_wp2_with (refine page_load rfl (.tmp 3) rfl w.heap.size p rfl H1.out.1 hp64 ?_)
  refine (HP.out w1 (HT.out.below H1.out.2)).mono ?_
  rintro e w2 ⟨⟨t, x, rfl, he⟩, hb⟩
  have H2 := Lib.hid (And.intro he (H1.out.2.trans (hb.mono H1.out.2.size)))
  clear he hb
  try dsimp only
  go_wp2_with fail
  go_ret2
  exact ⟨⟨t, x, rfl, H2.out.1⟩, H2.out.2⟩
/-- A head's first byte is a state. -/
theorem head_tame {fs : Nat} {B : BookS} {n : Nat} {st : Nat → Int} {blk : Nat → List Int} (h : DpI fs B n st blk) (hok : B.ok) (hn : fs + n * 5 ≤ B.n) {s : Nat} (hs : s < n * 4) (v : Int) (hv : v = 1 ∨ v = 2) : Tame (setDF (B.view (fs + s / 4 * 5)) (s % 4) v) := by
  have hl : (B.view (fs + s / 4 * 5)).length = 64 := (BookS.view_ok hok _ (by omega)).1
  have hst : ∀ i, i < 4 → (B.view (fs + s / 4 * 5)).getD i 0 = 0 ∨ (B.view (fs + s / 4 * 5)).getD i 0 = 1 ∨ (B.view (fs + s / 4 * 5)).getD i 0 = 2 := fun i hi => by
    rw [← stD_box B _ i hi, h.hst _ (by omega)]
    exact h.rng _ (by omega)
  left
  rcases hv with rfl | rfl
  · rw [setDF_one hl _ (by omega)]
    have := hst 0 (by omega)
    split <;> omega
  · have := (setDF_two hl (s % 4) (by omega) hst 0 (by omega)).1
    omega
theorem putB_ok {fs : Nat} {B : BookS} (h : B.ok) {k : Nat} (hk : fs + k / 4 * 5 + 1 + k % 4 < B.n) {p : List Int} (hp : PgOk p) : (putB fs B k p).ok := by
  unfold putB
  refine BookS.wrote_ok (BookS.wrote_ok h (by omega) (setDF_ok (BookS.view_ok h _ (by omega)) _ _ (by decide))) ?_ hp
  rw [BookS.wrote_n]; exact hk
theorem dropB_ok {fs : Nat} {B : BookS} (h : B.ok) {k : Nat} (hk : fs + k / 4 * 5 < B.n) : (dropB fs B k).ok := by
  unfold dropB
  exact BookS.wrote_ok h hk (setDF_ok (BookS.view_ok h _ (by omega)) _ _ (by decide))
theorem GdT.put {g : Geo} {B : BookS} {n k : Nat} {st : Nat → Int} {blk : Nat → List Int} (h : GdT B g k) (hd : DpI g.fs B n st blk) (hn : g.fs + n * 5 ≤ g.n) (h256 : g.fs + n * 5 ≤ 256) {s : Nat} (hs : s < n * 4) {p : List Int} (hp : PgOk p) (ht : Tame p) : GdT (putB g.fs B s p) g k := by
  have hBn := h.1.n
  have hok := h.1.ok
  unfold putB
  have h1 := h.wrote (i := g.fs + s / 4 * 5) (by omega) (setDF_ok (BookS.view_ok hok (g.fs + s / 4 * 5) (by omega)) (s % 4) 1 (by decide)) (by omega) (head_tame hd hok (by omega) hs 1 (.inl rfl))
  exact h1.wrote (by rw [BookS.wrote_n]; omega) hp (by omega) ht
theorem GdT.drop {g : Geo} {B : BookS} {n k : Nat} {st : Nat → Int} {blk : Nat → List Int} (h : GdT B g k) (hd : DpI g.fs B n st blk) (hn : g.fs + n * 5 ≤ g.n) (h256 : g.fs + n * 5 ≤ 256) {s : Nat} (hs : s < n * 4) : GdT (dropB g.fs B s) g k := by
  have hBn := h.1.n
  have hok := h.1.ok
  unfold dropB
  exact h.wrote (by omega) (setDF_ok (BookS.view_ok hok _ (by omega)) _ _ (by decide)) (by omega) (head_tame hd hok (by omega) hs 2 (.inr rfl))
theorem putB_shut (fs : Nat) (B : BookS) (s : Nat) (p : List Int) : (putB fs B s p).shut = B.shut := by unfold putB; rw [BookS.wrote_shut, BookS.wrote_shut]
theorem dropB_shut (fs : Nat) (B : BookS) (s : Nat) : (dropB fs B s).shut = B.shut := by unfold dropB; rw [BookS.wrote_shut]
theorem putB_cnt {fs : Nat} {B : BookS} {s : Nat} (hs : fs + s / 4 * 5 + 1 + s % 4 < B.n) (p : List Int) : (putB fs B s p).cnt ≤ B.cnt + 2 := by
  have c1 := BookS.wrote_cnt B (fs + s / 4 * 5) (setDF (B.view (fs + s / 4 * 5)) (s % 4) 1) (by omega)
  have c2 := BookS.wrote_cnt (B.wrote (fs + s / 4 * 5) (setDF (B.view (fs + s / 4 * 5)) (s % 4) 1)) (fs + s / 4 * 5 + 1 + s % 4) p (by rw [BookS.wrote_n]; omega)
  unfold putB
  omega
theorem dropB_cnt {fs : Nat} {B : BookS} {s : Nat} (hs : fs + s / 4 * 5 < B.n) : (dropB fs B s).cnt ≤ B.cnt + 1 := by
  have c1 := BookS.wrote_cnt B (fs + s / 4 * 5) (setDF (B.view (fs + s / 4 * 5)) (s % 4) 2) (by omega)
  unfold dropB
  omega
/-- The slot of a put: free, and of a container that is begun, if there is one. -/
def MayS (st : Nat → Int) (n : Nat) (but : Int) (s : Nat) : Prop :=
  s < n * 4 ∧ st s = 0 ∧ ((s / 4 : Nat) : Int) ≠ but ∧ ((∃ t, t < 4 ∧ st (s / 4 * 4 + t) ≠ 0) ∨ ∀ b, b < n → (b : Int) ≠ but → (∃ t, t < 4 ∧ st (b * 4 + t) = 0) → ∀ t, t < 4 → st (b * 4 + t) = 0)
theorem best_may {fs n : Nat} {st : Nat → Int} {blk : Nat → List Int} {B : BookS} (h : DpI fs B n st blk) (but : Int) {s : Nat} (hs : (bestF B fs but n).1 = (s : Int)) : MayS st n but s := by
  obtain ⟨h1, h2, h3⟩ := best_spec B but n s hs
  have hst : ∀ b t, b < n → t < 4 → stD fs B (b * 4 + t) = st (b * 4 + t) := fun b t hb ht => h.hst _ (by omega)
  obtain ⟨b1, b2⟩ := best_begun B but n s hs
  refine ⟨h1, by rw [← h.hst s h1]; exact h2, h3, ?_⟩
  cases hf : (bestF B fs but n).2 with
  | true =>
    obtain ⟨t, ht, hne⟩ := b1.1 hf
    exact .inl ⟨t, ht, by rw [← hst _ t (by omega) ht]; exact hne⟩
  | false =>
    right
    intro b hb hbut ⟨t, ht, h0⟩ t' ht'
    rw [← hst b t' hb ht']
    exact b2 hf b hb hbut ⟨t, ht, by rw [hst b t hb ht]; exact h0⟩ t' ht'
section
variable {N : Nat → Prop} {tb bb n fs : Nat} {st : Nat → Int} {blk : Nat → List Int} {wx : World} {B : BookS}
theorem hd_put (hn : fs + n * 5 ≤ B.n) (hc : B.cnt ≤ 50) (p : List Int) (hp : PgOk p) (hfree : ∃ s, s < n * 4 ∧ st s = 0) (h1 : HolI 215 wx tb N bb fs n B) (h2 : DpI fs B n st blk) :
    Calls Tryz.prog 46 #[.pointer (some ⟨tb, 0, none⟩), .agg (v8a p)] wx fun e wy => (∃ s : Nat, e = .returned (.tuple #[.int .i64 (s : Int), .nilIface]) ∧ MayS st n (-1) s ∧ HolI 215 wy tb N bb fs n (putB fs B s p) ∧ DpI fs (putB fs B s p) n (fun t => if t = s then 1 else st t) (fun t => if t = s then p else blk t)) ∧ Keeps N wx wy := by
  have hr := bestF_range B fs (-1) n
  obtain ⟨s, hs⟩ : ∃ s : Nat, (bestF B fs (-1) n).1 = (s : Int) := by
    by_cases h0 : (bestF B fs (-1) n).1 < 0
    · obtain ⟨s, hs, hz⟩ := hfree
      have := best_none B (-1) n h0 s hs (by rw [h2.hst s hs]; exact hz)
      omega
    · exact ⟨(bestF B fs (-1) n).1.toNat, by omega⟩
  have hm := best_may h2 (-1) hs
  have hs4 := hm.1
  have c1 := BookS.wrote_cnt B (fs + s / 4 * 5) (setDF (B.view (fs + s / 4 * 5)) (s % 4) 1) (by omega)
  refine (dPut_any tb N bb fs n B hn p hp s hs (wrOk_le hc (by omega) _ _) (wrOk_le (k := 51) (by omega) (by omega) _ _) wx h1).mono ?_
  rintro e wy ⟨rfl, hH, hk⟩
  exact ⟨⟨s, rfl, hm, hH, h2.put h1.2.1.isOk hn hs4 p⟩, hk⟩
theorem hd_full (hn : fs + n * 5 ≤ B.n) (p : List Int) (hp : PgOk p) (hno : ∀ s, s < n * 4 → st s ≠ 0) (h1 : HolI 215 wx tb N bb fs n B) (h2 : DpI fs B n st blk) :
    Calls Tryz.prog 46 #[.pointer (some ⟨tb, 0, none⟩), .agg (v8a p)] wx fun e wy => (∃ t x, e = .returned (.tuple #[.int .i64 0, .iface t x]) ∧ ErrV wy (.iface t x) 20) ∧ Below wx.heap.size wx wy := by
  have hr := bestF_range B fs (-1) n
  refine dPut_full tb N bb fs n B hn p hp ?_ wx h1
  apply Classical.byContradiction
  intro h0
  obtain ⟨s, hs⟩ : ∃ s : Nat, (bestF B fs (-1) n).1 = (s : Int) := ⟨(bestF B fs (-1) n).1.toNat, by omega⟩
  have hm := best_may h2 (-1) hs
  exact hno s hm.1 hm.2.1
theorem hd_get (hn : fs + n * 5 ≤ B.n) {s : Nat} (hs : s < n * 4) (hl : st s = 1) (h1 : HolI 215 wx tb N bb fs n B) (h2 : DpI fs B n st blk) :
    Calls Tryz.prog 102 #[.pointer (some ⟨tb, 0, none⟩), .int .i64 (s : Int)] wx fun e wy => e = .returned (.tuple #[.agg (v8a (blk s)), .nilIface]) ∧ Below wx.heap.size wx wy := by
  rw [← h2.pg s hs hl]
  exact dget_any tb N bb fs n B s hs hn (by have := h2.hst s hs; unfold stD at this; rw [this]; exact hl) wx h1
theorem hd_drop (hn : fs + n * 5 ≤ B.n) (hc : B.cnt ≤ 55) {s : Nat} (hs : s < n * 4) (hl : st s = 1) (h1 : HolI 215 wx tb N bb fs n B) (h2 : DpI fs B n st blk) :
    Calls Tryz.prog 47 #[.pointer (some ⟨tb, 0, none⟩), .int .i64 (s : Int)] wx fun e wy => e = .returned .nilIface ∧ (HolI 215 wy tb N bb fs n (dropB fs B s) ∧ DpI fs (dropB fs B s) n (dropT st s) blk) ∧ Keeps N wx wy := by
  refine (ddrop_any tb N bb fs n B s hs hn (by have := h2.hst s hs; unfold stD at this; rw [this]; exact hl) (wrOk_le hc (by omega) _ _) wx h1).mono ?_
  rintro e wy ⟨rfl, hH, hk⟩
  exact ⟨rfl, ⟨hH, h2.drop h1.2.1.isOk hn hs⟩, hk⟩
theorem hd_count (hn : fs + n * 5 ≤ B.n) (h1 : HolI 215 wx tb N bb fs n B) (h2 : DpI fs B n st blk) :
    Calls Tryz.prog 103 #[.pointer (some ⟨tb, 0, none⟩)] wx fun e wy => e = .returned (.tuple #[.int .i64 (cntS st 1 (n * 4) : Nat), .int .i64 (cntS st 2 (n * 4) : Nat), .int .i64 (cntS st 0 (n * 4) : Nat), .nilIface]) ∧ Below wx.heap.size wx wy := by
  rw [← h2.count 1 (by omega), ← h2.count 2 (by omega), ← h2.count 0 (by omega)]
  exact dcount_any tb N bb fs n B hn wx h1
end
/-- A depot on a book in order, after so many commits, with at most so many pages under way. -/
def DepS (g : Geo) (N : Nat → Prop) (tb bb n k c : Nat) (st : Nat → Int) (blk : Nat → List Int) (wx : World) : Prop :=
  ∃ B, HolI 215 wx tb N bb g.fs n B ∧ DpI g.fs B n st blk ∧ B.cnt ≤ c ∧ GdT B g k ∧ (g.fs + n * 5 ≤ g.n ∧ g.fs + n * 5 ≤ 256) ∧ ∀ s, s < n * 4 → st s = 1 → Tame (blk s)
section
variable {g : Geo} {N : Nat → Prop} {tb bb n k c : Nat} {st : Nat → Int} {blk : Nat → List Int} {wx wy : World}
theorem DepS.below (h : DepS g N tb bb n k c st blk wx) (hb : Below wx.heap.size wx wy) : DepS g N tb bb n k c st blk wy := by
  obtain ⟨B, h1, h2⟩ := h
  exact ⟨B, h1.below hb, h2⟩
theorem DepS.keep {N' : Nat → Prop} (h : DepS g N tb bb n k c st blk wx) (hb : Below wx.heap.size wx wy) (hn : ∀ i, N' i → i < wy.heap.size ∧ (N i ∨ wx.heap.size ≤ i)) : DepS g N' tb bb n k c st blk wy := by
  obtain ⟨B, h1, h2⟩ := h
  exact ⟨B, h1.keep hb hn, h2⟩
theorem DepS.grow {N' : Nat → Prop} (h : DepS g N tb bb n k c st blk wx) (hk : Keeps (fun k => ¬ N k) wx wy) (hn : ∀ i, N' i → i < wy.heap.size ∧ (N i ∨ wx.heap.size ≤ i)) : DepS g N' tb bb n k c st blk wy := by
  obtain ⟨B, h1, h2⟩ := h
  exact ⟨B, h1.grow hk hn, h2⟩
theorem DepS.N_lt (h : DepS g N tb bb n k c st blk wx) : ∀ i, N i → i < wx.heap.size := by
  obtain ⟨B, h1, _⟩ := h
  exact h1.N_lt
theorem DepS.more {c' : Nat} (h : DepS g N tb bb n k c st blk wx) (hc : c ≤ c') : DepS g N tb bb n k c' st blk wx := by
  obtain ⟨B, h1, h2, h3, h4⟩ := h
  exact ⟨B, h1, h2, Nat.le_trans h3 hc, h4⟩
theorem DepS.rng (h : DepS g N tb bb n k c st blk wx) : ∀ s, s < n * 4 → st s = 0 ∨ st s = 1 ∨ st s = 2 := by
  obtain ⟨B, _, h2, _⟩ := h
  exact h2.rng
theorem DepS.live (h : DepS g N tb bb n k c st blk wx) : ∀ s, s < n * 4 → st s = 2 → ∃ t, t / 4 = s / 4 ∧ st t = 1 := by
  obtain ⟨B, _, h2, _⟩ := h
  exact h2.live
theorem dep_put (hc : c ≤ 50) (p : List Int) (hp : PgOk p) (ht : Tame p) (hfree : ∃ s, s < n * 4 ∧ st s = 0) (h : DepS g N tb bb n k c st blk wx) :
    Calls Tryz.prog 46 #[.pointer (some ⟨tb, 0, none⟩), .agg (v8a p)] wx fun e wy => (∃ s : Nat, e = .returned (.tuple #[.int .i64 (s : Int), .nilIface]) ∧ MayS st n (-1) s ∧ DepS g N tb bb n k (c + 2) (fun t => if t = s then 1 else st t) (fun t => if t = s then p else blk t) wy) ∧ Keeps N wx wy := by
  obtain ⟨B, h1, h2, h3, h4, ⟨h5, h6⟩, h7⟩ := h
  have hBn := h4.1.n
  refine (hd_put (by omega) (by omega) p hp hfree h1 h2).mono ?_
  rintro e wy ⟨⟨s, rfl, hm, hH, hD⟩, hk⟩
  have hs4 := hm.1
  refine ⟨⟨s, rfl, hm, ⟨putB g.fs B s p, hH, hD, by have := putB_cnt (fs := g.fs) (B := B) (s := s) (by omega) p; omega, h4.put h2 h5 h6 hs4 hp ht, ⟨h5, h6⟩, fun t ht' he => ?_⟩⟩, hk⟩
  show Tame (if t = s then p else blk t)
  have he' : (if t = s then 1 else st t) = 1 := he
  by_cases e : t = s
  · rw [if_pos e]; exact ht
  · rw [if_neg e] at he' ⊢; exact h7 t ht' he'
theorem dep_full (p : List Int) (hp : PgOk p) (hno : ∀ s, s < n * 4 → st s ≠ 0) (h : DepS g N tb bb n k c st blk wx) :
    Calls Tryz.prog 46 #[.pointer (some ⟨tb, 0, none⟩), .agg (v8a p)] wx fun e wy => (∃ t x, e = .returned (.tuple #[.int .i64 0, .iface t x]) ∧ ErrV wy (.iface t x) 20) ∧ Below wx.heap.size wx wy := by
  obtain ⟨B, h1, h2, h3, h4, ⟨h5, h6⟩, h7⟩ := h
  have hBn := h4.1.n
  exact hd_full (by omega) p hp hno h1 h2
theorem dep_get {s : Nat} (hs : s < n * 4) (hl : st s = 1) (h : DepS g N tb bb n k c st blk wx) :
    Calls Tryz.prog 102 #[.pointer (some ⟨tb, 0, none⟩), .int .i64 (s : Int)] wx fun e wy => e = .returned (.tuple #[.agg (v8a (blk s)), .nilIface]) ∧ Below wx.heap.size wx wy := by
  obtain ⟨B, h1, h2, h3, h4, ⟨h5, h6⟩, h7⟩ := h
  have hBn := h4.1.n
  exact hd_get (by omega) hs hl h1 h2
theorem dep_drop (hc : c ≤ 55) {s : Nat} (hs : s < n * 4) (hl : st s = 1) (h : DepS g N tb bb n k c st blk wx) :
    Calls Tryz.prog 47 #[.pointer (some ⟨tb, 0, none⟩), .int .i64 (s : Int)] wx fun e wy => e = .returned .nilIface ∧ DepS g N tb bb n k (c + 1) (dropT st s) blk wy ∧ Keeps N wx wy := by
  obtain ⟨B, h1, h2, h3, h4, ⟨h5, h6⟩, h7⟩ := h
  have hBn := h4.1.n
  refine (hd_drop (by omega) (by omega) hs hl h1 h2).mono ?_
  rintro e wy ⟨rfl, ⟨hH, hD⟩, hk⟩
  refine ⟨rfl, ⟨dropB g.fs B s, hH, hD, by have := dropB_cnt (fs := g.fs) (B := B) (s := s) (by omega); omega, h4.drop h2 h5 h6 hs, ⟨h5, h6⟩, fun t ht' he => h7 t ht' (dropT_one he)⟩, hk⟩
theorem dep_count (h : DepS g N tb bb n k c st blk wx) :
    Calls Tryz.prog 103 #[.pointer (some ⟨tb, 0, none⟩)] wx fun e wy => e = .returned (.tuple #[.int .i64 (cntS st 1 (n * 4) : Nat), .int .i64 (cntS st 2 (n * 4) : Nat), .int .i64 (cntS st 0 (n * 4) : Nat), .nilIface]) ∧ Below wx.heap.size wx wy := by
  obtain ⟨B, h1, h2, h3, h4, ⟨h5, h6⟩, h7⟩ := h
  have hBn := h4.1.n
  exact hd_count (by omega) h1 h2
theorem dep_commit (hk : k ≤ 9000) (hc : c ≤ 60) (h : DepS g N tb bb n k c st blk wx) :
    Calls Tryz.prog 17 #[.pointer (some ⟨bb, 0, none⟩)] wx fun e wy => e = .returned .nilIface ∧ DepS g N tb bb n (k + 1) 0 st blk wy ∧ Keeps N wx wy := by
  obtain ⟨B, h1, h2, h3, h4, ⟨h5, h6⟩, h7⟩ := h
  have hBn := h4.1.n
  refine (gcommit_any 215 tb N bb g.fs n B g k (by omega) (by omega) h4 wx h1).mono ?_
  rintro e wz ⟨rfl, hD, hG, hkz⟩
  exact ⟨rfl, ⟨B.done, hD, h2.congr (fun i _ hi => BookS.done_view_lim h4.1.ok h4.1.lim (by omega) i (by omega)), by rw [BookS.done_cnt]; exact Nat.le_refl _, hG, ⟨h5, h6⟩, h7⟩, hkz⟩
theorem dep_undo (h : DepS g N tb bb n k 0 st blk wx) :
    Calls Tryz.prog 15 #[.pointer (some ⟨bb, 0, none⟩)] wx fun e wy => e = .returned (.tuple #[]) ∧ DepS g N tb bb n k 0 st blk wy ∧ Keeps N wx wy := by
  obtain ⟨B, h1, h2, h3, h4, ⟨h5, h6⟩, h7⟩ := h
  have hBn := h4.1.n
  refine (hundo_any 215 tb N bb g.fs n B wx h1).mono ?_
  rintro e wz ⟨rfl, hD, hkz⟩
  refine ⟨rfl, ⟨B.shut, hD, h2.congr (fun i _ hi => ?_), by rw [BookS.shut_cnt]; exact Nat.le_refl _, h4.shut, ⟨h5, h6⟩, h7⟩, hkz⟩
  rw [BookS.shut_view, BookS.view_f, BookS.f_none h4.1.ok (by omega)]
end
end Go.Proofs.YtajmcplanlibnaaGreatDoor
set_option linter.unnecessarySimpa false
namespace Go.Proofs.YtajmcplanlibnaaGreatDoor
open Go.RowKit Go.Maps
/-- How many of four are of a state. -/
def cnt4 (g : Nat → Int) (v : Int) : Nat := (if g 0 = v then 1 else 0) + (if g 1 = v then 1 else 0) + (if g 2 = v then 1 else 0) + (if g 3 = v then 1 else 0)
/-- The states of a container. -/
def boxS (st : Nat → Int) (b : Nat) : Nat → Int := fun t => st (b * 4 + t)
theorem four_lt {t : Nat} (h : t < 4) : t = 0 ∨ t = 1 ∨ t = 2 ∨ t = 3 := by omega
theorem cnt4_le (g : Nat → Int) (v : Int) : cnt4 g v ≤ 4 := by
  unfold cnt4
  split <;> split <;> split <;> split <;> omega
theorem cnt4_zero (g : Nat → Int) (v : Int) : cnt4 g v = 0 ↔ ∀ t, t < 4 → g t ≠ v := by
  unfold cnt4
  constructor
  · intro h t ht
    rcases four_lt ht with rfl | rfl | rfl | rfl
    all_goals (intro e; simp only [e, if_true] at h; omega)
  · intro h
    rw [if_neg (h 0 (by omega)), if_neg (h 1 (by omega)), if_neg (h 2 (by omega)), if_neg (h 3 (by omega))]
theorem cnt4_four (g : Nat → Int) (v : Int) (h : ∀ t, t < 4 → g t = v) : cnt4 g v = 4 := by
  unfold cnt4
  rw [if_pos (h 0 (by omega)), if_pos (h 1 (by omega)), if_pos (h 2 (by omega)), if_pos (h 3 (by omega))]
theorem cnt4_lt (g : Nat → Int) (v : Int) (t : Nat) (ht : t < 4) (h : g t ≠ v) : cnt4 g v < 4 := by
  unfold cnt4
  rcases four_lt ht with rfl | rfl | rfl | rfl
  all_goals
    rw [if_neg h]
    repeat' split
    all_goals omega
theorem cnt4_congr {g g' : Nat → Int} (h : ∀ t, t < 4 → g t = g' t) (v : Int) : cnt4 g v = cnt4 g' v := by
  unfold cnt4
  rw [h 0 (by omega), h 1 (by omega), h 2 (by omega), h 3 (by omega)]
/-- The document's count: of a container, or (below 0) of all, among the first slots. -/
def cntR (st : Nat → Int) (box v : Int) : Nat → Nat
  | 0 => 0
  | m + 1 => cntR st box v m + (if (box < 0 ∨ ((m / 4 : Nat) : Int) = box) ∧ st m = v then 1 else 0)
theorem cntR_le (st : Nat → Int) (box v : Int) : ∀ m, cntR st box v m ≤ m
  | 0 => Nat.le_refl _
  | m + 1 => by
    have := cntR_le st box v m
    unfold cntR
    split <;> omega
theorem cntR_all (st : Nat → Int) (box v : Int) (hb : box < 0) : ∀ m, cntR st box v m = cntS st v m
  | 0 => rfl
  | m + 1 => by
    rw [cntR, cntR_all st box v hb m]
    unfold cntS
    rw [List.range_succ, List.filter_append, List.length_append]
    by_cases h : st m = v
    · rw [if_pos ⟨.inl hb, h⟩]; simp [h]
    · rw [if_neg (fun q => h q.2)]; simp [h]
theorem cntR_box (st : Nat → Int) (b : Nat) (v : Int) : ∀ n, cntR st (b : Int) v (n * 4) = if b < n then cnt4 (boxS st b) v else 0
  | 0 => by rw [if_neg (by omega)]; rfl
  | n + 1 => by
    rw [show (n + 1) * 4 = n * 4 + 1 + 1 + 1 + 1 by omega]
    unfold cntR cntR cntR cntR
    rw [cntR_box st b v n]
    simp only [show (n * 4) / 4 = n by omega, show (n * 4 + 1) / 4 = n by omega, show (n * 4 + 1 + 1) / 4 = n by omega, show (n * 4 + 1 + 1 + 1) / 4 = n by omega]
    have hb0 : ¬ ((b : Int) < 0) := by omega
    simp only [hb0, false_or]
    by_cases h : n = b
    · subst h
      simp only [true_and, if_neg (Nat.lt_irrefl n), if_pos (Nat.lt_succ_self n), Nat.zero_add]
      rfl
    · have h' : ¬ ((n : Int) = b) := by omega
      simp only [h', false_and, if_false, Nat.add_zero]
      by_cases hl : b < n
      · rw [if_pos hl, if_pos (by omega)]
      · rw [if_neg hl, if_neg (by omega)]
theorem cntS_box (st : Nat → Int) (v : Int) : ∀ n, (cntS st v (n * 4) = 0 ↔ ∀ b, b < n → cnt4 (boxS st b) v = 0) := by
  intro n
  constructor
  · intro h b hb
    rw [cnt4_zero]
    intro t ht e
    unfold cntS at h
    rw [List.length_eq_zero_iff, List.filter_eq_nil_iff] at h
    exact h (b * 4 + t) (List.mem_range.2 (by omega)) (by rw [decide_eq_true_eq]; exact e)
  · intro h
    refine count_none' st v _ (fun s hs e => ?_)
    refine (cnt4_zero _ _).1 (h (s / 4) (by omega)) (s % 4) (by omega) ?_
    unfold boxS
    rw [show s / 4 * 4 + s % 4 = s by omega]; exact e
where
  count_none' (st : Nat → Int) (v : Int) (m : Nat) (h : ∀ s, s < m → st s ≠ v) : cntS st v m = 0 := by
    unfold cntS
    rw [List.length_eq_zero_iff, List.filter_eq_nil_iff]
    intro s hs h'
    exact h s (List.mem_range.1 hs) (of_decide_eq_true h')
theorem cntS_three (st : Nat → Int) : ∀ m, (∀ s, s < m → st s = 0 ∨ st s = 1 ∨ st s = 2) → cntS st 1 m + cntS st 2 m + cntS st 0 m = m
  | 0, _ => rfl
  | m + 1, h => by
    have ih := cntS_three st m (fun s hs => h s (by omega))
    have e : ∀ v, cntS st v (m + 1) = cntS st v m + (if st m = v then 1 else 0) := fun v => by
      unfold cntS
      rw [List.range_succ, List.filter_append, List.length_append]
      by_cases h : st m = v
      · rw [if_pos h]; simp [h]
      · rw [if_neg h]; simp [h]
    rw [e 1, e 2, e 0]
    rcases h m (by omega) with q | q | q <;> rw [q] <;> simp <;> omega
/-- The worst container: that, and how many of its slots are dead. -/
def worstR (g : Nat → Nat → Int) : Nat → Nat × Nat
  | 0 => (0, 0)
  | b + 1 => if (worstR g b).2 < cnt4 (g b) 2 then (b, cnt4 (g b) 2) else worstR g b
theorem worstR_le (g : Nat → Nat → Int) : ∀ n, (worstR g n).2 ≤ 4 ∧ (worstR g n).1 ≤ n
  | 0 => ⟨by show 0 ≤ 4; omega, Nat.le_refl _⟩
  | b + 1 => by
    have ih := worstR_le g b
    have h4 := cnt4_le (g b) 2
    unfold worstR
    split
    · exact ⟨h4, by show b ≤ b + 1; omega⟩
    · exact ⟨ih.1, by omega⟩
theorem worstR_lt (g : Nat → Nat → Int) : ∀ n, 1 ≤ n → (worstR g n).1 < n
  | 0, h => by omega
  | b + 1, _ => by
    unfold worstR
    split
    · show b < b + 1; omega
    · have := (worstR_le g b).2; omega
theorem worstR_is (g : Nat → Nat → Int) : ∀ n, 0 < (worstR g n).2 → cnt4 (g (worstR g n).1) 2 = (worstR g n).2
  | 0, h => absurd (show 0 < 0 from h) (Nat.lt_irrefl 0)
  | b + 1, h => by
    unfold worstR at h ⊢
    split at h
    · rename_i q; rw [if_pos q]
    · rename_i q; rw [if_neg q]; exact worstR_is g b h
theorem worstR_zero (g : Nat → Nat → Int) : ∀ n, ((worstR g n).2 = 0 ↔ ∀ b, b < n → cnt4 (g b) 2 = 0)
  | 0 => ⟨fun _ b hb => by omega, fun _ => rfl⟩
  | n + 1 => by
    have ih := worstR_zero g n
    unfold worstR
    split
    · rename_i q
      constructor
      · intro h
        have h' : cnt4 (g n) 2 = 0 := h
        omega
      · intro h
        show cnt4 (g n) 2 = 0
        exact h n (by omega)
    · rename_i q
      rw [ih]
      constructor
      · intro h b hb
        by_cases e : b = n
        · subst e
          have := ih.2 h; omega
        · exact h b (by omega)
      · intro h b hb; exact h b (by omega)
theorem worstR_congr {g g' : Nat → Nat → Int} : ∀ n, (∀ b t, b < n → t < 4 → g b t = g' b t) → worstR g n = worstR g' n
  | 0, _ => rfl
  | n + 1, h => by
    unfold worstR
    rw [worstR_congr n (fun b t hb ht => h b t (by omega) ht), cnt4_congr (fun t ht => h n t (by omega) ht)]
/-- The live slots of a container, among its first k. -/
def slots4 (g : Nat → Int) (b k : Nat) : List Nat := ((List.range k).filter fun t => decide (g t = 1)).map (b * 4 + ·)
theorem slots4_succ (g : Nat → Int) (b k : Nat) : slots4 g b (k + 1) = if g k = 1 then slots4 g b k ++ [b * 4 + k] else slots4 g b k := by
  unfold slots4
  rw [List.range_succ, List.filter_append, List.map_append]
  by_cases h : g k = 1
  · rw [if_pos h]; simp [h]
  · rw [if_neg h]; simp [h]
theorem slots4_le (g : Nat → Int) (b k : Nat) : (slots4 g b k).length ≤ k := by
  unfold slots4
  rw [List.length_map]
  exact Nat.le_trans (List.length_filter_le _ _) (by simp)
theorem slots4_congr {g g' : Nat → Int} (b : Nat) : ∀ k, (∀ t, t < k → g t = g' t) → slots4 g b k = slots4 g' b k
  | 0, _ => rfl
  | k + 1, h => by rw [slots4_succ, slots4_succ, slots4_congr b k (fun t ht => h t (by omega)), h k (by omega)]
theorem slots4_pos (g : Nat → Int) (b : Nat) (t : Nat) (ht : t < 4) (h : g t = 1) : 0 < (slots4 g b 4).length := by
  unfold slots4
  rw [List.length_map]
  exact List.length_pos_of_mem (List.mem_filter.2 ⟨List.mem_range.2 ht, by rw [decide_eq_true_eq]; exact h⟩)
theorem slots4_rng (g : Nat → Int) (b k : Nat) : ∀ x ∈ slots4 g b k, x < b * 4 + k := fun x hx => by
  unfold slots4 at hx
  obtain ⟨t, h1, rfl⟩ := List.mem_map.1 hx
  have := List.mem_range.1 (List.mem_filter.1 h1).1
  omega
/-- Numbers, as values. -/
def intsN (l : List Nat) : List Value := l.map fun i : Nat => .int .i64 (i : Int)
/-- Is a slot free, but for a container? -/
def roomR (st : Nat → Int) (but : Int) (m : Nat) : Bool := (List.range m).any fun s => decide (st s = 0) && decide (((s / 4 : Nat) : Int) ≠ but)
theorem roomR_iff (st : Nat → Int) (but : Int) (m : Nat) : roomR st but m = true ↔ ∃ s, s < m ∧ st s = 0 ∧ ((s / 4 : Nat) : Int) ≠ but := by
  unfold roomR
  rw [List.any_eq_true]
  constructor
  · rintro ⟨s, hs, h⟩
    rw [Bool.and_eq_true, decide_eq_true_eq, decide_eq_true_eq] at h
    exact ⟨s, List.mem_range.1 hs, h⟩
  · rintro ⟨s, hs, h⟩
    exact ⟨s, List.mem_range.2 hs, by rw [Bool.and_eq_true, decide_eq_true_eq, decide_eq_true_eq]; exact h⟩
theorem roomR_none (st : Nat → Int) (but : Int) (m : Nat) (h : roomR st but m = false) (s : Nat) (hs : s < m) (h0 : st s = 0) : ((s / 4 : Nat) : Int) = but := by
  apply Classical.byContradiction
  intro hne
  have := (roomR_iff st but m).2 ⟨s, hs, h0, hne⟩
  rw [h] at this; cases this
theorem roomR_succ (st : Nat → Int) (but : Int) (m : Nat) : roomR st but (m + 1) = (roomR st but m || (decide (st m = 0) && decide (((m / 4 : Nat) : Int) ≠ but))) := by
  unfold roomR
  rw [List.range_succ, List.any_append]
  simp
/-- One slot set; the first ones of a container free. -/
def stSet (st : Nat → Int) (k : Nat) (v : Int) : Nat → Int := fun s => if s = k then v else st s
def stClr (st : Nat → Int) (k i : Nat) : Nat → Int := fun s => if s / 4 = k / 4 ∧ s % 4 < i then 0 else st s
theorem stClr_zero (st : Nat → Int) (k : Nat) : stClr st k 0 = st := by
  funext s
  unfold stClr
  rw [if_neg (by omega)]
theorem stClr_succ (st : Nat → Int) (k i : Nat) (hi : i < 4) : stSet (stClr st k i) (k / 4 * 4 + i) 0 = stClr st k (i + 1) := by
  funext s
  unfold stSet stClr
  by_cases h : s = k / 4 * 4 + i
  · rw [if_pos h, if_pos (by omega)]
  · rw [if_neg h]
    by_cases h2 : s / 4 = k / 4 ∧ s % 4 < i
    · rw [if_pos h2, if_pos (by omega)]
    · rw [if_neg h2, if_neg (by omega)]
theorem cnt4_drop (st : Nat → Int) (k : Nat) : cnt4 (boxS (stSet st k 2) (k / 4)) 1 = 0 ↔ othB st k = false := by
  rw [cnt4_zero]
  constructor
  · intro h
    cases ho : othB st k with
    | false => rfl
    | true =>
      exfalso
      obtain ⟨t, ht, h1, h2⟩ := (othB_iff st k).1 ho
      refine h t ht ?_
      unfold boxS stSet
      rw [if_neg (by omega)]; exact h2
  · intro h t ht e
    unfold boxS stSet at e
    split at e
    · omega
    · rename_i hne
      have := (othB_iff st k).2 ⟨t, ht, by omega, e⟩
      rw [h] at this; cases this
theorem dropT_stay (st : Nat → Int) (k : Nat) (h : othB st k = true) : dropT st k = stSet st k 2 := by
  funext s
  unfold dropT stSet
  rw [if_pos h]
  by_cases e : s = k
  · rw [if_pos (by rw [e]), if_pos e]
  · rw [if_neg e]
    split <;> rfl
theorem dropT_free (st : Nat → Int) (k : Nat) (h : othB st k = false) : dropT st k = stClr (stSet st k 2) k 4 := by
  funext s
  unfold dropT stClr stSet
  rw [h]
  by_cases e : s / 4 = k / 4
  · rw [if_pos e, if_neg (by decide), if_pos (And.intro e (by omega))]
  · rw [if_neg e, if_neg (fun q => e q.1), if_neg (fun q => e (by rw [q]))]
end Go.Proofs.YtajmcplanlibnaaGreatDoor
set_option linter.unnecessarySimpa false
namespace Go.Proofs.YtajmcplanlibnaaGreatDoor
open Go.RowKit Go.Maps
/-- The states of a container, as its head has them. -/
def boxV (B : BookS) (first b : Nat) : Nat → Int := fun t => (B.view (first + b * 5)).getD t 0
/-- How many of the first k of four are of a state. -/
def cntK (g : Nat → Int) (v : Int) : Nat → Nat
  | 0 => 0
  | k + 1 => cntK g v k + (if g k = v then 1 else 0)
theorem cntK_le (g : Nat → Int) (v : Int) : ∀ k, cntK g v k ≤ k
  | 0 => Nat.le_refl _
  | k + 1 => by
    have := cntK_le g v k
    unfold cntK
    split <;> omega
theorem cntK_four (g : Nat → Int) (v : Int) : cntK g v 4 = cnt4 g v := by
  unfold cnt4 cntK cntK cntK cntK cntK
  omega
set_option maxRecDepth 100000 in
set_option maxHeartbeats 4000000 in
theorem dworst_any (tb : Nat) (N : Nat → Prop) (bb first n : Nat) (B : BookS) (hn : first + n * 5 ≤ B.n) (w : World) (h : HolI 215 w tb N bb first n B) :
    Calls Tryz.prog 115 #[.pointer (some ⟨tb, 0, none⟩)] w fun e w' => e = .returned (.tuple #[.int .i64 ((worstR (boxV B first) n).1 : Nat), .int .i64 ((worstR (boxV B first) n).2 : Nat), .nilIface]) ∧ Below w.heap.size w w' := by
  have HT := Lib.hid h
  have hok := h.2.1.isOk
  have hn2 := hok.n.2
  have HV : Hid (∀ i, i < n → PgOk (B.view (first + i * 5))) := Lib.hid (fun i hi => BookS.view_ok hok _ (by omega))
  have hrp := Lib.hid (fun wx (hb : Below w.heap.size w wx) (i : Nat) (hi : i < n) => dhead_any tb N bb first n B i (by omega) wx (HT.out.below hb))
  obtain ⟨z0, z1, z2⟩ := blk3 h.1
  clear h hok
  have hn0 : (0 : Int) ≤ n := by omega
  have hn3 : (n : Int) ≤ 2048 := by omega
  go_enter Tryz.func115, Tryz.ntmps115
  go_wp2_with fail
  clear z0 z1 z2
  go_loopw [5, 6, 21] (fun bv mv iv wr => ∃ (i x y : Nat), iv = .int .i64 (i : Int) ∧ i ≤ n ∧ bv = .int .i64 (x : Int) ∧ mv = .int .i64 (y : Int) ∧ Hid (worstR (boxV B first) i = (x, y)) ∧ Hid (Below w.heap.size w wr)) (fun _ _ iv _ => n + 1 - (intOf iv).toNat)
  case atStart => exact ⟨0, 0, 0, rfl, by omega, rfl, rfl, Lib.hid rfl, Lib.hid (Below.refl _ _)⟩
  case round =>
    obtain ⟨i, x, y, rfl, hi, rfl, rfl, HXY, HB⟩ := hrel
    by_cases hlt : i < n
    · have hi1 : (i : Int) < n := by omega
      have hi0 : (0 : Int) ≤ i := by omega
      have hxl : x ≤ 2048 := by have h := (worstR_le (boxV B first) i).2; rw [HXY.out] at h; have h' : x ≤ i := h; omega
      have hyl : y ≤ 4 := by have h := (worstR_le (boxV B first) i).1; rw [HXY.out] at h; exact h
      have HNX : Hid (worstR (boxV B first) (i + 1) = if y < cntK (boxV B first i) 2 4 then (i, cntK (boxV B first i) 2 4) else (x, y)) := Lib.hid (by rw [worstR, HXY.out, cntK_four])
      have hp := hrp.out wr HB.out i hlt
      have HPK := Lib.hid (HV.out i hlt)
      have HG : Hid (∀ t, boxV B first i t = (B.view (first + i * 5)).getD t 0) := Lib.hid (fun t => rfl)
      generalize boxV B first i = g at HNX HG
      generalize B.view (first + i * 5) = pg at hp HPK HG
      have hq64 := HPK.out.1
      clear HXY
      go_wp2_with fail
      refine hp.mono ?_
      clear hp
      rintro e w2 ⟨rfl, hb2⟩
      have H2 := Lib.hid (HB.out.trans (hb2.mono HB.out.size))
      clear hb2 HB
      try dsimp only
      repeat ((fail_if_success (with_reducible refine stop_at 30 rfl ?_)); (first | (refine page_store rfl (.tmp 8) (.tmp 28) rfl w2.heap.size pg (zer 64) rfl rfl (heap_alloc_new w2 _) hq64 rfl ?_) | go_values | go_skip | go_guarded | go_step | go_upon))
      have hbx : ∀ o : Obj, Below w2.heap.size w2 ((w2.alloc o).setRow w2.heap.size (v8a pg)) := fun o => below_setRow ((Below.refl _ _).alloc (Nat.le_refl _) _) (Nat.le_refl _) _
      refine gen_world (fun wx => Hid (wx.heap[w2.heap.size]? = some (.cells (v8a pg) 37) ∧ Below w.heap.size w wx)) (Lib.hid ⟨setRow_heap _ _ _ _ _ (0, 0) (heap_alloc_new w2 _), H2.out.trans ((hbx _).mono H2.out.size)⟩) ?_
      clear hbx H2
      generalize w2.heap.size = b8
      intro w3 H3
      go_wp2_with fail
      go_loopw [10, 36] (fun cv jv wr' => ∃ j c : Nat, jv = .int .i64 (j : Int) ∧ j ≤ 4 ∧ cv = .int .i64 (c : Int) ∧ Hid (cntK g 2 j = c) ∧ wr' = w3) (fun _ jv _ => 5 - (intOf jv).toNat)
      case atStart => exact ⟨0, 0, rfl, by omega, rfl, Lib.hid rfl, rfl⟩
      case round =>
        obtain ⟨j, c, rfl, hj, rfl, HC, rfl⟩ := hrel
        have hc4 : c ≤ 4 := by have h := cntK_le g 2 j; rw [HC.out] at h; omega
        by_cases hjt : j < 4
        · have hj1 : (j : Int) < 4 := by omega
          have hj0 : (0 : Int) ≤ j := by omega
          obtain ⟨c0, f0⟩ := v8_cell H3.out.1 j (by omega)
          rw [← HG.out j] at c0
          have HS : Hid (cntK g 2 (j + 1) = c + (if g j = 2 then 1 else 0)) := Lib.hid (by rw [cntK, HC.out])
          generalize g j = b at c0 HS
          by_cases q : b = 2
          · subst q
            rw [if_pos rfl] at HS
            go_wp2_with fail
            exact ⟨⟨j + 1, c + 1, by push_cast; rfl, by omega, by push_cast; rfl, HS, (by first | trivial | rfl)⟩, by simp [intOf]; omega⟩
          · rw [if_neg q] at HS
            go_wp2_with fail
            exact ⟨⟨j + 1, c, by push_cast; rfl, by omega, rfl, HS, (by first | trivial | rfl)⟩, by simp [intOf]; omega⟩
        · have hj1 : ¬ ((j : Int) < 4) := by omega
          obtain rfl : j = 4 := by omega
          have hC := HC.out
          rw [hC] at HNX
          have H4 := Lib.hid H3.out.2
          clear hC HC HG H3 hjt hj
          by_cases q : y < c
          · rw [if_pos q] at HNX
            have q1 : (y : Int) < c := by omega
            go_wp2_with fail
            exact ⟨⟨i + 1, i, c, by push_cast; rfl, by omega, rfl, rfl, HNX, H4⟩, by simp [intOf]; omega⟩
          · rw [if_neg q] at HNX
            have q1 : ¬ ((y : Int) < c) := by omega
            go_wp2_with fail
            exact ⟨⟨i + 1, x, y, by push_cast; rfl, by omega, rfl, rfl, HNX, H4⟩, by simp [intOf]; omega⟩
    · have hi1 : ¬ ((i : Int) < n) := by omega
      have HIN : Hid (i = n) := Lib.hid (by omega)
      clear hlt hi
      go_wp2_with fail
      have h := HXY.out
      rw [HIN.out] at h
      rw [h]
      refine bodyPost_ret (v := .tuple #[.int .i64 (x : Nat), .int .i64 (y : Nat), .nilIface]) ?_ rfl ⟨rfl, HB.out⟩
      simp [results, Tryz.results115]
set_option maxRecDepth 100000 in
set_option maxHeartbeats 4000000 in
theorem dslots_any (tb : Nat) (N : Nat → Prop) (bb first n : Nat) (B : BookS) (box : Nat) (hbx : box < n) (hn : first + n * 5 ≤ B.n) (w : World) (h : HolI 215 w tb N bb first n B) :
    Calls Tryz.prog 118 #[.pointer (some ⟨tb, 0, none⟩), .int .i64 (box : Int)] w fun e w' => (∃ a c, e = .returned (.tuple #[.slice a (slots4 (boxV B first box) box 4).length c, .nilIface]) ∧ w'.ownsRow w.heap.size 3 1 (.slice a (slots4 (boxV B first box) box 4).length c) (slots4 (boxV B first box) box 4).length (intsN (slots4 (boxV B first box) box 4))) ∧ Below w.heap.size w w' := by
  have hok := h.2.1.isOk
  have hn2 := hok.n.2
  have HPK : Hid (PgOk (B.view (first + box * 5))) := Lib.hid (BookS.view_ok hok _ (by omega))
  have hp := dhead_any tb N bb first n B box (by omega) w h
  obtain ⟨z0, z1, z2⟩ := blk3 h.1
  obtain ⟨i0, hi0', hz0, hz1, hz2⟩ := info_parts info_int
  have HI := Lib.hid (And.intro hi0' (And.intro hz0 (And.intro hz1 hz2)))
  have HG : Hid (∀ t, boxV B first box t = (B.view (first + box * 5)).getD t 0) := Lib.hid (fun t => rfl)
  generalize boxV B first box = g at HG ⊢
  generalize B.view (first + box * 5) = pg at hp HPK HG
  have hq64 := HPK.out.1
  have hx0 : (0 : Int) ≤ box := by omega
  have hx1 : (box : Int) < n := by omega
  have hx2 : (box : Int) < 2048 := by omega
  clear h hok hi0' hz0 hz1 hz2 hbx hn hn2
  go_enter Tryz.func118, Tryz.ntmps118
  go_wp2_with fail
  refine hp.mono ?_
  clear hp z0 z1 z2
  rintro e w2 ⟨rfl, hb2⟩
  try dsimp only
  repeat ((fail_if_success (with_reducible refine stop_at 33 rfl ?_)); (first | (refine page_store rfl (.tmp 6) (.tmp 31) rfl w2.heap.size pg (zer 64) rfl rfl (heap_alloc_new w2 _) hq64 rfl ?_) | go_values | go_skip | go_guarded | go_step | go_upon))
  have hbx : ∀ o : Obj, Below w2.heap.size w2 ((w2.alloc o).setRow w2.heap.size (v8a pg)) := fun o => below_setRow ((Below.refl _ _).alloc (Nat.le_refl _) _) (Nat.le_refl _) _
  have hge : w.heap.size ≤ w2.heap.size := hb2.size
  refine gen_world (fun wx => Hid (wx.heap[w2.heap.size]? = some (.cells (v8a pg) 37) ∧ Below w.heap.size w wx)) (Lib.hid ⟨setRow_heap _ _ _ _ _ (0, 0) (heap_alloc_new w2 _), hb2.trans ((hbx _).mono hb2.size)⟩) ?_
  clear hbx hb2
  generalize w2.heap.size = b6 at hge ⊢
  intro w3 H3
  have hge2 := Lib.hid hge
  clear hge
  go_wp2_with fail
  go_loopw [8, 39] (fun lv jv wr => ∃ (j : Nat) (a : Option Addr) (c : Nat) (l : List Nat), jv = .int .i64 (j : Int) ∧ j ≤ 4 ∧ lv = .slice a l.length c ∧ Hid (l = slots4 g box j) ∧ Hid (wr.heap[b6]? = some (.cells (v8a pg) 37) ∧ wr.ownsRow (b6 + 1) 3 1 (.slice a l.length c) l.length (intsN l) ∧ Below w.heap.size w wr)) (fun _ jv _ => 5 - (intOf jv).toNat)
  case atStart => exact ⟨0, none, 0, [], rfl, by omega, rfl, Lib.hid rfl, Lib.hid ⟨H3.out.1, World.ownsRow_nil _ _ _ _, H3.out.2⟩⟩
  case round =>
    clear H3
    obtain ⟨j, a, c, l, rfl, hj, rfl, HL, HO⟩ := hrel
    have hll : l.length ≤ 4 := by have := slots4_le g box j; rw [HL.out]; omega
    by_cases hjt : j < 4
    · have hj1 : (j : Int) < 4 := by omega
      have hj0 : (0 : Int) ≤ j := by omega
      obtain ⟨c0, f0⟩ := v8_cell HO.out.1 j (by omega)
      rw [← HG.out j] at c0
      have HNX := Lib.hid (slots4_succ g box j)
      rw [← HL.out] at HNX
      generalize g j = b at c0 HNX
      by_cases q : b = 1
      · subst q
        rw [if_pos rfl] at HNX
        repeat ((fail_if_success (with_reducible refine stop_at 52 rfl ?_)); (first | go_values | go_skip | go_guarded | go_step | go_upon))
        refine step_append_list rfl (.tmp 46) (.tmp 51) 33 rfl (b6 + 1) 3 i0 (.int .i64 0) 1 8 Tryz.underlying33 HI.out.1 HI.out.2.1 HI.out.2.2.1 HI.out.2.2.2 rfl (by decide) (.slice a l.length c) l.length (intsN l) rfl ?c0 (.slice (some ⟨wr.heap.size, 0, none⟩) 1 1) 1 [.int .i64 ((box : Int) * 4 + (j : Int))] rfl (one_srcN wr [.int .i64 ((box : Int) * 4 + (j : Int))] 3 1 rfl (by intro u hu; rw [List.mem_singleton] at hu; subst hu; rfl)) ?c1 ?c2 ?c3 ?_
        case c0 => exact own_below HO.out.2.1 ((Below.refl _ _).alloc (Nat.le_refl _) _)
        case c1 => unfold maxLen; omega
        case c2 => omega
        case c3 => have := lt_of_blk HO.out.1; simp; omega
        intro v4 w4 ho4 hg4
        obtain ⟨a4, c4, rfl⟩ := own_slice ho4
        have hlen : (l ++ [box * 4 + j]).length = l.length + 1 := by simp
        have H4 : Hid (w4.heap[b6]? = some (.cells (v8a pg) 37) ∧ w4.ownsRow (b6 + 1) 3 1 (.slice a4 (l ++ [box * 4 + j]).length c4) (l ++ [box * 4 + j]).length (intsN (l ++ [box * 4 + j])) ∧ Below w.heap.size w w4) := Lib.hid ⟨by
          have hlt := lt_of_blk HO.out.1
          rw [hg4.block b6 (by simp; omega) (fun he => by have := (HO.out.2.1.lt b6 he.symm).1; omega)]
          exact (((Below.refl _ _).alloc (Nat.le_refl _) _).block b6 hlt).trans HO.out.1, by rw [hlen]; simpa [intsN] using ho4, (HO.out.2.2.trans (((Below.refl _ _).alloc (Nat.le_refl _) _).mono HO.out.2.2.size)).grown hg4 (by have := HO.out.2.2.size; simp; omega) (fun q hq => by have := (HO.out.2.1.lt q hq).1; have := hge2.out; omega)⟩
        clear ho4 hg4 HO
        simp only [Act.put, List.setIfInBounds_toArray, List.set_cons_zero, List.set_cons_succ]
        go_wp2_with fail
        exact ⟨⟨j + 1, a4, c4, l ++ [box * 4 + j], by push_cast; rfl, by omega, by rw [hlen], Lib.hid HNX.out.symm, H4⟩, by simp [intOf]; omega⟩
      · rw [if_neg q] at HNX
        go_wp2_with fail
        exact ⟨⟨j + 1, a, c, l, by push_cast; rfl, by omega, rfl, Lib.hid HNX.out.symm, HO⟩, by simp [intOf]; omega⟩
    · have hj1 : ¬ ((j : Int) < 4) := by omega
      have HJ : Hid (j = 4) := Lib.hid (by omega)
      clear hjt hj
      go_wp2_with fail
      go_ret2
      have hl := HL.out
      rw [HJ.out] at hl
      rw [← hl]
      refine ⟨⟨a, c, rfl, ?_⟩, HO.out.2.2⟩
      exact own_mono HO.out.2.1 (by have := hge2.out; omega)
end Go.Proofs.YtajmcplanlibnaaGreatDoor
