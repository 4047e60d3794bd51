/- What an order leaves alone: where it is refused nothing changes; the generation counts one order at most. No condition; no program is named. -/
import Derived.Test.YtopakonpfbbldaaFnsC
import Derived.Test.YtopakonpfbbldaaP0
import Derived.Test.YtopakonpfbbldaaKLib6
import Derived.Test.YtopakonpfbbldaaW23
import Derived.Test.YtopakonpfbbldaaMix3
import Derived.Test.YtopakonpfbbldaaKR5
import Derived.Test.YtopakonpfbbldaaKR20
import Derived.Test.YtopakonpfbbldaaW2
import Derived.Test.YtopakonpfbbldaaS1b
set_option linter.unusedSimpArgs false
set_option linter.unusedVariables false
namespace Go.Proofs.Ytopakonpfbbldaa
theorem ract_idle (t : Tab) (n ac oty key other : Int) (oap : Bool) (h : (ractF t n ac oty key other oap).2.1 ≠ 0) : (ractF t n ac oty key other oap).1 = t := by
  revert h
  unfold ractF rregF rpreF
  dsimp only
  repeat' split
  all_goals simp
theorem ract_gen (t : Tab) (n ac oty key other : Int) (oap : Bool) : (ractF t n ac oty key other oap).1.g = t.g ∨ (ractF t n ac oty key other oap).1.g = u32 (t.g + 1) := by
  unfold ractF rregF rpreF
  dsimp only
  repeat' split
  all_goals first | exact .inl rfl | exact .inr rfl
structure CallT where
  n : Int
  ac : Int
  oty : Int
  key : Int
  other : Int
  oap : Bool
def CallsIn (w : World) (a : Option Addr) (cs : List CallT) : Prop := ∀ i (hi : i < cs.length), ∃ b off, a = some ⟨b, off, none⟩ ∧ b < w.heap.size ∧
  w.cell? ⟨b, off + i * 6, none⟩ = some (.int .i64 cs[i].n) ∧ w.cell? ⟨b, off + i * 6 + 1, none⟩ = some (.int .i64 cs[i].ac) ∧ w.cell? ⟨b, off + i * 6 + 2, none⟩ = some (.int .i64 cs[i].oty) ∧
  w.cell? ⟨b, off + i * 6 + 3, none⟩ = some (.int .u64 cs[i].key) ∧ w.cell? ⟨b, off + i * 6 + 4, none⟩ = some (.int .u64 cs[i].other) ∧ w.cell? ⟨b, off + i * 6 + 5, none⟩ = some (.bool cs[i].oap)
end Go.Proofs.Ytopakonpfbbldaa
namespace Go.Proofs.Ytopakonpfbbldaa
open Go.ChangeShapes Go.WideShapes Go.ChangeAt Go.RowKit Go.Deep
section
variable {H : Type} {enc : TypeId × Value → H} {W : World} {base : Nat} {spare : Nat → Bool} {held : Bool}
theorem CallsIn.nil (w : World) (a : Option Addr) : CallsIn w a [] := fun i h => by simp at h
theorem open_calls {fuel : Nat} {v : Value} {x : DataW H × List MemPlace} (h : DataW.trod enc Try.prog W base spare held fuel 47 [v] = some x) :
    ∃ a cs cap, v = .slice a cs.length cap ∧ CallsIn W a cs ∧ cs.length ≤ maxLen := by
  have ce : Try.prog.cellsOf 49 = 6 := by kernel_rfl
  have e30 : Try.prog.cellsOf 30 = 1 := by kernel_rfl
  have e3 : Try.prog.cellsOf 3 = 1 := by kernel_rfl
  have e4 : Try.prog.cellsOf 4 = 1 := by kernel_rfl
  have e37 : Try.prog.cellsOf 37 = 5 := by kernel_rfl
  rcases open_slice Try.underlying47 h with ⟨hcs, rfl⟩ | ⟨a, len, cap, m, n, D, Pl, hcs, hb, hl, hm, hmm, rfl, hx⟩
  · simp only [List.cons.injEq, and_true] at hcs
    subst hcs
    exact ⟨none, [], 0, rfl, CallsIn.nil _ _, by simp⟩
  · simp only [List.cons.injEq, and_true] at hcs
    subst hcs
    have hlm : len ≤ m := by rw [hmm]; split <;> omega
    have each : ∀ i, i < len → ∃ q : CallT, W.cell? (a.add (i * 6)) = some (.int .i64 q.n) ∧ W.cell? (a.add (i * 6 + 1)) = some (.int .i64 q.ac) ∧ W.cell? (a.add (i * 6 + 2)) = some (.int .i64 q.oty) ∧
        W.cell? (a.add (i * 6 + 3)) = some (.int .u64 q.key) ∧ W.cell? (a.add (i * 6 + 4)) = some (.int .u64 q.other) ∧ W.cell? (a.add (i * 6 + 5)) = some (.bool q.oap) := by
      intro i hi
      obtain ⟨cs', h1, h2⟩ := hx i (by omega)
      rw [ce] at h1
      obtain ⟨_, hlen, hcell⟩ := World.cells?_some h1
      obtain ⟨xs, k, hk, hxy, _, hxl, hf⟩ := DataW.trod_struct Try.underlying49 h2
      have hl2 : xs.length = 2 := hxl
      match xs, hl2, cs', hlen with
      | [y0, y1], _, [v0, v1, v2, v3, v4, v5], _ =>
        have g0 := hf 0 _ rfl
        have g1 := hf 1 _ rfl
        simp only [List.getElem_toArray, List.getElem_cons_zero, List.getElem_cons_succ] at g0 g1
        simp only [e3, e37, List.drop_succ_cons, List.drop_zero, List.take_succ_cons, List.take_zero, List.getElem?_cons_zero, List.getElem?_cons_succ] at g0 g1
        obtain ⟨c0, ec0, _, _⟩ := DataW.trod_int Try.underlying3 g0
        obtain ⟨zs, k2, _, _, _, hzl, hz⟩ := DataW.trod_struct Try.underlying37 g1
        have hl5 : zs.length = 5 := hzl
        match zs, hl5 with
        | [w0, w1, w2, w3, w4], _ =>
          have h0 := hz 0 _ rfl
          have h1 := hz 1 _ rfl
          have h2 := hz 2 _ rfl
          have h3 := hz 3 _ rfl
          have h4 := hz 4 _ rfl
          simp only [List.getElem_toArray, List.getElem_cons_zero, List.getElem_cons_succ] at h0 h1 h2 h3 h4
          simp only [e3, e30, e4, List.drop_succ_cons, List.drop_zero, List.take_succ_cons, List.take_zero, List.getElem?_cons_zero, List.getElem?_cons_succ] at h0 h1 h2 h3 h4
          obtain ⟨ac, ea, _, _⟩ := DataW.trod_int Try.underlying3 h0
          obtain ⟨oty, et, _, _⟩ := DataW.trod_int Try.underlying3 h1
          obtain ⟨key, ek, _, _⟩ := DataW.trod_int Try.underlying30 h2
          obtain ⟨other, eo, _, _⟩ := DataW.trod_int Try.underlying30 h3
          obtain ⟨oap, ep, _⟩ := DataW.trod_bool Try.underlying4 h4
          simp only [List.cons.injEq, and_true] at ec0 ea et ek eo ep
          subst ec0 ea et ek eo ep
          have p0 := hcell 0 (by omega)
          have p1 := hcell 1 (by omega)
          have p2 := hcell 2 (by omega)
          have p3 := hcell 3 (by omega)
          have p4 := hcell 4 (by omega)
          have p5 := hcell 5 (by omega)
          rw [add_add] at p0 p1 p2 p3 p4 p5
          exact ⟨⟨c0, ac, oty, key, other, oap⟩, by simpa using p0, by simpa using p1, by simpa using p2, by simpa using p3, by simpa using p4, by simpa using p5⟩
    have each' : ∀ i, i < len → ∃ q : CallT, (fun i (q : CallT) => W.cell? (a.add (i * 6)) = some (.int .i64 q.n) ∧ W.cell? (a.add (i * 6 + 1)) = some (.int .i64 q.ac) ∧ W.cell? (a.add (i * 6 + 2)) = some (.int .i64 q.oty) ∧
        W.cell? (a.add (i * 6 + 3)) = some (.int .u64 q.key) ∧ W.cell? (a.add (i * 6 + 4)) = some (.int .u64 q.other) ∧ W.cell? (a.add (i * 6 + 5)) = some (.bool q.oap)) i q := each
    have hnon : ∀ i, ∃ q : CallT, i < len → (fun i (q : CallT) => W.cell? (a.add (i * 6)) = some (.int .i64 q.n) ∧ W.cell? (a.add (i * 6 + 1)) = some (.int .i64 q.ac) ∧ W.cell? (a.add (i * 6 + 2)) = some (.int .i64 q.oty) ∧
        W.cell? (a.add (i * 6 + 3)) = some (.int .u64 q.key) ∧ W.cell? (a.add (i * 6 + 4)) = some (.int .u64 q.other) ∧ W.cell? (a.add (i * 6 + 5)) = some (.bool q.oap)) i q := fun i => by
      by_cases hi : i < len
      · obtain ⟨q, hq⟩ := each' i hi; exact ⟨q, fun _ => hq⟩
      · exact ⟨⟨0, 0, 0, 0, 0, false⟩, fun h => absurd h hi⟩
    obtain ⟨q, hq⟩ := Classical.axiomOfChoice hnon
    refine ⟨some a, (List.range len).map q, cap, by simp, ?_, by simp; omega⟩
    intro i hil
    have hil' : i < len := by simpa using hil
    obtain ⟨c0, c1, c2, c3, c4, c5⟩ := hq i hil'
    have hs : a.spot = none := by
      obtain ⟨z0, _⟩ := hq 0 (by omega)
      simpa [Addr.add] using World.cell?_spot z0
    obtain ⟨b, o, sp⟩ := a
    simp only at hs
    subst hs
    rw [addr_add] at c0 c1 c2 c3 c4 c5
    exact ⟨b, o, rfl, World.block_lt_of_cell? W _ c0, by simpa using c0, by simpa [Nat.add_assoc] using c1, by simpa [Nat.add_assoc] using c2, by simpa [Nat.add_assoc] using c3, by simpa [Nat.add_assoc] using c4, by simpa [Nat.add_assoc] using c5⟩
end
end Go.Proofs.Ytopakonpfbbldaa
namespace Go.Proofs.Ytopakonpfbbldaa
open Go.RowKit

set_option maxRecDepth 100000 in
set_option maxHeartbeats 4000000 in
theorem told_any (ac oty key other : Int) (oap : Bool) (w : World) :
    Calls Try.prog 21 #[.agg #[.int .i64 ac, .int .i64 oty, .int .u64 key, .int .u64 other, .bool oap]] w fun e w' => e = .returned (.agg #[.int .i64 ac, .int .i64 oty, .int .u64 key, .int .u64 other, .bool oap]) ∧ Below w.heap.size w w' := by
  go_enter Try.func21, Try.ntmps21
  go_wp2
  refine bodyPost_ret (v := .agg #[.int .i64 ac, .int .i64 oty, .int .u64 key, .int .u64 other, .bool oap]) ?_ rfl ⟨rfl, ?_⟩
  · simp only [results, Try.results21]
    go_simp
  · repeat (first | with_reducible assumption | (with_reducible refine Below.setCell ?_ (by first | omega | (simp; done) | (simp; omega)) _) | (with_reducible refine Below.alloc ?_ (by first | omega | (simp; done) | (simp; omega)) _) | (with_reducible refine Below.drew ?_) | (with_reducible refine below_dN ?_ _) | with_reducible exact Below.refl _ _ | (with_reducible refine Below.trans ?_ (Below.mono (by assumption) (by first | omega | (simp; done) | (simp; omega)))))

end Go.Proofs.Ytopakonpfbbldaa
namespace Go.Proofs.Ytopakonpfbbldaa
open Go.RowKit

theorem gone_len : ∀ (i : Nat) (S : List Bool) (K : List Int) (but : Int), (goneK i S K but).length ≤ K.length
  | i, s :: ss, k :: l, but => by
    unfold goneK
    have := gone_len (i + 1) ss l but
    split <;> simp <;> omega
  | i, [], [], but => by simp [goneK]
  | i, [], _ :: _, but => by simp [goneK]
  | i, _ :: _, [], but => by simp [goneK]
theorem ract_len (t : Tab) (n ac oty key other : Int) (oap : Bool) : (ractF t n ac oty key other oap).2.2.length ≤ 8 := by
  have hg : ∀ S but, (rremoveF t S but).2.length ≤ 8 := fun S but => Nat.le_trans (gone_len _ _ _ _) (by rw [keysF_length]; omega)
  have hg' : ∀ g S but, (rremoveF { t with g := g } S but).2.length ≤ 8 := fun g S but => Nat.le_trans (gone_len _ _ _ _) (by rw [keysF_length]; omega)
  unfold ractF rregF rpreF
  dsimp only
  repeat' split
  all_goals first | (simp; done) | exact hg _ _ | exact hg' _ _ _

theorem same_yes (t : Tab) (a b : Option Addr) (c d : Nat) (w : World) (hl : t.ks.length ≤ 9223372036854775807) (ha : KeysIn w a t.ks) (hb : KeysIn w b t.ks) :
    Calls Try.prog 17 #[.agg #[.int .u32 t.g, .slice a t.ks.length c, .int .i64 t.h, .int .i64 t.ty, .bool t.ap], .agg #[.int .u32 t.g, .slice b t.ks.length d, .int .i64 t.h, .int .i64 t.ty, .bool t.ap]] w fun e w' => e = .returned (.bool true) ∧ Below w.heap.size w w' := by
  have h0 := rSame_any t.g t.h t.ty t.ap a t.ks c t.g t.h t.ty t.ap b t.ks d w hl hl ha hb
  rw [show (t.g == t.g && t.h == t.h && t.ty == t.ty && t.ap == t.ap && t.ks == t.ks) = true by simp] at h0
  exact h0
theorem sound_yes (t : Tab) (a : Option Addr) (c : Nat) (w : World) (hl : t.ks.length ≤ 9223372036854775807) (ha : KeysIn w a t.ks) (hs : soundT t = true) :
    Calls Try.prog 19 #[.agg #[.int .u32 t.g, .slice a t.ks.length c, .int .i64 t.h, .int .i64 t.ty, .bool t.ap]] w fun e w' => e = .returned (.bool true) ∧ Below w.heap.size w w' := by
  have h0 := Sound_any t.g t.h t.ty t.ap a t.ks c w hl ha
  rw [show soundF t.ks t.h t.ty = true by rw [sound_same]; exact hs] at h0
  exact h0
theorem rpost_to {r r' : Tab × Int × List Int} {args : Array Value} {w : World} (h : Calls Try.prog 20 args w (ActPost r w)) (he : r = r') : Calls Try.prog 20 args w (ActPost r' w) := he ▸ h
theorem h_lt {t : Tab} (hs : soundT t = true) : t.h < 8 := by
  simp only [soundT, rsoundF, Bool.and_eq_true] at hs
  have h2 := hs.2
  split at h2
  · simp at h2; omega
  · simp only [Bool.and_eq_true, decide_eq_true_eq] at h2; exact h2.1.2

theorem keys_src {w : World} {a : Option Addr} {ks : List (Int × Int)} {c : Nat} (h : KeysIn w a ks) (hn : a = none → c = 0) : SrcIs w (.slice a ks.length c) ks.length 2 (flat ks) := by
  cases a with
  | none =>
    obtain rfl := hn rfl
    have e : ks = [] := by
      cases ks with
      | nil => rfl
      | cons r l => obtain ⟨b, off, e, _⟩ := h 0 (by simp); cases e
    subst e
    exact .inl ⟨rfl, rfl, rfl⟩
  | some ad => exact .inr ⟨ad, c, rfl, flat_length ks, h.flat, flat_one ks⟩

end Go.Proofs.Ytopakonpfbbldaa
namespace Go.Proofs.Ytopakonpfbbldaa
open Go.RowKit

/-- Six cells of one block. -/
theorem blk6 {w : World} {B : Nat} {c0 c1 c2 c3 c4 c5 : Value} {T : Nat} (h : w.heap[B]? = some (.cells #[c0, c1, c2, c3, c4, c5] T)) :
    w.cell? ⟨B, 0, none⟩ = some c0 ∧ w.cell? ⟨B, 1, none⟩ = some c1 ∧ w.cell? ⟨B, 2, none⟩ = some c2 ∧ w.cell? ⟨B, 3, none⟩ = some c3 ∧ w.cell? ⟨B, 4, none⟩ = some c4 ∧ w.cell? ⟨B, 5, none⟩ = some c5 := by
  simp [World.cell?, h]

/-- What is known while calls are made: the two tables, in their boxes. -/
def RT (w : World) (T : Nat) (t : Tab) (a1 : Option Addr) (c1 : Nat) (a2 : Option Addr) (c2 : Nat) (wx : World) : Prop :=
  wx.heap[T]? = some (.cells #[.int .u32 t.g, .slice a1 t.ks.length c1, .int .i64 t.h, .int .i64 t.ty, .bool t.ap] 25) ∧ wx.heap[T + 1]? = some (.cells #[.int .u32 t.g, .slice a2 t.ks.length c2, .int .i64 t.h, .int .i64 t.ty, .bool t.ap] 25) ∧ KeysIn wx a1 t.ks ∧ KeysIn wx a2 t.ks ∧ (a1 = none → c1 = 0) ∧ (a2 = none → c2 = 0) ∧ Below w.heap.size w wx ∧ w.heap.size ≤ T ∧ T + 1 < wx.heap.size
theorem RT.below {w : World} {T : Nat} {t : Tab} {a1 : Option Addr} {c1 : Nat} {a2 : Option Addr} {c2 : Nat} {wx wy : World} (h : RT w T t a1 c1 a2 c2 wx) (hb : Below wx.heap.size wx wy) : RT w T t a1 c1 a2 c2 wy := by
  obtain ⟨h1, h2, h3, h4, h5, h6, h7, h8, h9⟩ := h
  have hs := hb.size
  exact ⟨(hb.block T (by omega)).trans h1, (hb.block (T + 1) h9).trans h2, h3.below hb, h4.below hb, h5, h6, h7.trans (hb.mono h7.size), h8, by omega⟩
/-- An order for the plain table: the first box has the new one. -/
theorem RT.set1 {w : World} {T : Nat} {t r : Tab} {a1 : Option Addr} {c1 : Nat} {a2 : Option Addr} {c2 : Nat} {a4 : Option Addr} {c4 : Nat} {wx : World} (h : RT w T t a1 c1 a2 c2 wx) (hk : KeysIn wx a4 r.ks) (hn : a4 = none → c4 = 0) :
    (fun wy => wy.heap[T]? = some (.cells #[.int .u32 r.g, .slice a4 r.ks.length c4, .int .i64 r.h, .int .i64 r.ty, .bool r.ap] 25) ∧ wy.heap[T + 1]? = some (.cells #[.int .u32 t.g, .slice a2 t.ks.length c2, .int .i64 t.h, .int .i64 t.ty, .bool t.ap] 25) ∧ KeysIn wy a4 r.ks ∧ KeysIn wy a2 t.ks ∧ (a4 = none → c4 = 0) ∧ (a2 = none → c2 = 0) ∧ Below w.heap.size w wy ∧ w.heap.size ≤ T ∧ T + 1 < wy.heap.size)
      (((((wx.setCell ⟨T, 0, none⟩ (.int .u32 r.g)).setCell ⟨T, 1, none⟩ (.slice a4 r.ks.length c4)).setCell ⟨T, 2, none⟩ (.int .i64 r.h)).setCell ⟨T, 3, none⟩ (.int .i64 r.ty)).setCell ⟨T, 4, none⟩ (.bool r.ap)) := by
  obtain ⟨h1, h2, h3, h4, h5, h6, h7, h8, h9⟩ := h
  have hg := grown_trans (grown_trans (grown_trans (grown_trans (grown_set wx T 0 (.int .u32 r.g)) (grown_set _ _ 1 (.slice a4 r.ks.length c4))) (grown_set _ _ 2 (.int .i64 r.h))) (grown_set _ _ 3 (.int .i64 r.ty))) (grown_set _ _ 4 (.bool r.ap))
  refine ⟨?_, (hg.block (T + 1) h9 (by simp)).trans h2, hk.grown hg h1 (by simp) (by simp) (by simp), h4.grown hg h1 (by simp) (by simp) (by simp), hn, h6, h7.grown hg h7.size (fun k' hk' => by cases hk'; exact h8), h8, by have := hg.size; omega⟩
  rw [set_blk (set_blk (set_blk (set_blk (set_blk h1 _) _) _) _) _]
  simp

set_option maxRecDepth 100000 in
set_option maxHeartbeats 4000000 in
theorem PersRuns_any (a : Option Addr) (cs : List CallT) (cap : Nat) (w : World) (hlen : cs.length ≤ 9223372036854775807) (hc : CallsIn w a cs) :
    Calls Try.prog 8 #[.slice a cs.length cap] w fun e w' => e = .returned (.bool true) ∧ Below w.heap.size w w' := by
  have HC := Lib.hid hc; clear hc
  go_enter Try.func8, Try.ntmps8
  go_wp2_with fail
  refine (stands_any _).mono ?_
  rintro e w1 ⟨rfl, hb1⟩
  dsimp only
  repeat (first | go_values | go_skip | go_guarded | go_step | go_upon | go_quiet (fail))
  refine (None_any _).mono ?_
  rintro e w2 ⟨rfl, hb2⟩
  dsimp only
  repeat (first | go_values | go_skip | go_guarded | go_step | go_upon | go_quiet (fail))
  refine gen_code (fun wx => RT w w2.heap.size ⟨0, [], -1, 0, false⟩ none 0 none 0 wx) ?_ ?_
  · have hs1 := hb1.size
    have hs2 := hb2.size
    unfold RT
    refine ⟨(heap_alloc_old _ _ (by simp)).trans (heap_alloc_new w2 _), ?_, KeysIn.nil _ _, KeysIn.nil _ _, fun _ => rfl, fun _ => rfl, by repeat (first | with_reducible assumption | (with_reducible refine Below.setCell ?_ (by first | omega | (simp; done) | (simp; omega)) _) | (with_reducible refine Below.alloc ?_ (by first | omega | (simp; done) | (simp; omega)) _) | (with_reducible refine Below.drew ?_) | (with_reducible refine below_dN ?_ _) | with_reducible exact Below.refl _ _ | (with_reducible refine Below.trans ?_ (Below.mono (by assumption) (by first | omega | (simp; done) | (simp; omega))))), by omega, by simp⟩
    have hx := heap_alloc_new (w2.alloc (.cells #[.int .u32 0, .slice none 0 0, .int .i64 (-1), .int .i64 0, .bool false] 25)) (.cells #[.int .u32 0, .slice none 0 0, .int .i64 (-1), .int .i64 0, .bool false] 25)
    simpa using hx
  intro w3 hw3
  generalize w2.heap.size = T at hw3 ⊢
  have H3 := Lib.hid hw3
  clear hw3 hb1 hb2
  go_loopw [5, 17] (fun gv iv wr => ∃ (j : Nat) (t : Tab) (a1 : Option Addr) (c1 : Nat) (a2 : Option Addr) (c2 : Nat), j ≤ cs.length ∧ iv = .int .i64 j ∧ gv = .int .u32 t.g ∧ soundT t = true ∧ RT w T t a1 c1 a2 c2 wr) (fun _ iv _ => cs.length - (intOf iv).toNat)
  case atStart => exact ⟨0, ⟨0, [], -1, 0, false⟩, none, 0, none, 0, by omega, rfl, rfl, rfl, H3.out⟩
  case round =>
    obtain ⟨j, t, a1, c1, a2, c2, hj, rfl, rfl, hst, hrt⟩ := hrel
    have HS := Lib.hid hst
    have HR := Lib.hid hrt
    have hTr : T + 1 < wr.heap.size := hrt.2.2.2.2.2.2.2.2
    have hwT : w.heap.size ≤ T := hrt.2.2.2.2.2.2.2.1
    clear hst hrt
    by_cases hlt : j < cs.length
    · obtain ⟨b, off, hab, hbs, e1, e2, e3, e4, e5, e6⟩ := HC.out j hlt
      subst hab
      have hbel := HR.out.2.2.2.2.2.2.1
      have d1 := (hbel.cell (p := ⟨b, off + j * 6, none⟩) hbs).trans e1
      have d2 := (hbel.cell (p := ⟨b, off + j * 6 + 1, none⟩) hbs).trans e2
      have d3 := (hbel.cell (p := ⟨b, off + j * 6 + 2, none⟩) hbs).trans e3
      have d4 := (hbel.cell (p := ⟨b, off + j * 6 + 3, none⟩) hbs).trans e4
      have d5 := (hbel.cell (p := ⟨b, off + j * 6 + 4, none⟩) hbs).trans e5
      have d6 := (hbel.cell (p := ⟨b, off + j * 6 + 5, none⟩) hbs).trans e6
      have hi0 : (0 : Int) ≤ j := by omega
      have hi1 : (j : Int) < cs.length := by omega
      clear e1 e2 e3 e4 e5 e6 hbel
      cases q3 : ((j : Int) == 300)
      · cases h1 : decide (cs[j].n < 0)
        · cases h2 : decide (7 < cs[j].n)
          · repeat (fail_if_success (with_reducible refine stop_pos "law.go:74" rfl ?_)
                    first | go_values | go_skip | go_guarded | go_step | go_upon | go_quiet (fail))
            refine gen_world (fun wx => RT w T t a1 c1 a2 c2 wx ∧ wx.heap[wr.heap.size]? = some (.cells #[.int .i64 cs[j].n, .int .i64 cs[j].ac, .int .i64 cs[j].oty, .int .u64 cs[j].key, .int .u64 cs[j].other, .bool cs[j].oap] 49) ∧ wr.heap.size < wx.heap.size) ?_ ?_
            · exact ⟨HR.out.below (Below.alloc (Below.refl _ _) (Nat.le_refl _) _), heap_alloc_new wr _, by simp⟩
            intro w4 hw4
            generalize hC : wr.heap.size = C at hw4 hTr ⊢
            have H4 := Lib.hid hw4
            clear hw4 hC d1 d2 d3 d4 d5 d6 HR
            have q0 := (blk6 H4.out.2.1).1
            have q1 := (blk6 H4.out.2.1).2.1
            have q2 := (blk6 H4.out.2.1).2.2.1
            have q3 := (blk6 H4.out.2.1).2.2.2.1
            have q4 := (blk6 H4.out.2.1).2.2.2.2.1
            have q5 := (blk6 H4.out.2.1).2.2.2.2.2
            repeat (fail_if_success (with_reducible refine stop_pos "law.go:81" rfl ?_)
                    first | go_values | go_skip | go_guarded | go_step | go_upon | go_quiet (fail))
            have z0 := (blk5 H4.out.1.1).1
            have z1 := (blk5 H4.out.1.1).2.1
            have z2 := (blk5 H4.out.1.1).2.2.1
            have z3 := (blk5 H4.out.1.1).2.2.2.1
            have z4 := (blk5 H4.out.1.1).2.2.2.2.1
            have y0 := (blk5 H4.out.1.1).2.2.2.2.2.1
            have y1 := (blk5 H4.out.1.1).2.2.2.2.2.2.1
            have y2 := (blk5 H4.out.1.1).2.2.2.2.2.2.2.1
            have y3 := (blk5 H4.out.1.1).2.2.2.2.2.2.2.2.1
            have y4 := (blk5 H4.out.1.1).2.2.2.2.2.2.2.2.2
            repeat (fail_if_success (with_reducible refine stop_pos "law.go:82" rfl ?_)
                    first | go_values | go_skip | go_guarded | go_step | go_upon | go_quiet (fail))
            refine gen_world (fun wx => RT w T t a1 c1 a2 c2 wx ∧ wx.heap[C]? = some (.cells #[.int .i64 cs[j].n, .int .i64 cs[j].ac, .int .i64 cs[j].oty, .int .u64 cs[j].key, .int .u64 cs[j].other, .bool cs[j].oap] 49) ∧ wx.heap[w4.heap.size]? = some (.cells #[.int .u32 t.g, .slice a1 t.ks.length c1, .int .i64 t.h, .int .i64 t.ty, .bool t.ap] 25) ∧ w4.heap.size < wx.heap.size) ?_ ?_
            · have hal : Below w4.heap.size w4 (w4.alloc (.cells #[.int .u32 t.g, .slice a1 t.ks.length c1, .int .i64 t.h, .int .i64 t.ty, .bool t.ap] 25)) := Below.alloc (Below.refl _ _) (Nat.le_refl _) _
              exact ⟨H4.out.1.below hal, (hal.block C H4.out.2.2).trans H4.out.2.1, heap_alloc_new w4 _, by simp⟩
            intro w5 hw5
            have hCW := H4.out.2.2
            generalize hW : w4.heap.size = W at hw5 hCW ⊢
            have H5 := Lib.hid hw5
            clear hw5 hW H4 q0 q1 q2 q3 q4 q5
            clear z0 z1 z2 z3 z4 y0 y1 y2 y3 y4
            have z0 := (blk5 H5.out.1.1).1
            have z1 := (blk5 H5.out.1.1).2.1
            have z2 := (blk5 H5.out.1.1).2.2.1
            have z3 := (blk5 H5.out.1.1).2.2.2.1
            have z4 := (blk5 H5.out.1.1).2.2.2.2.1
            have y0 := (blk5 H5.out.1.1).2.2.2.2.2.1
            have y1 := (blk5 H5.out.1.1).2.2.2.2.2.2.1
            have y2 := (blk5 H5.out.1.1).2.2.2.2.2.2.2.1
            have y3 := (blk5 H5.out.1.1).2.2.2.2.2.2.2.2.1
            have y4 := (blk5 H5.out.1.1).2.2.2.2.2.2.2.2.2
            have q0 := (blk6 H5.out.2.1).1
            have q1 := (blk6 H5.out.2.1).2.1
            have q2 := (blk6 H5.out.2.1).2.2.1
            have q3 := (blk6 H5.out.2.1).2.2.2.1
            have q4 := (blk6 H5.out.2.1).2.2.2.2.1
            have q5 := (blk6 H5.out.2.1).2.2.2.2.2
            repeat (first | go_values | go_skip | go_guarded | go_step | go_upon | go_quiet (fail))
            have hn0 : 0 ≤ cs[j].n := by simpa using h1
            have hn8 : cs[j].n < 8 := by have h3 := h2; simp at h3; omega
            have hl6 : t.ks.length ≤ 6 := (sound_inv HS.out).1
            refine (act_any t cs[j].n cs[j].ac cs[j].oty cs[j].key cs[j].other cs[j].oap a1 c1 w5 (by omega) H5.out.1.2.2.1 H5.out.1.2.2.2.2.1).mono ?_
            rintro e w6 hp
            unfold ActPost at hp
            have HSR := Lib.hid (act_sound t cs[j].n cs[j].ac cs[j].oty cs[j].key cs[j].other cs[j].oap hn0 hn8 HS.out)
            have HRR := Lib.hid (act_same t cs[j].n cs[j].ac cs[j].oty cs[j].key cs[j].other cs[j].oap hn0 hn8 HS.out).symm
            generalize actF t cs[j].n cs[j].ac cs[j].oty cs[j].key cs[j].other cs[j].oap = R at hp HSR HRR
            obtain ⟨a4, c4, b4, d4, rfl, hk4, hn4, hi4, hb6⟩ := hp
            dsimp only
            have hrt6 := H5.out.1.below hb6
            have cC6 := (hb6.block C (by have := H5.out.2.2.2; omega)).trans H5.out.2.1
            have cW6 := (hb6.block W H5.out.2.2.2).trans H5.out.2.2.1
            have hW6 : W < w6.heap.size := Nat.lt_of_lt_of_le H5.out.2.2.2 hb6.size
            have hT6 : T + 1 < w6.heap.size := hrt6.2.2.2.2.2.2.2.2
            have H6 := Lib.hid (And.intro hrt6 (And.intro cC6 (And.intro cW6 (And.intro hk4 (And.intro hn4 (H5.out.1.2.2.1.below hb6))))))
            clear hrt6 cC6 cW6 hk4 hn4 hi4 hb6 q0 q1 q2 q3 q4 q5
            clear z0 z1 z2 z3 z4 y0 y1 y2 y3 y4
            have z0 := (blk5 H6.out.1.1).1
            have z1 := (blk5 H6.out.1.1).2.1
            have z2 := (blk5 H6.out.1.1).2.2.1
            have z3 := (blk5 H6.out.1.1).2.2.2.1
            have z4 := (blk5 H6.out.1.1).2.2.2.2.1
            have y0 := (blk5 H6.out.1.1).2.2.2.2.2.1
            have y1 := (blk5 H6.out.1.1).2.2.2.2.2.2.1
            have y2 := (blk5 H6.out.1.1).2.2.2.2.2.2.2.1
            have y3 := (blk5 H6.out.1.1).2.2.2.2.2.2.2.2.1
            have y4 := (blk5 H6.out.1.1).2.2.2.2.2.2.2.2.2
            repeat (first | go_values | go_skip | go_guarded | go_step | go_upon | go_quiet (fail))
            refine gen_code (fun wx => wx.heap[T]? = some (.cells #[.int .u32 R.1.g, .slice a4 R.1.ks.length c4, .int .i64 R.1.h, .int .i64 R.1.ty, .bool R.1.ap] 25) ∧ wx.heap[T + 1]? = some (.cells #[.int .u32 t.g, .slice a2 t.ks.length c2, .int .i64 t.h, .int .i64 t.ty, .bool t.ap] 25) ∧ wx.heap[C]? = some (.cells #[.int .i64 cs[j].n, .int .i64 cs[j].ac, .int .i64 cs[j].oty, .int .u64 cs[j].key, .int .u64 cs[j].other, .bool cs[j].oap] 49) ∧ wx.heap[W]? = some (.cells #[.int .u32 t.g, .slice a1 t.ks.length c1, .int .i64 t.h, .int .i64 t.ty, .bool t.ap] 25) ∧ KeysIn wx a4 R.1.ks ∧ KeysIn wx a2 t.ks ∧ KeysIn wx a1 t.ks ∧ Below w.heap.size w wx ∧ W < wx.heap.size) ?_ ?_
            · obtain ⟨g1, g2, g3, g4, g5, g6, g7, g8, g9⟩ := RT.set1 H6.out.1 H6.out.2.2.2.1 H6.out.2.2.2.2.1
              have hg := grown_trans (grown_trans (grown_trans (grown_trans (grown_set w6 T 0 (.int .u32 R.1.g)) (grown_set _ _ 1 (.slice a4 R.1.ks.length c4))) (grown_set _ _ 2 (.int .i64 R.1.h))) (grown_set _ _ 3 (.int .i64 R.1.ty))) (grown_set _ _ 4 (.bool R.1.ap))
              exact ⟨g1, g2, (hg.block C (by omega) (by simp; omega)).trans H6.out.2.1, (hg.block W hW6 (by simp; omega)).trans H6.out.2.2.1, g3, g4, H6.out.2.2.2.2.2.grown hg H6.out.1.1 (by simp) (by simp) (by simp), g7, by simpa using hW6⟩
            intro w7 hw7
            have HN := Lib.hid (And.intro H6.out.2.2.2.2.1 H6.out.1.2.2.2.2.2.1)
            have H7 := Lib.hid hw7
            clear hw7 H6
            clear z0 z1 z2 z3 z4 y0 y1 y2 y3 y4
            have hW7 := H7.out.2.2.2.2.2.2.2.2
            have hR7 : T + 1 < w7.heap.size := by omega
            have z0 := (blk5 H7.out.2.1).1
            have z1 := (blk5 H7.out.2.1).2.1
            have z2 := (blk5 H7.out.2.1).2.2.1
            have z3 := (blk5 H7.out.2.1).2.2.2.1
            have z4 := (blk5 H7.out.2.1).2.2.2.2.1
            have y0 := (blk5 H7.out.2.1).2.2.2.2.2.1
            have y1 := (blk5 H7.out.2.1).2.2.2.2.2.2.1
            have y2 := (blk5 H7.out.2.1).2.2.2.2.2.2.2.1
            have y3 := (blk5 H7.out.2.1).2.2.2.2.2.2.2.2.1
            have y4 := (blk5 H7.out.2.1).2.2.2.2.2.2.2.2.2
            have q0 := (blk6 H7.out.2.2.1).1
            have q1 := (blk6 H7.out.2.2.1).2.1
            have q2 := (blk6 H7.out.2.2.1).2.2.1
            have q3 := (blk6 H7.out.2.2.1).2.2.2.1
            have q4 := (blk6 H7.out.2.2.1).2.2.2.2.1
            have q5 := (blk6 H7.out.2.2.1).2.2.2.2.2
            have k0 := cellB (R := T + 1) q0 (by first | (simp; done) | (simp; omega))
            have k1 := cellB (R := T + 1) q1 (by first | (simp; done) | (simp; omega))
            have k2 := cellB (R := T + 1) q2 (by first | (simp; done) | (simp; omega))
            have k3 := cellB (R := T + 1) q3 (by first | (simp; done) | (simp; omega))
            have k4 := cellB (R := T + 1) q4 (by first | (simp; done) | (simp; omega))
            have k5 := cellB (R := T + 1) q5 (by first | (simp; done) | (simp; omega))
            clear q0 q1 q2 q3 q4 q5
            refine wp_region_plan (.quiet 1 (.quiet 2 (.quiet 3 (.quiet 4 (.two 0 5 (.one 5 (.one 6 (.quiet 7 (.quiet 8 (.quiet 9 (.quiet 10 (.one 11 (.quiet 12 .nil)))))))) (.one 0 (.one 6 (.quiet 7 (.quiet 8 (.quiet 9 (.quiet 10 (.one 11 (.quiet 12 .nil)))))))))))))
              (fun w' => ∃ p : RegrownB, w' = setO (Go.Sort.grow (redrawn w7 p.d) p.os) (T + 1) p.o) (by kernel_rfl) (by kernel_rfl) (fun _ _ d _ _ h => by cases d <;> exact h) (growsB_drew hR7) ?_
            have hti := sound_inv HS.out
            have hhl : t.h < 8 := h_lt HS.out
            have htyp : (t.ty == 0) = false → 0 ≤ t.h := fun e => by
              have e' : t.ty ≠ 0 := by simpa using e
              rcases hti.2.2 with f | f
              · exact absurd f.2 e'
              · exact f.2.2.1
            with_reducible refine plan_q ?_
            simp only [List.drop_succ_cons, List.drop_zero, List.take_succ_cons, List.take_zero]
            go_big_quiet_step (fail)
            with_reducible refine wpQuiet_nil ?_
            with_reducible refine plan_q ?_
            simp only [List.drop_succ_cons, List.drop_zero, List.take_succ_cons, List.take_zero]
            go_big_quiet_step (fail)
            with_reducible refine wpQuiet_nil ?_
            with_reducible refine plan_q ?_
            simp only [List.drop_succ_cons, List.drop_zero, List.take_succ_cons, List.take_zero]
            go_big_quiet_step (fail)
            with_reducible refine wpQuiet_nil ?_
            with_reducible refine plan_q ?_
            simp only [List.drop_succ_cons, List.drop_zero, List.take_succ_cons, List.take_zero]
            go_big_quiet_step (fail)
            with_reducible refine wpQuiet_nil ?_
            with_reducible refine plan_two ?_ ?_
            · simp only [List.drop_succ_cons, List.drop_zero, List.take_succ_cons, List.take_zero]
              go_wp2_with fail
              refine mixQ_normal ⟨growsB_of hR7 (grown_of_below (Below.refl w7.heap.size w7).drew _), ?_⟩
              with_reducible refine plan_a ?_
              simp only [List.drop_succ_cons, List.drop_zero, List.take_succ_cons, List.take_zero]
              go_wp2_with fail
              refine (told_any cs[j].ac cs[j].oty cs[j].key cs[j].other cs[j].oap _).mono ?_
              rintro e x1 ⟨rfl, hx1⟩
              dsimp only
              go_wp2_with fail
              have hX1 : Below w7.heap.size w7 x1 := (Below.refl w7.heap.size w7).drew.trans (hx1.mono ((Below.refl w7.heap.size w7).drew).size)
              refine mixQ_normal ⟨growsB_of hR7 (grown_of_below hX1 _), ?_⟩
              with_reducible refine plan_a ?_
              simp only [List.drop_succ_cons, List.drop_zero, List.take_succ_cons, List.take_zero]
              go_wp2_with fail
              refine (rpost_to (ract_any t cs[j].n cs[j].ac cs[j].oty cs[j].key cs[j].other cs[j].oap a2 c2 _ (by omega) hn0 hn8 hhl (H7.out.2.2.2.2.2.1.below hX1) HN.out.2 htyp) HRR.out).mono ?_
              rintro e x2 ⟨a6, c6, b6, d6, rfl, hk6, hn6, hi6, hx2⟩
              dsimp only
              go_wp2_with fail
              have hX2 : Below w7.heap.size w7 x2 := hX1.trans (hx2.mono (hX1).size)
              refine mixQ_normal ⟨growsB_of hR7 (grown_of_below hX2 _), ?_⟩
              have HK6 := Lib.hid (And.intro hk6 hn6)
              clear hk6 hn6 hi6
              with_reducible refine plan_q ?_
              simp only [List.drop_succ_cons, List.drop_zero, List.take_succ_cons, List.take_zero]
              go_big_quiet_step (fail)
              with_reducible refine wpQuiet_nil ?_
              with_reducible refine plan_q ?_
              simp only [List.drop_succ_cons, List.drop_zero, List.take_succ_cons, List.take_zero]
              go_big_quiet_step (fail)
              with_reducible refine wpQuiet_nil ?_
              with_reducible refine plan_q ?_
              simp only [List.drop_succ_cons, List.drop_zero, List.take_succ_cons, List.take_zero]
              go_big_quiet_step (fail)
              with_reducible refine wpQuiet_nil ?_
              with_reducible refine plan_q ?_
              simp only [List.drop_succ_cons, List.drop_zero, List.take_succ_cons, List.take_zero]
              go_big_quiet_step (fail)
              with_reducible refine wpQuiet_nil ?_
              with_reducible refine plan_a ?_
              clear z0 z1 z2 z3 z4 y0 y1 y2 y3 y4
              have cM := (hX2.block (T + 1) hR7).trans H7.out.2.1
              have z0 := (blk5 cM).1
              have z1 := (blk5 cM).2.1
              have z2 := (blk5 cM).2.2.1
              have z3 := (blk5 cM).2.2.2.1
              have z4 := (blk5 cM).2.2.2.2.1
              have y0 := (blk5 cM).2.2.2.2.2.1
              have y1 := (blk5 cM).2.2.2.2.2.2.1
              have y2 := (blk5 cM).2.2.2.2.2.2.2.1
              have y3 := (blk5 cM).2.2.2.2.2.2.2.2.1
              have y4 := (blk5 cM).2.2.2.2.2.2.2.2.2
              simp only [List.drop_succ_cons, List.drop_zero, List.take_succ_cons, List.take_zero]
              go_wp2_with fail
              have hg := grown_trans (grown_trans (grown_trans (grown_trans (grown_set x2 (T + 1) 0 (.int .u32 R.1.g)) (grown_set _ _ 1 (.slice a6 R.1.ks.length c6))) (grown_set _ _ 2 (.int .i64 R.1.h))) (grown_set _ _ 3 (.int .i64 R.1.ty))) (grown_set _ _ 4 (.bool R.1.ap))
              have hbX := hX2.size
              refine mixQ_normal ⟨growsB_of hR7 (grown_trans (grown_of_below hX2 _) hg), ?_⟩
              with_reducible refine plan_q ?_
              simp only [List.drop_succ_cons, List.drop_zero, List.take_succ_cons, List.take_zero]
              go_big_quiet_step (fail)
              with_reducible refine wpQuiet_nil ?_
              with_reducible refine plan_nil ?_
              have cT := (hg.block T (by omega) (by simp)).trans ((hX2.block T (by omega)).trans H7.out.1)
              have cW := (hg.block W (by omega) (by simp; omega)).trans ((hX2.block W hW7).trans H7.out.2.2.2.1)
              have kA := (H7.out.2.2.2.2.1.below hX2).grown hg cM (by simp) (by simp) (by simp)
              have kB := HK6.out.1.grown hg cM (by simp) (by simp) (by simp)
              have kW := (H7.out.2.2.2.2.2.2.1.below hX2).grown hg cM (by simp) (by simp) (by simp)
              have hB8 := (H7.out.2.2.2.2.2.2.2.1.trans (hX2.mono (H7.out.2.2.2.2.2.2.2.1.size))).grown hg (by have := H7.out.2.2.2.2.2.2.2.1.size; omega) (fun k' hk' => by cases hk'; omega)
              have cM8 := (set_blk (set_blk (set_blk (set_blk (set_blk cM (.int .u32 R.1.g) (i := 0)) (.slice a6 R.1.ks.length c6) (i := 1)) (.int .i64 R.1.h) (i := 2)) (.int .i64 R.1.ty) (i := 3)) (.bool R.1.ap) (i := 4))
              simp only [List.setIfInBounds_toArray, List.set_cons_zero, List.set_cons_succ] at cM8
              have hs8 := hg.size
              clear z0 z1 z2 z3 z4 y0 y1 y2 y3 y4
              clear hg cM hX1 hX2
              repeat (fail_if_success (with_reducible refine stop_pos "law.go:84" rfl ?_)
                      first | go_values | go_skip | go_guarded | go_step | go_upon | go_quiet (fail))
              refine gen_world (fun wx => wx.heap[T]? = some (.cells #[.int .u32 R.1.g, .slice a4 R.1.ks.length c4, .int .i64 R.1.h, .int .i64 R.1.ty, .bool R.1.ap] 25) ∧ wx.heap[T + 1]? = some (.cells #[.int .u32 R.1.g, .slice a6 R.1.ks.length c6, .int .i64 R.1.h, .int .i64 R.1.ty, .bool R.1.ap] 25) ∧ wx.heap[W]? = some (.cells #[.int .u32 t.g, .slice a1 t.ks.length c1, .int .i64 t.h, .int .i64 t.ty, .bool t.ap] 25) ∧ KeysIn wx a4 R.1.ks ∧ KeysIn wx a6 R.1.ks ∧ KeysIn wx a1 t.ks ∧ Below w.heap.size w wx ∧ W < wx.heap.size) ⟨cT, cM8, cW, kA, kB, kW, hB8, by omega⟩ ?_
              intro w8 hw8
              have H8 := Lib.hid hw8
              clear hw8 cT cM8 cW kA kB kW hB8
              have hW8 := H8.out.2.2.2.2.2.2.2
              have hl6R : R.1.ks.length ≤ 6 := (sound_inv HSR.out).1
              have hGEN : R.1.g = t.g ∨ R.1.g = _root_.Go.Proofs.Ytopakonpfbbldaa.u32 (t.g + 1) := by rw [← HRR.out]; exact ract_gen _ _ _ _ _ _ _
              have HRT := Lib.hid (show RT w T R.1 a4 c4 a6 c6 w8 from ⟨H8.out.1, H8.out.2.1, H8.out.2.2.2.1, H8.out.2.2.2.2.1, HN.out.1, HK6.out.2, H8.out.2.2.2.2.2.2.1, hwT, by omega⟩)
              have HGEN := Lib.hid hGEN
              clear hGEN
              have z0 := (blk5 H8.out.1).1
              have z1 := (blk5 H8.out.1).2.1
              have z2 := (blk5 H8.out.1).2.2.1
              have z3 := (blk5 H8.out.1).2.2.2.1
              have z4 := (blk5 H8.out.1).2.2.2.2.1
              have y0 := (blk5 H8.out.1).2.2.2.2.2.1
              have y1 := (blk5 H8.out.1).2.2.2.2.2.2.1
              have y2 := (blk5 H8.out.1).2.2.2.2.2.2.2.1
              have y3 := (blk5 H8.out.1).2.2.2.2.2.2.2.2.1
              have y4 := (blk5 H8.out.1).2.2.2.2.2.2.2.2.2
              have v0 := (blk5 H8.out.2.1).1
              have v1 := (blk5 H8.out.2.1).2.1
              have v2 := (blk5 H8.out.2.1).2.2.1
              have v3 := (blk5 H8.out.2.1).2.2.2.1
              have v4 := (blk5 H8.out.2.1).2.2.2.2.1
              have s0 := (blk5 H8.out.2.1).2.2.2.2.2.1
              have s1 := (blk5 H8.out.2.1).2.2.2.2.2.2.1
              have s2 := (blk5 H8.out.2.1).2.2.2.2.2.2.2.1
              have s3 := (blk5 H8.out.2.1).2.2.2.2.2.2.2.2.1
              have s4 := (blk5 H8.out.2.1).2.2.2.2.2.2.2.2.2
              have o0 := (blk5 H8.out.2.2.1).1
              have o1 := (blk5 H8.out.2.2.1).2.1
              have o2 := (blk5 H8.out.2.2.1).2.2.1
              have o3 := (blk5 H8.out.2.2.1).2.2.2.1
              have o4 := (blk5 H8.out.2.2.1).2.2.2.2.1
              have p0 := (blk5 H8.out.2.2.1).2.2.2.2.2.1
              have p1 := (blk5 H8.out.2.2.1).2.2.2.2.2.2.1
              have p2 := (blk5 H8.out.2.2.1).2.2.2.2.2.2.2.1
              have p3 := (blk5 H8.out.2.2.1).2.2.2.2.2.2.2.2.1
              have p4 := (blk5 H8.out.2.2.1).2.2.2.2.2.2.2.2.2
              cases qs : (R.2.1 != 0)
              · cases qg : (R.1.g != t.g)
                · repeat (first | go_values | go_skip | go_guarded | go_step | go_upon | go_quiet (fail))
                  refine (same_yes R.1 a4 a6 c4 c6 w8 (by omega) H8.out.2.2.2.1 H8.out.2.2.2.2.1).mono ?_
                  rintro e yy1 ⟨rfl, hy1⟩
                  dsimp only
                  have hs1 := hy1.size
                  clear v0 v1 v2 v3 v4 s0 s1 s2 s3 s4
                  clear z0 z1 z2 z3 z4 y0 y1 y2 y3 y4
                  clear o0 o1 o2 o3 o4 p0 p1 p2 p3 p4
                  have cT1 := (hy1.block T (by omega)).trans H8.out.1
                  have cW1 := (hy1.block W H8.out.2.2.2.2.2.2.2).trans H8.out.2.2.1
                  have z0 := (blk5 cT1).1
                  have z1 := (blk5 cT1).2.1
                  have z2 := (blk5 cT1).2.2.1
                  have z3 := (blk5 cT1).2.2.2.1
                  have z4 := (blk5 cT1).2.2.2.2.1
                  have y0 := (blk5 cT1).2.2.2.2.2.1
                  have y1 := (blk5 cT1).2.2.2.2.2.2.1
                  have y2 := (blk5 cT1).2.2.2.2.2.2.2.1
                  have y3 := (blk5 cT1).2.2.2.2.2.2.2.2.1
                  have y4 := (blk5 cT1).2.2.2.2.2.2.2.2.2
                  have o0 := (blk5 cW1).1
                  have o1 := (blk5 cW1).2.1
                  have o2 := (blk5 cW1).2.2.1
                  have o3 := (blk5 cW1).2.2.2.1
                  have o4 := (blk5 cW1).2.2.2.2.1
                  have p0 := (blk5 cW1).2.2.2.2.2.1
                  have p1 := (blk5 cW1).2.2.2.2.2.2.1
                  have p2 := (blk5 cW1).2.2.2.2.2.2.2.1
                  have p3 := (blk5 cW1).2.2.2.2.2.2.2.2.1
                  have p4 := (blk5 cW1).2.2.2.2.2.2.2.2.2
                  clear cT1 cW1
                  repeat (first | go_values | go_skip | go_guarded | go_step | go_upon | go_quiet (fail))
                  refine (sound_yes R.1 a4 c4 yy1 (by omega) (H8.out.2.2.2.1.below hy1) HSR.out).mono ?_
                  rintro e yy2 ⟨rfl, hy2⟩
                  dsimp only
                  have hb2 : Below w8.heap.size w8 yy2 := hy1.trans (hy2.mono hy1.size)
                  have hs2 := hb2.size
                  clear z0 z1 z2 z3 z4 y0 y1 y2 y3 y4
                  clear o0 o1 o2 o3 o4 p0 p1 p2 p3 p4
                  have cT2 := (hb2.block T (by omega)).trans H8.out.1
                  have cW2 := (hb2.block W H8.out.2.2.2.2.2.2.2).trans H8.out.2.2.1
                  have z0 := (blk5 cT2).1
                  have z1 := (blk5 cT2).2.1
                  have z2 := (blk5 cT2).2.2.1
                  have z3 := (blk5 cT2).2.2.2.1
                  have z4 := (blk5 cT2).2.2.2.2.1
                  have y0 := (blk5 cT2).2.2.2.2.2.1
                  have y1 := (blk5 cT2).2.2.2.2.2.2.1
                  have y2 := (blk5 cT2).2.2.2.2.2.2.2.1
                  have y3 := (blk5 cT2).2.2.2.2.2.2.2.2.1
                  have y4 := (blk5 cT2).2.2.2.2.2.2.2.2.2
                  have o0 := (blk5 cW2).1
                  have o1 := (blk5 cW2).2.1
                  have o2 := (blk5 cW2).2.2.1
                  have o3 := (blk5 cW2).2.2.2.1
                  have o4 := (blk5 cW2).2.2.2.2.1
                  have p0 := (blk5 cW2).2.2.2.2.2.1
                  have p1 := (blk5 cW2).2.2.2.2.2.2.1
                  have p2 := (blk5 cW2).2.2.2.2.2.2.2.1
                  have p3 := (blk5 cW2).2.2.2.2.2.2.2.2.1
                  have p4 := (blk5 cW2).2.2.2.2.2.2.2.2.2
                  clear cT2 cW2
                  repeat (first | go_values | go_skip | go_guarded | go_step | go_upon | go_quiet (fail))
                  go_roundw
                  case rel => exact ⟨j + 1, R.1, a4, c4, a6, c6, by omega, by go_num, by rw [show R.1.g = t.g by simpa using qg], HSR.out, HRT.out.below hb2⟩
                  case measure => simp [intOf]; omega
                · repeat (first | go_values | go_skip | go_guarded | go_step | go_upon | go_quiet (fail))
                  refine (same_yes R.1 a4 a6 c4 c6 w8 (by omega) H8.out.2.2.2.1 H8.out.2.2.2.2.1).mono ?_
                  rintro e yy1 ⟨rfl, hy1⟩
                  dsimp only
                  have hs1 := hy1.size
                  clear v0 v1 v2 v3 v4 s0 s1 s2 s3 s4
                  clear z0 z1 z2 z3 z4 y0 y1 y2 y3 y4
                  clear o0 o1 o2 o3 o4 p0 p1 p2 p3 p4
                  have cT1 := (hy1.block T (by omega)).trans H8.out.1
                  have cW1 := (hy1.block W H8.out.2.2.2.2.2.2.2).trans H8.out.2.2.1
                  have z0 := (blk5 cT1).1
                  have z1 := (blk5 cT1).2.1
                  have z2 := (blk5 cT1).2.2.1
                  have z3 := (blk5 cT1).2.2.2.1
                  have z4 := (blk5 cT1).2.2.2.2.1
                  have y0 := (blk5 cT1).2.2.2.2.2.1
                  have y1 := (blk5 cT1).2.2.2.2.2.2.1
                  have y2 := (blk5 cT1).2.2.2.2.2.2.2.1
                  have y3 := (blk5 cT1).2.2.2.2.2.2.2.2.1
                  have y4 := (blk5 cT1).2.2.2.2.2.2.2.2.2
                  have o0 := (blk5 cW1).1
                  have o1 := (blk5 cW1).2.1
                  have o2 := (blk5 cW1).2.2.1
                  have o3 := (blk5 cW1).2.2.2.1
                  have o4 := (blk5 cW1).2.2.2.2.1
                  have p0 := (blk5 cW1).2.2.2.2.2.1
                  have p1 := (blk5 cW1).2.2.2.2.2.2.1
                  have p2 := (blk5 cW1).2.2.2.2.2.2.2.1
                  have p3 := (blk5 cW1).2.2.2.2.2.2.2.2.1
                  have p4 := (blk5 cW1).2.2.2.2.2.2.2.2.2
                  clear cT1 cW1
                  repeat (first | go_values | go_skip | go_guarded | go_step | go_upon | go_quiet (fail))
                  refine (sound_yes R.1 a4 c4 yy1 (by omega) (H8.out.2.2.2.1.below hy1) HSR.out).mono ?_
                  rintro e yy2 ⟨rfl, hy2⟩
                  dsimp only
                  have hb2 : Below w8.heap.size w8 yy2 := hy1.trans (hy2.mono hy1.size)
                  have hs2 := hb2.size
                  clear z0 z1 z2 z3 z4 y0 y1 y2 y3 y4
                  clear o0 o1 o2 o3 o4 p0 p1 p2 p3 p4
                  have cT2 := (hb2.block T (by omega)).trans H8.out.1
                  have cW2 := (hb2.block W H8.out.2.2.2.2.2.2.2).trans H8.out.2.2.1
                  have z0 := (blk5 cT2).1
                  have z1 := (blk5 cT2).2.1
                  have z2 := (blk5 cT2).2.2.1
                  have z3 := (blk5 cT2).2.2.2.1
                  have z4 := (blk5 cT2).2.2.2.2.1
                  have y0 := (blk5 cT2).2.2.2.2.2.1
                  have y1 := (blk5 cT2).2.2.2.2.2.2.1
                  have y2 := (blk5 cT2).2.2.2.2.2.2.2.1
                  have y3 := (blk5 cT2).2.2.2.2.2.2.2.2.1
                  have y4 := (blk5 cT2).2.2.2.2.2.2.2.2.2
                  have o0 := (blk5 cW2).1
                  have o1 := (blk5 cW2).2.1
                  have o2 := (blk5 cW2).2.2.1
                  have o3 := (blk5 cW2).2.2.2.1
                  have o4 := (blk5 cW2).2.2.2.2.1
                  have p0 := (blk5 cW2).2.2.2.2.2.1
                  have p1 := (blk5 cW2).2.2.2.2.2.2.1
                  have p2 := (blk5 cW2).2.2.2.2.2.2.2.1
                  have p3 := (blk5 cW2).2.2.2.2.2.2.2.2.1
                  have p4 := (blk5 cW2).2.2.2.2.2.2.2.2.2
                  clear cT2 cW2
                  repeat (first | go_values | go_skip | go_guarded | go_step | go_upon | go_quiet (fail))
                  go_roundw
                  case rel => exact ⟨j + 1, R.1, a4, c4, a6, c6, by omega, by go_num, by rw [show R.1.g = _root_.Go.Proofs.Ytopakonpfbbldaa.u32 (t.g + 1) by rcases HGEN.out with e | e; (· simp [e] at qg); (· exact e)]; rfl, HSR.out, HRT.out.below hb2⟩
                  case measure => simp [intOf]; omega
              · have hRt : R.1 = t := by
                  rw [← HRR.out]
                  exact ract_idle _ _ _ _ _ _ _ (by rw [HRR.out]; simpa using qs)
                subst hRt
                repeat (first | go_values | go_skip | go_guarded | go_step | go_upon | go_quiet (fail))
                refine (same_yes R.1 a4 a6 c4 c6 w8 (by omega) H8.out.2.2.2.1 H8.out.2.2.2.2.1).mono ?_
                rintro e yy1 ⟨rfl, hy1⟩
                dsimp only
                have hs1 := hy1.size
                clear v0 v1 v2 v3 v4 s0 s1 s2 s3 s4
                clear z0 z1 z2 z3 z4 y0 y1 y2 y3 y4
                clear o0 o1 o2 o3 o4 p0 p1 p2 p3 p4
                have cT1 := (hy1.block T (by omega)).trans H8.out.1
                have cW1 := (hy1.block W H8.out.2.2.2.2.2.2.2).trans H8.out.2.2.1
                have z0 := (blk5 cT1).1
                have z1 := (blk5 cT1).2.1
                have z2 := (blk5 cT1).2.2.1
                have z3 := (blk5 cT1).2.2.2.1
                have z4 := (blk5 cT1).2.2.2.2.1
                have y0 := (blk5 cT1).2.2.2.2.2.1
                have y1 := (blk5 cT1).2.2.2.2.2.2.1
                have y2 := (blk5 cT1).2.2.2.2.2.2.2.1
                have y3 := (blk5 cT1).2.2.2.2.2.2.2.2.1
                have y4 := (blk5 cT1).2.2.2.2.2.2.2.2.2
                have o0 := (blk5 cW1).1
                have o1 := (blk5 cW1).2.1
                have o2 := (blk5 cW1).2.2.1
                have o3 := (blk5 cW1).2.2.2.1
                have o4 := (blk5 cW1).2.2.2.2.1
                have p0 := (blk5 cW1).2.2.2.2.2.1
                have p1 := (blk5 cW1).2.2.2.2.2.2.1
                have p2 := (blk5 cW1).2.2.2.2.2.2.2.1
                have p3 := (blk5 cW1).2.2.2.2.2.2.2.2.1
                have p4 := (blk5 cW1).2.2.2.2.2.2.2.2.2
                clear cT1 cW1
                repeat (first | go_values | go_skip | go_guarded | go_step | go_upon | go_quiet (fail))
                refine (sound_yes R.1 a4 c4 yy1 (by omega) (H8.out.2.2.2.1.below hy1) HSR.out).mono ?_
                rintro e yy2 ⟨rfl, hy2⟩
                dsimp only
                have hb2 : Below w8.heap.size w8 yy2 := hy1.trans (hy2.mono hy1.size)
                have hs2 := hb2.size
                clear z0 z1 z2 z3 z4 y0 y1 y2 y3 y4
                clear o0 o1 o2 o3 o4 p0 p1 p2 p3 p4
                have cT2 := (hb2.block T (by omega)).trans H8.out.1
                have cW2 := (hb2.block W H8.out.2.2.2.2.2.2.2).trans H8.out.2.2.1
                have z0 := (blk5 cT2).1
                have z1 := (blk5 cT2).2.1
                have z2 := (blk5 cT2).2.2.1
                have z3 := (blk5 cT2).2.2.2.1
                have z4 := (blk5 cT2).2.2.2.2.1
                have y0 := (blk5 cT2).2.2.2.2.2.1
                have y1 := (blk5 cT2).2.2.2.2.2.2.1
                have y2 := (blk5 cT2).2.2.2.2.2.2.2.1
                have y3 := (blk5 cT2).2.2.2.2.2.2.2.2.1
                have y4 := (blk5 cT2).2.2.2.2.2.2.2.2.2
                have o0 := (blk5 cW2).1
                have o1 := (blk5 cW2).2.1
                have o2 := (blk5 cW2).2.2.1
                have o3 := (blk5 cW2).2.2.2.1
                have o4 := (blk5 cW2).2.2.2.2.1
                have p0 := (blk5 cW2).2.2.2.2.2.1
                have p1 := (blk5 cW2).2.2.2.2.2.2.1
                have p2 := (blk5 cW2).2.2.2.2.2.2.2.1
                have p3 := (blk5 cW2).2.2.2.2.2.2.2.2.1
                have p4 := (blk5 cW2).2.2.2.2.2.2.2.2.2
                clear cT2 cW2
                repeat (first | go_values | go_skip | go_guarded | go_step | go_upon | go_quiet (fail))
                refine (same_yes R.1 a4 a1 c4 c1 yy2 (by omega) (H8.out.2.2.2.1.below hb2) (H8.out.2.2.2.2.2.1.below hb2)).mono ?_
                rintro e yy3 ⟨rfl, hy3⟩
                dsimp only
                have hb3 : Below w8.heap.size w8 yy3 := hb2.trans (hy3.mono hb2.size)
                have hs3 := hb3.size
                clear z0 z1 z2 z3 z4 y0 y1 y2 y3 y4
                clear o0 o1 o2 o3 o4 p0 p1 p2 p3 p4
                have cT3 := (hb3.block T (by omega)).trans H8.out.1
                have cW3 := (hb3.block W H8.out.2.2.2.2.2.2.2).trans H8.out.2.2.1
                have z0 := (blk5 cT3).1
                have z1 := (blk5 cT3).2.1
                have z2 := (blk5 cT3).2.2.1
                have z3 := (blk5 cT3).2.2.2.1
                have z4 := (blk5 cT3).2.2.2.2.1
                have y0 := (blk5 cT3).2.2.2.2.2.1
                have y1 := (blk5 cT3).2.2.2.2.2.2.1
                have y2 := (blk5 cT3).2.2.2.2.2.2.2.1
                have y3 := (blk5 cT3).2.2.2.2.2.2.2.2.1
                have y4 := (blk5 cT3).2.2.2.2.2.2.2.2.2
                have o0 := (blk5 cW3).1
                have o1 := (blk5 cW3).2.1
                have o2 := (blk5 cW3).2.2.1
                have o3 := (blk5 cW3).2.2.2.1
                have o4 := (blk5 cW3).2.2.2.2.1
                have p0 := (blk5 cW3).2.2.2.2.2.1
                have p1 := (blk5 cW3).2.2.2.2.2.2.1
                have p2 := (blk5 cW3).2.2.2.2.2.2.2.1
                have p3 := (blk5 cW3).2.2.2.2.2.2.2.2.1
                have p4 := (blk5 cW3).2.2.2.2.2.2.2.2.2
                clear cT3 cW3
                repeat (first | go_values | go_skip | go_guarded | go_step | go_upon | go_quiet (fail))
                go_roundw
                case rel => exact ⟨j + 1, R.1, a4, c4, a6, c6, by omega, by go_num, rfl, HSR.out, HRT.out.below hb3⟩
                case measure => simp [intOf]; omega
            · simp only [List.drop_succ_cons, List.drop_zero, List.take_succ_cons, List.take_zero]
              go_wp2_with fail
              refine (told_any cs[j].ac cs[j].oty cs[j].key cs[j].other cs[j].oap _).mono ?_
              rintro e x1 ⟨rfl, hx1⟩
              dsimp only
              go_wp2_with fail
              have hX1 : Below w7.heap.size w7 x1 := (Below.refl w7.heap.size w7).drew.trans (hx1.mono ((Below.refl w7.heap.size w7).drew).size)
              refine mixQ_normal ⟨growsB_of hR7 (grown_of_below hX1 _), ?_⟩
              clear z0 z1 z2 z3 z4 y0 y1 y2 y3 y4
              have cM := (hX1.block (T + 1) hR7).trans H7.out.2.1
              have z0 := (blk5 cM).1
              have z1 := (blk5 cM).2.1
              have z2 := (blk5 cM).2.2.1
              have z3 := (blk5 cM).2.2.2.1
              have z4 := (blk5 cM).2.2.2.2.1
              have y0 := (blk5 cM).2.2.2.2.2.1
              have y1 := (blk5 cM).2.2.2.2.2.2.1
              have y2 := (blk5 cM).2.2.2.2.2.2.2.1
              have y3 := (blk5 cM).2.2.2.2.2.2.2.2.1
              have y4 := (blk5 cM).2.2.2.2.2.2.2.2.2
              clear cM
              with_reducible refine plan_a ?_
              simp only [List.drop_succ_cons, List.drop_zero, List.take_succ_cons, List.take_zero]
              go_wp2_with fail
              refine mixQ_normal ⟨growsB_of hR7 (grown_of_below hX1 _), ?_⟩
              with_reducible refine plan_a ?_
              simp only [List.drop_succ_cons, List.drop_zero, List.take_succ_cons, List.take_zero]
              go_wp2_with fail
              refine (rpost_to (ract_any t cs[j].n cs[j].ac cs[j].oty cs[j].key cs[j].other cs[j].oap a2 c2 _ (by omega) hn0 hn8 hhl (H7.out.2.2.2.2.2.1.below hX1) HN.out.2 htyp) HRR.out).mono ?_
              rintro e x2 ⟨a6, c6, b6, d6, rfl, hk6, hn6, hi6, hx2⟩
              dsimp only
              go_wp2_with fail
              have hX2 : Below w7.heap.size w7 x2 := hX1.trans (hx2.mono (hX1).size)
              refine mixQ_normal ⟨growsB_of hR7 (grown_of_below hX2 _), ?_⟩
              have HK6 := Lib.hid (And.intro hk6 hn6)
              clear hk6 hn6 hi6
              with_reducible refine plan_q ?_
              simp only [List.drop_succ_cons, List.drop_zero, List.take_succ_cons, List.take_zero]
              go_big_quiet_step (fail)
              with_reducible refine wpQuiet_nil ?_
              with_reducible refine plan_q ?_
              simp only [List.drop_succ_cons, List.drop_zero, List.take_succ_cons, List.take_zero]
              go_big_quiet_step (fail)
              with_reducible refine wpQuiet_nil ?_
              with_reducible refine plan_q ?_
              simp only [List.drop_succ_cons, List.drop_zero, List.take_succ_cons, List.take_zero]
              go_big_quiet_step (fail)
              with_reducible refine wpQuiet_nil ?_
              with_reducible refine plan_q ?_
              simp only [List.drop_succ_cons, List.drop_zero, List.take_succ_cons, List.take_zero]
              go_big_quiet_step (fail)
              with_reducible refine wpQuiet_nil ?_
              with_reducible refine plan_a ?_
              clear z0 z1 z2 z3 z4 y0 y1 y2 y3 y4
              have cM := (hX2.block (T + 1) hR7).trans H7.out.2.1
              have z0 := (blk5 cM).1
              have z1 := (blk5 cM).2.1
              have z2 := (blk5 cM).2.2.1
              have z3 := (blk5 cM).2.2.2.1
              have z4 := (blk5 cM).2.2.2.2.1
              have y0 := (blk5 cM).2.2.2.2.2.1
              have y1 := (blk5 cM).2.2.2.2.2.2.1
              have y2 := (blk5 cM).2.2.2.2.2.2.2.1
              have y3 := (blk5 cM).2.2.2.2.2.2.2.2.1
              have y4 := (blk5 cM).2.2.2.2.2.2.2.2.2
              simp only [List.drop_succ_cons, List.drop_zero, List.take_succ_cons, List.take_zero]
              go_wp2_with fail
              have hg := grown_trans (grown_trans (grown_trans (grown_trans (grown_set x2 (T + 1) 0 (.int .u32 R.1.g)) (grown_set _ _ 1 (.slice a6 R.1.ks.length c6))) (grown_set _ _ 2 (.int .i64 R.1.h))) (grown_set _ _ 3 (.int .i64 R.1.ty))) (grown_set _ _ 4 (.bool R.1.ap))
              have hbX := hX2.size
              refine mixQ_normal ⟨growsB_of hR7 (grown_trans (grown_of_below hX2 _) hg), ?_⟩
              with_reducible refine plan_q ?_
              simp only [List.drop_succ_cons, List.drop_zero, List.take_succ_cons, List.take_zero]
              go_big_quiet_step (fail)
              with_reducible refine wpQuiet_nil ?_
              with_reducible refine plan_nil ?_
              have cT := (hg.block T (by omega) (by simp)).trans ((hX2.block T (by omega)).trans H7.out.1)
              have cW := (hg.block W (by omega) (by simp; omega)).trans ((hX2.block W hW7).trans H7.out.2.2.2.1)
              have kA := (H7.out.2.2.2.2.1.below hX2).grown hg cM (by simp) (by simp) (by simp)
              have kB := HK6.out.1.grown hg cM (by simp) (by simp) (by simp)
              have kW := (H7.out.2.2.2.2.2.2.1.below hX2).grown hg cM (by simp) (by simp) (by simp)
              have hB8 := (H7.out.2.2.2.2.2.2.2.1.trans (hX2.mono (H7.out.2.2.2.2.2.2.2.1.size))).grown hg (by have := H7.out.2.2.2.2.2.2.2.1.size; omega) (fun k' hk' => by cases hk'; omega)
              have cM8 := (set_blk (set_blk (set_blk (set_blk (set_blk cM (.int .u32 R.1.g) (i := 0)) (.slice a6 R.1.ks.length c6) (i := 1)) (.int .i64 R.1.h) (i := 2)) (.int .i64 R.1.ty) (i := 3)) (.bool R.1.ap) (i := 4))
              simp only [List.setIfInBounds_toArray, List.set_cons_zero, List.set_cons_succ] at cM8
              have hs8 := hg.size
              clear z0 z1 z2 z3 z4 y0 y1 y2 y3 y4
              clear hg cM hX1 hX2
              repeat (fail_if_success (with_reducible refine stop_pos "law.go:84" rfl ?_)
                      first | go_values | go_skip | go_guarded | go_step | go_upon | go_quiet (fail))
              refine gen_world (fun wx => wx.heap[T]? = some (.cells #[.int .u32 R.1.g, .slice a4 R.1.ks.length c4, .int .i64 R.1.h, .int .i64 R.1.ty, .bool R.1.ap] 25) ∧ wx.heap[T + 1]? = some (.cells #[.int .u32 R.1.g, .slice a6 R.1.ks.length c6, .int .i64 R.1.h, .int .i64 R.1.ty, .bool R.1.ap] 25) ∧ wx.heap[W]? = some (.cells #[.int .u32 t.g, .slice a1 t.ks.length c1, .int .i64 t.h, .int .i64 t.ty, .bool t.ap] 25) ∧ KeysIn wx a4 R.1.ks ∧ KeysIn wx a6 R.1.ks ∧ KeysIn wx a1 t.ks ∧ Below w.heap.size w wx ∧ W < wx.heap.size) ⟨cT, cM8, cW, kA, kB, kW, hB8, by omega⟩ ?_
              intro w8 hw8
              have H8 := Lib.hid hw8
              clear hw8 cT cM8 cW kA kB kW hB8
              have hW8 := H8.out.2.2.2.2.2.2.2
              have hl6R : R.1.ks.length ≤ 6 := (sound_inv HSR.out).1
              have hGEN : R.1.g = t.g ∨ R.1.g = _root_.Go.Proofs.Ytopakonpfbbldaa.u32 (t.g + 1) := by rw [← HRR.out]; exact ract_gen _ _ _ _ _ _ _
              have HRT := Lib.hid (show RT w T R.1 a4 c4 a6 c6 w8 from ⟨H8.out.1, H8.out.2.1, H8.out.2.2.2.1, H8.out.2.2.2.2.1, HN.out.1, HK6.out.2, H8.out.2.2.2.2.2.2.1, hwT, by omega⟩)
              have HGEN := Lib.hid hGEN
              clear hGEN
              have z0 := (blk5 H8.out.1).1
              have z1 := (blk5 H8.out.1).2.1
              have z2 := (blk5 H8.out.1).2.2.1
              have z3 := (blk5 H8.out.1).2.2.2.1
              have z4 := (blk5 H8.out.1).2.2.2.2.1
              have y0 := (blk5 H8.out.1).2.2.2.2.2.1
              have y1 := (blk5 H8.out.1).2.2.2.2.2.2.1
              have y2 := (blk5 H8.out.1).2.2.2.2.2.2.2.1
              have y3 := (blk5 H8.out.1).2.2.2.2.2.2.2.2.1
              have y4 := (blk5 H8.out.1).2.2.2.2.2.2.2.2.2
              have v0 := (blk5 H8.out.2.1).1
              have v1 := (blk5 H8.out.2.1).2.1
              have v2 := (blk5 H8.out.2.1).2.2.1
              have v3 := (blk5 H8.out.2.1).2.2.2.1
              have v4 := (blk5 H8.out.2.1).2.2.2.2.1
              have s0 := (blk5 H8.out.2.1).2.2.2.2.2.1
              have s1 := (blk5 H8.out.2.1).2.2.2.2.2.2.1
              have s2 := (blk5 H8.out.2.1).2.2.2.2.2.2.2.1
              have s3 := (blk5 H8.out.2.1).2.2.2.2.2.2.2.2.1
              have s4 := (blk5 H8.out.2.1).2.2.2.2.2.2.2.2.2
              have o0 := (blk5 H8.out.2.2.1).1
              have o1 := (blk5 H8.out.2.2.1).2.1
              have o2 := (blk5 H8.out.2.2.1).2.2.1
              have o3 := (blk5 H8.out.2.2.1).2.2.2.1
              have o4 := (blk5 H8.out.2.2.1).2.2.2.2.1
              have p0 := (blk5 H8.out.2.2.1).2.2.2.2.2.1
              have p1 := (blk5 H8.out.2.2.1).2.2.2.2.2.2.1
              have p2 := (blk5 H8.out.2.2.1).2.2.2.2.2.2.2.1
              have p3 := (blk5 H8.out.2.2.1).2.2.2.2.2.2.2.2.1
              have p4 := (blk5 H8.out.2.2.1).2.2.2.2.2.2.2.2.2
              cases qs : (R.2.1 != 0)
              · cases qg : (R.1.g != t.g)
                · repeat (first | go_values | go_skip | go_guarded | go_step | go_upon | go_quiet (fail))
                  refine (same_yes R.1 a4 a6 c4 c6 w8 (by omega) H8.out.2.2.2.1 H8.out.2.2.2.2.1).mono ?_
                  rintro e yy1 ⟨rfl, hy1⟩
                  dsimp only
                  have hs1 := hy1.size
                  clear v0 v1 v2 v3 v4 s0 s1 s2 s3 s4
                  clear z0 z1 z2 z3 z4 y0 y1 y2 y3 y4
                  clear o0 o1 o2 o3 o4 p0 p1 p2 p3 p4
                  have cT1 := (hy1.block T (by omega)).trans H8.out.1
                  have cW1 := (hy1.block W H8.out.2.2.2.2.2.2.2).trans H8.out.2.2.1
                  have z0 := (blk5 cT1).1
                  have z1 := (blk5 cT1).2.1
                  have z2 := (blk5 cT1).2.2.1
                  have z3 := (blk5 cT1).2.2.2.1
                  have z4 := (blk5 cT1).2.2.2.2.1
                  have y0 := (blk5 cT1).2.2.2.2.2.1
                  have y1 := (blk5 cT1).2.2.2.2.2.2.1
                  have y2 := (blk5 cT1).2.2.2.2.2.2.2.1
                  have y3 := (blk5 cT1).2.2.2.2.2.2.2.2.1
                  have y4 := (blk5 cT1).2.2.2.2.2.2.2.2.2
                  have o0 := (blk5 cW1).1
                  have o1 := (blk5 cW1).2.1
                  have o2 := (blk5 cW1).2.2.1
                  have o3 := (blk5 cW1).2.2.2.1
                  have o4 := (blk5 cW1).2.2.2.2.1
                  have p0 := (blk5 cW1).2.2.2.2.2.1
                  have p1 := (blk5 cW1).2.2.2.2.2.2.1
                  have p2 := (blk5 cW1).2.2.2.2.2.2.2.1
                  have p3 := (blk5 cW1).2.2.2.2.2.2.2.2.1
                  have p4 := (blk5 cW1).2.2.2.2.2.2.2.2.2
                  clear cT1 cW1
                  repeat (first | go_values | go_skip | go_guarded | go_step | go_upon | go_quiet (fail))
                  refine (sound_yes R.1 a4 c4 yy1 (by omega) (H8.out.2.2.2.1.below hy1) HSR.out).mono ?_
                  rintro e yy2 ⟨rfl, hy2⟩
                  dsimp only
                  have hb2 : Below w8.heap.size w8 yy2 := hy1.trans (hy2.mono hy1.size)
                  have hs2 := hb2.size
                  clear z0 z1 z2 z3 z4 y0 y1 y2 y3 y4
                  clear o0 o1 o2 o3 o4 p0 p1 p2 p3 p4
                  have cT2 := (hb2.block T (by omega)).trans H8.out.1
                  have cW2 := (hb2.block W H8.out.2.2.2.2.2.2.2).trans H8.out.2.2.1
                  have z0 := (blk5 cT2).1
                  have z1 := (blk5 cT2).2.1
                  have z2 := (blk5 cT2).2.2.1
                  have z3 := (blk5 cT2).2.2.2.1
                  have z4 := (blk5 cT2).2.2.2.2.1
                  have y0 := (blk5 cT2).2.2.2.2.2.1
                  have y1 := (blk5 cT2).2.2.2.2.2.2.1
                  have y2 := (blk5 cT2).2.2.2.2.2.2.2.1
                  have y3 := (blk5 cT2).2.2.2.2.2.2.2.2.1
                  have y4 := (blk5 cT2).2.2.2.2.2.2.2.2.2
                  have o0 := (blk5 cW2).1
                  have o1 := (blk5 cW2).2.1
                  have o2 := (blk5 cW2).2.2.1
                  have o3 := (blk5 cW2).2.2.2.1
                  have o4 := (blk5 cW2).2.2.2.2.1
                  have p0 := (blk5 cW2).2.2.2.2.2.1
                  have p1 := (blk5 cW2).2.2.2.2.2.2.1
                  have p2 := (blk5 cW2).2.2.2.2.2.2.2.1
                  have p3 := (blk5 cW2).2.2.2.2.2.2.2.2.1
                  have p4 := (blk5 cW2).2.2.2.2.2.2.2.2.2
                  clear cT2 cW2
                  repeat (first | go_values | go_skip | go_guarded | go_step | go_upon | go_quiet (fail))
                  go_roundw
                  case rel => exact ⟨j + 1, R.1, a4, c4, a6, c6, by omega, by go_num, by rw [show R.1.g = t.g by simpa using qg], HSR.out, HRT.out.below hb2⟩
                  case measure => simp [intOf]; omega
                · repeat (first | go_values | go_skip | go_guarded | go_step | go_upon | go_quiet (fail))
                  refine (same_yes R.1 a4 a6 c4 c6 w8 (by omega) H8.out.2.2.2.1 H8.out.2.2.2.2.1).mono ?_
                  rintro e yy1 ⟨rfl, hy1⟩
                  dsimp only
                  have hs1 := hy1.size
                  clear v0 v1 v2 v3 v4 s0 s1 s2 s3 s4
                  clear z0 z1 z2 z3 z4 y0 y1 y2 y3 y4
                  clear o0 o1 o2 o3 o4 p0 p1 p2 p3 p4
                  have cT1 := (hy1.block T (by omega)).trans H8.out.1
                  have cW1 := (hy1.block W H8.out.2.2.2.2.2.2.2).trans H8.out.2.2.1
                  have z0 := (blk5 cT1).1
                  have z1 := (blk5 cT1).2.1
                  have z2 := (blk5 cT1).2.2.1
                  have z3 := (blk5 cT1).2.2.2.1
                  have z4 := (blk5 cT1).2.2.2.2.1
                  have y0 := (blk5 cT1).2.2.2.2.2.1
                  have y1 := (blk5 cT1).2.2.2.2.2.2.1
                  have y2 := (blk5 cT1).2.2.2.2.2.2.2.1
                  have y3 := (blk5 cT1).2.2.2.2.2.2.2.2.1
                  have y4 := (blk5 cT1).2.2.2.2.2.2.2.2.2
                  have o0 := (blk5 cW1).1
                  have o1 := (blk5 cW1).2.1
                  have o2 := (blk5 cW1).2.2.1
                  have o3 := (blk5 cW1).2.2.2.1
                  have o4 := (blk5 cW1).2.2.2.2.1
                  have p0 := (blk5 cW1).2.2.2.2.2.1
                  have p1 := (blk5 cW1).2.2.2.2.2.2.1
                  have p2 := (blk5 cW1).2.2.2.2.2.2.2.1
                  have p3 := (blk5 cW1).2.2.2.2.2.2.2.2.1
                  have p4 := (blk5 cW1).2.2.2.2.2.2.2.2.2
                  clear cT1 cW1
                  repeat (first | go_values | go_skip | go_guarded | go_step | go_upon | go_quiet (fail))
                  refine (sound_yes R.1 a4 c4 yy1 (by omega) (H8.out.2.2.2.1.below hy1) HSR.out).mono ?_
                  rintro e yy2 ⟨rfl, hy2⟩
                  dsimp only
                  have hb2 : Below w8.heap.size w8 yy2 := hy1.trans (hy2.mono hy1.size)
                  have hs2 := hb2.size
                  clear z0 z1 z2 z3 z4 y0 y1 y2 y3 y4
                  clear o0 o1 o2 o3 o4 p0 p1 p2 p3 p4
                  have cT2 := (hb2.block T (by omega)).trans H8.out.1
                  have cW2 := (hb2.block W H8.out.2.2.2.2.2.2.2).trans H8.out.2.2.1
                  have z0 := (blk5 cT2).1
                  have z1 := (blk5 cT2).2.1
                  have z2 := (blk5 cT2).2.2.1
                  have z3 := (blk5 cT2).2.2.2.1
                  have z4 := (blk5 cT2).2.2.2.2.1
                  have y0 := (blk5 cT2).2.2.2.2.2.1
                  have y1 := (blk5 cT2).2.2.2.2.2.2.1
                  have y2 := (blk5 cT2).2.2.2.2.2.2.2.1
                  have y3 := (blk5 cT2).2.2.2.2.2.2.2.2.1
                  have y4 := (blk5 cT2).2.2.2.2.2.2.2.2.2
                  have o0 := (blk5 cW2).1
                  have o1 := (blk5 cW2).2.1
                  have o2 := (blk5 cW2).2.2.1
                  have o3 := (blk5 cW2).2.2.2.1
                  have o4 := (blk5 cW2).2.2.2.2.1
                  have p0 := (blk5 cW2).2.2.2.2.2.1
                  have p1 := (blk5 cW2).2.2.2.2.2.2.1
                  have p2 := (blk5 cW2).2.2.2.2.2.2.2.1
                  have p3 := (blk5 cW2).2.2.2.2.2.2.2.2.1
                  have p4 := (blk5 cW2).2.2.2.2.2.2.2.2.2
                  clear cT2 cW2
                  repeat (first | go_values | go_skip | go_guarded | go_step | go_upon | go_quiet (fail))
                  go_roundw
                  case rel => exact ⟨j + 1, R.1, a4, c4, a6, c6, by omega, by go_num, by rw [show R.1.g = _root_.Go.Proofs.Ytopakonpfbbldaa.u32 (t.g + 1) by rcases HGEN.out with e | e; (· simp [e] at qg); (· exact e)]; rfl, HSR.out, HRT.out.below hb2⟩
                  case measure => simp [intOf]; omega
              · have hRt : R.1 = t := by
                  rw [← HRR.out]
                  exact ract_idle _ _ _ _ _ _ _ (by rw [HRR.out]; simpa using qs)
                subst hRt
                repeat (first | go_values | go_skip | go_guarded | go_step | go_upon | go_quiet (fail))
                refine (same_yes R.1 a4 a6 c4 c6 w8 (by omega) H8.out.2.2.2.1 H8.out.2.2.2.2.1).mono ?_
                rintro e yy1 ⟨rfl, hy1⟩
                dsimp only
                have hs1 := hy1.size
                clear v0 v1 v2 v3 v4 s0 s1 s2 s3 s4
                clear z0 z1 z2 z3 z4 y0 y1 y2 y3 y4
                clear o0 o1 o2 o3 o4 p0 p1 p2 p3 p4
                have cT1 := (hy1.block T (by omega)).trans H8.out.1
                have cW1 := (hy1.block W H8.out.2.2.2.2.2.2.2).trans H8.out.2.2.1
                have z0 := (blk5 cT1).1
                have z1 := (blk5 cT1).2.1
                have z2 := (blk5 cT1).2.2.1
                have z3 := (blk5 cT1).2.2.2.1
                have z4 := (blk5 cT1).2.2.2.2.1
                have y0 := (blk5 cT1).2.2.2.2.2.1
                have y1 := (blk5 cT1).2.2.2.2.2.2.1
                have y2 := (blk5 cT1).2.2.2.2.2.2.2.1
                have y3 := (blk5 cT1).2.2.2.2.2.2.2.2.1
                have y4 := (blk5 cT1).2.2.2.2.2.2.2.2.2
                have o0 := (blk5 cW1).1
                have o1 := (blk5 cW1).2.1
                have o2 := (blk5 cW1).2.2.1
                have o3 := (blk5 cW1).2.2.2.1
                have o4 := (blk5 cW1).2.2.2.2.1
                have p0 := (blk5 cW1).2.2.2.2.2.1
                have p1 := (blk5 cW1).2.2.2.2.2.2.1
                have p2 := (blk5 cW1).2.2.2.2.2.2.2.1
                have p3 := (blk5 cW1).2.2.2.2.2.2.2.2.1
                have p4 := (blk5 cW1).2.2.2.2.2.2.2.2.2
                clear cT1 cW1
                repeat (first | go_values | go_skip | go_guarded | go_step | go_upon | go_quiet (fail))
                refine (sound_yes R.1 a4 c4 yy1 (by omega) (H8.out.2.2.2.1.below hy1) HSR.out).mono ?_
                rintro e yy2 ⟨rfl, hy2⟩
                dsimp only
                have hb2 : Below w8.heap.size w8 yy2 := hy1.trans (hy2.mono hy1.size)
                have hs2 := hb2.size
                clear z0 z1 z2 z3 z4 y0 y1 y2 y3 y4
                clear o0 o1 o2 o3 o4 p0 p1 p2 p3 p4
                have cT2 := (hb2.block T (by omega)).trans H8.out.1
                have cW2 := (hb2.block W H8.out.2.2.2.2.2.2.2).trans H8.out.2.2.1
                have z0 := (blk5 cT2).1
                have z1 := (blk5 cT2).2.1
                have z2 := (blk5 cT2).2.2.1
                have z3 := (blk5 cT2).2.2.2.1
                have z4 := (blk5 cT2).2.2.2.2.1
                have y0 := (blk5 cT2).2.2.2.2.2.1
                have y1 := (blk5 cT2).2.2.2.2.2.2.1
                have y2 := (blk5 cT2).2.2.2.2.2.2.2.1
                have y3 := (blk5 cT2).2.2.2.2.2.2.2.2.1
                have y4 := (blk5 cT2).2.2.2.2.2.2.2.2.2
                have o0 := (blk5 cW2).1
                have o1 := (blk5 cW2).2.1
                have o2 := (blk5 cW2).2.2.1
                have o3 := (blk5 cW2).2.2.2.1
                have o4 := (blk5 cW2).2.2.2.2.1
                have p0 := (blk5 cW2).2.2.2.2.2.1
                have p1 := (blk5 cW2).2.2.2.2.2.2.1
                have p2 := (blk5 cW2).2.2.2.2.2.2.2.1
                have p3 := (blk5 cW2).2.2.2.2.2.2.2.2.1
                have p4 := (blk5 cW2).2.2.2.2.2.2.2.2.2
                clear cT2 cW2
                repeat (first | go_values | go_skip | go_guarded | go_step | go_upon | go_quiet (fail))
                refine (same_yes R.1 a4 a1 c4 c1 yy2 (by omega) (H8.out.2.2.2.1.below hb2) (H8.out.2.2.2.2.2.1.below hb2)).mono ?_
                rintro e yy3 ⟨rfl, hy3⟩
                dsimp only
                have hb3 : Below w8.heap.size w8 yy3 := hb2.trans (hy3.mono hb2.size)
                have hs3 := hb3.size
                clear z0 z1 z2 z3 z4 y0 y1 y2 y3 y4
                clear o0 o1 o2 o3 o4 p0 p1 p2 p3 p4
                have cT3 := (hb3.block T (by omega)).trans H8.out.1
                have cW3 := (hb3.block W H8.out.2.2.2.2.2.2.2).trans H8.out.2.2.1
                have z0 := (blk5 cT3).1
                have z1 := (blk5 cT3).2.1
                have z2 := (blk5 cT3).2.2.1
                have z3 := (blk5 cT3).2.2.2.1
                have z4 := (blk5 cT3).2.2.2.2.1
                have y0 := (blk5 cT3).2.2.2.2.2.1
                have y1 := (blk5 cT3).2.2.2.2.2.2.1
                have y2 := (blk5 cT3).2.2.2.2.2.2.2.1
                have y3 := (blk5 cT3).2.2.2.2.2.2.2.2.1
                have y4 := (blk5 cT3).2.2.2.2.2.2.2.2.2
                have o0 := (blk5 cW3).1
                have o1 := (blk5 cW3).2.1
                have o2 := (blk5 cW3).2.2.1
                have o3 := (blk5 cW3).2.2.2.1
                have o4 := (blk5 cW3).2.2.2.2.1
                have p0 := (blk5 cW3).2.2.2.2.2.1
                have p1 := (blk5 cW3).2.2.2.2.2.2.1
                have p2 := (blk5 cW3).2.2.2.2.2.2.2.1
                have p3 := (blk5 cW3).2.2.2.2.2.2.2.2.1
                have p4 := (blk5 cW3).2.2.2.2.2.2.2.2.2
                clear cT3 cW3
                repeat (first | go_values | go_skip | go_guarded | go_step | go_upon | go_quiet (fail))
                go_roundw
                case rel => exact ⟨j + 1, R.1, a4, c4, a6, c6, by omega, by go_num, rfl, HSR.out, HRT.out.below hb3⟩
                case measure => simp [intOf]; omega
          · repeat (fail_if_success (with_reducible refine stop_pos "law.go:74" rfl ?_)
                    first | go_values | go_skip | go_guarded | go_step | go_upon | go_quiet (fail))
            refine gen_world (fun wx => RT w T t a1 c1 a2 c2 wx ∧ wx.heap[wr.heap.size]? = some (.cells #[.int .i64 cs[j].n, .int .i64 cs[j].ac, .int .i64 cs[j].oty, .int .u64 cs[j].key, .int .u64 cs[j].other, .bool cs[j].oap] 49) ∧ wr.heap.size < wx.heap.size) ?_ ?_
            · exact ⟨HR.out.below (Below.alloc (Below.refl _ _) (Nat.le_refl _) _), heap_alloc_new wr _, by simp⟩
            intro w4 hw4
            generalize hC : wr.heap.size = C at hw4 hTr ⊢
            have H4 := Lib.hid hw4
            clear hw4 hC d1 d2 d3 d4 d5 d6 HR
            have q0 := (blk6 H4.out.2.1).1
            have q1 := (blk6 H4.out.2.1).2.1
            have q2 := (blk6 H4.out.2.1).2.2.1
            have q3 := (blk6 H4.out.2.1).2.2.2.1
            have q4 := (blk6 H4.out.2.1).2.2.2.2.1
            have q5 := (blk6 H4.out.2.1).2.2.2.2.2
            repeat (first | go_values | go_skip | go_guarded | go_step | go_upon | go_quiet (fail))
            go_roundw
            case rel => exact ⟨j + 1, t, a1, c1, a2, c2, by omega, by go_num, rfl, HS.out, H4.out.1⟩
            case measure => simp [intOf]; omega
        · repeat (fail_if_success (with_reducible refine stop_pos "law.go:74" rfl ?_)
                  first | go_values | go_skip | go_guarded | go_step | go_upon | go_quiet (fail))
          refine gen_world (fun wx => RT w T t a1 c1 a2 c2 wx ∧ wx.heap[wr.heap.size]? = some (.cells #[.int .i64 cs[j].n, .int .i64 cs[j].ac, .int .i64 cs[j].oty, .int .u64 cs[j].key, .int .u64 cs[j].other, .bool cs[j].oap] 49) ∧ wr.heap.size < wx.heap.size) ?_ ?_
          · exact ⟨HR.out.below (Below.alloc (Below.refl _ _) (Nat.le_refl _) _), heap_alloc_new wr _, by simp⟩
          intro w4 hw4
          generalize hC : wr.heap.size = C at hw4 hTr ⊢
          have H4 := Lib.hid hw4
          clear hw4 hC d1 d2 d3 d4 d5 d6 HR
          have q0 := (blk6 H4.out.2.1).1
          have q1 := (blk6 H4.out.2.1).2.1
          have q2 := (blk6 H4.out.2.1).2.2.1
          have q3 := (blk6 H4.out.2.1).2.2.2.1
          have q4 := (blk6 H4.out.2.1).2.2.2.2.1
          have q5 := (blk6 H4.out.2.1).2.2.2.2.2
          repeat (first | go_values | go_skip | go_guarded | go_step | go_upon | go_quiet (fail))
          go_roundw
          case rel => exact ⟨j + 1, t, a1, c1, a2, c2, by omega, by go_num, rfl, HS.out, H4.out.1⟩
          case measure => simp [intOf]; omega
      · repeat (fail_if_success (with_reducible refine stop_pos "law.go:74" rfl ?_)
                first | go_values | go_skip | go_guarded | go_step | go_upon | go_quiet (fail))
        refine gen_world (fun wx => RT w T t a1 c1 a2 c2 wx ∧ wx.heap[wr.heap.size]? = some (.cells #[.int .i64 cs[j].n, .int .i64 cs[j].ac, .int .i64 cs[j].oty, .int .u64 cs[j].key, .int .u64 cs[j].other, .bool cs[j].oap] 49) ∧ wr.heap.size < wx.heap.size) ?_ ?_
        · exact ⟨HR.out.below (Below.alloc (Below.refl _ _) (Nat.le_refl _) _), heap_alloc_new wr _, by simp⟩
        intro w4 hw4
        generalize hC : wr.heap.size = C at hw4 hTr ⊢
        have H4 := Lib.hid hw4
        clear hw4 hC d1 d2 d3 d4 d5 d6 HR
        have q0 := (blk6 H4.out.2.1).1
        have q1 := (blk6 H4.out.2.1).2.1
        have q2 := (blk6 H4.out.2.1).2.2.1
        have q3 := (blk6 H4.out.2.1).2.2.2.1
        have q4 := (blk6 H4.out.2.1).2.2.2.2.1
        have q5 := (blk6 H4.out.2.1).2.2.2.2.2
        have HE := H4.out.1
        have z0 := (blk5 HE.1).1
        have z1 := (blk5 HE.1).2.1
        have z2 := (blk5 HE.1).2.2.1
        have z3 := (blk5 HE.1).2.2.2.1
        have z4 := (blk5 HE.1).2.2.2.2.1
        have y0 := (blk5 HE.1).2.2.2.2.2.1
        have y1 := (blk5 HE.1).2.2.2.2.2.2.1
        have y2 := (blk5 HE.1).2.2.2.2.2.2.2.1
        have y3 := (blk5 HE.1).2.2.2.2.2.2.2.2.1
        have y4 := (blk5 HE.1).2.2.2.2.2.2.2.2.2
        repeat (first | go_values | go_skip | go_guarded | go_step | go_upon | go_quiet (fail))
        go_ret
        exact ⟨rfl, HE.2.2.2.2.2.2.1⟩
    · obtain rfl : j = cs.length := by omega
      have HE := HR.out
      have z0 := (blk5 HE.1).1
      have z1 := (blk5 HE.1).2.1
      have z2 := (blk5 HE.1).2.2.1
      have z3 := (blk5 HE.1).2.2.2.1
      have z4 := (blk5 HE.1).2.2.2.2.1
      have y0 := (blk5 HE.1).2.2.2.2.2.1
      have y1 := (blk5 HE.1).2.2.2.2.2.2.1
      have y2 := (blk5 HE.1).2.2.2.2.2.2.2.1
      have y3 := (blk5 HE.1).2.2.2.2.2.2.2.2.1
      have y4 := (blk5 HE.1).2.2.2.2.2.2.2.2.2
      repeat (first | go_values | go_skip | go_guarded | go_step | go_upon | go_quiet (fail))
      go_ret
      exact ⟨rfl, HE.2.2.2.2.2.2.1⟩
end Go.Proofs.Ytopakonpfbbldaa
namespace Go.Proofs.Ytopakonpfbbldaa
open Go.ChangeShapes Go.WideShapes Go.ChangeAt Go.RowKit

set_option maxRecDepth 100000 in
theorem persRuns_lifted (os : Os) (started : os.Started) (H : Type) (enc : TypeId × Value → H) :
    ReturnsInHanded {} Try.checked os 8 .any (Rows.persRunsSpec.pre6 enc Try.prog Try.f8 Rows.persRunsRow.domain false) (Rows.persRunsSpec.post enc Try.prog Try.f8 false true false false) := by
  refine returnsInHanded_of_change (C := Try.checked) Try.own started (by kernel_rfl) Try.func8
    (ChangeSpec.witness6 (enc := enc) (C := Try.checked) false ⟨#[], #[.slice none 0 0], []⟩ 8 (by kernel_rfl) (by kernel_rfl) (by kernel_rfl) (by kernel_rfl)) ?_
  intro W base args ds gs before hval0 hW _ _
  have hval : ∀ (j : Nat) t v, Try.f8.params[j]? = some t → args[j]? = some v → Value.okWide Try.prog W .any base t v := hval0
  have hW' := hW
  obtain ⟨p, q, hA0, hV, rfl, hfz, hnd⟩ := hW
  have hA : DataW.TrodAll enc Try.prog W 0 (fun _ => true) true Try.f8.params.toList args.toList ds p := hA0
  rw [Try.params8] at hA hval
  obtain ⟨v0, d0, rfl, rfl, h0⟩ := trodAll_one hA
  obtain ⟨rfl, rfl⟩ := trodVars_none hV
  clear hA0 hval0
  simp only [List.append_nil] at hW'
  have hlt : ∀ x ∈ p, x.block < W.heap.size := fun x hx => by simpa using hW'.lt x (by simpa using hx)
  have hargs : ∀ (W' : World), Below W.heap.size W W' → DataW.TrodAll enc Try.prog W' 0 (fun b => decide (b < W.heap.size)) true [47] [v0] [d0] (p) := fun W' hn =>
    trodAll_mk1 (Below.trod Try.laidOut (by kernel_rfl) (of_decide_eq_true (by kernel_rfl)) h0 hn (fun x hx => hlt x (by simp [hx])))
  obtain ⟨_, _, _, rfl⟩ := okWide_slice Try.underlying47 (hval 0 47 v0 rfl rfl)
  obtain ⟨_, hf0⟩ := h0
  obtain ⟨a, cs, cap, hv, hcs, hl⟩ := open_calls hf0
  injection hv with hv1 hv2 hv3
  subst hv1 hv2 hv3
  refine (PersRuns_any _ cs _ W (by unfold maxLen at hl; omega) hcs).mono fun e W' ⟨he, hb⟩ => ?_
  subst he
  exact ⟨_, rfl, ⟨_, _, _, [], _, [], hW', trodAll_mk1 (shut_bool Try.underlying4 true), hargs _ hb, rfl, hb.frame _, fun h => by cases h⟩⟩

theorem persRuns_holds : Rows.PersRunsSaid :=
  OpenClaim.holds_of_wide 8 Try.f8 rfl rfl rfl rfl rfl rfl rfl ⟨rfl, rfl, rfl, rfl, rfl⟩ rfl rfl rfl rfl rfl (by kernel_rfl) Try.func8 (by kernel_rfl)
    (of_decide_eq_true (by kernel_rfl)) (by unfold Func.isWrapper; first | (rw [if_pos (by decide +kernel)]; kernel_rfl) | (rw [if_neg (by decide +kernel)]; exact ⟨rfl, rfl⟩))
    (fun os started H enc _ => persRuns_lifted os started H enc)
end Go.Proofs.Ytopakonpfbbldaa
