/- The sum of texts: more bytes are summed. The sum of texts: New, and more bytes. The sum of texts: more bytes are summed. -/
import Derived.Test.YtajmcplanlibnaaGreatDoorKH2
import Derived.Test.YtajmcplanlibnaaGreatDoorKLib
set_option linter.unusedSimpArgs false
set_option linter.unusedVariables false
set_option linter.unnecessarySimpa false
namespace Go.Proofs.YtajmcplanlibnaaGreatDoor
open Go.RowKit
/-- Block by block; the fuel is the bytes' number. -/
def absorb : Nat → List Int → List Int → List Int × List Int
  | 0, h, r => (h, r)
  | k + 1, h, r => if 64 ≤ r.length then absorb k (blockF (r.take 64) h) (r.drop 64) else (h, r)
theorem absorb_short (k : Nat) (h r : List Int) (hr : r.length < 64) : absorb k h r = (h, r) := by
  cases k with
  | zero => rfl
  | succ k => unfold absorb; rw [if_neg (by omega)]
theorem absorb_step (k : Nat) (h r : List Int) (hr : 64 ≤ r.length) : absorb (k + 1) h r = absorb k (blockF (r.take 64) h) (r.drop 64) := by
  show (if 64 ≤ r.length then _ else _) = _
  rw [if_pos hr]
theorem absorb_fuel : ∀ (k m : Nat) (h r : List Int), r.length ≤ k → r.length ≤ m → absorb k h r = absorb m h r
  | 0, m, h, r, h1, h2 => by rw [absorb_short m h r (by omega), absorb_short 0 h r (by omega)]
  | k + 1, 0, h, r, h1, h2 => by rw [absorb_short _ h r (by omega), absorb_short 0 h r (by omega)]
  | k + 1, m + 1, h, r, h1, h2 => by
    by_cases hr : 64 ≤ r.length
    · rw [absorb_step k h r hr, absorb_step m h r hr]
      exact absorb_fuel k m _ _ (by simp; omega) (by simp; omega)
    · rw [absorb_short _ h r (by omega), absorb_short _ h r (by omega)]
theorem absorb_len : ∀ (k : Nat) (h r : List Int), (absorb k h r).2.length ≤ r.length
  | 0, h, r => Nat.le_refl _
  | k + 1, h, r => by
    unfold absorb
    split
    · exact Nat.le_trans (absorb_len k _ _) (by simp)
    · exact Nat.le_refl _
theorem absorb_app : ∀ (k : Nat) (h d b : List Int), d.length ≤ k → absorb (k + b.length) h (d ++ b) = absorb (k + b.length) (absorb k h d).1 ((absorb k h d).2 ++ b)
  | 0, h, d, b, hk => by rw [absorb_short 0 h d (by omega)]
  | k + 1, h, d, b, hk => by
    by_cases hd : 64 ≤ d.length
    · rw [absorb_step k h d hd, show k + 1 + b.length = k + b.length + 1 by omega, absorb_step _ h (d ++ b) (by simp; omega),
        List.take_append_of_le_length hd, List.drop_append_of_le_length hd, absorb_app k _ _ b (by simp; omega)]
      have := absorb_len k (blockF (d.take 64) h) (d.drop 64)
      exact absorb_fuel _ _ _ _ (by simp at this ⊢; omega) (by simp at this ⊢; omega)
    · rw [absorb_short _ h d (by omega)]
theorem absorb_ok : ∀ (k : Nat) (h r : List Int), r.length ≤ k → h.length = 8 → U32s h → U8s r → (absorb k h r).1.length = 8 ∧ U32s (absorb k h r).1 ∧ (absorb k h r).2.length < 64 ∧ U8s (absorb k h r).2
  | 0, h, r, h1, h2, h3, h4 => ⟨h2, h3, by simp [absorb]; omega, h4⟩
  | k + 1, h, r, h1, h2, h3, h4 => by
    by_cases hr : 64 ≤ r.length
    · rw [absorb_step k h r hr]
      obtain ⟨b1, b2⟩ := blockF_ok (r.take 64) h h2 h3
      exact absorb_ok k _ _ (by simp; omega) b1 b2 (fun x hx => h4 x (List.mem_of_mem_drop hx))
    · rw [absorb_short _ h r (by omega)]
      exact ⟨h2, h3, by simp; omega, h4⟩
end Go.Proofs.YtajmcplanlibnaaGreatDoor
namespace Go.Proofs.YtajmcplanlibnaaGreatDoor
open Go.RowKit
def v8 (l : List Int) : List Value := l.map (Value.int .u8)
/-- A sum under way: eight words, the bytes that wait, their number. -/
def HashR (w : World) (hb : Nat) (N : Nat → Prop) (h r : List Int) (n : Int) : Prop :=
  ∃ rv, w.heap[hb]? = some (.cells (hashCells h rv n) 307) ∧ w.ownsRow 0 5 1 rv r.length (v8 r) ∧ (∀ k, rv.ownBlock = some k → ¬ N k) ∧ ¬ N hb ∧ (∀ i, N i → i < w.heap.size) ∧ h.length = 8 ∧ U32s h ∧ U8s r
theorem HashR.lt {w : World} {hb : Nat} {N : Nat → Prop} {h r : List Int} {n : Int} (H : HashR w hb N h r n) : hb < w.heap.size := by
  obtain ⟨rv, h1, _⟩ := H; exact lt_of_blk h1
/-- It stays, where nothing of it turns; what is new may be kept too. -/
theorem HashR.keep {w w' : World} {hb : Nat} {N N' : Nat → Prop} {h r : List Int} {n : Int} (H : HashR w hb N h r n) (hb' : Below w.heap.size w w') (hn : ∀ i, N' i → i < w'.heap.size ∧ (N i ∨ w.heap.size ≤ i)) : HashR w' hb N' h r n := by
  obtain ⟨rv, h1, h2, h3, h4, h5, h6⟩ := H
  refine ⟨rv, (hb'.block hb (lt_of_blk h1)).trans h1, own_same h2 (fun k hk => hb'.block k (h2.lt k hk).2), fun k hk hN => ?_, fun hN => ?_, fun i hi => (hn i hi).1, h6⟩
  · rcases (hn k hN).2 with h | h
    · exact h3 k hk h
    · have := (h2.lt k hk).2; omega
  · rcases (hn hb hN).2 with h | h
    · exact h4 h
    · have := lt_of_blk h1; omega
def ivs : List Int := [1779033703, 3144134277, 1013904242, 2773480762, 1359893119, 2600822924, 528734635, 1541459225]
theorem ivs_ok : ivs.length = 8 ∧ U32s ivs := by
  refine ⟨rfl, ?_⟩
  have h : (ivs.all fun x => decide (0 ≤ x) && decide (x < 4294967296)) = true := by decide +kernel
  intro x hx
  have := List.all_eq_true.1 h x hx
  simp only [Bool.and_eq_true, decide_eq_true_eq] at this
  exact this
set_option maxRecDepth 100000 in
theorem shaNew_any (w : World) (N : Nat → Prop) (hN : ∀ i, N i → i < w.heap.size) : Calls Tryz.prog 145 #[] w fun e w' => e = .returned (.pointer (some ⟨w.heap.size, 0, none⟩)) ∧ HashR w' w.heap.size N ivs [] 0 ∧ Below w.heap.size w w' := by
  have HN := Lib.hid hN
  clear hN
  go_enter Tryz.func145, Tryz.ntmps145
  go_wp2_with fail
  go_ret
  refine ⟨rfl, ⟨.slice none 0 0, heap_alloc_new w _, World.ownsRow_nil _ _ _ _, fun k hk => by simp [Value.ownBlock] at hk, fun h => by have := HN.out _ h; omega, fun i hi => by have := HN.out i hi; simp; omega, ivs_ok.1, ivs_ok.2, fun x hx => by cases hx⟩, ?_⟩
  repeat (first | with_reducible assumption | (with_reducible refine Below.setCell ?_ (by first | omega | (simp; done) | (simp; omega)) _) | (with_reducible refine Below.alloc ?_ (by first | omega | (simp; done) | (simp; omega)) _) | (with_reducible refine Below.drew ?_) | (with_reducible refine below_dN ?_ _) | with_reducible exact Below.refl _ _ | (with_reducible refine Below.trans ?_ (Below.mono (by assumption) (by first | omega | (simp; done) | (simp; omega)))))
theorem hash_cell8 {w : World} {B T : Nat} {l : List Int} {rv : Value} {n : Int} (h : w.heap[B]? = some (.cells (hashCells l rv n) T)) (hl : l.length = 8) : w.cell? ⟨B, 8, none⟩ = some rv ∧ w.cell? ⟨B, 9, none⟩ = some (.int .u64 n) ∧ w.frozen? ⟨B, 8, none⟩ = false ∧ w.frozen? ⟨B, 9, none⟩ = false := by
  simp [World.cell?, World.frozen?, h, hashCells, hl, List.getElem?_append]
theorem hash_set8 {w : World} {B T : Nat} {l : List Int} {rv : Value} {n : Int} (h : w.heap[B]? = some (.cells (hashCells l rv n) T)) (hl : l.length = 8) (x : Value) : (w.setCell ⟨B, 8, none⟩ x).heap[B]? = some (.cells (hashCells l x n) T) := by
  rw [set_blk h]; simp [hashCells, List.set_append, hl]
theorem hash_set9 {w : World} {B T : Nat} {l : List Int} {rv : Value} {n : Int} (h : w.heap[B]? = some (.cells (hashCells l rv n) T)) (hl : l.length = 8) (x : Int) : (w.setCell ⟨B, 9, none⟩ (.int .u64 x)).heap[B]? = some (.cells (hashCells l rv x) T) := by
  rw [set_blk h]; simp [hashCells, List.set_append, hl]
theorem v8_length (l : List Int) : (v8 l).length = l.length * 1 := by simp [v8]
theorem v8_append (a b : List Int) : v8 (a ++ b) = v8 a ++ v8 b := by simp [v8]
theorem v8_get (l : List Int) (i : Nat) (hi : i < l.length) : (v8 l)[i]? = some (.int .u8 (l.getD i 0)) := by simp [v8, hi]
theorem v8_one (l : List Int) : ∀ u ∈ v8 l, u.oneCell' = true := by
  intro u hu
  simp only [v8, List.mem_map] at hu
  obtain ⟨x, _, rfl⟩ := hu
  rfl
theorem ByIn.src {w : World} {a : Option Addr} {l : List Int} {c : Nat} (h : ByIn w a l) (hn : a = none → c = 0) : SrcIs w (.slice a l.length c) l.length 1 (v8 l) := by
  cases a with
  | none =>
    have he : l = [] := by
      cases l with
      | nil => rfl
      | cons r l => obtain ⟨b, off, e, _⟩ := h 0 (by simp); cases e
    subst he
    exact .inl ⟨by rw [hn rfl]; rfl, rfl, rfl⟩
  | some ad =>
    refine .inr ⟨ad, c, rfl, v8_length l, fun j u hu => ?_, v8_one l⟩
    have hj : j < l.length := by have := (List.getElem?_eq_some_iff.1 hu).1; simpa [v8] using this
    obtain ⟨b, off, e, _, c1⟩ := h j hj
    cases e
    rw [v8_get l j hj] at hu
    have ea : (⟨b, off, none⟩ : Addr).add j = ⟨b, off + j, none⟩ := by unfold Addr.add; split <;> simp_all
    rw [ea, c1, ← hu]
theorem ByIn.of_own {w : World} {base e : Nat} {a : Option Addr} {cap : Nat} {l : List Int} (h : w.ownsRow base e 1 (.slice a l.length cap) l.length (v8 l)) : ByIn w a l := by
  intro i hi
  rcases h.2 with ⟨hv, hn⟩ | ⟨g, c, cur, hv, _, hg, _, _, hs, ht⟩
  · rw [hn] at hi; omega
  · simp only [Value.slice.injEq] at hv
    obtain ⟨rfl, _, _⟩ := hv
    have c1 := v8_get l i hi
    refine ⟨g, 0, rfl, (Array.getElem?_eq_some_iff.1 hg).1, ?_⟩
    rw [cell_of_row w g _ cur e (0, 0) hg]
    rw [← ht, List.getElem?_take] at c1
    split at c1
    · simpa using c1
    · cases c1
end Go.Proofs.YtajmcplanlibnaaGreatDoor
namespace Go.Proofs.YtajmcplanlibnaaGreatDoor
open Go.RowKit
theorem info_u8 : (Tryz.prog.info? 5).map (fun i => (i.zero, i.size, i.bytes)) = some (some (.int .u8 0), 1, 1) := by kernel_rfl
theorem block_at (hb : Nat) (h : List Int) (rv : Value) (n : Int) (pa : Option Addr) (p : List Int) (c : Nat) (w : World) (hlen : h.length = 8) (hu : U32s h) (hp : p.length = 64) (hp8 : U8s p) (hc : 64 ≤ c)
    (hblk : w.heap[hb]? = some (.cells (hashCells h rv n) 307)) (hpi : ByIn w pa p) :
    Calls Tryz.prog 192 #[.pointer (some ⟨hb, 0, none⟩), .slice pa 64 c] w fun e w' => e = .returned (.tuple #[]) ∧ w'.heap[hb]? = some (.cells (hashCells (blockF p h) rv n) 307) ∧ w.grownBy w' (some hb) := by
  have := block_any hb h rv n pa p c w hlen hu hp hp8 (by omega) hblk hpi
  rw [hp] at this
  exact this
theorem ByIn.take {w : World} {a : Option Addr} {l : List Int} (h : ByIn w a l) (m : Nat) : ByIn w a (l.take m) := fun i hi => by
  have hi' : i < m ∧ i < l.length := by simp at hi; omega
  obtain ⟨b, off, e, hs, c⟩ := h i hi'.2
  refine ⟨b, off, e, hs, ?_⟩
  rw [c]; simp [hi'.1]
theorem ByIn.drop {w : World} {b off : Nat} {l : List Int} (h : ByIn w (some ⟨b, off, none⟩) l) (m : Nat) : ByIn w (some ⟨b, off + m, none⟩) (l.drop m) := fun i hi => by
  have hi' : m + i < l.length := by simp at hi; omega
  obtain ⟨b', off', e, hs, c⟩ := h (m + i) hi'
  cases e
  refine ⟨b, off + m, rfl, hs, ?_⟩
  rw [Nat.add_assoc, c]; simp
def restLen (w : World) (hb : Nat) : Nat := match w.cell? ⟨hb, 8, none⟩ with
  | some (.slice _ n _) => n
  | _ => 0
theorem restLen_eq {w : World} {hb T : Nat} {h : List Int} {a : Option Addr} {l c : Nat} {n : Int} (hblk : w.heap[hb]? = some (.cells (hashCells h (.slice a l c) n) T)) (hl : h.length = 8) : restLen w hb = l := by
  unfold restLen; rw [(hash_cell8 hblk hl).1]
set_option maxRecDepth 100000 in
set_option maxHeartbeats 4000000 in
theorem hashWrite_any (hb : Nat) (N : Nat → Prop) (h r : List Int) (n : Int) (a : Option Addr) (b : List Int) (c : Nat) (w : World) (hH : HashR w hb N h r n) (hbi : ByIn w a b) (hn0 : 0 ≤ n ∧ n ≤ 1000000000) (hbl : b.length ≤ 1000000) (hrl : r.length ≤ 64)
    (hb8 : U8s b) (hac : a = none → c = 0) (hne : ∀ x, a = some x → 0 < b.length → x.block ≠ hb) :
    Calls Tryz.prog 146 #[.pointer (some ⟨hb, 0, none⟩), .slice a b.length c] w fun e w' => e = .returned (.tuple #[]) ∧
      HashR w' hb N (absorb (r ++ b).length h (r ++ b)).1 (absorb (r ++ b).length h (r ++ b)).2 (n + b.length) ∧ Keeps N w w' := by
  obtain ⟨rv, q1, q2, q3, q4, q5, q6, q7, q8⟩ := hH
  obtain ⟨ar, cr, rfl⟩ := own_slice q2
  have HB := Lib.hid q1
  have HO := Lib.hid q2
  have HQ := Lib.hid (And.intro q3 (And.intro q4 (And.intro q5 (And.intro q6 (And.intro q7 q8)))))
  have HBI := Lib.hid hbi
  have HAC := Lib.hid hac
  have HNE := Lib.hid hne
  have H8 := Lib.hid hb8
  obtain ⟨hn0, hn1⟩ := hn0
  obtain ⟨c8, c9, f8, f9⟩ := hash_cell8 q1 q6
  clear q1 q2 q3 q4 q5 q6 q7 q8 hbi hac hne hb8
  obtain ⟨i0, hi0', hz0, hz1, hz2⟩ := info_parts info_u8
  go_enter Tryz.func146, Tryz.ntmps146
  have HW1 : Hid ((w.setCell ⟨hb, 9, none⟩ (.int .u64 (n + b.length))).heap[hb]? = some (.cells (hashCells h (.slice ar r.length cr) (n + b.length)) 307)) := Lib.hid (hash_set9 HB.out HQ.out.2.2.2.1 _)
  have HO1 : Hid ((w.setCell ⟨hb, 9, none⟩ (.int .u64 (n + b.length))).ownsRow 0 5 1 (.slice ar r.length cr) r.length (v8 r)) := Lib.hid (own_same HO.out (fun k hk => Below.heap_setCell _ _ _ _ (blk_own_ne HB.out HO.out (by decide) hk)))
  have HBI1 : Hid (ByIn (w.setCell ⟨hb, 9, none⟩ (.int .u64 (n + b.length))) a b) := Lib.hid (fun i hi => by
    obtain ⟨b', off, e, hs, c1⟩ := HBI.out i hi
    have hx := HNE.out _ e (by omega)
    refine ⟨b', off, e, by simpa [World.setCell] using hs, ?_⟩
    rw [World.cell?_of_block (Below.heap_setCell _ _ _ _ hx)]; exact c1)
  have HK1 : Hid (Keeps N w (w.setCell ⟨hb, 9, none⟩ (.int .u64 (n + b.length)))) := Lib.hid (Keeps.set w hb 9 _ HQ.out.2.1)
  go_wp2_with (at_builtin; refine wpList_append_at rfl _ _ 118 rfl 5 i0 (.int .u8 0) 1 1 Tryz.underlying118 hi0' hz0 hz1 hz2 rfl (by decide) (.slice ar r.length cr) r.length (v8 r) rfl HO1.out (.slice a b.length c) b.length (v8 b) rfl (HBI1.out.src HAC.out) ?c1 ?c2 ?_)
  case c1 => unfold maxLen; omega
  case c2 => omega
  intro v2 w2 hown hgrow hwh
  have hown : w2.ownsRow 0 5 1 v2 (r ++ b).length (v8 (r ++ b)) := by simpa [v8_append] using hown
  obtain ⟨a2, c2, rfl⟩ := own_slice hown
  have hrb : (r ++ b).length = r.length + b.length := by simp
  have hnb : ∀ k, (Value.slice ar r.length cr).ownBlock = some k → k ≠ hb := fun k hk => blk_own_ne HB.out HO.out (by decide) hk
  have hb2 : w2.heap[hb]? = some (.cells (hashCells h (.slice ar r.length cr) (n + b.length)) 307) := (hgrow.block hb (by have := lt_of_blk HW1.out; exact this) (fun e => hnb hb e.symm rfl)).trans HW1.out
  have HK2 : Hid (Keeps N w w2) := Lib.hid (HK1.out.trans (Keeps.of_grown hgrow (fun k hk => HQ.out.1 k hk)))
  have HW2 : Hid (HashR (w2.setCell ⟨hb, 8, none⟩ (.slice a2 (r ++ b).length c2)) hb N h (r ++ b) (n + b.length)) := Lib.hid (by
    refine ⟨.slice a2 (r ++ b).length c2, hash_set8 hb2 HQ.out.2.2.2.1 _, own_same hown (fun k hk => Below.heap_setCell _ _ _ _ (blk_own_ne hb2 hown (by decide) hk)), fun k hk hNk => ?_, HQ.out.2.1, fun i hi => ?_, HQ.out.2.2.2.1, HQ.out.2.2.2.2.1, ?_⟩
    · rcases hwh k hk with h1 | h1
      · exact HQ.out.1 k h1 hNk
      · have := HQ.out.2.2.1 k hNk; have h1 : w.heap.size ≤ k := by simpa [World.setCell] using h1
        omega
    · have h1 := HQ.out.2.2.1 i hi
      have h2 := HK2.out.size
      simp [World.setCell]; omega
    · intro x hx
      rcases List.mem_append.1 hx with hx | hx
      · exact HQ.out.2.2.2.2.2 x hx
      · exact H8.out x hx)
  have HK3 : Hid (Keeps N w (w2.setCell ⟨hb, 8, none⟩ (.slice a2 (r ++ b).length c2))) := Lib.hid (HK2.out.trans (Keeps.set w2 hb 8 _ HQ.out.2.1))
  obtain ⟨g8, g9, e8, e9⟩ := hash_cell8 hb2 HQ.out.2.2.2.1
  have HLR : Hid ((r ++ b).length = r.length + b.length) := Lib.hid hrb
  clear hown hgrow hwh hnb hb2 hrb c8 c9 f8 f9 HW1 HO1 HBI1 HK1
  go_wp2_with fail
  refine gen_code (fun wx => Hid (HashR wx hb N h (r ++ b) (n + b.length)) ∧ Hid (Keeps N w wx)) ⟨by have h := HW2; simp only [List.length_append] at h ⊢; exact h, by have h := HK3; simp only [List.length_append] at h ⊢; exact h⟩ ?_
  clear HW2 HK3 HK2 g8 g9 e8 e9
  rintro w3 ⟨HW3, HK3⟩
  have hlr : (r ++ b).length ≤ 1000064 := by have := HLR.out; omega
  generalize hrb : (r ++ b) = rb at HW3 hlr ⊢
  have HRB := Lib.hid hrb
  clear hrb
  clear HLR HB HO HQ HBI HAC HNE H8
  go_loopw [] (fun wr => ∃ (k : Nat) (h' r' : List Int), r'.length ≤ k ∧ r'.length ≤ 1000064 ∧ Hid (HashR wr hb N h' r' (n + b.length)) ∧ Hid (Keeps N w wr) ∧ Hid (absorb rb.length h rb = absorb k h' r')) (fun wr => restLen wr hb)
  case atStart => exact ⟨rb.length, h, rb, Nat.le_refl _, hlr, HW3, HK3, Lib.hid rfl⟩
  case round =>
    obtain ⟨k, h', r', hk, hr', HR, HK, HA⟩ := hrel
    obtain ⟨rv, q1, q2, q3, q4, q5, q6, q7, q8⟩ := HR.out
    obtain ⟨ar', cr', rfl⟩ := own_slice q2
    obtain ⟨c8, c9, f8, f9⟩ := hash_cell8 q1 q6
    have HB := Lib.hid q1
    have HO := Lib.hid q2
    have HQ := Lib.hid (And.intro q3 (And.intro q4 (And.intro q5 (And.intro q6 (And.intro q7 q8)))))
    have HRL := Lib.hid (restLen_eq q1 q6)
    clear q1 q2 q3 q4 q5 q6 q7 q8
    by_cases hlt : 64 ≤ r'.length
    · have hi : (64 : Int) ≤ r'.length := by omega
      obtain ⟨b1, o1, rfl, _, _⟩ := (ByIn.of_own HO.out) 0 (by omega)
      have hcap : r'.length ≤ cr' := by
        rcases HO.out.2 with ⟨hv, _⟩ | ⟨g, c, cur, hv, _, _, hn, _⟩
        · simp at hv
        · simp only [Value.slice.injEq] at hv; omega
      go_wp2_with fail
      refine (block_at hb h' _ _ (some ⟨b1, o1, none⟩) (r'.take 64) cr' wr HQ.out.2.2.2.1 HQ.out.2.2.2.2.1 (by simp; omega) (fun x hx => HQ.out.2.2.2.2.2 x (List.mem_of_mem_take hx)) (by omega) HB.out ((ByIn.of_own HO.out).take 64)).mono ?_
      rintro e w5 ⟨rfl, q1, hg⟩
      have hnb : ∀ k, (Value.slice (some ⟨b1, o1, none⟩) r'.length cr').ownBlock = some k → k ≠ hb := fun k hk => blk_own_ne HB.out HO.out (by decide) hk
      have HB5 := Lib.hid q1
      have HO5 : Hid (w5.ownsRow 0 5 1 (.slice (some ⟨b1, o1, none⟩) r'.length cr') r'.length (v8 r')) := Lib.hid (own_same HO.out (fun k hk => hg.block k (HO.out.lt k hk).2 (fun e => hnb k hk (by cases e; rfl))))
      have HK5 : Hid (Keeps N w w5) := Lib.hid (HK.out.trans (Keeps.of_grown hg (fun k hk => by cases hk; exact HQ.out.2.1)))
      have HZ5 : Hid (∀ i, N i → i < w5.heap.size) := Lib.hid (fun i hi => Nat.lt_of_lt_of_le (HQ.out.2.2.1 i hi) hg.size)
      have HB58 := Lib.hid (blockF_ok (r'.take 64) h' HQ.out.2.2.2.1 HQ.out.2.2.2.2.1)
      have HA5 : Hid (absorb rb.length h rb = absorb (k - 1) (blockF (r'.take 64) h') (r'.drop 64)) := Lib.hid (by
        rw [HA.out, ← absorb_step _ _ _ hlt]; congr 1; omega)
      generalize blockF (r'.take 64) h' = h2 at HB5 HB58 HA5
      obtain ⟨c8, c9, f8, f9⟩ := hash_cell8 HB5.out HB58.out.1
      clear q1 hg hnb
      dsimp only
      by_cases hcc : cr' = 64
      · subst hcc
        have hrl : r'.length = 64 := by omega
        have HDR : Hid (r'.drop 64 = []) := Lib.hid (by rw [List.drop_eq_nil_iff]; omega)
        go_wp2_with fail
        have hs8 := hash_set8 HB5.out HB58.out.1 (.slice none 0 0)
        have hA := HA5.out
        rw [HDR.out] at hA
        exact ⟨⟨k - 1, h2, [], by simp, by simp, Lib.hid ⟨.slice none 0 0, hs8, World.ownsRow_nil _ _ _ _, fun k hk => by simp [Value.ownBlock] at hk, HQ.out.2.1, fun i hi => by have := HZ5.out i hi; simp [World.setCell]; omega, HB58.out.1, HB58.out.2, fun x hx => by cases hx⟩,
          Lib.hid (HK5.out.trans (Keeps.set w5 hb 8 _ HQ.out.2.1)), Lib.hid hA⟩, by rw [HRL.out, restLen_eq hs8 HB58.out.1]; omega⟩
      · have hcg : 64 < cr' := by omega
        go_wp2_with (at_builtin; refine wpList_append_at rfl _ _ 118 rfl 5 i0 (.int .u8 0) 1 1 Tryz.underlying118 hi0' hz0 hz1 hz2 rfl (by decide) (.slice none 0 0) 0 [] rfl (World.ownsRow_nil _ _ _ _) (.slice (some ⟨b1, o1 + 64, none⟩) (r'.length - 64) (cr' - 64)) (r'.length - 64) (v8 (r'.drop 64)) rfl (by have h := ((ByIn.of_own HO5.out).drop 64).src (c := cr' - 64) (fun e => by cases e); simp only [List.length_drop] at h; exact h) ?c1 ?c2 ?_)
        case c1 => unfold maxLen; omega
        case c2 => omega
        intro v6 w6 hown hgrow hwh
        have hown : w6.ownsRow 0 5 1 v6 (r'.drop 64).length (v8 (r'.drop 64)) := by simpa using hown
        obtain ⟨a6, c6, rfl⟩ := own_slice hown
        have hb6 : w6.heap[hb]? = some (.cells (hashCells h2 (.slice (some ⟨b1, o1, none⟩) r'.length cr') (n + b.length)) 307) := (hgrow.block hb (lt_of_blk HB5.out) (fun e => by simp [Value.ownBlock] at e)).trans HB5.out
        have HK6 : Hid (Keeps N w w6) := Lib.hid (HK5.out.trans (Keeps.of_grown hgrow (fun k hk => by simp [Value.ownBlock] at hk)))
        have HW6 : Hid (HashR (w6.setCell ⟨hb, 8, none⟩ (.slice a6 (r'.drop 64).length c6)) hb N h2 (r'.drop 64) (n + b.length)) := Lib.hid (by
          refine ⟨.slice a6 (r'.drop 64).length c6, hash_set8 hb6 HB58.out.1 _, own_same hown (fun k hk => Below.heap_setCell _ _ _ _ (blk_own_ne hb6 hown (by decide) hk)), fun k hk hNk => ?_, HQ.out.2.1, fun i hi => ?_, HB58.out.1, HB58.out.2, fun x hx => HQ.out.2.2.2.2.2 x (List.mem_of_mem_drop hx)⟩
          · rcases hwh k hk with h1 | h1
            · simp [Value.ownBlock] at h1
            · have := HZ5.out k hNk; omega
          · have h1 := HZ5.out i hi
            have h2 := hgrow.size
            simp [World.setCell]; omega)
        have HK7 : Hid (Keeps N w (w6.setCell ⟨hb, 8, none⟩ (.slice a6 (r'.drop 64).length c6))) := Lib.hid (HK6.out.trans (Keeps.set w6 hb 8 _ HQ.out.2.1))
        have HM : Hid (restLen (w6.setCell ⟨hb, 8, none⟩ (.slice a6 (r'.drop 64).length c6)) hb < restLen wr hb) := Lib.hid (by
          rw [HRL.out, restLen_eq (hash_set8 hb6 HB58.out.1 _) HB58.out.1]; simp; omega)
        obtain ⟨g8, g9, e8, e9⟩ := hash_cell8 hb6 HB58.out.1
        clear hown hgrow hwh hb6 c8 c9 f8 f9
        have hdl : (r'.drop 64).length = r'.length - 64 := by simp
        rw [hdl] at HW6 HK7 HM
        clear hdl
        go_wp2_with fail
        exact ⟨⟨k - 1, h2, r'.drop 64, by simp; omega, by simp; omega, HW6, HK7, HA5⟩, HM.out⟩
    · have hi : (r'.length : Int) < 64 := by omega
      go_wp2_with fail
      go_end0
      refine ⟨rfl, ?_, HK.out⟩
      have h1 := HA.out
      rw [absorb_short k h' r' (by omega)] at h1
      rw [HRB.out, h1]
      exact HR.out
end Go.Proofs.YtajmcplanlibnaaGreatDoor
