/- What put of layer 10 (pers) makes of a table. -/
import Derived.Test.YtopakonpfbbldaaW5
import Derived.BigQuiet
import Derived.Test.YtopakonpfbbldaaLib3
import Derived.Test.YtopakonpfbbldaaMix
namespace Go.Proofs.Ytopakonpfbbldaa
set_option linter.unusedSimpArgs false
set_option linter.unusedVariables false
open Go.RowKit

/-- But for some blocks all is as it was. -/
structure Keep (S : Nat → Prop) (w w' : World) : Prop where
  os : w'.os = w.os
  tape : w'.tape = w.tape
  output : w'.output = w.output
  size : w.heap.size ≤ w'.heap.size
  block : ∀ i, i < w.heap.size → ¬ S i → w'.heap[i]? = w.heap[i]?
theorem Keep.of_below {S : Nat → Prop} {w w' : World} (h : Below w.heap.size w w') : Keep S w w' := ⟨h.os, h.tape, h.output, h.size, fun i hi _ => h.block i hi⟩
theorem Keep.of_grown {S : Nat → Prop} {w w' : World} {B : Nat} (h : w.grownBy w' (some B)) (hS : S B) : Keep S w w' := ⟨h.os, h.tape, h.output, h.size, fun i hi hn => h.block i hi (fun e => hn (by cases e; exact hS))⟩
theorem Keep.trans {S : Nat → Prop} {a b c : World} (h : Keep S a b) (k : Keep S b c) : Keep S a c :=
  ⟨k.os.trans h.os, k.tape.trans h.tape, k.output.trans h.output, Nat.le_trans h.size k.size, fun i hi hn => (k.block i (Nat.lt_of_lt_of_le hi h.size) hn).trans (h.block i hi hn)⟩
theorem Keep.below {S : Nat → Prop} {w w' : World} {b : Nat} (h : Keep S w w') (hb : b ≤ w.heap.size) (hS : ∀ i, S i → b ≤ i) : Below b w w' :=
  ⟨h.os, h.tape, h.output, h.size, fun i hi => h.block i (by omega) (fun hs => by have := hS i hs; omega)⟩

theorem WithoutPost.ret {B : Nat} {g h ty : Int} {ap : Bool} {ks : List (Int × Int)} {p : Int × Int → Bool} {w : World} {e : Ending} {w' : World} (hw : WithoutPost B g h ty ap ks p w e w') : ∃ v, e = .returned v :=
  let ⟨v, _, _, he, _⟩ := hw
  ⟨v, he⟩

set_option maxRecDepth 100000 in
set_option maxHeartbeats 4000000 in
theorem put_zero (B : Nat) (g h ty n : Int) (ap : Bool) (a : Option Addr) (ks : List (Int × Int)) (cap : Nat) (w : World) (hlen : ks.length ≤ 1000000)
   (hB : w.heap[B]? = some (.cells #[.int .u32 g, .slice a ks.length cap, .int .i64 h, .int .i64 ty, .bool ap] 25)) (hk : KeysIn w a ks) :
    Calls Try.prog 30 #[.pointer (some ⟨B, 0, none⟩), .int .i64 n, .int .u64 0] w fun e w' => e = .returned (.bool true) ∧ ∃ e', WithoutPost B g h ty ap ks (fun r => r.1 == n) (w.alloc (.cells #[.int .i64 n] 3)) e' w' := by
  have HK := Lib.hid hk; clear hk
  have HB := Lib.hid hB; clear hB
  have hBs : B < w.heap.size := (Array.getElem?_eq_some_iff.1 HB.out).1
  go_enter Try.func30, Try.ntmps30
  go_wp2_with (go_at_call 33; refine (without_any B g h ty ap a ks cap _ _ _ _ hlen ((heap_alloc_old _ _ hBs).trans HB.out) (HK.out.below (by repeat (first | with_reducible assumption | (with_reducible refine Below.setCell ?_ (by first | omega | (simp; done) | (simp; omega)) _) | (with_reducible refine Below.alloc ?_ (by first | omega | (simp; done) | (simp; omega)) _) | (with_reducible refine Below.drew ?_) | (with_reducible refine below_dN ?_ _) | with_reducible exact Below.refl _ _ | (with_reducible refine Below.trans ?_ (Below.mono (by assumption) (by first | omega | (simp; done) | (simp; omega))))))) (says_one _ w.heap.size n (by simp))).mono ?_; rintro e w1 hw1; obtain ⟨v, rfl⟩ := hw1.ret; have HW := Lib.hid hw1; clear hw1)
  go_ret
  exact ⟨rfl, _, HW.out⟩
def PutPost (B : Nat) (g h ty : Int) (ap : Bool) (ks ks' : List (Int × Int)) (ok : Bool) (base : Nat) (w : World) (a : Option Addr) (e : Ending) (w' : World) : Prop :=
  ∃ a' cap', e = .returned (.bool ok) ∧ w'.heap[B]? = some (.cells #[.int .u32 g, .slice a' ks'.length cap', .int .i64 h, .int .i64 ty, .bool ap] 25) ∧
    w'.ownsRow base 32 2 (.slice a' ks'.length cap') ks'.length (flat ks') ∧ Keep (fun i => i = B ∨ a.map Addr.block = some i) w w' ∧ (ks'.length ≤ ks.length + 1)

theorem flat_set (ks : List (Int × Int)) (k : Int) : ∀ (i : Nat) (h : i < ks.length), flat (ks.set i (ks[i].1, k)) = (flat ks).set (i * 2 + 1) (.int .u64 k) := by
  induction ks with
  | nil => intro i h; simp at h
  | cons r l ih =>
    intro i h
    have ec : ∀ (r : Int × Int) l, flat (r :: l) = .int .i64 r.1 :: .int .u64 r.2 :: flat l := fun _ _ => rfl
    cases i with
    | zero => simp [ec]
    | succ i =>
      have h' : i < l.length := by simpa using h
      have e1 : (i + 1) * 2 + 1 = (i * 2 + 1) + 1 + 1 := by omega
      rw [e1]
      simp only [List.getElem_cons_succ, List.set_cons_succ, ec]
      rw [ih i h']

theorem own_addr {w : World} {base e s cap n : Nat} {a : Option Addr} {xs : List Value} (h : w.ownsRow base e s (.slice a n cap) n xs) (hn : 0 < n) :
    ∃ g, a = some ⟨g, 0, none⟩ ∧ base ≤ g ∧ g < w.heap.size ∧ ∃ cur, w.heap[g]? = some (.cells cur e) := by
  rcases h.2 with ⟨hv, h0⟩ | ⟨g, c, cur, hv, hb, hg, _⟩
  · omega
  · simp only [Value.slice.injEq] at hv
    obtain ⟨rfl, _, _⟩ := hv
    exact ⟨g, rfl, hb, (Array.getElem?_eq_some_iff.1 hg).1, cur, hg⟩

theorem own_addr0 {w : World} {base e s cap n : Nat} {a : Option Addr} {xs : List Value} (h : w.ownsRow base e s (.slice a n cap) n xs) :
    (a = none ∧ cap = 0 ∧ n = 0) ∨ ∃ g, a = some ⟨g, 0, none⟩ ∧ base ≤ g ∧ g < w.heap.size ∧ n ≤ cap := by
  rcases h.2 with ⟨hv, h0⟩ | ⟨g, c, cur, hv, hb, hg, hnc, _⟩
  · left; simp only [Value.slice.injEq] at hv; exact ⟨hv.1, hv.2.2, h0⟩
  · right
    simp only [Value.slice.injEq] at hv
    obtain ⟨rfl, _, rfl⟩ := hv
    exact ⟨g, rfl, hb, (Array.getElem?_eq_some_iff.1 hg).1, hnc⟩

/-- A cell of a row that is owned is written. -/
theorem own_write {w : World} {base g cap : Nat} {ks : List (Int × Int)} (i : Nat) (hi : i < ks.length) (k : Int) (h : w.ownsRow base 32 2 (.slice (some ⟨g, 0, none⟩) ks.length cap) ks.length (flat ks)) :
    (w.setCell ⟨g, i * 2 + 1, none⟩ (.int .u64 k)).ownsRow base 32 2 (.slice (some ⟨g, 0, none⟩) ks.length cap) ks.length (flat (ks.set i (ks[i].1, k))) := by
  refine ⟨by rw [flat_length]; simp, ?_⟩
  rcases h.2 with ⟨hv, _⟩ | ⟨g', c, cur, hv, hb, hg, h1, h2, h3, h4⟩
  · cases hv
  · simp only [Value.slice.injEq, Option.some.injEq, Addr.mk.injEq, and_true] at hv
    obtain ⟨rfl, _, rfl⟩ := hv
    refine .inr ⟨g, cap, cur.setIfInBounds (i * 2 + 1) (.int .u64 k), rfl, hb, set_blk hg _, h1, h2, by simpa using h3, ?_⟩
    rw [flat_set ks k i hi, ← h4, Array.toList_setIfInBounds, List.take_set]

set_option maxRecDepth 100000 in
set_option maxHeartbeats 4000000 in
theorem put_key (B : Nat) (g h ty n k : Int) (ap : Bool) (a : Option Addr) (ks : List (Int × Int)) (cap base : Nat) (w : World) (hlen : ks.length ≤ 1000000) (hk0 : (k == 0) = false)
   (hB : w.heap[B]? = some (.cells #[.int .u32 g, .slice a ks.length cap, .int .i64 h, .int .i64 ty, .bool ap] 25)) (hbase : base ≤ w.heap.size) (hbB : base ≤ B)
   (hown : w.ownsRow base 32 2 (.slice a ks.length cap) ks.length (flat ks)) :
    Calls Try.prog 30 #[.pointer (some ⟨B, 0, none⟩), .int .i64 n, .int .u64 k] w
      (PutPost B g h ty ap ks (putF ks n k).1 (putF ks n k).2 base w a) := by
  obtain ⟨i0, hi, hz0, hz1, hz2⟩ := info_parts info_reg
  have HK := Lib.hid (KeysIn.of_own hown)
  have HO := Lib.hid hown; clear hown
  have HB := Lib.hid hB
  have hBs : B < w.heap.size := (Array.getElem?_eq_some_iff.1 HB.out).1
  obtain ⟨q0, q1, q2, q3, q4, m0, m1, m2, m3, m4⟩ := blk5 hB
  clear hB
  go_enter Try.func30, Try.ntmps30
  go_wp2
  go_loopw [7, 19] (fun _ i wr => ∃ k : Nat, k ≤ ks.length ∧ i = .int .i64 k ∧ (∀ j (hj : j < ks.length), j < k → ks[j].1 ≠ n) ∧ Below (w.heap.size + 1) (w.alloc (.cells #[.int .i64 n] 3)) wr) (fun _ i _ => ks.length - (intOf i).toNat)
  case atStart => exact ⟨0, Nat.zero_le _, rfl, fun j _ hj => by omega, Below.refl _ _⟩
  case round =>
    obtain ⟨j, hj, rfl, hno, hbel⟩ := hrel
    have HN := Lib.hid hno; clear hno
    have hbw := hbel.mono (Nat.le_succ w.heap.size)
    have hbel0 : Below w.heap.size w wr := by repeat (first | with_reducible assumption | (with_reducible refine Below.setCell ?_ (by first | omega | (simp; done) | (simp; omega)) _) | (with_reducible refine Below.alloc ?_ (by first | omega | (simp; done) | (simp; omega)) _) | (with_reducible refine Below.drew ?_) | (with_reducible refine below_dN ?_ _) | with_reducible exact Below.refl _ _ | (with_reducible refine Below.trans ?_ (Below.mono (by assumption) (by first | omega | (simp; done) | (simp; omega)))))
    have hc4 : wr.cell? ⟨w.heap.size, 0, none⟩ = some (.int .i64 n) := by rw [hbel.cell (by simp)]; simp
    obtain ⟨q0, q1, q2, q3, q4, m0, m1, m2, m3, m4⟩ := blk5 ((hbel0.block B hBs).trans HB.out)
    by_cases hlt : j < ks.length
    · obtain ⟨b, rfl, hbb, hb, cur, hcur⟩ := own_addr HO.out (by omega)
      obtain ⟨b', off', e1, _, c1, c2⟩ := HK.out j hlt
      simp only [Option.some.injEq, Addr.mk.injEq, and_true] at e1
      obtain ⟨rfl, rfl⟩ := e1
      have d1 := (hbel0.cell (p := ⟨b, 0 + j * 2, none⟩) hb).trans c1
      have d2 := (hbel0.cell (p := ⟨b, 0 + j * 2 + 1, none⟩) hb).trans c2
      have d3 : wr.frozen? ⟨b, 0 + j * 2 + 1, none⟩ = false := by rw [hbel0.frozen (p := ⟨b, 0 + j * 2 + 1, none⟩) hb]; simp [World.frozen?, hcur]
      simp only [Nat.zero_add] at d1 d2 d3
      have hi0 : (0 : Int) ≤ j := by omega
      have hi1 : (j : Int) < ks.length := by omega
      have hor := Lib.hid (own_below HO.out hbel0)
      have HBL := Lib.hid hbel
      clear c1 c2 hbel
      cases q : (ks[j].1 == n)
      · go_wp2
        go_quiet (fail)
        go_wp2
        go_roundw
        case rel =>
          refine ⟨j + 1, by omega, by go_num, ?_, ?_⟩
          · intro i hi hij
            by_cases e : i = j
            · subst e; simpa using q
            · exact HN.out i hi (by omega)
          · exact below_dN HBL.out nq
        case measure => simp [intOf]; omega
      · go_wp2
        go_quiet (fail)
        go_wp2
        have hne : b ≠ B := fun e => by subst e; rw [HB.out] at hcur; simp at hcur
        have hset : putF ks n k = (ks.set j (ks[j].1, k), true) := by
          have e1 : ks[j].1 = n := by simpa using q
          simp [putF, keyF_at ks n j hlt e1, setF_at ks n k j hlt HN.out e1]
        go_ret
        unfold PutPost
        rw [hset]
        have hd : Below w.heap.size w (wr.drewN nq) := below_dN hbel0 nq
        have hlen' : (ks.set j (ks[j].1, k)).length = ks.length := by simp
        refine ⟨some ⟨b, 0, none⟩, cap, rfl, ?_, ?_, ?_, by simp⟩
        · rw [Below.heap_setCell _ _ _ B (by simpa using fun e => hne e.symm), hd.block B hBs, HB.out, hlen']
        · simp only [hlen']
          exact own_write j hlt k (own_below HO.out hd)
        · exact (Keep.of_below hd).trans (Keep.of_grown (grown_set _ b _ _) (Or.inr rfl))
    · obtain rfl : j = ks.length := by omega
      have hkno : (keyF ks n).2 = false := keyF_no ks n (fun i hi => HN.out i hi hi)
      cases h6 : ((ks.length : Int) == 6)
      · have h6' : ¬ ks.length = 6 := by have h7 := h6; simp at h7; omega
        have hset : putF ks n k = (insF ks n k, true) := by simp [putF, hkno, h6']
        have HST := Lib.hid hset
        have HBL := Lib.hid hbel
        clear hset hbel hkno h6'
        go_wp2
        obtain ⟨wo, rfl⟩ : ∃ wo : World, wo = wr := ⟨_, rfl⟩
        clear hc4 q0 q1 q2 q3 q4 m0 m1 m2 m3 m4 hbw hbel0
        go_loopw [8] (fun i wz => ∃ m : Nat, m ≤ ks.length ∧ i = .int .i64 m ∧ (∀ j (hj : j < ks.length), j < m → ks[j].1 < n) ∧ Below (w.heap.size + 1) (w.alloc (.cells #[.int .i64 n] 3)) wz) (fun i _ => ks.length - (intOf i).toNat)
        case atStart => exact ⟨0, Nat.zero_le _, rfl, fun j _ hj => by omega, HBL.out⟩
        case round =>
          obtain ⟨m, hm, rfl, hno, hbel⟩ := hrel
          have HN := Lib.hid hno; clear hno
          have hbw := hbel.mono (Nat.le_succ w.heap.size)
          have hbel0 : Below w.heap.size w wr := by repeat (first | with_reducible assumption | (with_reducible refine Below.setCell ?_ (by first | omega | (simp; done) | (simp; omega)) _) | (with_reducible refine Below.alloc ?_ (by first | omega | (simp; done) | (simp; omega)) _) | (with_reducible refine Below.drew ?_) | (with_reducible refine below_dN ?_ _) | with_reducible exact Below.refl _ _ | (with_reducible refine Below.trans ?_ (Below.mono (by assumption) (by first | omega | (simp; done) | (simp; omega)))))
          have hc4 : wr.cell? ⟨w.heap.size, 0, none⟩ = some (.int .i64 n) := by rw [hbel.cell (by simp)]; simp
          obtain ⟨q0, q1, q2, q3, q4, m0, m1, m2, m3, m4⟩ := blk5 ((hbel0.block B hBs).trans HB.out)
          have HBM := Lib.hid hbel; clear hbel
          cases g1 : decide (m < ks.length)
          · go_wp2
            go_quiet (fail)
            go_wp2
            have hWB : Below w.heap.size w (wr.drewN nq) := below_dN hbel0 nq
            have hc4W : (wr.drewN nq).cell? ⟨w.heap.size, 0, none⟩ = some (.int .i64 n) := by simpa using hc4
            have hzW : w.heap.size < (wr.drewN nq).heap.size := by have := HBM.out.size; simp at this ⊢; omega
            clear hc4 q0 q1 q2 q3 q4 m0 m1 m2 m3 m4 hbw hbel0
            generalize wr.drewN nq = W at hWB hc4W hzW ⊢
            obtain ⟨q0, q1, q2, q3, q4, m0, m1, m2, m3, m4⟩ := blk5 ((hWB.block B hBs).trans HB.out)
            have hBW : B < W.heap.size := Nat.lt_of_lt_of_le hBs hWB.size
            have hO := own_below HO.out hWB
            rcases own_addr0 hO with ⟨rfl, rfl, h0⟩ | ⟨g0, rfl, hg0, hgW, hnc⟩
            · have HS : Hid (∀ wx, Below W.heap.size W wx → SrcIs wx (.slice none 0 0) (ks.length - m) 2 (flat (ks.drop m))) := Lib.hid (fun wx _ => .inl ⟨rfl, by omega, by rw [List.drop_eq_nil_of_le (by omega)]; rfl⟩)
              have HT : Hid (∀ wx, Below W.heap.size W wx → ∀ b, (none : Option Addr) = some b → ∀ j u, (flat (ks.take m))[j]? = some u → wx.cell? (b.add j) = some u) := Lib.hid (fun wx hb b e j u hu => by cases e)
              have HLT : Hid ((flat (ks.take m)).length = m * 2) := Lib.hid (by rw [flat_length, List.length_take]; omega)
              have HLN : Hid (([.int .i64 n, .int .u64 k] ++ flat (ks.drop m) : List Value).length = (1 + (ks.length - m)) * 2) := Lib.hid (by rw [List.length_append, flat_length, List.length_drop]; simp; omega)
              have H1N : Hid (∀ u ∈ ([.int .i64 n, .int .u64 k] ++ flat (ks.drop m) : List Value), u.oneCell' = true) := Lib.hid (flat_one ((n, k) :: ks.drop m))
              have HBL5 := Lib.hid ((hWB.block B hBs).trans HB.out)
              have HWB := Lib.hid hWB
              have HIN : Hid (insF ks n k = ks.take m ++ (n, k) :: ks.drop m) := Lib.hid (insF_at ks n k m hm HN.out (fun h => absurd h (by omega)))
              have k1 := cell_regrown q1
              have k4 := cell_regrown hc4W
              have hm0 : m = 0 := by omega
              have hi2 : (m : Int) ≤ 0 := by omega
              have HM0 := Lib.hid hm0
              have H00 := Lib.hid h0
              clear hO hWB q0 q1 q2 q3 q4 m0 m1 m2 m3 m4 hm0
              refine wp_region_mix [(0, true), (1, true), (2, true), (3, true), (4, true), (5, true), (6, true), (7, true), (8, true), (9, true), (10, true), (12, true), (13, true), (14, true), (15, true), (16, true), (17, true), (11, false), (18, false), (19, false), (20, true), (21, true), (22, false)] 22 (fun w' => ∃ p : Regrown, w' = Go.Sort.grow (redrawn W p.d) p.os) (by kernel_rfl) (by kernel_rfl) (fun _ _ d _ _ h => by cases d <;> exact h) (grows_drew _) ?_
              (repeat (refine mix_q ?_; simp only [List.drop_succ_cons, List.drop_zero, List.take_succ_cons, List.take_zero]; go_big_quiet_step (fail); refine wpQuiet_nil ?_))
              refine mix_a ?_; simp only [List.drop_succ_cons, List.drop_zero, List.take_succ_cons, List.take_zero]
              go_wp2_with fail
              refine mixQ_normal ⟨fun _ => grows_of_below (by repeat (first | with_reducible assumption | (with_reducible refine Below.setCell ?_ (by first | omega | (simp; done) | (simp; omega)) _) | (with_reducible refine Below.alloc ?_ (by first | omega | (simp; done) | (simp; omega)) _) | (with_reducible refine Below.drew ?_) | (with_reducible refine below_dN ?_ _) | with_reducible exact Below.refl _ _ | (with_reducible refine Below.trans ?_ (Below.mono (by assumption) (by first | omega | (simp; done) | (simp; omega)))))), ?_⟩
              refine mix_a ?_; simp only [List.drop_succ_cons, List.drop_zero, List.take_succ_cons, List.take_zero]
              refine step_append_list rfl (.tmp 79) (.tmp 85) 23 rfl W.heap.size 32 i0 (.agg #[.int .i64 0, .int .u64 0]) 2 16 Try.underlying23 hi hz0 hz1 hz2 rfl (by decide) (.slice (some ⟨W.heap.size, 0, none⟩) 1 1) 1 [.int .i64 n, .int .u64 k] rfl (own_one2 _ _ _ _ _ (by simp)) (.slice none 0 0) (ks.length - m) (flat (ks.drop m)) rfl (HS.out _ (by repeat (first | with_reducible assumption | (with_reducible refine Below.setCell ?_ (by first | omega | (simp; done) | (simp; omega)) _) | (with_reducible refine Below.alloc ?_ (by first | omega | (simp; done) | (simp; omega)) _) | (with_reducible refine Below.drew ?_) | (with_reducible refine below_dN ?_ _) | with_reducible exact Below.refl _ _ | (with_reducible refine Below.trans ?_ (Below.mono (by assumption) (by first | omega | (simp; done) | (simp; omega))))))) (by unfold maxLen; omega) (by omega) (by simp) ?_
              intro v1 w1 ho1 hg1
              simp only [Act.put, List.setIfInBounds_toArray, List.set_cons_zero, List.set_cons_succ]
              obtain ⟨a1, cap1, hv1⟩ := own_slice ho1
              rw [hv1] at ho1 ⊢
              clear hv1
              obtain ⟨ga, hga0, hga, hgb, _⟩ := own_addr ho1 (by omega)
              rw [hga0] at ho1 ⊢
              clear hga0
              have hb1 : Below W.heap.size W w1 := Below.grown (by repeat (first | with_reducible assumption | (with_reducible refine Below.setCell ?_ (by first | omega | (simp; done) | (simp; omega)) _) | (with_reducible refine Below.alloc ?_ (by first | omega | (simp; done) | (simp; omega)) _) | (with_reducible refine Below.drew ?_) | (with_reducible refine below_dN ?_ _) | with_reducible exact Below.refl _ _ | (with_reducible refine Below.trans ?_ (Below.mono (by assumption) (by first | omega | (simp; done) | (simp; omega)))))) hg1 (by simp) (fun k' hk' => by simp [Value.ownBlock] at hk'; omega)
              refine wpList_nil (mixQ_normal ⟨fun _ => grows_of_below hb1, ?_⟩)
              refine mix_a ?_; simp only [List.drop_succ_cons, List.drop_zero, List.take_succ_cons, List.take_zero]
              refine step_append_grows_list rfl (.tmp 75) (.tmp 86) 23 rfl 32 i0 (.agg #[.int .i64 0, .int .u64 0]) 2 16 Try.underlying23 hi hz0 hz1 hz2 rfl (by decide) (none) m m (flat (ks.take m)) rfl (by first | (simp; done) | (simp; omega)) (HLT.out) (HT.out _ hb1) ⟨ga, 0, none⟩ (1 + (ks.length - m)) cap1 ([.int .i64 n, .int .u64 k] ++ flat (ks.drop m)) rfl HLN.out (ho1.cells rfl) H1N.out (by omega) (by unfold maxLen; omega) (by omega) ?_
              intro v2 w2 ho2 hg2
              simp only [Act.put, List.setIfInBounds_toArray, List.set_cons_zero, List.set_cons_succ]
              obtain ⟨a2, cap2, hv2⟩ := own_slice ho2
              rw [hv2] at ho2 ⊢
              clear hv2
              have hb2 : Below W.heap.size W w2 := hb1.trans ((Below.refl _ _).grown hg2 hb1.size (by simp))
              refine wpList_nil (mixQ_normal ⟨fun _ => grows_of_below hb2, ?_⟩)
              (repeat (refine mix_q ?_; simp only [List.drop_succ_cons, List.drop_zero, List.take_succ_cons, List.take_zero]; go_big_quiet_step (fail); refine wpQuiet_nil ?_))
              refine mix_a ?_; simp only [List.drop_succ_cons, List.drop_zero, List.take_succ_cons, List.take_zero]
              obtain ⟨z0, z1, z2, z3, z4, y0, y1, y2, y3, y4⟩ := blk5 ((hb2.block B hBW).trans HBL5.out)
              go_wp2_with fail
              refine mixQ_normal ⟨fun h => absurd h (by simp), mix_nil ?_⟩
              go_wp2
              go_ret
              unfold PutPost
              rw [HST.out]
              have hins : insF ks n k = ks.take m ++ (n, k) :: ks.drop m := HIN.out
              have hlen' : (insF ks n k).length = m + (1 + (ks.length - m)) := by rw [hins]; simp; omega
              have hfl : flat (insF ks n k) = flat (ks.take m) ++ ([.int .i64 n, .int .u64 k] ++ flat (ks.drop m)) := by rw [hins, flat_append]; rfl
              refine ⟨a2, cap2, rfl, ?_, ?_, ?_, by rw [hlen']; omega⟩
              · first | (rw [hlen']; exact set_blk ((hb2.block B hBW).trans HBL5.out) _) | (rw [hlen', show m + (1 + (ks.length - m)) = m + 1 by omega]; exact set_blk ((hb2.block B hBW).trans HBL5.out) _)
              · rw [hlen', hfl]
                try simp only [show m + (1 + (ks.length - m)) = m + 1 by omega] at ho2 ⊢
                exact own_mono (ho2.kept (grown_set _ _ _ _) (by generalize (Value.slice a2 _ cap2) = vv at ho2 ⊢; cases hob : vv.ownBlock with | none => simp | some k' => right; have := (ho2.lt k' hob).1; have := hb1.size; simp; omega)) (by have := hb1.size; have := HWB.out.size; omega)
              · exact (Keep.of_below HWB.out).trans ((Keep.of_below (hb2.mono (Nat.le_refl _))).trans (Keep.of_grown (grown_set _ B _ _) (Or.inl rfl)))
            · have hi2 : (m : Int) ≤ cap := by omega
              have hks := KeysIn.of_own hO
              by_cases hcm : cap = m
              · have hdr : ks.drop m = [] := List.drop_eq_nil_of_le (by omega)
                have hcm2 := hcm.symm; clear hcm; subst hcm2
                have HS : Hid (∀ wx, Below W.heap.size W wx → SrcIs wx ((.slice (some ⟨g0, 0, none⟩) 0 0)) (ks.length - m) 2 (flat (ks.drop m))) := Lib.hid (fun wx _ => .inr ⟨⟨g0, 0, none⟩, 0, by rw [show ks.length - m = 0 by omega], by rw [hdr]; simp [flat]; omega, by rw [hdr]; simp [flat], by rw [hdr]; simp [flat]⟩)
                have HT : Hid (∀ wx, Below W.heap.size W wx → ∀ b, some (⟨g0, 0, none⟩ : Addr) = some b → ∀ j u, (flat (ks.take m))[j]? = some u → wx.cell? (b.add j) = some u) := Lib.hid (fun wx hb b e j u hu => by
                  simp only [Option.some.injEq] at e; subst e; exact ((hks.take m).below hb).flat j u hu)
                have HLT : Hid ((flat (ks.take m)).length = m * 2) := Lib.hid (by rw [flat_length, List.length_take]; omega)
                have HLN : Hid (([.int .i64 n, .int .u64 k] ++ flat (ks.drop m) : List Value).length = (1 + (ks.length - m)) * 2) := Lib.hid (by rw [List.length_append, flat_length, List.length_drop]; simp; omega)
                have H1N : Hid (∀ u ∈ ([.int .i64 n, .int .u64 k] ++ flat (ks.drop m) : List Value), u.oneCell' = true) := Lib.hid (flat_one ((n, k) :: ks.drop m))
                have HBL5 := Lib.hid ((hWB.block B hBs).trans HB.out)
                have HOW := Lib.hid hO
                have HWB := Lib.hid hWB
                have HIN : Hid (insF ks n k = ks.take m ++ (n, k) :: ks.drop m) := Lib.hid (insF_at ks n k m hm HN.out (fun h => absurd h (by omega)))
                have k1 := cell_regrown q1
                have k4 := cell_regrown hc4W
                clear hO hWB hks q0 q1 q2 q3 q4 m0 m1 m2 m3 m4
                clear hdr
                refine wp_region_mix [(0, true), (1, true), (2, true), (3, true), (4, true), (5, true), (6, true), (7, true), (8, true), (9, true), (10, true), (12, true), (13, true), (14, true), (15, true), (16, true), (17, true), (11, false), (18, false), (19, false), (20, true), (21, true), (22, false)] 22 (fun w' => ∃ p : Regrown, w' = Go.Sort.grow (redrawn W p.d) p.os) (by kernel_rfl) (by kernel_rfl) (fun _ _ d _ _ h => by cases d <;> exact h) (grows_drew _) ?_
                (repeat (refine mix_q ?_; simp only [List.drop_succ_cons, List.drop_zero, List.take_succ_cons, List.take_zero]; go_big_quiet_step (fail); refine wpQuiet_nil ?_))
                refine mix_a ?_; simp only [List.drop_succ_cons, List.drop_zero, List.take_succ_cons, List.take_zero]
                go_wp2_with fail
                refine mixQ_normal ⟨fun _ => grows_of_below (by repeat (first | with_reducible assumption | (with_reducible refine Below.setCell ?_ (by first | omega | (simp; done) | (simp; omega)) _) | (with_reducible refine Below.alloc ?_ (by first | omega | (simp; done) | (simp; omega)) _) | (with_reducible refine Below.drew ?_) | (with_reducible refine below_dN ?_ _) | with_reducible exact Below.refl _ _ | (with_reducible refine Below.trans ?_ (Below.mono (by assumption) (by first | omega | (simp; done) | (simp; omega)))))), ?_⟩
                refine mix_a ?_; simp only [List.drop_succ_cons, List.drop_zero, List.take_succ_cons, List.take_zero]
                refine step_append_list rfl (.tmp 79) (.tmp 85) 23 rfl W.heap.size 32 i0 (.agg #[.int .i64 0, .int .u64 0]) 2 16 Try.underlying23 hi hz0 hz1 hz2 rfl (by decide) (.slice (some ⟨W.heap.size, 0, none⟩) 1 1) 1 [.int .i64 n, .int .u64 k] rfl (own_one2 _ _ _ _ _ (by simp)) (.slice (some ⟨g0, 0, none⟩) 0 0) (ks.length - m) (flat (ks.drop m)) rfl (HS.out _ (by repeat (first | with_reducible assumption | (with_reducible refine Below.setCell ?_ (by first | omega | (simp; done) | (simp; omega)) _) | (with_reducible refine Below.alloc ?_ (by first | omega | (simp; done) | (simp; omega)) _) | (with_reducible refine Below.drew ?_) | (with_reducible refine below_dN ?_ _) | with_reducible exact Below.refl _ _ | (with_reducible refine Below.trans ?_ (Below.mono (by assumption) (by first | omega | (simp; done) | (simp; omega))))))) (by unfold maxLen; omega) (by omega) (by simp) ?_
                intro v1 w1 ho1 hg1
                simp only [Act.put, List.setIfInBounds_toArray, List.set_cons_zero, List.set_cons_succ]
                obtain ⟨a1, cap1, hv1⟩ := own_slice ho1
                rw [hv1] at ho1 ⊢
                clear hv1
                obtain ⟨ga, hga0, hga, hgb, _⟩ := own_addr ho1 (by omega)
                rw [hga0] at ho1 ⊢
                clear hga0
                have hb1 : Below W.heap.size W w1 := Below.grown (by repeat (first | with_reducible assumption | (with_reducible refine Below.setCell ?_ (by first | omega | (simp; done) | (simp; omega)) _) | (with_reducible refine Below.alloc ?_ (by first | omega | (simp; done) | (simp; omega)) _) | (with_reducible refine Below.drew ?_) | (with_reducible refine below_dN ?_ _) | with_reducible exact Below.refl _ _ | (with_reducible refine Below.trans ?_ (Below.mono (by assumption) (by first | omega | (simp; done) | (simp; omega)))))) hg1 (by simp) (fun k' hk' => by simp [Value.ownBlock] at hk'; omega)
                refine wpList_nil (mixQ_normal ⟨fun _ => grows_of_below hb1, ?_⟩)
                refine mix_a ?_; simp only [List.drop_succ_cons, List.drop_zero, List.take_succ_cons, List.take_zero]
                refine step_append_grows_list rfl (.tmp 75) (.tmp 86) 23 rfl 32 i0 (.agg #[.int .i64 0, .int .u64 0]) 2 16 Try.underlying23 hi hz0 hz1 hz2 rfl (by decide) (some ⟨g0, 0, none⟩) m m (flat (ks.take m)) rfl (by first | (simp; done) | (simp; omega)) (HLT.out) (HT.out _ hb1) ⟨ga, 0, none⟩ (1 + (ks.length - m)) cap1 ([.int .i64 n, .int .u64 k] ++ flat (ks.drop m)) rfl HLN.out (ho1.cells rfl) H1N.out (by omega) (by unfold maxLen; omega) (by omega) ?_
                intro v2 w2 ho2 hg2
                simp only [Act.put, List.setIfInBounds_toArray, List.set_cons_zero, List.set_cons_succ]
                obtain ⟨a2, cap2, hv2⟩ := own_slice ho2
                rw [hv2] at ho2 ⊢
                clear hv2
                have hb2 : Below W.heap.size W w2 := hb1.trans ((Below.refl _ _).grown hg2 hb1.size (by simp))
                refine wpList_nil (mixQ_normal ⟨fun _ => grows_of_below hb2, ?_⟩)
                (repeat (refine mix_q ?_; simp only [List.drop_succ_cons, List.drop_zero, List.take_succ_cons, List.take_zero]; go_big_quiet_step (fail); refine wpQuiet_nil ?_))
                refine mix_a ?_; simp only [List.drop_succ_cons, List.drop_zero, List.take_succ_cons, List.take_zero]
                obtain ⟨z0, z1, z2, z3, z4, y0, y1, y2, y3, y4⟩ := blk5 ((hb2.block B hBW).trans HBL5.out)
                go_wp2_with fail
                refine mixQ_normal ⟨fun h => absurd h (by simp), mix_nil ?_⟩
                go_wp2
                go_ret
                unfold PutPost
                rw [HST.out]
                have hins : insF ks n k = ks.take m ++ (n, k) :: ks.drop m := HIN.out
                have hlen' : (insF ks n k).length = m + (1 + (ks.length - m)) := by rw [hins]; simp; omega
                have hfl : flat (insF ks n k) = flat (ks.take m) ++ ([.int .i64 n, .int .u64 k] ++ flat (ks.drop m)) := by rw [hins, flat_append]; rfl
                refine ⟨a2, cap2, rfl, ?_, ?_, ?_, by rw [hlen']; omega⟩
                · first | (rw [hlen']; exact set_blk ((hb2.block B hBW).trans HBL5.out) _) | (rw [hlen', show m + (1 + (ks.length - m)) = m + 1 by omega]; exact set_blk ((hb2.block B hBW).trans HBL5.out) _)
                · rw [hlen', hfl]
                  try simp only [show m + (1 + (ks.length - m)) = m + 1 by omega] at ho2 ⊢
                  exact own_mono (ho2.kept (grown_set _ _ _ _) (by generalize (Value.slice a2 _ cap2) = vv at ho2 ⊢; cases hob : vv.ownBlock with | none => simp | some k' => right; have := (ho2.lt k' hob).1; have := hb1.size; simp; omega)) (by have := hb1.size; have := HWB.out.size; omega)
                · exact (Keep.of_below HWB.out).trans ((Keep.of_below (hb2.mono (Nat.le_refl _))).trans (Keep.of_grown (grown_set _ B _ _) (Or.inl rfl)))
              · have HS : Hid (∀ wx, Below W.heap.size W wx → SrcIs wx ((.slice (some ⟨g0, m * 2, none⟩) (ks.length - m) (cap - m))) (ks.length - m) 2 (flat (ks.drop m))) := Lib.hid (fun wx hb => by have := ((hks.drop m hm).below hb).src (c := cap - m); simpa using this)
                have HT : Hid (∀ wx, Below W.heap.size W wx → ∀ b, some (⟨g0, 0, none⟩ : Addr) = some b → ∀ j u, (flat (ks.take m))[j]? = some u → wx.cell? (b.add j) = some u) := Lib.hid (fun wx hb b e j u hu => by
                  simp only [Option.some.injEq] at e; subst e; exact ((hks.take m).below hb).flat j u hu)
                have HLT : Hid ((flat (ks.take m)).length = m * 2) := Lib.hid (by rw [flat_length, List.length_take]; omega)
                have HLN : Hid (([.int .i64 n, .int .u64 k] ++ flat (ks.drop m) : List Value).length = (1 + (ks.length - m)) * 2) := Lib.hid (by rw [List.length_append, flat_length, List.length_drop]; simp; omega)
                have H1N : Hid (∀ u ∈ ([.int .i64 n, .int .u64 k] ++ flat (ks.drop m) : List Value), u.oneCell' = true) := Lib.hid (flat_one ((n, k) :: ks.drop m))
                have HBL5 := Lib.hid ((hWB.block B hBs).trans HB.out)
                have HOW := Lib.hid hO
                have HWB := Lib.hid hWB
                have HIN : Hid (insF ks n k = ks.take m ++ (n, k) :: ks.drop m) := Lib.hid (insF_at ks n k m hm HN.out (fun h => absurd h (by simp at g1; omega)))
                have k1 := cell_regrown q1
                have k4 := cell_regrown hc4W
                clear hO hWB hks q0 q1 q2 q3 q4 m0 m1 m2 m3 m4
                refine wp_region_mix [(0, true), (1, true), (2, true), (3, true), (4, true), (5, true), (6, true), (7, true), (8, true), (9, true), (10, true), (12, true), (13, true), (14, true), (15, true), (16, true), (17, true), (11, false), (18, false), (19, false), (20, true), (21, true), (22, false)] 22 (fun w' => ∃ p : Regrown, w' = Go.Sort.grow (redrawn W p.d) p.os) (by kernel_rfl) (by kernel_rfl) (fun _ _ d _ _ h => by cases d <;> exact h) (grows_drew _) ?_
                (repeat (refine mix_q ?_; simp only [List.drop_succ_cons, List.drop_zero, List.take_succ_cons, List.take_zero]; go_big_quiet_step (fail); refine wpQuiet_nil ?_))
                refine mix_a ?_; simp only [List.drop_succ_cons, List.drop_zero, List.take_succ_cons, List.take_zero]
                go_wp2_with fail
                refine mixQ_normal ⟨fun _ => grows_of_below (by repeat (first | with_reducible assumption | (with_reducible refine Below.setCell ?_ (by first | omega | (simp; done) | (simp; omega)) _) | (with_reducible refine Below.alloc ?_ (by first | omega | (simp; done) | (simp; omega)) _) | (with_reducible refine Below.drew ?_) | (with_reducible refine below_dN ?_ _) | with_reducible exact Below.refl _ _ | (with_reducible refine Below.trans ?_ (Below.mono (by assumption) (by first | omega | (simp; done) | (simp; omega)))))), ?_⟩
                refine mix_a ?_; simp only [List.drop_succ_cons, List.drop_zero, List.take_succ_cons, List.take_zero]
                refine step_append_list rfl (.tmp 79) (.tmp 85) 23 rfl W.heap.size 32 i0 (.agg #[.int .i64 0, .int .u64 0]) 2 16 Try.underlying23 hi hz0 hz1 hz2 rfl (by decide) (.slice (some ⟨W.heap.size, 0, none⟩) 1 1) 1 [.int .i64 n, .int .u64 k] rfl (own_one2 _ _ _ _ _ (by simp)) (.slice (some ⟨g0, m * 2, none⟩) (ks.length - m) (cap - m)) (ks.length - m) (flat (ks.drop m)) rfl (HS.out _ (by repeat (first | with_reducible assumption | (with_reducible refine Below.setCell ?_ (by first | omega | (simp; done) | (simp; omega)) _) | (with_reducible refine Below.alloc ?_ (by first | omega | (simp; done) | (simp; omega)) _) | (with_reducible refine Below.drew ?_) | (with_reducible refine below_dN ?_ _) | with_reducible exact Below.refl _ _ | (with_reducible refine Below.trans ?_ (Below.mono (by assumption) (by first | omega | (simp; done) | (simp; omega))))))) (by unfold maxLen; omega) (by omega) (by simp) ?_
                intro v1 w1 ho1 hg1
                simp only [Act.put, List.setIfInBounds_toArray, List.set_cons_zero, List.set_cons_succ]
                obtain ⟨a1, cap1, hv1⟩ := own_slice ho1
                rw [hv1] at ho1 ⊢
                clear hv1
                obtain ⟨ga, hga0, hga, hgb, _⟩ := own_addr ho1 (by omega)
                rw [hga0] at ho1 ⊢
                clear hga0
                have hb1 : Below W.heap.size W w1 := Below.grown (by repeat (first | with_reducible assumption | (with_reducible refine Below.setCell ?_ (by first | omega | (simp; done) | (simp; omega)) _) | (with_reducible refine Below.alloc ?_ (by first | omega | (simp; done) | (simp; omega)) _) | (with_reducible refine Below.drew ?_) | (with_reducible refine below_dN ?_ _) | with_reducible exact Below.refl _ _ | (with_reducible refine Below.trans ?_ (Below.mono (by assumption) (by first | omega | (simp; done) | (simp; omega)))))) hg1 (by simp) (fun k' hk' => by simp [Value.ownBlock] at hk'; omega)
                refine wpList_nil (mixQ_normal ⟨fun _ => grows_of_below hb1, ?_⟩)
                refine mix_a ?_; simp only [List.drop_succ_cons, List.drop_zero, List.take_succ_cons, List.take_zero]
                refine step_append_grows_list rfl (.tmp 75) (.tmp 86) 23 rfl 32 i0 (.agg #[.int .i64 0, .int .u64 0]) 2 16 Try.underlying23 hi hz0 hz1 hz2 rfl (by decide) (some ⟨g0, 0, none⟩) m m (flat (ks.take m)) rfl (by first | (simp; done) | (simp; omega)) (HLT.out) (HT.out _ hb1) ⟨ga, 0, none⟩ (1 + (ks.length - m)) cap1 ([.int .i64 n, .int .u64 k] ++ flat (ks.drop m)) rfl HLN.out (ho1.cells rfl) H1N.out (by omega) (by unfold maxLen; omega) (by omega) ?_
                intro v2 w2 ho2 hg2
                simp only [Act.put, List.setIfInBounds_toArray, List.set_cons_zero, List.set_cons_succ]
                obtain ⟨a2, cap2, hv2⟩ := own_slice ho2
                rw [hv2] at ho2 ⊢
                clear hv2
                have hb2 : Below W.heap.size W w2 := hb1.trans ((Below.refl _ _).grown hg2 hb1.size (by simp))
                refine wpList_nil (mixQ_normal ⟨fun _ => grows_of_below hb2, ?_⟩)
                (repeat (refine mix_q ?_; simp only [List.drop_succ_cons, List.drop_zero, List.take_succ_cons, List.take_zero]; go_big_quiet_step (fail); refine wpQuiet_nil ?_))
                refine mix_a ?_; simp only [List.drop_succ_cons, List.drop_zero, List.take_succ_cons, List.take_zero]
                obtain ⟨z0, z1, z2, z3, z4, y0, y1, y2, y3, y4⟩ := blk5 ((hb2.block B hBW).trans HBL5.out)
                go_wp2_with fail
                refine mixQ_normal ⟨fun h => absurd h (by simp), mix_nil ?_⟩
                go_wp2
                go_ret
                unfold PutPost
                rw [HST.out]
                have hins : insF ks n k = ks.take m ++ (n, k) :: ks.drop m := HIN.out
                have hlen' : (insF ks n k).length = m + (1 + (ks.length - m)) := by rw [hins]; simp; omega
                have hfl : flat (insF ks n k) = flat (ks.take m) ++ ([.int .i64 n, .int .u64 k] ++ flat (ks.drop m)) := by rw [hins, flat_append]; rfl
                refine ⟨a2, cap2, rfl, ?_, ?_, ?_, by rw [hlen']; omega⟩
                · first | (rw [hlen']; exact set_blk ((hb2.block B hBW).trans HBL5.out) _) | (rw [hlen', show m + (1 + (ks.length - m)) = m + 1 by omega]; exact set_blk ((hb2.block B hBW).trans HBL5.out) _)
                · rw [hlen', hfl]
                  try simp only [show m + (1 + (ks.length - m)) = m + 1 by omega] at ho2 ⊢
                  exact own_mono (ho2.kept (grown_set _ _ _ _) (by generalize (Value.slice a2 _ cap2) = vv at ho2 ⊢; cases hob : vv.ownBlock with | none => simp | some k' => right; have := (ho2.lt k' hob).1; have := hb1.size; simp; omega)) (by have := hb1.size; have := HWB.out.size; omega)
                · exact (Keep.of_below HWB.out).trans ((Keep.of_below (hb2.mono (Nat.le_refl _))).trans (Keep.of_grown (grown_set _ B _ _) (Or.inl rfl)))
          · have hlt : m < ks.length := by simpa using g1
            obtain ⟨b, rfl, hbb, hb, cur, hcur⟩ := own_addr HO.out (by omega)
            obtain ⟨b', off', e1, _, c1, c2⟩ := HK.out m hlt
            simp only [Option.some.injEq, Addr.mk.injEq, and_true] at e1
            obtain ⟨rfl, rfl⟩ := e1
            have d1 := (hbel0.cell (p := ⟨b, 0 + m * 2, none⟩) hb).trans c1
            simp only [Nat.zero_add] at d1
            have hi0 : (0 : Int) ≤ m := by omega
            have hi1 : (m : Int) < ks.length := by omega
            clear c1 c2
            cases g2 : decide (ks[m].1 < n)
            · go_wp2
              go_quiet (fail)
              go_wp2
              have hWB : Below w.heap.size w (wr.drewN nq) := below_dN hbel0 nq
              have hc4W : (wr.drewN nq).cell? ⟨w.heap.size, 0, none⟩ = some (.int .i64 n) := by simpa using hc4
              have hzW : w.heap.size < (wr.drewN nq).heap.size := by have := HBM.out.size; simp at this ⊢; omega
              clear hc4 q0 q1 q2 q3 q4 m0 m1 m2 m3 m4 hbw hbel0 d1 hcur
              generalize wr.drewN nq = W at hWB hc4W hzW ⊢
              obtain ⟨q0, q1, q2, q3, q4, m0, m1, m2, m3, m4⟩ := blk5 ((hWB.block B hBs).trans HB.out)
              have hBW : B < W.heap.size := Nat.lt_of_lt_of_le hBs hWB.size
              have hO := own_below HO.out hWB
              obtain ⟨g0, rfl⟩ : ∃ g0, g0 = b := ⟨b, rfl⟩
              have hnc : ks.length ≤ cap := by
                rcases own_addr0 hO with ⟨h, _⟩ | ⟨_, _, _, _, h⟩
                · cases h
                · exact h
              have hgW : g0 < W.heap.size := Nat.lt_of_lt_of_le hb hWB.size
              have hi2 : (m : Int) ≤ cap := by omega
              have hks := KeysIn.of_own hO
              have hcm : ¬ cap = m := by omega
              have HS : Hid (∀ wx, Below W.heap.size W wx → SrcIs wx ((.slice (some ⟨g0, m * 2, none⟩) (ks.length - m) (cap - m))) (ks.length - m) 2 (flat (ks.drop m))) := Lib.hid (fun wx hb => by have := ((hks.drop m hm).below hb).src (c := cap - m); simpa using this)
              have HT : Hid (∀ wx, Below W.heap.size W wx → ∀ b, some (⟨g0, 0, none⟩ : Addr) = some b → ∀ j u, (flat (ks.take m))[j]? = some u → wx.cell? (b.add j) = some u) := Lib.hid (fun wx hb b e j u hu => by
                simp only [Option.some.injEq] at e; subst e; exact ((hks.take m).below hb).flat j u hu)
              have HLT : Hid ((flat (ks.take m)).length = m * 2) := Lib.hid (by rw [flat_length, List.length_take]; omega)
              have HLN : Hid (([.int .i64 n, .int .u64 k] ++ flat (ks.drop m) : List Value).length = (1 + (ks.length - m)) * 2) := Lib.hid (by rw [List.length_append, flat_length, List.length_drop]; simp; omega)
              have H1N : Hid (∀ u ∈ ([.int .i64 n, .int .u64 k] ++ flat (ks.drop m) : List Value), u.oneCell' = true) := Lib.hid (flat_one ((n, k) :: ks.drop m))
              have HBL5 := Lib.hid ((hWB.block B hBs).trans HB.out)
              have HOW := Lib.hid hO
              have HWB := Lib.hid hWB
              have HIN : Hid (insF ks n k = ks.take m ++ (n, k) :: ks.drop m) := Lib.hid (insF_at ks n k m hm HN.out (fun h => by simpa using g2))
              have k1 := cell_regrown q1
              have k4 := cell_regrown hc4W
              clear hO hWB hks q0 q1 q2 q3 q4 m0 m1 m2 m3 m4
              refine wp_region_mix [(0, true), (1, true), (2, true), (3, true), (4, true), (5, true), (6, true), (7, true), (8, true), (9, true), (10, true), (12, true), (13, true), (14, true), (15, true), (16, true), (17, true), (11, false), (18, false), (19, false), (20, true), (21, true), (22, false)] 22 (fun w' => ∃ p : Regrown, w' = Go.Sort.grow (redrawn W p.d) p.os) (by kernel_rfl) (by kernel_rfl) (fun _ _ d _ _ h => by cases d <;> exact h) (grows_drew _) ?_
              (repeat (refine mix_q ?_; simp only [List.drop_succ_cons, List.drop_zero, List.take_succ_cons, List.take_zero]; go_big_quiet_step (fail); refine wpQuiet_nil ?_))
              refine mix_a ?_; simp only [List.drop_succ_cons, List.drop_zero, List.take_succ_cons, List.take_zero]
              go_wp2_with fail
              refine mixQ_normal ⟨fun _ => grows_of_below (by repeat (first | with_reducible assumption | (with_reducible refine Below.setCell ?_ (by first | omega | (simp; done) | (simp; omega)) _) | (with_reducible refine Below.alloc ?_ (by first | omega | (simp; done) | (simp; omega)) _) | (with_reducible refine Below.drew ?_) | (with_reducible refine below_dN ?_ _) | with_reducible exact Below.refl _ _ | (with_reducible refine Below.trans ?_ (Below.mono (by assumption) (by first | omega | (simp; done) | (simp; omega)))))), ?_⟩
              refine mix_a ?_; simp only [List.drop_succ_cons, List.drop_zero, List.take_succ_cons, List.take_zero]
              refine step_append_list rfl (.tmp 79) (.tmp 85) 23 rfl W.heap.size 32 i0 (.agg #[.int .i64 0, .int .u64 0]) 2 16 Try.underlying23 hi hz0 hz1 hz2 rfl (by decide) (.slice (some ⟨W.heap.size, 0, none⟩) 1 1) 1 [.int .i64 n, .int .u64 k] rfl (own_one2 _ _ _ _ _ (by simp)) (.slice (some ⟨g0, m * 2, none⟩) (ks.length - m) (cap - m)) (ks.length - m) (flat (ks.drop m)) rfl (HS.out _ (by repeat (first | with_reducible assumption | (with_reducible refine Below.setCell ?_ (by first | omega | (simp; done) | (simp; omega)) _) | (with_reducible refine Below.alloc ?_ (by first | omega | (simp; done) | (simp; omega)) _) | (with_reducible refine Below.drew ?_) | (with_reducible refine below_dN ?_ _) | with_reducible exact Below.refl _ _ | (with_reducible refine Below.trans ?_ (Below.mono (by assumption) (by first | omega | (simp; done) | (simp; omega))))))) (by unfold maxLen; omega) (by omega) (by simp) ?_
              intro v1 w1 ho1 hg1
              simp only [Act.put, List.setIfInBounds_toArray, List.set_cons_zero, List.set_cons_succ]
              obtain ⟨a1, cap1, hv1⟩ := own_slice ho1
              rw [hv1] at ho1 ⊢
              clear hv1
              obtain ⟨ga, hga0, hga, hgb, _⟩ := own_addr ho1 (by omega)
              rw [hga0] at ho1 ⊢
              clear hga0
              have hb1 : Below W.heap.size W w1 := Below.grown (by repeat (first | with_reducible assumption | (with_reducible refine Below.setCell ?_ (by first | omega | (simp; done) | (simp; omega)) _) | (with_reducible refine Below.alloc ?_ (by first | omega | (simp; done) | (simp; omega)) _) | (with_reducible refine Below.drew ?_) | (with_reducible refine below_dN ?_ _) | with_reducible exact Below.refl _ _ | (with_reducible refine Below.trans ?_ (Below.mono (by assumption) (by first | omega | (simp; done) | (simp; omega)))))) hg1 (by simp) (fun k' hk' => by simp [Value.ownBlock] at hk'; omega)
              refine wpList_nil (mixQ_normal ⟨fun _ => grows_of_below hb1, ?_⟩)
              refine mix_a ?_; simp only [List.drop_succ_cons, List.drop_zero, List.take_succ_cons, List.take_zero]
              refine step_append_grows_list rfl (.tmp 75) (.tmp 86) 23 rfl 32 i0 (.agg #[.int .i64 0, .int .u64 0]) 2 16 Try.underlying23 hi hz0 hz1 hz2 rfl (by decide) (some ⟨g0, 0, none⟩) m m (flat (ks.take m)) rfl (by first | (simp; done) | (simp; omega)) (HLT.out) (HT.out _ hb1) ⟨ga, 0, none⟩ (1 + (ks.length - m)) cap1 ([.int .i64 n, .int .u64 k] ++ flat (ks.drop m)) rfl HLN.out (ho1.cells rfl) H1N.out (by omega) (by unfold maxLen; omega) (by omega) ?_
              intro v2 w2 ho2 hg2
              simp only [Act.put, List.setIfInBounds_toArray, List.set_cons_zero, List.set_cons_succ]
              obtain ⟨a2, cap2, hv2⟩ := own_slice ho2
              rw [hv2] at ho2 ⊢
              clear hv2
              have hb2 : Below W.heap.size W w2 := hb1.trans ((Below.refl _ _).grown hg2 hb1.size (by simp))
              refine wpList_nil (mixQ_normal ⟨fun _ => grows_of_below hb2, ?_⟩)
              (repeat (refine mix_q ?_; simp only [List.drop_succ_cons, List.drop_zero, List.take_succ_cons, List.take_zero]; go_big_quiet_step (fail); refine wpQuiet_nil ?_))
              refine mix_a ?_; simp only [List.drop_succ_cons, List.drop_zero, List.take_succ_cons, List.take_zero]
              obtain ⟨z0, z1, z2, z3, z4, y0, y1, y2, y3, y4⟩ := blk5 ((hb2.block B hBW).trans HBL5.out)
              go_wp2_with fail
              refine mixQ_normal ⟨fun h => absurd h (by simp), mix_nil ?_⟩
              go_wp2
              go_ret
              unfold PutPost
              rw [HST.out]
              have hins : insF ks n k = ks.take m ++ (n, k) :: ks.drop m := HIN.out
              have hlen' : (insF ks n k).length = m + (1 + (ks.length - m)) := by rw [hins]; simp; omega
              have hfl : flat (insF ks n k) = flat (ks.take m) ++ ([.int .i64 n, .int .u64 k] ++ flat (ks.drop m)) := by rw [hins, flat_append]; rfl
              refine ⟨a2, cap2, rfl, ?_, ?_, ?_, by rw [hlen']; omega⟩
              · first | (rw [hlen']; exact set_blk ((hb2.block B hBW).trans HBL5.out) _) | (rw [hlen', show m + (1 + (ks.length - m)) = m + 1 by omega]; exact set_blk ((hb2.block B hBW).trans HBL5.out) _)
              · rw [hlen', hfl]
                try simp only [show m + (1 + (ks.length - m)) = m + 1 by omega] at ho2 ⊢
                exact own_mono (ho2.kept (grown_set _ _ _ _) (by generalize (Value.slice a2 _ cap2) = vv at ho2 ⊢; cases hob : vv.ownBlock with | none => simp | some k' => right; have := (ho2.lt k' hob).1; have := hb1.size; simp; omega)) (by have := hb1.size; have := HWB.out.size; omega)
              · exact (Keep.of_below HWB.out).trans ((Keep.of_below (hb2.mono (Nat.le_refl _))).trans (Keep.of_grown (grown_set _ B _ _) (Or.inl rfl)))
            · go_wp2
              go_quiet (fail)
              go_wp2
              go_roundw
              case rel =>
                refine ⟨m + 1, by omega, by go_num, ?_, ?_⟩
                · intro i hi hij
                  by_cases e : i = m
                  · subst e; simpa using g2
                  · exact HN.out i hi (by omega)
                · exact below_dN HBM.out nq
              case measure => simp [intOf]; omega
      · have h6' : ks.length = 6 := by have h7 := h6; simp at h7; omega
        have hset : putF ks n k = (ks, false) := by simp [putF, hkno, h6']
        have HST := Lib.hid hset
        have HBL := Lib.hid hbel
        have HNO := Lib.hid hkno
        clear hset hbel hkno h6'
        go_wp2
        go_ret
        unfold PutPost
        rw [HST.out]
        exact ⟨a, cap, rfl, (hbel0.block B hBs).trans HB.out, own_below HO.out hbel0, Keep.of_below hbel0, by simp⟩
end Go.Proofs.Ytopakonpfbbldaa
