/- PrintsGoes: an entry that is set to no refs is found no more, and its place is free again. -/
import Derived.Test.YthaaoghbginmpaaDoorF2
import Derived.Test.YthaaoghbginmpaaDoorN1
import Derived.Test.YthaaoghbginmpaaDoorF5p
set_option linter.unusedSimpArgs false
set_option linter.unusedVariables false
set_option linter.unnecessarySimpa false
namespace Go.Proofs.YthaaoghbginmpaaDoor
set_option linter.unusedSimpArgs false
set_option linter.unusedVariables false
open Go.RowKit Go.Maps Go.MapKept
theorem built_d3 (x : Int) : Tryd.prog.built 27 [(0, .int .u8 9), (1, .int .u8 9), (2, .int .u8 x)] = some (v8a (9 :: 9 :: x :: zer 29)) := by kernel_rfl
theorem built_d1 : Tryd.prog.built 27 [(0, .int .u8 1)] = some (v8a (1 :: zer 31)) := by kernel_rfl
theorem dg_build3 {ops : Array Oper} {rest : List Oper} {o : Oper} {a : Act} {w : World} {Q : Exit → Act → World → Prop} (hg : o.guard = none) (p2 : Operand) (ho : o.op = .build 27 #[(0, .const (.int .u8 9)), (1, .const (.int .u8 9)), (2, p2)]) (x : Int)
    (h2 : a.eval p2 = .int .u8 x) (h : wpList Tryd.prog ops Q rest (a.put o.dst (.agg (v8a (9 :: 9 :: x :: zer 29)))) w) : wpList Tryd.prog ops Q (o :: rest) a w := by
  refine wpList_build_to hg _ _ ho _ ?_ h
  simp only [List.map_toArray, List.map_cons, List.map_nil, h2]
  exact built_d3 x
theorem look_is_g {P : Program} (w : World) {ops : Array Oper} {rest : List Oper} {o : Oper} {a : Act} {Q : Exit → Act → World → Prop}
    (hw : Region.wanted o (yielded ops a.tmps) = true) (m x : Operand) (t : TypeId) (hop : o.op = Op.lookup t m x false)
    (k e : TypeId) (K : Keyed P k) (ht : P.underlying t = some (.map k e)) (z : Value) (hz : (zeroValue e).run P w = .ok z w) (b c : Nat) (f : Lit → Option Value)
    (hm : a.eval m = .map (some b)) (hown : MapIs P k w b c f) (key : Value) (kl : Lit) (hx : a.eval x = key) (hkey : keyOf P k key = some kl)
    (hK : wpList P ops Q rest (a.put o.dst ((f kl).getD z)) w) : wpList P ops Q (o :: rest) a w := by
  refine wpList_step fun K' hK' => ?_
  rw [if_pos hw]
  have hrun := hown.look K ht hz hkey
  unfold Oper.wp
  simp [execOp, hop, hm, hx, hrun, Result.andThen]
  exact hK' _ _ hK
/-- Bools in memory. -/
def BoolsIn (w : World) (a : Option Addr) (len : Nat) (L : Nat → Bool) : Prop := ∀ i, i < len → ∃ b off, a = some ⟨b, off, none⟩ ∧ b < w.heap.size ∧ w.cell? ⟨b, off + i, none⟩ = some (.bool (L i))
theorem BoolsIn.keeps {w w' : World} {a : Option Addr} {len : Nat} {L : Nat → Bool} (h : BoolsIn w a len L) (hk : Keeps (fun k => k < w.heap.size) w w') : BoolsIn w' a len L := fun i hi => by
  obtain ⟨b, off, ha, hb, hc⟩ := h i hi
  refine ⟨b, off, ha, Nat.lt_of_lt_of_le hb hk.size, ?_⟩
  have h1 := hk.block b hb hb
  simp only [World.cell?] at hc ⊢
  rw [h1]; exact hc
def goneF (len : Nat) (L : Nat → Bool) (i : Nat) : Bool := decide (i < len) && L i
def stayF (n len : Nat) (L : Nat → Bool) (i j : Nat) : Bool := decide (j < n) && !(decide (j < i) && goneF len L j)
theorem stayF_zero (n len : Nat) (L : Nat → Bool) (j : Nat) : decide (j < n) = stayF n len L 0 j := by simp [stayF]
theorem stayF_gone (n len : Nat) (L : Nat → Bool) (i j : Nat) (h : goneF len L i = true) : (stayF n len L i j && !decide (j = i)) = stayF n len L (i + 1) j := by
  unfold stayF
  by_cases e : j = i
  · subst e; simp [h]
  · have : (j < i + 1) ↔ (j < i) := by omega
    simp [e, this]
theorem stayF_stay (n len : Nat) (L : Nat → Bool) (i j : Nat) (h : goneF len L i = false) : stayF n len L i j = stayF n len L (i + 1) j := by
  unfold stayF
  by_cases e : j = i
  · subst e; simp [h]
  · have : (j < i + 1) ↔ (j < i) := by omega
    simp [this]
theorem stayF_self (n len : Nat) (L : Nat → Bool) (i : Nat) (h : i < n) : stayF n len L i i = true := by simp [stayF, h]
theorem stayF_end (n len : Nat) (L : Nat → Bool) (i : Nat) (h : i < n) : stayF n len L n i = !goneF len L i := by simp [stayF, h]
theorem GoX.pos {B : BookS} {n c : Nat} {S : Nat → Bool} {g : Nat → Option Nat} (h : GoX B n S c g) {k j : Nat} (hk : k < n) (hg : g k = some j) : ∃ c', c = c' + 1 := by
  have h1 := h.free
  have h2 : ((List.range n).filter fun p => (g p).isNone).length < n := by
    rcases Nat.lt_or_ge ((List.range n).filter fun p => (g p).isNone).length n with h | h
    · exact h
    · exfalso
      have h3 : ((List.range n).filter fun p => (g p).isNone).length = (List.range n).length := by
        have := List.length_filter_le (fun p => (g p).isNone) (List.range n)
        rw [List.length_range] at this ⊢; omega
      have h4 := (List.length_filter_eq_length_iff.1 h3) k (List.mem_range.2 hk)
      rw [hg] at h4; cases h4
  exact ⟨c - 1, by omega⟩
def NGo (w : World) (ob : Nat) : Nat → Prop := fun k => k < w.heap.size ∨ k = ob
/-- The table, the map of places. -/
def GsI (w : World) (tb bb n ob : Nat) (S : Nat → Bool) (c i m : Nat) (aF : Nat → Nat) (wx : World) : Prop :=
  ∃ B g, TabI wx tb (NGo w ob) bb 3 n B ∧ GoX B n S c g ∧ B.cnt ≤ m ∧ MapIs Tryd.prog 3 wx ob i (atL aF i) ∧ (∀ j, j < i → aF j < n ∧ (S j = true → g (aF j) = some j)) ∧ Keeps (fun k => k < w.heap.size) w wx
theorem GsI.congr {w wx : World} {tb bb n ob c i m : Nat} {S S' : Nat → Bool} {aF : Nat → Nat} (h : GsI w tb bb n ob S c i m aF wx) (e : ∀ j, S j = S' j) : GsI w tb bb n ob S' c i m aF wx := by
  have : S = S' := funext e
  subst this; exact h
theorem setP_zero : setP (zer 32) 0 0 = zer 64 := by unfold setP; rw [if_neg (by decide)]
set_option maxRecDepth 100000 in
set_option maxHeartbeats 16000000 in
theorem goes_any (n : Int) (a : Option Addr) (len cap : Nat) (L : Nat → Bool) (hn : -9223372036854775808 ≤ n ∧ n ≤ 9223372036854775807) (hlen : len ≤ maxLen) (w : World) (hbs : BoolsIn w a len L) :
    Calls Tryd.prog 6 #[.int .i64 n, .slice a len cap] w fun e w' => e = .returned (.bool true) ∧ Below w.heap.size w w' := by
  have hST := stands08_any (fun k => k < w.heap.size) w (fun i h => h)
  have HBS := Lib.hid hbs
  have hlen2 : (len : Int) ≤ 9223372036854775807 := by unfold maxLen at hlen; omega
  have hlen0 : (0 : Int) ≤ len := by omega
  clear hlen hbs
  obtain ⟨hn0, hn1⟩ := hn
  have hmm : ∀ wx : World, (Instr.makeMap 61 none).run Tryd.prog wx = .ok (.map (some wx.heap.size)) (wx.alloc (.map #[] 0)) := fun _ => by kernel_rfl
  have hzz : ∀ wx : World, (zeroValue 3).run Tryd.prog wx = .ok (.int .i64 0) wx := fun _ => by kernel_rfl
  go_enter Tryd.func6, Tryd.ntmps6
  go_wp2_with fail
  refine hST.mono ?_
  clear hST
  rintro e w1 ⟨rfl, hk1⟩
  try dsimp only
  have hm1 := tmod_range n 15 (by decide)
  repeat ((fail_if_success (with_reducible refine stop_at 34 rfl ?_)); (first | go_values | go_skip | go_guarded | go_step | go_upon))
  obtain ⟨n', hn'⟩ : ∃ n' : Nat, n.tmod 15 % 15 + 1 = (n' : Int) := ⟨(n.tmod 15 % 15 + 1).toNat, by omega⟩
  have hn'1 : 1 ≤ n' ∧ n' ≤ 15 := by omega
  rw [show (n.tmod 15 + 15) % 15 = n.tmod 15 % 15 by omega, hn']
  generalize n.tmod 15 % 15 = q15 at *
  obtain ⟨h1, h2⟩ := hn'1
  clear hm1 hn' hn0 hn1
  have hFR := fresh08_any n' ⟨h1, by omega⟩ (fun k => k < w.heap.size) w1 (fun i h => Nat.lt_of_lt_of_le h hk1.size)
  have i1 : (1 : Int) ≤ n' := by omega
  have i2 : (n' : Int) ≤ 15 := by omega
  go_wp2_with fail
  refine hFR.mono ?_
  clear hFR
  rintro e w2 ⟨⟨bb, tb, rfl, hT⟩, hk2⟩
  have hob : w.heap.size ≤ w2.heap.size := (hk1.trans hk2).size
  have ha2 : ∀ o : Obj, Below w2.heap.size w2 (w2.alloc o) := fun o => (Below.refl _ _).alloc (Nat.le_refl _) _
  have H2 : Hid (GsI w tb bb n' w2.heap.size (fun _ => false) 0 0 0 (fun _ => 0) (w2.alloc (.map #[] 0))) := Lib.hid ⟨freshB, _, hT.keep (ha2 _) (fun k hk => by
    rcases hk with hk | rfl
    · exact ⟨by simp; omega, .inl hk⟩
    · exact ⟨by simp, .inr (Nat.le_refl _)⟩), GoX.start n' (by omega), by rw [freshB_cnt]; exact Nat.le_refl _, by rw [atL_zero]; exact mapIs_made _ _ _, fun j hj => by omega, (hk1.trans hk2).trans (Keeps.of_below (ha2 _))⟩
  clear hT hk1 hk2 ha2
  have HDL : Hid (∀ j : Nat, j < 256 → (digG j).length = 32 ∧ U8s (digG j)) := Lib.hid (fun j hj => digG_ok j hj)
  try dsimp only
  go_wp2_with fail
  refine gen_code (fun wx => Hid (GsI w tb bb n' w2.heap.size (fun _ => false) 0 0 0 (fun _ => 0) wx)) H2 ?_
  clear H2
  generalize w2.heap.size = ob at hob ⊢
  intro w3 H3
  go_loopw [40] (fun iv wr => ∃ i : Nat, iv = .int .i64 i ∧ i ≤ n' ∧ Hid (∃ aF, GsI w tb bb n' ob (fun j => decide (j < i)) i i i aF wr)) (fun iv _ => n' + 1 - (intOf iv).toNat)
  case atStart => exact ⟨0, rfl, by omega, Lib.hid ⟨fun _ => 0, H3.out.congr (fun j => by simp)⟩⟩
  case round =>
    clear H3
    obtain ⟨i, rfl, hi, H⟩ := hrel
    by_cases hlt : i < n'
    · have i3 : (0 : Int) ≤ i := by omega
      have i4 : (i : Int) < n' := by omega
      have i5 : (i : Int) < 256 := by omega
      obtain ⟨aF, B, g, hT, hG, hc, hM, hA, hkw⟩ := H.out
      have HT := Lib.hid hT
      have HG := Lib.hid hG
      have HC := Lib.hid hc
      have HM := Lib.hid hM
      have HA := Lib.hid hA
      have hb3w : ¬ NGo w ob wr.heap.size := by
        have := hkw.size
        have := hM.lt
        rintro (h | h) <;> omega
      have HKW := Lib.hid hkw
      clear hT hG hc H hkw hM hA
      have hdk := (HDL.out i (by omega))
      repeat ((fail_if_success (with_reducible refine stop_at 45 rfl ?_)); (first | go_values | go_skip | go_guarded | go_step | go_upon))
      refine dg_build3 rfl (.tmp 44) rfl (i : Int) rfl ?_
      simp only [Act.put, List.setIfInBounds_toArray, List.set_cons_zero, List.set_cons_succ]
      repeat ((fail_if_success (with_reducible refine stop_at 47 rfl ?_)); (first | (refine dg_store rfl (.tmp 9) (.tmp 45) rfl wr.heap.size (digG i) (zer 32) rfl rfl (heap_alloc_new wr _) rfl rfl ?_) | go_values | go_skip | go_guarded | go_step | go_upon))
      have hbx : ∀ o : Obj, Below wr.heap.size wr ((wr.alloc o).setRow wr.heap.size (v8a (digG i))) := fun o => below_setRow ((Below.refl _ _).alloc (Nat.le_refl _) _) (Nat.le_refl _) _
      refine gen_world (fun wx => Hid (St8 tb bb wr.heap.size (NGo w ob) w n' B (digG i) wx ∧ MapIs Tryd.prog 3 wx ob i (atL aF i))) (Lib.hid ⟨St8.make HT.out (HKW.out.mono (fun k hk _ => hk)) _ _, HM.out.below (hbx _) HM.out.lt⟩) ?_
      clear hbx
      generalize wr.heap.size = b3 at hb3w ⊢
      intro w4 H4
      simp only [Act.put, List.setIfInBounds_toArray, List.set_cons_zero, List.set_cons_succ]
      have hFE := free_any tb _ bb 3 n' B (digG i) hdk w4 H4.out.1.1
      obtain ⟨k, hsk, hkn, hgk⟩ := HG.out.free_some (by omega) hlt (dgN (digG i))
      rw [hsk] at hFE
      have HGS := Lib.hid (HG.out.put hlt (by simp) hkn hgk)
      obtain ⟨dd, hdd⟩ : ∃ dd, digG i = dd := ⟨_, rfl⟩
      rw [hdd] at hFE H4 hdk HGS
      have HKN := Lib.hid hkn
      have HGK := Lib.hid hgk
      clear hsk hkn hgk hdd
      go_wp2_with (refine dg_load rfl (.tmp 9) rfl b3 0 dd rfl (row_range H4.out.1.2.1) hdk.1 ?_)
      refine hFE.mono ?_
      clear hFE
      rintro e w5 ⟨he, hb5⟩
      have H5 : Hid (St8 tb bb b3 (NGo w ob) w n' B dd w5 ∧ MapIs Tryd.prog 3 w5 ob i (atL aF i)) := Lib.hid ⟨H4.out.1.below hb5, H4.out.2.below hb5 H4.out.2.lt⟩
      clear hb5 H4
      obtain rfl : e = .returned (.tuple #[.int .i64 (k : Int), .nilIface]) := he
      have hST := set_any tb _ bb 3 n' B k HKN.out dd (i : Int) 2 hdk (by omega) (by decide) (.inr (.inr (by have := HC.out; unfold BookS.cnt at this; omega))) w5 H5.out.1.1
      try dsimp only
      go_wp2_with (first | (refine dg_load_g rfl (.tmp 9) rfl b3 0 dd rfl (row_range H5.out.1.2.1) hdk.1 ?_) | (refine ent_build_g rfl (.tmp 57) (.tmp 58) (.const (.int .i64 2)) rfl dd (i : Int) 2 hdk.1 rfl rfl rfl ?_))
      refine hST.mono ?_
      clear hST
      rintro e w6 ⟨rfl, hT6, hk6⟩
      have hM6 := hk6.map (.inl (.inr rfl)) H5.out.2
      have HT6 := Lib.hid hT6
      have HM6 := Lib.hid hM6
      have HK6 : Hid (Keeps (fun k => k < w.heap.size) w w6) := Lib.hid ((H5.out.1.2.2.mono (fun k hk _ => .inl hk)).trans (hk6.mono (fun k _ hk => .inl (.inl hk))))
      clear hT6 hk6 hM6 H5
      have hk63 : (k : Int) < 256 := by have := HKN.out; omega
      try dsimp only
      go_wp2_with (at_mapUpdate; refine wpList_store_cnt _ rfl _ _ _ 61 rfl 3 3 (int_keyed Tryd.underlying3) Tryd.underlying61 ob i (atL aF i) rfl HM6.out ?hc (.int .i64 (i : Int)) (.int .i64 (k : Int)) (.int .i64 (i : Int)) rfl rfl ?hk ?_)
      case hc => unfold maxLen; omega
      case hk => exact int_key _ (by omega)
      intro w7 hm7 ht7
      rw [atL_put, show cntIf (atL aF i (.int .i64 (i : Int))).isSome i = i + 1 by rw [atL_new]; rfl] at hm7
      have hkk : Keeps (fun k => k ≠ ob) w6 w7 := Keeps.of_turned ht7 (by simp)
      have H7 : Hid (∃ aF, GsI w tb bb n' ob (fun j => decide (j < i + 1)) (i + 1) (i + 1) (i + 1) aF w7) := Lib.hid (by
        refine ⟨_, _, _, (HT6.out.drop (fun k h => .inl h)).frame (hkk.mono (fun q _ hq e => hq (.inr e))), HGS.out.congr (fun j => ?_), Nat.le_trans (BookS.wrote_cnt B _ _ ?_) (by have := HC.out; omega), hm7, fun j hj => ?_, HK6.out.trans (hkk.mono (fun q _ hn e => by have : q < w.heap.size := hn; omega))⟩
        · by_cases e : j = i
          · subst e; simp
          · have : (j < i + 1) ↔ j < i := by omega
            simp [e, this]
        · have := HT.out.2.2.2.1; have := HKN.out; omega
        · by_cases e : j = i
          · subst e; simp [HKN.out]
          · have h1 := HA.out j (by omega)
            refine ⟨by simp [e, h1.1], fun _ => ?_⟩
            have h2 := h1.2 (by simp; omega)
            have h3 : aF j ≠ k := fun e' => by rw [e', HGK.out] at h2; cases h2
            simp [e, h3, h2])
      clear hm7 ht7 hkk
      try dsimp only
      go_wp2_with fail
      exact ⟨⟨i + 1, by go_num, by omega, H7⟩, by simp [intOf]; omega⟩
    · have hin : i = n' := by omega
      subst hin
      have hnl : ¬ ((i : Int) < i) := by omega
      obtain ⟨aF, hG0⟩ := H.out
      have H0 := Lib.hid (hG0.congr (fun j => stayF_zero i len L j))
      clear hG0 H
      go_wp2_with fail
      clear hnl hlt hi
      go_loopw [12, 69] (fun cv iv wr => ∃ j c : Nat, iv = .int .i64 j ∧ cv = .int .i64 c ∧ j ≤ i ∧ c ≤ i ∧ Hid (GsI w tb bb i ob (stayF i len L j) c i (i + j) aF wr)) (fun _ iv _ => i + 1 - (intOf iv).toNat)
      case atStart => exact ⟨0, i, rfl, rfl, by omega, Nat.le_refl _, H0⟩
      case round =>
        clear H0
        obtain ⟨j, c, rfl, rfl, hj, hci, H⟩ := hrel
        by_cases hlt : j < i
        · have j3 : (0 : Int) ≤ j := by omega
          have j4 : (j : Int) < i := by omega
          obtain ⟨B, g, hT, hG, hc, hM, hA, hkw⟩ := H.out
          have HB := Lib.hid (HBS.out.keeps hkw)
          by_cases hl : j < len
          · have hl' : (j : Int) < len := by omega
            obtain ⟨b, off, rfl, hbl, hcell⟩ := HB.out j hl
            cases hLj : L j with
            | true =>
              rw [hLj] at hcell
              have HGN : Hid (goneF len L j = true) := Lib.hid (by simp [goneF, hl, hLj])
              have hpa := hA j hlt
              have hgk := hpa.2 (stayF_self i len L j hlt)
              obtain ⟨c', rfl⟩ := hG.pos hpa.1 hgk
              have HGD := Lib.hid (hG.drop hpa.1 hgk)
              have HM := Lib.hid hM
              have HT := Lib.hid hT
              have HC := Lib.hid hc
              have HA := Lib.hid hA
              have HKW := Lib.hid hkw
              have HLK := Lib.hid (atL_at aF i j hlt)
              have hS := set_any tb _ bb 3 i B (aF j) hpa.1 (zer 32) 0 0 ⟨rfl, zer_u8 32⟩ (by decide) (by decide) (.inr (.inr (by have := HC.out; unfold BookS.cnt at this; omega))) wr hT
              rw [setP_zero] at hS
              have HKN := Lib.hid hpa.1
              have ent0 := built_ent0
              clear hT hG hc hM hA hkw H hpa hgk hLj HB hbl
              go_wp2_with (first | (at_lookup; refine wpList_look_is _ rfl _ _ 61 rfl 3 3 (int_keyed Tryd.underlying3) Tryd.underlying61 (.int .i64 0) (hzz _) ob i (atL aF i) rfl HM.out (.int .i64 (j : Int)) (.int .i64 (j : Int)) rfl (int_key _ (by omega)) ?_; rw [HLK.out]; simp only [Option.getD_some]) | (refine wpList_build_to rfl 34 _ rfl (entC (zer 32) 0 0) ent0 ?_))
              refine hS.mono ?_
              clear hS
              rintro e w5 ⟨rfl, hT5, hk5⟩
              have H5 : Hid (GsI w tb bb i ob (stayF i len L (j + 1)) c' i (i + (j + 1)) aF w5) := Lib.hid (by
                refine ⟨_, _, hT5, HGD.out.congr (fun q => stayF_gone i len L j q HGN.out), Nat.le_trans (BookS.wrote_cnt B _ _ ?_) (by have := HC.out; omega), hk5.map (.inr rfl) HM.out, fun q hq => ⟨(HA.out q hq).1, fun hs => ?_⟩, HKW.out.trans (hk5.mono (fun q _ hq => .inl hq))⟩
                · have := HT.out.2.2.2.1; have := HKN.out; omega
                · rw [← stayF_gone i len L j q HGN.out] at hs
                  simp only [Bool.and_eq_true, Bool.not_eq_true', decide_eq_false_iff_not] at hs
                  have h1 := (HA.out q hq).2 hs.1
                  have h2 := (HA.out j hlt).2 (stayF_self i len L j hlt)
                  rw [if_neg (fun e => by rw [e, h2] at h1; cases h1; exact hs.2 rfl)]
                  exact h1)
              clear hT5 hk5 HGD HM HT HC HA HKW HLK HKN
              try dsimp only
              go_wp2_with fail
              exact ⟨⟨j + 1, c', by go_num, by first | rfl | go_num, by omega, by omega, H5⟩, by simp [intOf]; omega⟩
            | false =>
              rw [hLj] at hcell
              have HGN : Hid (goneF len L j = false) := Lib.hid (by simp [goneF, hLj])
              have H5 : Hid (GsI w tb bb i ob (stayF i len L (j + 1)) c i (i + (j + 1)) aF wr) := Lib.hid (by
                obtain ⟨B, g, q1, q2, q3, q4, q5, q6⟩ := H.out.congr (fun q => stayF_stay i len L j q HGN.out)
                exact ⟨B, g, q1, q2, by omega, q4, q5, q6⟩)
              clear hT hG hc hM hA hkw H hLj HB hbl
              go_wp2_with fail
              exact ⟨⟨j + 1, c, by go_num, rfl, by omega, by omega, H5⟩, by simp [intOf]; omega⟩
          · have hl' : ¬ ((j : Int) < len) := by omega
            have HGN : Hid (goneF len L j = false) := Lib.hid (by simp [goneF, hl])
            have H5 : Hid (GsI w tb bb i ob (stayF i len L (j + 1)) c i (i + (j + 1)) aF wr) := Lib.hid (by
              obtain ⟨B, g, q1, q2, q3, q4, q5, q6⟩ := H.out.congr (fun q => stayF_stay i len L j q HGN.out)
              exact ⟨B, g, q1, q2, by omega, q4, q5, q6⟩)
            clear hT hG hc hM hA hkw H HB
            go_wp2_with fail
            exact ⟨⟨j + 1, c, by go_num, rfl, by omega, by omega, H5⟩, by simp [intOf]; omega⟩
        · have hje : j = i := by omega
          have hnl : ¬ ((j : Int) < i) := by omega
          rw [hje] at H
          clear hje
          go_wp2_with fail
          clear hnl hlt hj
          go_loopw [93] (fun iv wr => ∃ j : Nat, iv = .int .i64 j ∧ j ≤ i ∧ Hid (GsI w tb bb i ob (stayF i len L i) c i (i + i) aF wr)) (fun iv _ => i + 1 - (intOf iv).toNat)
          case atStart => exact ⟨0, rfl, by omega, H⟩
          case round =>
            clear H
            obtain ⟨j, rfl, hj, H⟩ := hrel
            by_cases hlt : j < i
            · have j3 : (0 : Int) ≤ j := by omega
              have j4 : (j : Int) < i := by omega
              have j5 : (j : Int) < 256 := by omega
              have hdk := HDL.out j (by omega)
              obtain ⟨B, g, hT, hG, hc, hM, hA, hkw⟩ := H.out
              have HB := Lib.hid (HBS.out.keeps hkw)
              have HTB := Lib.hid (fun wx (hb : Below wr.heap.size wr wx) => hT.below hb)
              have HMB := Lib.hid (fun wx (hb : Below wr.heap.size wr wx) => hM.below hb hM.lt)
              have HGB : Hid (∀ wx, Below wr.heap.size wr wx → GsI w tb bb i ob (stayF i len L i) c i (i + i) aF wx) := Lib.hid (fun wx hb => ⟨B, g, hT.below hb, hG, hc, hM.below hb hM.lt, hA, hkw.trans (Keeps.of_below hb)⟩)
              have HLK := Lib.hid (atL_at aF i j hlt)
              have hFI := find_any tb _ bb 3 i B (digG j) hdk wr hT
              have hSL := Lib.hid (fun wx hb => slot_any tb _ bb 3 i B (j : Int) wx (HTB.out wx hb))
              have hpa := hA j hlt
              have HGX := Lib.hid hG
              clear H hT hc hM hA hkw hG
              by_cases hl : j < len
              · have hl' : (j : Int) < len := by omega
                obtain ⟨b, off, rfl, hbl, hcell⟩ := HB.out j hl
                cases hLj : L j with
                | true =>
                  rw [hLj] at hcell
                  have hgn : stayF i len L i j = false := by rw [stayF_end i len L j hlt]; simp [goneF, hl, hLj]
                  rw [HGX.out.seek_none _ j (HGX.out.findQ (by omega) j) hgn] at hFI
                  rw [HGX.out.seek_none _ j (HGX.out.slotQ (by omega) j) hgn] at hSL
                  clear hgn hLj hpa HB hbl HGX
                  simp only [Option.getD_none, Option.isSome_none] at hFI hSL
                  repeat ((fail_if_success (with_reducible refine stop_at 110 rfl ?_)); (first | go_values | go_skip | go_guarded | go_step | go_upon))
                  refine dg_build3 rfl (.tmp 109) rfl (j : Int) rfl ?_
                  simp only [Act.put, List.setIfInBounds_toArray, List.set_cons_zero, List.set_cons_succ]
                  go_wp2_with fail
                  refine hFI.mono ?_
                  clear hFI
                  rintro e w5 ⟨rfl, hb5⟩
                  have hSL5 := hSL.out w5 hb5
                  try dsimp only
                  go_wp2_with fail
                  refine hSL5.mono ?_
                  clear hSL5 hSL
                  rintro e w6 ⟨rfl, hb6⟩
                  have hb56 := hb5.trans (hb6.mono hb5.size)
                  have HM6 := Lib.hid (HMB.out w6 hb56)
                  have HG6 := Lib.hid (HGB.out w6 hb56)
                  clear hb5 hb6 hb56 HTB HMB HGB
                  try dsimp only
                  go_wp2_with (fail)
                  exact ⟨⟨j + 1, by go_num, by omega, HG6⟩, by simp [intOf]; omega⟩
                | false =>
                  rw [hLj] at hcell
                  have hst : stayF i len L i j = true := by rw [stayF_end i len L j hlt]; simp [goneF, hLj]
                  rw [HGX.out.seek_some _ j (HGX.out.findQ (by omega) j) (aF j) hpa.1 (hpa.2 hst)] at hFI
                  rw [HGX.out.seek_some _ j (HGX.out.slotQ (by omega) j) (aF j) hpa.1 (hpa.2 hst)] at hSL
                  clear hst hLj hpa HB hbl HGX
                  simp only [Option.getD_some, Option.isSome_some] at hFI hSL
                  repeat ((fail_if_success (with_reducible refine stop_at 110 rfl ?_)); (first | go_values | go_skip | go_guarded | go_step | go_upon))
                  refine dg_build3 rfl (.tmp 109) rfl (j : Int) rfl ?_
                  simp only [Act.put, List.setIfInBounds_toArray, List.set_cons_zero, List.set_cons_succ]
                  go_wp2_with fail
                  refine hFI.mono ?_
                  clear hFI
                  rintro e w5 ⟨rfl, hb5⟩
                  have hSL5 := hSL.out w5 hb5
                  try dsimp only
                  go_wp2_with fail
                  refine hSL5.mono ?_
                  clear hSL5 hSL
                  rintro e w6 ⟨rfl, hb6⟩
                  have hb56 := hb5.trans (hb6.mono hb5.size)
                  have HM6 := Lib.hid (HMB.out w6 hb56)
                  have HG6 := Lib.hid (HGB.out w6 hb56)
                  clear hb5 hb6 hb56 HTB HMB HGB
                  try dsimp only
                  go_wp2_with (refine look_is_g _ rfl _ _ 61 rfl 3 3 (int_keyed Tryd.underlying3) Tryd.underlying61 (.int .i64 0) (hzz _) ob i (atL aF i) rfl HM6.out (.int .i64 (j : Int)) (.int .i64 (j : Int)) rfl (int_key _ (by omega)) ?_; rw [HLK.out]; simp only [Option.getD_some])
                  exact ⟨⟨j + 1, by go_num, by omega, HG6⟩, by simp [intOf]; omega⟩
              · have hl' : ¬ ((j : Int) < len) := by omega
                have hst : stayF i len L i j = true := by rw [stayF_end i len L j hlt]; simp [goneF, hl]
                rw [HGX.out.seek_some _ j (HGX.out.findQ (by omega) j) (aF j) hpa.1 (hpa.2 hst)] at hFI
                rw [HGX.out.seek_some _ j (HGX.out.slotQ (by omega) j) (aF j) hpa.1 (hpa.2 hst)] at hSL
                clear hst hpa HB HGX
                simp only [Option.getD_some, Option.isSome_some] at hFI hSL
                repeat ((fail_if_success (with_reducible refine stop_at 110 rfl ?_)); (first | go_values | go_skip | go_guarded | go_step | go_upon))
                refine dg_build3 rfl (.tmp 109) rfl (j : Int) rfl ?_
                simp only [Act.put, List.setIfInBounds_toArray, List.set_cons_zero, List.set_cons_succ]
                go_wp2_with fail
                refine hFI.mono ?_
                clear hFI
                rintro e w5 ⟨rfl, hb5⟩
                have hSL5 := hSL.out w5 hb5
                try dsimp only
                go_wp2_with fail
                refine hSL5.mono ?_
                clear hSL5 hSL
                rintro e w6 ⟨rfl, hb6⟩
                have hb56 := hb5.trans (hb6.mono hb5.size)
                have HM6 := Lib.hid (HMB.out w6 hb56)
                have HG6 := Lib.hid (HGB.out w6 hb56)
                clear hb5 hb6 hb56 HTB HMB HGB
                try dsimp only
                go_wp2_with (refine look_is_g _ rfl _ _ 61 rfl 3 3 (int_keyed Tryd.underlying3) Tryd.underlying61 (.int .i64 0) (hzz _) ob i (atL aF i) rfl HM6.out (.int .i64 (j : Int)) (.int .i64 (j : Int)) rfl (int_key _ (by omega)) ?_; rw [HLK.out]; simp only [Option.getD_some])
                exact ⟨⟨j + 1, by go_num, by omega, HG6⟩, by simp [intOf]; omega⟩
            · have hnl : ¬ ((j : Int) < i) := by omega
              obtain ⟨B, g, hT, hG, hc, hM, hA, hkw⟩ := H.out
              have hAL := all_any tb _ bb 3 i B wr hT
              rw [hG.ents (by omega)] at hAL
              have HT := Lib.hid hT
              have HG := Lib.hid hG
              have HKW := Lib.hid hkw
              clear hT hG hc hM hA hkw H
              go_wp2_with fail
              refine hAL.mono ?_
              clear hAL
              rintro e w5 ⟨⟨a5, c5, rfl, _⟩, hb5⟩
              have HT5 := Lib.hid (HT.out.below hb5)
              have HK5 := Lib.hid (HKW.out.trans (Keeps.of_below hb5))
              have hFE := free_any tb _ bb 3 i B (1 :: zer 31) ⟨rfl, fun x hx => by rcases List.mem_cons.1 hx with rfl | hx; decide; exact zer_u8 31 x hx⟩ w5 HT5.out
              clear hb5 HT HKW HT5
              try dsimp only
              by_cases hci' : c < i
              · obtain ⟨k, hsk, hkn, hgk⟩ := HG.out.free_some (by omega) hci' (dgN (1 :: zer 31))
                rw [hsk] at hFE
                have hc1 : (c : Int) < i := by omega
                clear hsk hkn hgk HG
                go_wp2_with (refine wpList_build_to rfl 27 _ rfl (v8a (1 :: zer 31)) built_d1 ?_)
                refine hFE.mono ?_
                clear hFE
                rintro e w6 ⟨he, hb6⟩
                obtain rfl : e = .returned (.tuple #[.int .i64 (k : Int), .nilIface]) := he
                try dsimp only
                go_wp2_with fail
                go_ret
                exact ⟨rfl, (HK5.out.trans (Keeps.of_below hb6)).below (Nat.le_refl _) (fun q hq => hq)⟩
              · obtain rfl : c = i := by omega
                rw [HG.out.free_none (by omega)] at hFE
                have hc1 : decide ((c : Int) < c) = false := decide_eq_false (by omega)
                clear HG
                go_wp2_with (refine wpList_build_to rfl 27 _ rfl (v8a (1 :: zer 31)) built_d1 ?_)
                refine hFE.mono ?_
                clear hFE
                rintro e w6 ⟨⟨t, x, rfl, _⟩, hb6⟩
                try dsimp only
                go_wp2_with fail
                go_ret
                exact ⟨rfl, (HK5.out.trans (Keeps.of_below hb6)).below (Nat.le_refl _) (fun q hq => hq)⟩
end Go.Proofs.YthaaoghbginmpaaDoor
