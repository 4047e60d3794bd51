/- What Parse of the reference answers. The bytes lie in memory, a cell each. -/
import Derived.Test.YtnicmfboomibjaaDoorK10q
import Derived.Test.YtnicmfboomibjaaDoorPairs
import Derived.Lib.SlBytesRow
namespace Go.Proofs.YtnicmfboomibjaaDoor
set_option linter.unusedSimpArgs false
set_option linter.unusedVariables false
open Go.RowKit
/-- Bytes in memory, a cell each. -/
def BytesIn (w : World) (a : Option Addr) (bs : List UInt8) : Prop :=
  ∀ i (h : i < bs.length), ∃ b off, a = some ⟨b, off, none⟩ ∧ b < w.heap.size ∧ w.cell? ⟨b, off + i, none⟩ = some (.int .u8 bs[i].toNat)
theorem BytesIn.below {w w' : World} {a : Option Addr} {bs : List UInt8} (h : BytesIn w a bs) (hb : Below w.heap.size w w') : BytesIn w' a bs := fun i hi =>
  let ⟨b, off, ha, hs, c1⟩ := h i hi
  ⟨b, off, ha, Nat.lt_of_lt_of_le hs hb.size, (hb.cell (p := ⟨b, off + i, none⟩) hs).trans c1⟩
theorem BytesIn.at {w : World} {b off : Nat} {bs : List UInt8} (h : BytesIn w (some ⟨b, off, none⟩) bs) (i : Nat) (hi : i < bs.length) : b < w.heap.size ∧ w.cell? ⟨b, off + i, none⟩ = some (.int .u8 bs[i].toNat) := by
  obtain ⟨b', off', e, h1, h2⟩ := h i hi
  cases e
  exact ⟨h1, h2⟩
theorem conv_in {w : World} {b off : Nat} {bs : List UInt8} (h : BytesIn w (some ⟨b, off, none⟩) bs) (k n c : Nat) (hk : k + n ≤ bs.length) : (convert 22 9 (.slice (some ⟨b, off + k, none⟩) n c)).run Tryd.prog w = .ok (.string (bstr ((bs.drop k).take n))) w := by
  have hB : Lib.Bytes w b off (bstr bs) := fun i hi => (h.at i hi).2
  rw [Lib.run_convert_window (P := Tryd.prog) w 22 5 9 Tryd.underlying22 Tryd.underlying5 Tryd.underlying9 b off (bstr bs) hB k n c hk]
  congr 2
  apply ByteArray.ext
  apply Array.toList_inj.1
  rw [Lib.extract_data]
  simp [bstr]
def ParsePost (W w' : World) (o : Option (List (ByteArray × ByteArray))) (e : Ending) : Prop := match o with
  | none => e = .returned (.tuple #[.slice none 0 0, .bool false])
  | some ps => ∃ a cap, e = .returned (.tuple #[.slice a ps.length cap, .bool true]) ∧ w'.ownsRow W.heap.size 39 2 (.slice a ps.length cap) ps.length (flatP ps)
def ParseStep (bs : List UInt8) (k j t f : Nat) (acc : List (ByteArray × ByteArray)) : Prop :=
    parseGo (f + 1) acc (bs.drop k) = if decide (j = bs.length) || decide (t = j) || !decide (bs[t]? = some 61) || decide (t = k) || decide (63 < t - k) || decide (255 < j - t - 1) || acc.any (fun p => p.1.toList == (bstr ((bs.drop k).take (t - k))).toList) then none
      else parseGo f (acc ++ [(bstr ((bs.drop k).take (t - k)), bstr ((bs.drop (t + 1)).take (j - t - 1)))]) (bs.drop (j + 1))
set_option maxRecDepth 100000 in
set_option maxHeartbeats 2000000 in
theorem rParse_any (a : Option Addr) (bs : List UInt8) (c : Nat) (w : World) (hs : bs.length ≤ 100000) (hcap : bs.length ≤ c) (ho : BytesIn w a bs) :
    Calls Tryd.prog 14 #[.slice a bs.length c] w fun e w' => ParsePost w w' (parseGo bs.length [] bs) e ∧ Below w.heap.size w w' := by
  have HO := Lib.hid ho
  clear ho
  go_enter Tryd.func14, Tryd.ntmps14
  go_wp2_with fail
  go_loopw [4, 5] (fun lv kv wr => ∃ (k : Nat) (acc : List (ByteArray × ByteArray)) (a' : Option Addr) (c' : Nat) (fuel : Nat), lv = .slice a' acc.length c' ∧ kv = .int .i64 k ∧ k ≤ bs.length ∧ acc.length ≤ k ∧ bs.length - k ≤ fuel ∧ Hid (parseGo bs.length [] bs = parseGo fuel acc (bs.drop k)) ∧ Hid (wr.ownsRow w.heap.size 39 2 (.slice a' acc.length c') acc.length (flatP acc)) ∧ Below w.heap.size w wr) (fun _ kv _ => bs.length - (intOf kv).toNat)
  case atStart => exact ⟨0, [], none, 0, bs.length, rfl, rfl, by omega, by simp, by omega, Lib.hid (by simp), Lib.hid (World.ownsRow_nil _ _ _ _), Below.refl _ _⟩
  case round =>
    obtain ⟨k, acc, a', c', fuel, rfl, rfl, hk, hak, hf, HG, HL, hb⟩ := hrel
    have HOr := Lib.hid (HO.out.below hb)
    have HBr := Lib.hid hb
    clear hb
    by_cases hlt : k < bs.length
    · obtain ⟨f, rfl⟩ : ∃ f, fuel = f + 1 := ⟨fuel - 1, by omega⟩
      have hki : (k : Int) < bs.length := by omega
      obtain ⟨b, off, rfl, _⟩ := HO.out k hlt
      go_wp2_with fail
      obtain ⟨wo, rfl⟩ : ∃ wo : World, wo = wr := ⟨_, rfl⟩
      go_loopw [6] (fun jv wx => ∃ j : Nat, jv = .int .i64 j ∧ k ≤ j ∧ j ≤ bs.length ∧ Hid (∀ i (h : i < bs.length), k ≤ i → i < j → bs[i] ≠ 0) ∧ wx = wo) (fun jv _ => bs.length - (intOf jv).toNat)
      case atStart => exact ⟨k, rfl, by omega, by omega, Lib.hid (fun i h h1 h2 => by omega), rfl⟩
      case round =>
        obtain ⟨j, rfl, hkj, hj, HZ, rfl⟩ := hrel
        by_cases hjl : j < bs.length
        · obtain ⟨hbs, hc⟩ := HOr.out.at j hjl
          have hj0 : (0 : Int) ≤ j := by omega
          have hj1 : (j : Int) < bs.length := by omega
          cases q : ((bs[j].toNat : Int) != 0)
          · have HE0 : Hid (∀ h : j < bs.length, bs[j] = 0) := Lib.hid (fun h => by
              have : bs[j].toNat = 0 := by simpa using q
              exact UInt8.toNat_inj.1 this)
            go_wp2_with fail
            clear q hc
            obtain ⟨wo, rfl⟩ : ∃ wo : World, wo = wr := ⟨_, rfl⟩
            go_loopw [7] (fun qv wx => ∃ t : Nat, qv = .int .i64 t ∧ k ≤ t ∧ t ≤ j ∧ Hid (∀ i (h : i < bs.length), k ≤ i → i < t → letterF bs[i].toNat (decide (i = k)) = true) ∧ wx = wo) (fun qv _ => j - (intOf qv).toNat)
            case atStart => exact ⟨k, rfl, by omega, by omega, Lib.hid (fun i h h1 h2 => by omega), rfl⟩
            case round =>
              obtain ⟨t, rfl, hkt, htj, HT, rfl⟩ := hrel
              by_cases htl : t < j
              · obtain ⟨hbs, hc⟩ := HOr.out.at t (by omega)
                have ht0 : (0 : Int) ≤ t := by omega
                have ht1 : (t : Int) < bs.length := by omega
                have ht2 : (t : Int) < j := by omega
                have HTn : Hid (letterF bs[t].toNat (decide (t = k)) = true → ∀ i (h : i < bs.length), k ≤ i → i < t + 1 → letterF bs[i].toNat (decide (i = k)) = true) := Lib.hid (fun hh i h h1 h2 => by
                  by_cases e : i = t
                  · subst e; exact hh
                  · exact HT.out i h h1 (by omega))
                have HP : Hid (letterF bs[t].toNat (decide (t = k)) = false → ParseStep bs k j t f acc) := Lib.hid (fun hh => parse_at bs k j t f acc hlt hkj hj HZ.out HE0.out hkt htj HT.out (fun _ _ => hh))
                have HG61 : Hid (∀ x, bs[t] = x → bs[t]? = some x) := Lib.hid (fun x h => by simp [ht1, ← h, show t < bs.length by omega])
                generalize hbt : bs[t] = bt at hc HTn HP HG61
                have HBT := Lib.hid hbt
                clear hbt
                generalize hlf : letterF bt.toNat (decide (t = k)) = lf at HTn HP
                have hbe : ((t : Int) == (k : Int)) = decide (t = k) := by rw [Bool.eq_iff_iff]; simp; omega
                go_wp2_with fail
                refine (letter_any _ _ _).mono ?_
                rintro e w2 ⟨rfl, rfl⟩
                dsimp only
                rw [hlf]
                clear hlf
                cases lf
                · have HP2 : Hid (ParseStep bs k j t f acc) := Lib.hid (HP.out rfl)
                  clear HP
                  have hjne : j ≠ bs.length := by omega
                  have hjni : ((j : Int) == (bs.length : Int)) = false := by simp; omega
                  have htji : ((t : Int) == (j : Int)) = false := by simp; omega
                  have htne : t ≠ j := by omega
                  cases q61 : ((bt.toNat : Int) != 61)
                  case true =>
                    have h61 : bt ≠ 61 := fun e => by rw [e] at q61; exact absurd q61 (by decide)
                    have HN : Hid (parseGo bs.length [] bs = none) := Lib.hid (by rw [HG.out, show parseGo (f + 1) acc (bs.drop k) = _ from HP2.out, HG61.out bt rfl]; simp [h61])
                    go_wp2_with fail
                    go_ret2
                    exact ⟨by rw [HN.out]; rfl, HBr.out⟩
                  case false =>
                  have h61 : bt = 61 := by
                    have : bt.toNat = 61 := by simp at q61; omega
                    exact UInt8.toNat_inj.1 this
                  have HQ : Hid (bs[t]? = some 61) := Lib.hid (by rw [HG61.out bt rfl, h61])
                  clear h61 HG61
                  cases htk : decide (t = k)
                  case true =>
                    have HN : Hid (parseGo bs.length [] bs = none) := Lib.hid (by rw [HG.out, show parseGo (f + 1) acc (bs.drop k) = _ from HP2.out, HQ.out, htk]; simp)
                    go_wp2_with fail
                    go_ret2
                    exact ⟨by rw [HN.out]; rfl, HBr.out⟩
                  case false =>
                  by_cases h63 : 63 < t - k
                  · have HN : Hid (parseGo bs.length [] bs = none) := Lib.hid (by rw [HG.out, show parseGo (f + 1) acc (bs.drop k) = _ from HP2.out, HQ.out]; simp [h63])
                    have h63i : (63 : Int) < (t : Int) - k := by omega
                    go_wp2_with fail
                    go_ret2
                    exact ⟨by rw [HN.out]; rfl, HBr.out⟩
                  by_cases h255 : 255 < j - t - 1
                  · have HN : Hid (parseGo bs.length [] bs = none) := Lib.hid (by rw [HG.out, show parseGo (f + 1) acc (bs.drop k) = _ from HP2.out, HQ.out]; simp [h255])
                    have h63i : ¬ ((63 : Int) < (t : Int) - k) := by omega
                    have h255i : (255 : Int) < (j : Int) - t - 1 := by omega
                    go_wp2_with fail
                    go_ret2
                    exact ⟨by rw [HN.out]; rfl, HBr.out⟩
                  have h63i : ¬ ((63 : Int) < (t : Int) - k) := by omega
                  have h255i : ¬ ((255 : Int) < (j : Int) - t - 1) := by omega
                  have HNX : Hid (parseGo bs.length [] bs = if acc.any (fun p => p.1.toList == (bstr ((bs.drop k).take (t - k))).toList) then none
                        else parseGo f (acc ++ [(bstr ((bs.drop k).take (t - k)), bstr ((bs.drop (t + 1)).take (j - t - 1)))]) (bs.drop (j + 1))) := Lib.hid (by rw [HG.out, show parseGo (f + 1) acc (bs.drop k) = _ from HP2.out, HQ.out, htk, decide_eq_false hjne, decide_eq_false htne, decide_eq_false h63, decide_eq_false h255, decide_eq_true (show some (61 : UInt8) = some 61 from rfl)]; rfl)
                  clear HP2 HQ
                  go_wp2_with fail
                  refine wp_region_mix [(0, true), (1, true), (2, true), (3, true), (4, true), (5, true), (6, true), (7, true), (8, true), (9, true), (10, true), (11, true), (12, false), (13, false)] 13 (fun w' => ∃ p : Regrown, w' = Go.Sort.grow (redrawn w2 p.d) p.os) (by kernel_rfl) (by kernel_rfl) (fun _ _ d _ _ h => by cases d <;> exact h) (grows_drew _) ?_
                  (repeat (with_reducible refine mix_q ?_; simp only [List.drop_succ_cons, List.drop_zero, List.take_succ_cons, List.take_zero]; go_big_quiet_step (fail); with_reducible refine wpQuiet_nil ?_))
                  (repeat (with_reducible refine mix_q ?_; simp only [List.drop_succ_cons, List.drop_zero, List.take_succ_cons, List.take_zero]; go_big_quiet_step (fail); with_reducible refine wpQuiet_nil ?_))
                  (repeat (with_reducible refine mix_q ?_; simp only [List.drop_succ_cons, List.drop_zero, List.take_succ_cons, List.take_zero]; go_big_quiet_step (fail); with_reducible refine wpQuiet_nil ?_))
                  with_reducible refine mix_q ?_
                  simp only [List.drop_succ_cons, List.drop_zero, List.take_succ_cons, List.take_zero]
                  repeat (go_big_quiet_step (fail))
                  go_big_quiet_want
                  refine quiet_convert (.tmp 81) 22 9 rfl (.slice (some ⟨b, off + k, none⟩) (t - k) (c - k)) rfl (.string (bstr ((bs.drop k).take (t - k)))) (fun w' hw' => conv_in (HOr.out.below (below_of_regrown hw')) k (t - k) (c - k) (by omega)) ?_
                  simp only [Act.put, List.setIfInBounds_toArray, List.set_cons_zero, List.set_cons_succ]
                  go_big_quiet_on
                  with_reducible refine wpQuiet_nil ?_
                  (repeat (with_reducible refine mix_q ?_; simp only [List.drop_succ_cons, List.drop_zero, List.take_succ_cons, List.take_zero]; go_big_quiet_step (fail); with_reducible refine wpQuiet_nil ?_))
                  with_reducible refine mix_q ?_
                  simp only [List.drop_succ_cons, List.drop_zero, List.take_succ_cons, List.take_zero]
                  go_big_quiet_want
                  refine quiet_convert (.tmp 87) 22 9 rfl (.slice (some ⟨b, off + (t + 1), none⟩) (j - (t + 1)) (c - (t + 1))) rfl (.string (bstr ((bs.drop (t + 1)).take (j - (t + 1))))) (fun w' hw' => conv_in (HOr.out.below (below_of_regrown hw')) (t + 1) (j - (t + 1)) (c - (t + 1)) (by omega)) ?_
                  simp only [Act.put, List.setIfInBounds_toArray, List.set_cons_zero, List.set_cons_succ]
                  go_big_quiet_on
                  with_reducible refine wpQuiet_nil ?_
                  (repeat (with_reducible refine mix_q ?_; simp only [List.drop_succ_cons, List.drop_zero, List.take_succ_cons, List.take_zero]; go_big_quiet_step (fail); with_reducible refine wpQuiet_nil ?_))
                  with_reducible refine mix_a ?_; simp only [List.drop_succ_cons, List.drop_zero, List.take_succ_cons, List.take_zero]
                  go_wp2_with fail
                  refine mixQ_normal ⟨fun _ => grows_of_below (by repeat (first | with_reducible assumption | (with_reducible refine Below.setCell ?_ (by first | omega | (simp; done) | (simp; omega)) _) | (with_reducible refine Below.alloc ?_ (by first | omega | (simp; done) | (simp; omega)) _) | (with_reducible refine Below.drew ?_) | (with_reducible refine below_dN ?_ _) | with_reducible exact Below.refl _ _ | (with_reducible refine Below.trans ?_ (Below.mono (by assumption) (by first | omega | (simp; done) | (simp; omega)))))), ?_⟩
                  with_reducible refine mix_a ?_; simp only [List.drop_succ_cons, List.drop_zero, List.take_succ_cons, List.take_zero]
                  go_wp2_with fail
                  refine mixQ_normal ⟨fun h => absurd h (by simp), mix_nil ?_⟩
                  obtain ⟨KEY, hKEY⟩ : ∃ x, x = bstr ((bs.drop k).take (t - k)) := ⟨_, rfl⟩
                  obtain ⟨VAL, hVAL⟩ : ∃ x, x = bstr ((bs.drop (t + 1)).take (j - (t + 1))) := ⟨_, rfl⟩
                  rw [← hKEY, ← hVAL]
                  go_wp2_with fail
                  refine gen_code (fun wx => wx.heap[w2.heap.size]? = some (.cells #[.string KEY, .string VAL] 39) ∧ Below w2.heap.size w2 wx) ⟨heap_alloc_new w2 _, by repeat (first | with_reducible assumption | (with_reducible refine Below.setCell ?_ (by first | omega | (simp; done) | (simp; omega)) _) | (with_reducible refine Below.alloc ?_ (by first | omega | (simp; done) | (simp; omega)) _) | (with_reducible refine Below.drew ?_) | (with_reducible refine below_dN ?_ _) | with_reducible exact Below.refl _ _ | (with_reducible refine Below.trans ?_ (Below.mono (by assumption) (by first | omega | (simp; done) | (simp; omega)))))⟩ ?_
                  intro w3 hw3
                  have HPA := Lib.hid (fun wx (h : Below w2.heap.size w2 wx) => PairsIn.of_own (own_below HL.out h))
                  have HKV : Hid (KEY = bstr ((bs.drop k).take (t - k)) ∧ VAL = bstr ((bs.drop (t + 1)).take (j - (t + 1)))) := Lib.hid ⟨hKEY, hVAL⟩
                  clear hKEY hVAL hbe hc
                  go_loopw [9] (fun iv wx => ∃ i : Nat, iv = .int .i64 i ∧ i ≤ acc.length ∧ Hid ((acc.take i).any (fun p => p.1.toList == KEY.toList) = false) ∧ wx.heap[w2.heap.size]? = some (.cells #[.string KEY, .string VAL] 39) ∧ Below w2.heap.size w2 wx) (fun iv _ => acc.length - (intOf iv).toNat)
                  case atStart => exact ⟨0, rfl, by omega, Lib.hid rfl, hw3.1, hw3.2⟩
                  case round =>
                    clear hw3 w3
                    obtain ⟨i, rfl, hi, HA, hP, hb3⟩ := hrel
                    obtain ⟨p0, p1, p2, p3⟩ := blk2 hP
                    have hPl := lt_of_blk hP
                    by_cases hil : i < acc.length
                    · obtain ⟨b2, off2, rfl, hb2, c1, c2⟩ := HPA.out _ hb3 i hil
                      have HS := Lib.hid (any_take_succ acc (fun p => p.1.toList == KEY.toList) i hil)
                      have hmem : acc[i] ∈ acc := List.getElem_mem _
                      have hi0 : (0 : Int) ≤ i := by omega
                      have hi1 : (i : Int) < acc.length := by omega
                      generalize acc[i] = y at c1 c2 HS hmem
                      have HF : Hid ((y.1.toList == KEY.toList) = true → acc.any (fun p => p.1.toList == KEY.toList) = true) := Lib.hid (fun h => List.any_eq_true.2 ⟨y, hmem, h⟩)
                      clear hmem
                      have HBT3 := Lib.hid (And.intro hP hb3)
                      clear hP hb3
                      have k1 := cell_regrown c1
                      have k2 := cell_regrown p0
                      clear c1 c2 p0 p1 p2 p3
                      cases q : (y.1.toList == KEY.toList)
                      · go_wp2_with fail
                        refine wp_region_quiet_below (by kernel_rfl) (by kernel_rfl) ?_
                        (repeat (go_big_quiet_step (fail)))
                        refine wpQuiet_nil ?_
                        intro wq hwq
                        have hq := below_of_regrown hwq
                        clear hwq
                        go_wp2_with fail
                        go_roundw
                        case rel => exact ⟨i + 1, by go_num, by omega, Lib.hid (by rw [HS.out, HA.out, q]; rfl), (hq.block _ hPl).trans HBT3.out.1, HBT3.out.2.trans (hq.mono HBT3.out.2.size)⟩
                        case measure => simp [intOf]; omega
                      · have HN : Hid (parseGo bs.length [] bs = none) := Lib.hid (by rw [HNX.out, if_pos]; rw [← HKV.out.1]; exact HF.out q)
                        go_wp2_with fail
                        refine wp_region_quiet_below (by kernel_rfl) (by kernel_rfl) ?_
                        (repeat (go_big_quiet_step (fail)))
                        refine wpQuiet_nil ?_
                        intro wq hwq
                        have hq := below_of_regrown hwq
                        clear hwq
                        go_wp2_with fail
                        go_ret2
                        exact ⟨by rw [HN.out]; rfl, HBr.out.trans ((HBT3.out.2.trans (hq.mono HBT3.out.2.size)).mono HBr.out.size)⟩
                    · obtain rfl : i = acc.length := by omega
                      rw [List.take_length] at HA
                      have HN : Hid (parseGo bs.length [] bs = parseGo f (acc ++ [(KEY, VAL)]) (bs.drop (j + 1))) := Lib.hid (by
                        rw [HNX.out, if_neg (by rw [← HKV.out.1, HA.out]; simp), HKV.out.1, HKV.out.2, show j - (t + 1) = j - t - 1 by omega])
                      have HO3 := Lib.hid (own_below HL.out hb3)
                      have HBT3 := Lib.hid (And.intro hP hb3)
                      clear hP hb3
                      obtain ⟨i0, hi0, hz0, hz1, hz2⟩ := info_parts info_pair
                      go_wp2_with (at_builtin; refine wpList_append_own _ rfl _ _ 24 rfl w.heap.size 39 i0 (.agg #[.string ⟨#[]⟩, .string ⟨#[]⟩]) 2 32 Tryd.underlying24 hi0 hz0 hz1 hz2 rfl (by decide) _ _ _ rfl (HO3.out.alloc _) ⟨wr.heap.size, 0, none⟩ 1 1 [.string KEY, .string VAL] rfl rfl ?c1 ?c2 ?c3 ?c4 ?c5 ?_)
                      case c1 => intro j u hu; exact cell_two_new _ _ _ _ j u hu
                      case c2 => simp [Value.oneCell']
                      case c3 => unfold maxLen; omega
                      case c4 => omega
                      case c5 => have z1 := HBr.out.size; have z2 := HBT3.out.2.size; simp; omega
                      intro v4 w4 hown hgrow _
                      have hbw : Below w.heap.size w wr := HBr.out.trans (HBT3.out.2.mono HBr.out.size)
                      have HB4 : Hid (Below w.heap.size w w4) := Lib.hid (((Below.alloc hbw (by have := Below.size hbw; omega) _).grown hgrow (by simp; have := Below.size hbw; omega) (fun k hk => (World.ownsRow.lt HO3.out k hk).1)))
                      obtain ⟨a4, c4, hv4⟩ := own_slice hown
                      rw [hv4] at hown ⊢
                      clear hv4 hgrow hbw
                      have HO4 : Hid (w4.ownsRow w.heap.size 39 2 (.slice a4 (acc ++ [(KEY, VAL)]).length c4) (acc ++ [(KEY, VAL)]).length (flatP (acc ++ [(KEY, VAL)]))) := Lib.hid (by simpa [flatP_append, flatP] using hown)
                      clear hown
                      go_wp2_with fail
                      go_roundw
                      case rel => exact ⟨j + 1, acc ++ [(KEY, VAL)], a4, c4, f, by simp, by go_num, by omega, by simp; omega, by omega, HN, HO4, HB4.out⟩
                      case measure => simp [intOf]; omega
                · go_wp2_with fail
                  refine ⟨⟨t + 1, by go_num, by omega, by omega, Lib.hid (HTn.out rfl), trivial⟩, by simp [intOf]; omega⟩
              · obtain rfl : t = j := by omega
                have HP := parse_at bs k t t f acc hlt hkj hj HZ.out HE0.out hkt htj HT.out (fun h => absurd h (by omega))
                have HN : Hid (parseGo bs.length [] bs = none) := Lib.hid (by rw [HG.out, HP]; simp)
                clear HP
                go_wp2_with fail
                go_ret2
                exact ⟨by rw [HN.out]; rfl, HBr.out⟩
          · have hz : bs[j] ≠ 0 := fun e => by rw [e] at q; exact absurd q (by decide)
            go_wp2_with fail
            refine ⟨⟨j + 1, by go_num, by omega, by omega, Lib.hid (fun i h h1 h2 => by
              by_cases e : i = j
              · subst e; exact hz
              · exact HZ.out i h h1 (by omega)), trivial⟩, by simp [intOf]; omega⟩
        · have hje : j = bs.length := by omega
          have HE0 : Hid (∀ h : j < bs.length, bs[j] = 0) := Lib.hid (fun h => absurd h hjl)
          go_wp2_with fail
          obtain ⟨wo, rfl⟩ : ∃ wo : World, wo = wr := ⟨_, rfl⟩
          go_loopw [7] (fun qv wx => ∃ t : Nat, qv = .int .i64 t ∧ k ≤ t ∧ t ≤ j ∧ Hid (∀ i (h : i < bs.length), k ≤ i → i < t → letterF bs[i].toNat (decide (i = k)) = true) ∧ wx = wo) (fun qv _ => j - (intOf qv).toNat)
          case atStart => exact ⟨k, rfl, by omega, by omega, Lib.hid (fun i h h1 h2 => by omega), rfl⟩
          case round =>
            obtain ⟨t, rfl, hkt, htj, HT, rfl⟩ := hrel
            by_cases htl : t < j
            · obtain ⟨hbs, hc⟩ := HOr.out.at t (by omega)
              have ht0 : (0 : Int) ≤ t := by omega
              have ht1 : (t : Int) < bs.length := by omega
              have ht2 : (t : Int) < j := by omega
              have HTn : Hid (letterF bs[t].toNat (decide (t = k)) = true → ∀ i (h : i < bs.length), k ≤ i → i < t + 1 → letterF bs[i].toNat (decide (i = k)) = true) := Lib.hid (fun hh i h h1 h2 => by
                by_cases e : i = t
                · subst e; exact hh
                · exact HT.out i h h1 (by omega))
              have HP : Hid (letterF bs[t].toNat (decide (t = k)) = false → ParseStep bs k j t f acc) := Lib.hid (fun hh => parse_at bs k j t f acc hlt hkj hj HZ.out HE0.out hkt htj HT.out (fun _ _ => hh))
              have HG61 : Hid (∀ x, bs[t] = x → bs[t]? = some x) := Lib.hid (fun x h => by simp [ht1, ← h, show t < bs.length by omega])
              generalize hbt : bs[t] = bt at hc HTn HP HG61
              have HBT := Lib.hid hbt
              clear hbt
              generalize hlf : letterF bt.toNat (decide (t = k)) = lf at HTn HP
              have hbe : ((t : Int) == (k : Int)) = decide (t = k) := by rw [Bool.eq_iff_iff]; simp; omega
              go_wp2_with fail
              refine (letter_any _ _ _).mono ?_
              rintro e w2 ⟨rfl, rfl⟩
              dsimp only
              rw [hlf]
              clear hlf
              cases lf
              · have HP2 : Hid (ParseStep bs k j t f acc) := Lib.hid (HP.out rfl)
                clear HP
                have HN : Hid (parseGo bs.length [] bs = none) := Lib.hid (by rw [HG.out, HP2.out]; simp [hje])
                go_wp2_with fail
                go_ret2
                exact ⟨by rw [HN.out]; rfl, HBr.out⟩
              · go_wp2_with fail
                refine ⟨⟨t + 1, by go_num, by omega, by omega, Lib.hid (HTn.out rfl), trivial⟩, by simp [intOf]; omega⟩
            · obtain rfl : t = j := by omega
              have HP := parse_at bs k t t f acc hlt hkj hj HZ.out HE0.out hkt htj HT.out (fun h => absurd h (by omega))
              have HN : Hid (parseGo bs.length [] bs = none) := Lib.hid (by rw [HG.out, HP]; simp)
              clear HP
              go_wp2_with fail
              go_ret2
              exact ⟨by rw [HN.out]; rfl, HBr.out⟩
    · obtain rfl : k = bs.length := by omega
      have HN : Hid (parseGo bs.length [] bs = some acc) := Lib.hid (by rw [HG.out, List.drop_eq_nil_of_le (Nat.le_refl _)]; cases fuel <;> rfl)
      go_wp2_with fail
      go_ret2
      refine ⟨?_, HBr.out⟩
      rw [HN.out]
      exact ⟨a', c', rfl, HL.out⟩
end Go.Proofs.YtnicmfboomibjaaDoor
