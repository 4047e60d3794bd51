/- KeysBack answers true at whatever input. -/
import Derived.Test.YtnicmfboomibjaaDoorK14
import Derived.Test.YtnicmfboomibjaaDoorK16
import Derived.Test.YtnicmfboomibjaaDoorL2
namespace Go.Proofs.YtnicmfboomibjaaDoor
set_option linter.unusedSimpArgs false
set_option linter.unusedVariables false
open Go.RowKit Go.Maps Go.WideShapes Go.MapKept Go.WideMaps
theorem conv_all {w : World} {a : Option Addr} {bs : List UInt8} (h : BytesIn w a bs) (c : Nat) : (convert 22 9 (.slice a bs.length c)).run Tryd.prog w = .ok (.string (bstr bs)) w := by
  by_cases h0 : bs = []
  · subst h0
    rw [run_convert_bytes_string _ _ _ _ _ _ _ Tryd.underlying22 Tryd.underlying5 Tryd.underlying9]
    cases a <;> rfl
  · obtain ⟨b, off, rfl, _⟩ := h 0 (by cases bs with | nil => exact absurd rfl h0 | cons x l => simp)
    have := conv_in h 0 bs.length c (by omega)
    simpa using this
set_option maxRecDepth 100000 in
set_option maxHeartbeats 2000000 in
theorem keysBack_any (a : Option Addr) (ps : List Pr) (c : Nat) (w : World) (hE : Env w) (h2w : 2 < w.heap.size) (hn : ps.length ≤ maxLen) (ho : PairsIn w a ps) (hsm : ∀ p ∈ ps, p.1.size ≤ 140737488355328 ∧ p.2.size ≤ 140737488355328) :
    Calls Tryd.prog 7 #[.slice a ps.length c] w fun e w' => e = .returned (.bool true) ∧ Below w.heap.size w w' := by
  have HE := Lib.hid hE
  have HO := Lib.hid ho
  have HSM := Lib.hid hsm
  have HLN := Lib.hid hn
  clear hE ho hsm hn
  have hmm := @run_makeMap Tryd.prog
  go_enter Tryd.func7, Tryd.ntmps7
  go_wp2_with fail
  refine (stands_any w HE.out h2w).mono ?_
  rintro e w1 ⟨rfl, hb1⟩
  dsimp only
  have HB1 := Lib.hid hb1
  clear hb1
  go_wp2_with fail
  go_loopw [3, 19] (fun nv iv wr => ∃ (i : Nat), nv = .int .i64 (sizeF (ps.take i) : Nat) ∧ iv = .int .i64 i ∧ i ≤ ps.length ∧ sizeF (ps.take i) ≤ 20000 ∧ Below w.heap.size w wr) (fun _ iv _ => ps.length - (intOf iv).toNat)
  case atStart => exact ⟨0, rfl, rfl, by omega, by simp [sizeF], HB1.out⟩
  case round =>
    clear HB1 w1
    obtain ⟨i, rfl, rfl, hi, hsz, hb⟩ := hrel
    have HB := Lib.hid hb
    clear hb
    by_cases hlt : i < ps.length
    · obtain ⟨b, off, rfl, hbs, c1, c2⟩ := HO.out.below HB.out i hlt
      have hi0' : (0 : Int) ≤ i := by omega
      have hi20 : i ≤ 20000 := by have := sizeF_len (ps.take i); simp at this; omega
      have hi1 : (i : Int) < ps.length := by omega
      have HT : Hid (ps.take (i + 1) = ps.take i ++ [ps[i]]) := Lib.hid (List.take_succ_eq_append_getElem hlt)
      have hkv := HSM.out ps[i] (List.getElem_mem _)
      generalize ps[i] = p at c1 c2 HT hkv
      obtain ⟨K, V⟩ := p
      dsimp only at c1 c2 hkv
      obtain ⟨hk1, hv1⟩ := hkv
      have HSZ : Hid (sizeF (ps.take (i + 1)) = sizeF (ps.take i) + (1 + K.size + V.size)) := Lib.hid (by rw [HT.out, sizeF_snoc])
      clear HT
      generalize sizeF (ps.take i) = N at hsz HSZ
      have HBW : Hid (Below w.heap.size w (wr.alloc (.cells #[.string K, .string V] 39))) := Lib.hid (by have h1 := HB.out; exact h1.alloc h1.size _)
      have hsm2 : ¬ ((20000 : Int) < (N : Int) + (1 + (K.size : Int) + V.size)) → N + (1 + K.size + V.size) ≤ 20000 := fun h => by clear hk1 hv1; omega
      have w1 : wrap64 (1 + (K.size : Int)) = 1 + K.size := IntWalk.wrap64_in _ (by omega)
      have w2 : wrap64 (1 + (K.size : Int) + V.size) = 1 + K.size + V.size := IntWalk.wrap64_in _ (by clear w1; omega)
      have w3 : wrap64 ((N : Int) + (1 + K.size + V.size)) = N + (1 + K.size + V.size) := IntWalk.wrap64_in _ (by clear w1 w2; omega)
      have W4 : Hid (((N + (1 + K.size + V.size) : Nat) : Int) = (N : Int) + (1 + K.size + V.size)) := Lib.hid (by clear w1 w2 w3; omega)
      have W5 : Hid (wrap64 ((i : Int) + 1) = ((i + 1 : Nat) : Int)) := Lib.hid (by clear w1 w2 w3; rw [IntWalk.wrap64_in _ (by omega)]; rfl)
      clear hk1 hv1 hi20 hsz
      cases hbig : decide ((20000 : Int) < (N : Int) + (1 + (K.size : Int) + V.size))
      · have HS3 := Lib.hid (hsm2 (of_decide_eq_false hbig))
        clear hsm2
        go_wp2_with fail
        clear hbig
        refine ⟨⟨i + 1, by rw [w3, HSZ.out, W4.out], by rw [W5.out], by omega, by rw [HSZ.out]; exact HS3.out, HBW.out⟩, ?_⟩
        rw [W5.out]
        clear w1 w2 w3
        simp [intOf]; omega
      · clear hsm2
        go_wp2_with fail
        go_ret
        exact ⟨rfl, HBW.out⟩
    · obtain rfl : i = ps.length := by omega
      rw [List.take_length] at hsz ⊢
      have htl := textF_len ps
      have hpl := sizeF_len ps
      go_wp2_with fail
      refine (text_any a ps c wr (by omega) (HO.out.below HB.out)).mono ?_
      rintro e w2 ⟨⟨a1, c1, rfl, hbi, hcap⟩, hb2⟩
      have HB2 := Lib.hid (HB.out.trans (hb2.mono HB.out.size))
      have HBI := Lib.hid hbi
      clear hb2 hbi
      dsimp only
      go_wp2_with fail
      refine wp_region_mix [(0, true), (1, true), (2, true), (3, false), (4, true)] 4 (fun w' => ∃ p : Regrown, w' = Go.Sort.grow (redrawn w2 p.d) p.os) (by kernel_rfl) (by kernel_rfl) (fun _ _ d _ _ h => by cases d <;> exact h) (grows_drew _) ?_
      repeat (with_reducible refine mix_q ?_; simp only [List.drop_succ_cons, List.drop_zero, List.take_succ_cons, List.take_zero]; go_big_quiet_step (fail); with_reducible refine wpQuiet_nil ?_)
      with_reducible refine mix_q ?_
      simp only [List.drop_succ_cons, List.drop_zero, List.take_succ_cons, List.take_zero]
      go_big_quiet_want
      refine quiet_convert (.tmp 38) 22 9 rfl (.slice a1 (textF ps).length c1) rfl (.string (bstr (textF ps))) (fun w' hw' => conv_all (HBI.out.below (below_of_regrown hw')) c1) ?_
      simp only [Act.put, List.setIfInBounds_toArray, List.set_cons_zero, List.set_cons_succ]
      go_big_quiet_on
      with_reducible refine wpQuiet_nil ?_
      (repeat (with_reducible refine mix_q ?_; simp only [List.drop_succ_cons, List.drop_zero, List.take_succ_cons, List.take_zero]; go_big_quiet_step (fail); with_reducible refine wpQuiet_nil ?_))
      with_reducible refine mix_a ?_; simp only [List.drop_succ_cons, List.drop_zero, List.take_succ_cons, List.take_zero]
      obtain ⟨tx, htx⟩ : ∃ x, x = textF ps := ⟨_, rfl⟩
      have HTX := Lib.hid htx
      have hq1 : ((bstr tx).toList == (bstr tx).toList) = true := by simp
      have hq2 : ((bstr tx).toList != (bstr tx).toList) = false := by simp
      have HRT := Lib.hid (fun w' h => rText_any a ps c w' (by omega) h)
      rw [← htx] at HBI htl HRT ⊢
      have HPB : Hid ((∀ i (h : i < ps.length), goodB ps[i] = true ∧ (ps.take i).any (fun q => q.1.toList == ps[i].1.toList) = false) → parseGo tx.length [] tx = some ps) := Lib.hid (fun h => by
        rw [htx]
        exact parse_back ps [] _ (Nat.le_refl _) (fun i hi => by simpa using h i hi))
      have htlen : tx.length ≤ 100000 := by omega
      clear htx htl
      go_wp2_with fail
      refine (HRT.out _ (HO.out.below HB2.out.drew)).mono ?_
      rintro e w3 ⟨rfl, hb3⟩
      dsimp only
      have hb3' : Below w2.heap.size w2 w3 := by exact (Below.drew (Below.refl _ _)).trans hb3
      have HB3 := Lib.hid (HB2.out.trans (hb3'.mono HB2.out.size))
      have HBI3 := Lib.hid (HBI.out.below hb3')
      clear hb3
      go_wp2_with fail
      refine mixQ_normal ⟨fun _ => grows_of_below (by repeat (first | with_reducible assumption | (with_reducible refine Below.setCell ?_ (by first | omega | (simp; done) | (simp; omega)) _) | (with_reducible refine Below.alloc ?_ (by first | omega | (simp; done) | (simp; omega)) _) | (with_reducible refine Below.drew ?_) | (with_reducible refine below_dN ?_ _) | with_reducible exact Below.refl _ _ | (with_reducible refine Below.trans ?_ (Below.mono (by assumption) (by first | omega | (simp; done) | (simp; omega)))))), ?_⟩
      (repeat (with_reducible refine mix_q ?_; simp only [List.drop_succ_cons, List.drop_zero, List.take_succ_cons, List.take_zero]; go_big_quiet_step (fail); with_reducible refine wpQuiet_nil ?_))
      refine mix_nil ?_
      have hpa := parse_any a1 tx c1 w3 htlen HBI3.out (HE.out.below HB3.out h2w) (Nat.lt_of_lt_of_le h2w HB3.out.size)
      have HPA := Lib.hid hpa
      clear hpa
      go_wp2_with fail
      refine HPA.out.mono ?_
      rintro e w4 ⟨hp, hb4⟩
      have HB4 := Lib.hid (HB3.out.trans (hb4.mono HB3.out.size))
      clear hb4 HPA
      obtain ⟨a2, n2, c2, ok, rfl, HM⟩ : ∃ a2 n2 c2 ok, e = .returned (.tuple #[.slice a2 n2 c2, .bool ok]) ∧ Hid (parseGo tx.length [] tx = some ps → ok = true ∧ n2 = ps.length ∧ PairsIn w4 a2 ps) := by
        generalize parseGo tx.length [] tx = o at hp
        cases o with
        | none => exact ⟨none, 0, 0, false, hp, Lib.hid (fun h => by cases h)⟩
        | some qs =>
          obtain ⟨a2, c2, h1, h2⟩ := hp
          exact ⟨a2, qs.length, c2, true, h1, Lib.hid (fun h => by cases h; exact ⟨rfl, rfl, PairsIn.of_own h2⟩)⟩
      clear hp
      dsimp only
      go_wp2_with fail
      have hmi := MapKept_made w4
      have hb5 : Below w4.heap.size w4 (w4.alloc (.map #[] 0)) := Below.alloc (Below.refl _ _) (Nat.le_refl _) _
      generalize w4.alloc (.map #[] 0) = w5 at hmi hb5 ⊢
      go_loopw [10, 51] (fun fv iv wr => ∃ (i cnt : Nat) (f : Bool), fv = .bool f ∧ iv = .int .i64 i ∧ i ≤ ps.length ∧ cnt ≤ i ∧ Hid (f = true → ∀ j (h : j < ps.length), j < i → goodB ps[j] = true ∧ (ps.take j).any (fun q => q.1.toList == ps[j].1.toList) = false) ∧ Hid (MapIs Tryd.prog 9 wr w4.heap.size cnt (seenF (ps.take i))) ∧ Hid (Below w4.heap.size w4 wr)) (fun _ iv _ => ps.length - (intOf iv).toNat)
      case atStart => exact ⟨0, 0, true, rfl, rfl, by omega, by omega, Lib.hid (fun _ j _ h => by omega), Lib.hid hmi, Lib.hid hb5⟩
      case round =>
        clear hmi hb5 w5
        obtain ⟨i, cnt, f, rfl, rfl, hi, hcnt, HF, HMI, HB5⟩ := hrel
        by_cases hlt : i < ps.length
        · obtain ⟨b, off, rfl, hbs, c1', c2'⟩ := HO.out.below (HB4.out.trans (HB5.out.mono HB4.out.size)) i hlt
          have hi0' : (0 : Int) ≤ i := by omega
          have hi1 : (i : Int) < ps.length := by omega
          have hsz2 : sizeF (ps.take (i + 1)) ≤ 20000 := by have := sizeF_take ps (i + 1); omega
          have HT : Hid (ps.take (i + 1) = ps.take i ++ [ps[i]]) := Lib.hid (List.take_succ_eq_append_getElem hlt)
          have HFN : Hid (∀ f', (f' = true → f = true ∧ goodB ps[i] = true ∧ (ps.take i).any (fun q => q.1.toList == ps[i].1.toList) = false) → (f' = true → ∀ j (h : j < ps.length), j < i + 1 → goodB ps[j] = true ∧ (ps.take j).any (fun q => q.1.toList == ps[j].1.toList) = false)) := Lib.hid (fun f' h hf j hj hji => by
            obtain ⟨h1, h2, h3⟩ := h hf
            by_cases e : j = i
            · subst e; exact ⟨h2, h3⟩
            · exact HF.out h1 j hj (by omega))
          rw [HT.out, sizeF_snoc] at hsz2
          have HSW : Hid (∀ K V, ps[i] = (K, V) → upd (seenF (ps.take i)) (.string K.data.toList) (some (.bool true)) = seenF (ps.take (i + 1))) := Lib.hid (fun K V e => by rw [HT.out, e]; exact seenF_put _ _ _)
          clear HT HF
          generalize ps[i] = p at c1' c2' hsz2 HFN HSW
          obtain ⟨K, V⟩ := p
          dsimp only at c1' c2' hsz2
          have hsz3 : K.size + V.size ≤ 20000 := by omega
          clear hsz2
          have z1 : ¬ (9223372036854775807 < K.size + 1) := by omega
          have z2 : ¬ (9223372036854775807 < K.size + 1 + V.size) := by omega
          have z3 : ¬ (9223372036854775807 < K.size + 1 + V.size + 1) := by omega
          have HS3 := Lib.hid hsz3
          clear hsz3
          obtain ⟨W1, hW1⟩ : ∃ x, x = wr.alloc (.cells #[.string K, .string V] 39) := ⟨_, rfl⟩
          have hP0 : W1.cell? ⟨wr.heap.size, 0, none⟩ = some (.string K) := by rw [hW1]; simp only [World.cell?, heap_alloc_new]; rfl
          have hP1 : W1.cell? ⟨wr.heap.size, 1, none⟩ = some (.string V) := by rw [hW1]; simp only [World.cell?, heap_alloc_new]; rfl
          have HW5 : Hid (wrap64 ((i : Int) + 1) = ((i + 1 : Nat) : Int) ∧ i ≤ 20000) := Lib.hid (by
            have hh := sizeF_len ps
            have hh2 : i ≤ 20000 := by omega
            refine ⟨?_, hh2⟩
            rw [IntWalk.wrap64_in _ (by omega)]; rfl)
          have hz1 : wr.heap.size < W1.heap.size := by rw [hW1]; simp
          have hbw : Below wr.heap.size wr W1 := by rw [hW1]; exact (Below.refl _ _).alloc (Nat.le_refl _) _
          have hcv := Lib.run_convert_string_bytes (P := Tryd.prog) W1 9 22 5 (K ++ ⟨#[61]⟩ ++ V ++ ⟨#[0]⟩) (u := .string) Tryd.underlying9 Tryd.underlying22 Tryd.underlying5
          have hB : ∀ j, j < (K ++ ⟨#[61]⟩ ++ V ++ ⟨#[0]⟩).size → (Lib.bytesWorld W1 5 (K ++ ⟨#[61]⟩ ++ V ++ ⟨#[0]⟩)).cell? ⟨W1.heap.size, j, none⟩ = some (.int .u8 ((K ++ ⟨#[61]⟩ ++ V ++ ⟨#[0]⟩).data.toList.getD j 0).toNat) := fun j hj => Lib.bytesWorld_cell W1 5 _ j hj
          have hbb : Below W1.heap.size W1 (Lib.bytesWorld W1 5 (K ++ ⟨#[61]⟩ ++ V ++ ⟨#[0]⟩)) := Lib.bytesWorld_below _ _ _
          have hgc := grownCap_ge W1 (K ++ ⟨#[61]⟩ ++ V ++ ⟨#[0]⟩).size 0 5
          have hps := pair_size (K, V)
          have hpt := pair_text (K, V)
          have hpl1 := textOne_len (K, V)
          dsimp only at hps hpt hpl1
          rw [hpt] at hB
          rw [hps] at hcv hB hgc
          generalize Lib.bytesWorld W1 5 (K ++ ⟨#[61]⟩ ++ V ++ ⟨#[0]⟩) = W2 at hcv hB hbb
          generalize grownCap W1 (K.size + V.size + 2) 0 5 = cc at hcv hgc
          have hsz2 : W1.heap.size < W2.heap.size := by
            have h0 := hB 0 (by omega)
            exact World.block_lt_of_cell? W2 _ h0
          have hBI2 : BytesIn W2 (some ⟨W1.heap.size, 0, none⟩) (textOne (K, V)) := fun j hj => by
            refine ⟨W1.heap.size, 0, rfl, hsz2, ?_⟩
            have := hB j (by omega)
            rw [List.getD, List.getElem?_eq_getElem hj] at this
            simpa using this
          have HPAR := Lib.hid (rParse_any (some ⟨W1.heap.size, 0, none⟩) (textOne (K, V)) cc W2 (by have := HS3.out; omega) (by omega) hBI2)
          have HP2 : Hid (W2.cell? ⟨wr.heap.size, 0, none⟩ = some (.string K) ∧ W2.cell? ⟨wr.heap.size, 1, none⟩ = some (.string V)) := Lib.hid ⟨(hbb.cell (p := ⟨wr.heap.size, 0, none⟩) hz1).trans hP0, (hbb.cell (p := ⟨wr.heap.size, 1, none⟩) hz1).trans hP1⟩
          have HBW : Hid (Below wr.heap.size wr W2) := Lib.hid (hbw.trans (hbb.mono (by omega)))
          have hW1s : W1.heap.size = wr.heap.size + 1 := by rw [hW1]; simp
          rw [hpl1, hW1s] at HPAR
          clear hW1s
          clear hB hgc hpt hBI2 hbb hsz2 hbw hz1 hP0 hP1
          rw [hW1] at hcv
          clear hW1
          go_wp2_with fail
          refine HPAR.out.mono ?_
          rintro e w6 ⟨hp, hb6⟩
          have hb6' := HBW.out.trans (hb6.mono HBW.out.size)
          have hM6 := HMI.out.below hb6' HMI.out.lt
          have hz6 := Nat.lt_of_lt_of_le HMI.out.lt hb6'.size
          have hlt2 : wr.heap.size < W2.heap.size := World.block_lt_of_cell? W2 _ HP2.out.1
          have k1 : w6.cell? ⟨wr.heap.size, 0, none⟩ = some (.string K) := (hb6.cell (p := ⟨wr.heap.size, 0, none⟩) hlt2).trans HP2.out.1
          have k2 : w6.cell? ⟨wr.heap.size, 1, none⟩ = some (.string V) := (hb6.cell (p := ⟨wr.heap.size, 1, none⟩) hlt2).trans HP2.out.2
          have HB6 := Lib.hid (HB5.out.trans (hb6'.mono HB5.out.size))
          have HM6 := Lib.hid hM6
          have hkey : keyOf Tryd.prog 9 (.string K) = some (.string K.data.toList) := keyOf_string_mk Tryd.underlying9 (by have := HS3.out; unfold maxLen; omega)
          have HKEY := Lib.hid hkey
          obtain ⟨a3, n3, c3, is, rfl, HG⟩ : ∃ a3 n3 c3 is, e = .returned (.tuple #[.slice a3 n3 c3, .bool is]) ∧ Hid (is = true → n3 = 1 → ∃ q, PairsIn w6 a3 [q] ∧ (q = (K, V) → goodB (K, V) = true)) := by
            have hg : goodB (K, V) = match parseGo (textOne (K, V)).length [] (textOne (K, V)) with | some [q] => decide (q = (K, V)) | _ => false := rfl
            rw [hpl1] at hg
            generalize parseGo (K.size + V.size + 2) [] (textOne (K, V)) = o at hp hg
            cases o with
            | none => exact ⟨none, 0, 0, false, hp, Lib.hid (fun h => by cases h)⟩
            | some qs =>
              obtain ⟨a3, c3, h1, h2⟩ := hp
              refine ⟨a3, qs.length, c3, true, h1, Lib.hid (fun _ h => ?_)⟩
              match qs, h with
              | [q], _ => exact ⟨q, PairsIn.of_own h2, fun e => by rw [hg]; simp [e]⟩
          clear hp hb6 hb6' hM6 hlt2 hkey HPAR HP2 HBW
          dsimp only
          go_wp2_with fail
          have r1 := cell_regrown k1
          have r2 := cell_regrown k2
          have K1 := Lib.hid k1
          clear k1 k2
          cases f
          case false =>
            refine wp_region_mix [(0, true), (1, true), (2, true), (3, true), (4, true), (5, true), (6, true), (7, true), (8, true), (9, true), (10, true), (11, true), (12, true), (13, true), (14, true), (15, true), (16, true), (17, true), (18, true), (19, true), (20, false), (21, true), (22, true), (23, true)] 1000 (fun w' => ∃ p : Regrown, w' = Go.Sort.grow (redrawn w6 p.d) p.os) (by kernel_rfl) (by kernel_rfl) (fun _ _ d _ _ h => by cases d <;> exact h) (grows_drew _) ?_
            (repeat (with_reducible refine mix_q ?_; simp only [List.drop_succ_cons, List.drop_zero, List.take_succ_cons, List.take_zero]; go_big_quiet_step (fail); with_reducible refine wpQuiet_nil ?_))
            with_reducible refine mix_a ?_; simp only [List.drop_succ_cons, List.drop_zero, List.take_succ_cons, List.take_zero]
            go_wp2_with fail
            first | refine mixQ_normal ⟨fun _ => grows_of_below (by repeat (first | with_reducible assumption | (with_reducible refine Below.setCell ?_ (by first | omega | (simp; done) | (simp; omega)) _) | (with_reducible refine Below.alloc ?_ (by first | omega | (simp; done) | (simp; omega)) _) | (with_reducible refine Below.drew ?_) | (with_reducible refine below_dN ?_ _) | with_reducible exact Below.refl _ _ | (with_reducible refine Below.trans ?_ (Below.mono (by assumption) (by first | omega | (simp; done) | (simp; omega)))))), ?_⟩ | refine mixQ_normal ⟨grows_of_below (by repeat (first | with_reducible assumption | (with_reducible refine Below.setCell ?_ (by first | omega | (simp; done) | (simp; omega)) _) | (with_reducible refine Below.alloc ?_ (by first | omega | (simp; done) | (simp; omega)) _) | (with_reducible refine Below.drew ?_) | (with_reducible refine below_dN ?_ _) | with_reducible exact Below.refl _ _ | (with_reducible refine Below.trans ?_ (Below.mono (by assumption) (by first | omega | (simp; done) | (simp; omega)))))), ?_⟩
            (repeat (with_reducible refine mix_q ?_; simp only [List.drop_succ_cons, List.drop_zero, List.take_succ_cons, List.take_zero]; go_big_quiet_step (fail); with_reducible refine wpQuiet_nil ?_))
            refine mix_nil ?_
            have k1 := K1.out
            obtain ⟨w7, hst, hM7, ht7⟩ := (HM6.out.drew).store (string_keyed Tryd.underlying9) Tryd.underlying42 (by have := HW5.out.2; unfold maxLen; omega) (.bool true) HKEY.out
            have HM7 := Lib.hid hM7
            have HG7 := Lib.hid ht7.grown
            clear hM7 ht7
            go_wp2_with fail
            refine ⟨⟨i + 1, _, false, rfl, by first | rfl | rw [HW5.out.1], by omega, ?_, Lib.hid (HFN.out false (fun h => by cases h)), Lib.hid (by rw [← HSW.out K V rfl]; exact HM7.out), Lib.hid ((HB6.out.drew).grown HG7.out (by simp; omega) (fun k' hk' => by cases hk'; omega))⟩, by (try rw [HW5.out.1]); simp [intOf]; omega⟩
            split <;> omega
          cases is
          case false =>
            refine wp_region_mix [(0, true), (1, true), (2, true), (3, true), (4, true), (5, true), (6, true), (7, true), (8, true), (9, true), (10, true), (11, true), (12, true), (13, true), (14, true), (15, true), (16, true), (17, true), (18, true), (19, true), (20, false), (21, true), (22, true), (23, true)] 1000 (fun w' => ∃ p : Regrown, w' = Go.Sort.grow (redrawn w6 p.d) p.os) (by kernel_rfl) (by kernel_rfl) (fun _ _ d _ _ h => by cases d <;> exact h) (grows_drew _) ?_
            (repeat (with_reducible refine mix_q ?_; simp only [List.drop_succ_cons, List.drop_zero, List.take_succ_cons, List.take_zero]; go_big_quiet_step (fail); with_reducible refine wpQuiet_nil ?_))
            with_reducible refine mix_a ?_; simp only [List.drop_succ_cons, List.drop_zero, List.take_succ_cons, List.take_zero]
            go_wp2_with fail
            first | refine mixQ_normal ⟨fun _ => grows_of_below (by repeat (first | with_reducible assumption | (with_reducible refine Below.setCell ?_ (by first | omega | (simp; done) | (simp; omega)) _) | (with_reducible refine Below.alloc ?_ (by first | omega | (simp; done) | (simp; omega)) _) | (with_reducible refine Below.drew ?_) | (with_reducible refine below_dN ?_ _) | with_reducible exact Below.refl _ _ | (with_reducible refine Below.trans ?_ (Below.mono (by assumption) (by first | omega | (simp; done) | (simp; omega)))))), ?_⟩ | refine mixQ_normal ⟨grows_of_below (by repeat (first | with_reducible assumption | (with_reducible refine Below.setCell ?_ (by first | omega | (simp; done) | (simp; omega)) _) | (with_reducible refine Below.alloc ?_ (by first | omega | (simp; done) | (simp; omega)) _) | (with_reducible refine Below.drew ?_) | (with_reducible refine below_dN ?_ _) | with_reducible exact Below.refl _ _ | (with_reducible refine Below.trans ?_ (Below.mono (by assumption) (by first | omega | (simp; done) | (simp; omega)))))), ?_⟩
            (repeat (with_reducible refine mix_q ?_; simp only [List.drop_succ_cons, List.drop_zero, List.take_succ_cons, List.take_zero]; go_big_quiet_step (fail); with_reducible refine wpQuiet_nil ?_))
            refine mix_nil ?_
            have k1 := K1.out
            obtain ⟨w7, hst, hM7, ht7⟩ := (HM6.out.drew).store (string_keyed Tryd.underlying9) Tryd.underlying42 (by have := HW5.out.2; unfold maxLen; omega) (.bool true) HKEY.out
            have HM7 := Lib.hid hM7
            have HG7 := Lib.hid ht7.grown
            clear hM7 ht7
            go_wp2_with fail
            refine ⟨⟨i + 1, _, false, rfl, by first | rfl | rw [HW5.out.1], by omega, ?_, Lib.hid (HFN.out false (fun h => by cases h)), Lib.hid (by rw [← HSW.out K V rfl]; exact HM7.out), Lib.hid ((HB6.out.drew).grown HG7.out (by simp; omega) (fun k' hk' => by cases hk'; omega))⟩, by (try rw [HW5.out.1]); simp [intOf]; omega⟩
            split <;> omega
          cases hn1 : ((n3 : Int) == 1)
          case false =>
            refine wp_region_mix [(0, true), (1, true), (2, true), (3, true), (4, true), (5, true), (6, true), (7, true), (8, true), (9, true), (10, true), (11, true), (12, true), (13, true), (14, true), (15, true), (16, true), (17, true), (18, true), (19, true), (20, false), (21, true), (22, true), (23, true)] 1000 (fun w' => ∃ p : Regrown, w' = Go.Sort.grow (redrawn w6 p.d) p.os) (by kernel_rfl) (by kernel_rfl) (fun _ _ d _ _ h => by cases d <;> exact h) (grows_drew _) ?_
            (repeat (with_reducible refine mix_q ?_; simp only [List.drop_succ_cons, List.drop_zero, List.take_succ_cons, List.take_zero]; go_big_quiet_step (fail); with_reducible refine wpQuiet_nil ?_))
            with_reducible refine mix_a ?_; simp only [List.drop_succ_cons, List.drop_zero, List.take_succ_cons, List.take_zero]
            go_wp2_with fail
            first | refine mixQ_normal ⟨fun _ => grows_of_below (by repeat (first | with_reducible assumption | (with_reducible refine Below.setCell ?_ (by first | omega | (simp; done) | (simp; omega)) _) | (with_reducible refine Below.alloc ?_ (by first | omega | (simp; done) | (simp; omega)) _) | (with_reducible refine Below.drew ?_) | (with_reducible refine below_dN ?_ _) | with_reducible exact Below.refl _ _ | (with_reducible refine Below.trans ?_ (Below.mono (by assumption) (by first | omega | (simp; done) | (simp; omega)))))), ?_⟩ | refine mixQ_normal ⟨grows_of_below (by repeat (first | with_reducible assumption | (with_reducible refine Below.setCell ?_ (by first | omega | (simp; done) | (simp; omega)) _) | (with_reducible refine Below.alloc ?_ (by first | omega | (simp; done) | (simp; omega)) _) | (with_reducible refine Below.drew ?_) | (with_reducible refine below_dN ?_ _) | with_reducible exact Below.refl _ _ | (with_reducible refine Below.trans ?_ (Below.mono (by assumption) (by first | omega | (simp; done) | (simp; omega)))))), ?_⟩
            (repeat (with_reducible refine mix_q ?_; simp only [List.drop_succ_cons, List.drop_zero, List.take_succ_cons, List.take_zero]; go_big_quiet_step (fail); with_reducible refine wpQuiet_nil ?_))
            refine mix_nil ?_
            have k1 := K1.out
            obtain ⟨w7, hst, hM7, ht7⟩ := (HM6.out.drew).store (string_keyed Tryd.underlying9) Tryd.underlying42 (by have := HW5.out.2; unfold maxLen; omega) (.bool true) HKEY.out
            have HM7 := Lib.hid hM7
            have HG7 := Lib.hid ht7.grown
            clear hM7 ht7
            go_wp2_with fail
            refine ⟨⟨i + 1, _, false, rfl, by first | rfl | rw [HW5.out.1], by omega, ?_, Lib.hid (HFN.out false (fun h => by cases h)), Lib.hid (by rw [← HSW.out K V rfl]; exact HM7.out), Lib.hid ((HB6.out.drew).grown HG7.out (by simp; omega) (fun k' hk' => by cases hk'; omega))⟩, by (try rw [HW5.out.1]); simp [intOf]; omega⟩
            split <;> omega
          obtain rfl : n3 = 1 := Int.ofNat.inj (show (n3 : Int) = ((1 : Nat) : Int) by simpa using hn1)
          obtain ⟨q, hPQ, hgq⟩ := HG.out rfl rfl
          obtain ⟨b3, o3, rfl, hb3, m1, m2⟩ := hPQ 0 (by simp)
          have HGQ := Lib.hid hgq
          clear hgq hPQ HG hn1
          obtain ⟨q1, q2⟩ := q
          simp only [List.getElem_cons_zero, Nat.zero_mul, Nat.add_zero] at m1 m2
          have r3 := cell_regrown m1
          have r4 := cell_regrown m2
          clear m1 m2
          cases e1 : (q1.toList == K.toList)
          case false =>
            cases e2 : (q2.toList == V.toList)
            all_goals
              refine wp_region_mix [(0, true), (1, true), (2, true), (3, true), (4, true), (5, true), (6, true), (7, true), (8, true), (9, true), (10, true), (11, true), (12, true), (13, true), (14, true), (15, true), (16, true), (17, true), (18, true), (19, true), (20, false), (21, true), (22, true), (23, true)] 1000 (fun w' => ∃ p : Regrown, w' = Go.Sort.grow (redrawn w6 p.d) p.os) (by kernel_rfl) (by kernel_rfl) (fun _ _ d _ _ h => by cases d <;> exact h) (grows_drew _) ?_
              (repeat (with_reducible refine mix_q ?_; simp only [List.drop_succ_cons, List.drop_zero, List.take_succ_cons, List.take_zero]; go_big_quiet_step (fail); with_reducible refine wpQuiet_nil ?_))
              with_reducible refine mix_a ?_; simp only [List.drop_succ_cons, List.drop_zero, List.take_succ_cons, List.take_zero]
              go_wp2_with fail
              first | refine mixQ_normal ⟨fun _ => grows_of_below (by repeat (first | with_reducible assumption | (with_reducible refine Below.setCell ?_ (by first | omega | (simp; done) | (simp; omega)) _) | (with_reducible refine Below.alloc ?_ (by first | omega | (simp; done) | (simp; omega)) _) | (with_reducible refine Below.drew ?_) | (with_reducible refine below_dN ?_ _) | with_reducible exact Below.refl _ _ | (with_reducible refine Below.trans ?_ (Below.mono (by assumption) (by first | omega | (simp; done) | (simp; omega)))))), ?_⟩ | refine mixQ_normal ⟨grows_of_below (by repeat (first | with_reducible assumption | (with_reducible refine Below.setCell ?_ (by first | omega | (simp; done) | (simp; omega)) _) | (with_reducible refine Below.alloc ?_ (by first | omega | (simp; done) | (simp; omega)) _) | (with_reducible refine Below.drew ?_) | (with_reducible refine below_dN ?_ _) | with_reducible exact Below.refl _ _ | (with_reducible refine Below.trans ?_ (Below.mono (by assumption) (by first | omega | (simp; done) | (simp; omega)))))), ?_⟩
              (repeat (with_reducible refine mix_q ?_; simp only [List.drop_succ_cons, List.drop_zero, List.take_succ_cons, List.take_zero]; go_big_quiet_step (fail); with_reducible refine wpQuiet_nil ?_))
              refine mix_nil ?_
              have k1 := K1.out
              obtain ⟨w7, hst, hM7, ht7⟩ := (HM6.out.drew).store (string_keyed Tryd.underlying9) Tryd.underlying42 (by have := HW5.out.2; unfold maxLen; omega) (.bool true) HKEY.out
              have HM7 := Lib.hid hM7
              have HG7 := Lib.hid ht7.grown
              clear hM7 ht7
              go_wp2_with fail
              refine ⟨⟨i + 1, _, false, rfl, by first | rfl | rw [HW5.out.1], by omega, ?_, Lib.hid (HFN.out false (fun h => by cases h)), Lib.hid (by rw [← HSW.out K V rfl]; exact HM7.out), Lib.hid ((HB6.out.drew).grown HG7.out (by simp; omega) (fun k' hk' => by cases hk'; omega))⟩, by (try rw [HW5.out.1]); simp [intOf]; omega⟩
              split <;> omega
          cases e2 : (q2.toList == V.toList)
          case false =>
            refine wp_region_mix [(0, true), (1, true), (2, true), (3, true), (4, true), (5, true), (6, true), (7, true), (8, true), (9, true), (10, true), (11, true), (12, true), (13, true), (14, true), (15, true), (16, true), (17, true), (18, true), (19, true), (20, false), (21, true), (22, true), (23, true)] 1000 (fun w' => ∃ p : Regrown, w' = Go.Sort.grow (redrawn w6 p.d) p.os) (by kernel_rfl) (by kernel_rfl) (fun _ _ d _ _ h => by cases d <;> exact h) (grows_drew _) ?_
            (repeat (with_reducible refine mix_q ?_; simp only [List.drop_succ_cons, List.drop_zero, List.take_succ_cons, List.take_zero]; go_big_quiet_step (fail); with_reducible refine wpQuiet_nil ?_))
            with_reducible refine mix_a ?_; simp only [List.drop_succ_cons, List.drop_zero, List.take_succ_cons, List.take_zero]
            go_wp2_with fail
            first | refine mixQ_normal ⟨fun _ => grows_of_below (by repeat (first | with_reducible assumption | (with_reducible refine Below.setCell ?_ (by first | omega | (simp; done) | (simp; omega)) _) | (with_reducible refine Below.alloc ?_ (by first | omega | (simp; done) | (simp; omega)) _) | (with_reducible refine Below.drew ?_) | (with_reducible refine below_dN ?_ _) | with_reducible exact Below.refl _ _ | (with_reducible refine Below.trans ?_ (Below.mono (by assumption) (by first | omega | (simp; done) | (simp; omega)))))), ?_⟩ | refine mixQ_normal ⟨grows_of_below (by repeat (first | with_reducible assumption | (with_reducible refine Below.setCell ?_ (by first | omega | (simp; done) | (simp; omega)) _) | (with_reducible refine Below.alloc ?_ (by first | omega | (simp; done) | (simp; omega)) _) | (with_reducible refine Below.drew ?_) | (with_reducible refine below_dN ?_ _) | with_reducible exact Below.refl _ _ | (with_reducible refine Below.trans ?_ (Below.mono (by assumption) (by first | omega | (simp; done) | (simp; omega)))))), ?_⟩
            (repeat (with_reducible refine mix_q ?_; simp only [List.drop_succ_cons, List.drop_zero, List.take_succ_cons, List.take_zero]; go_big_quiet_step (fail); with_reducible refine wpQuiet_nil ?_))
            refine mix_nil ?_
            have k1 := K1.out
            obtain ⟨w7, hst, hM7, ht7⟩ := (HM6.out.drew).store (string_keyed Tryd.underlying9) Tryd.underlying42 (by have := HW5.out.2; unfold maxLen; omega) (.bool true) HKEY.out
            have HM7 := Lib.hid hM7
            have HG7 := Lib.hid ht7.grown
            clear hM7 ht7
            go_wp2_with fail
            refine ⟨⟨i + 1, _, false, rfl, by first | rfl | rw [HW5.out.1], by omega, ?_, Lib.hid (HFN.out false (fun h => by cases h)), Lib.hid (by rw [← HSW.out K V rfl]; exact HM7.out), Lib.hid ((HB6.out.drew).grown HG7.out (by simp; omega) (fun k' hk' => by cases hk'; omega))⟩, by (try rw [HW5.out.1]); simp [intOf]; omega⟩
            split <;> omega
          have HQE : Hid ((q1, q2) = (K, V)) := Lib.hid (by rw [str_eq e1, str_eq e2])
          have hlk := (HM6.out.drew).look (string_keyed Tryd.underlying9) Tryd.underlying42 (zero_bool _) HKEY.out
          have hsn : seenF (ps.take i) (.string K.data.toList) = if (ps.take i).any (fun p => p.1.toList == K.toList) then some (.bool true) else none := by rw [← ByteArray.toList_eq]; rfl
          rw [hsn] at hlk
          clear hsn
          cases hsq : (ps.take i).any (fun p => p.1.toList == K.toList)
          case true =>
            rw [hsq] at hlk
            simp only [if_true, Option.getD_some] at hlk
            refine wp_region_mix [(0, true), (1, true), (2, true), (3, true), (4, true), (5, true), (6, true), (7, true), (8, true), (9, true), (10, true), (11, true), (12, true), (13, true), (14, true), (15, true), (16, true), (17, true), (18, true), (19, true), (20, false), (21, true), (22, true), (23, true)] 1000 (fun w' => ∃ p : Regrown, w' = Go.Sort.grow (redrawn w6 p.d) p.os) (by kernel_rfl) (by kernel_rfl) (fun _ _ d _ _ h => by cases d <;> exact h) (grows_drew _) ?_
            (repeat (with_reducible refine mix_q ?_; simp only [List.drop_succ_cons, List.drop_zero, List.take_succ_cons, List.take_zero]; go_big_quiet_step (fail); with_reducible refine wpQuiet_nil ?_))
            with_reducible refine mix_a ?_; simp only [List.drop_succ_cons, List.drop_zero, List.take_succ_cons, List.take_zero]
            go_wp2_with fail
            first | refine mixQ_normal ⟨fun _ => grows_of_below (by repeat (first | with_reducible assumption | (with_reducible refine Below.setCell ?_ (by first | omega | (simp; done) | (simp; omega)) _) | (with_reducible refine Below.alloc ?_ (by first | omega | (simp; done) | (simp; omega)) _) | (with_reducible refine Below.drew ?_) | (with_reducible refine below_dN ?_ _) | with_reducible exact Below.refl _ _ | (with_reducible refine Below.trans ?_ (Below.mono (by assumption) (by first | omega | (simp; done) | (simp; omega)))))), ?_⟩ | refine mixQ_normal ⟨grows_of_below (by repeat (first | with_reducible assumption | (with_reducible refine Below.setCell ?_ (by first | omega | (simp; done) | (simp; omega)) _) | (with_reducible refine Below.alloc ?_ (by first | omega | (simp; done) | (simp; omega)) _) | (with_reducible refine Below.drew ?_) | (with_reducible refine below_dN ?_ _) | with_reducible exact Below.refl _ _ | (with_reducible refine Below.trans ?_ (Below.mono (by assumption) (by first | omega | (simp; done) | (simp; omega)))))), ?_⟩
            (repeat (with_reducible refine mix_q ?_; simp only [List.drop_succ_cons, List.drop_zero, List.take_succ_cons, List.take_zero]; go_big_quiet_step (fail); with_reducible refine wpQuiet_nil ?_))
            refine mix_nil ?_
            have k1 := K1.out
            obtain ⟨w7, hst, hM7, ht7⟩ := (HM6.out.drew).store (string_keyed Tryd.underlying9) Tryd.underlying42 (by have := HW5.out.2; unfold maxLen; omega) (.bool true) HKEY.out
            have HM7 := Lib.hid hM7
            have HG7 := Lib.hid ht7.grown
            clear hM7 ht7
            go_wp2_with fail
            refine ⟨⟨i + 1, _, false, rfl, by first | rfl | rw [HW5.out.1], by omega, ?_, Lib.hid (HFN.out false (fun h => by cases h)), Lib.hid (by rw [← HSW.out K V rfl]; exact HM7.out), Lib.hid ((HB6.out.drew).grown HG7.out (by simp; omega) (fun k' hk' => by cases hk'; omega))⟩, by (try rw [HW5.out.1]); simp [intOf]; omega⟩
            split <;> omega
          case false =>
            rw [hsq] at hlk
            simp only [Bool.false_eq_true, if_false, Option.getD_none] at hlk
            have HSQ := Lib.hid hsq
            clear hsq
            refine wp_region_mix [(0, true), (1, true), (2, true), (3, true), (4, true), (5, true), (6, true), (7, true), (8, true), (9, true), (10, true), (11, true), (12, true), (13, true), (14, true), (15, true), (16, true), (17, true), (18, true), (19, true), (20, false), (21, true), (22, true), (23, true)] 1000 (fun w' => ∃ p : Regrown, w' = Go.Sort.grow (redrawn w6 p.d) p.os) (by kernel_rfl) (by kernel_rfl) (fun _ _ d _ _ h => by cases d <;> exact h) (grows_drew _) ?_
            (repeat (with_reducible refine mix_q ?_; simp only [List.drop_succ_cons, List.drop_zero, List.take_succ_cons, List.take_zero]; go_big_quiet_step (fail); with_reducible refine wpQuiet_nil ?_))
            with_reducible refine mix_a ?_; simp only [List.drop_succ_cons, List.drop_zero, List.take_succ_cons, List.take_zero]
            go_wp2_with fail
            first | refine mixQ_normal ⟨fun _ => grows_of_below (by repeat (first | with_reducible assumption | (with_reducible refine Below.setCell ?_ (by first | omega | (simp; done) | (simp; omega)) _) | (with_reducible refine Below.alloc ?_ (by first | omega | (simp; done) | (simp; omega)) _) | (with_reducible refine Below.drew ?_) | (with_reducible refine below_dN ?_ _) | with_reducible exact Below.refl _ _ | (with_reducible refine Below.trans ?_ (Below.mono (by assumption) (by first | omega | (simp; done) | (simp; omega)))))), ?_⟩ | refine mixQ_normal ⟨grows_of_below (by repeat (first | with_reducible assumption | (with_reducible refine Below.setCell ?_ (by first | omega | (simp; done) | (simp; omega)) _) | (with_reducible refine Below.alloc ?_ (by first | omega | (simp; done) | (simp; omega)) _) | (with_reducible refine Below.drew ?_) | (with_reducible refine below_dN ?_ _) | with_reducible exact Below.refl _ _ | (with_reducible refine Below.trans ?_ (Below.mono (by assumption) (by first | omega | (simp; done) | (simp; omega)))))), ?_⟩
            (repeat (with_reducible refine mix_q ?_; simp only [List.drop_succ_cons, List.drop_zero, List.take_succ_cons, List.take_zero]; go_big_quiet_step (fail); with_reducible refine wpQuiet_nil ?_))
            refine mix_nil ?_
            have k1 := K1.out
            obtain ⟨w7, hst, hM7, ht7⟩ := (HM6.out.drew).store (string_keyed Tryd.underlying9) Tryd.underlying42 (by have := HW5.out.2; unfold maxLen; omega) (.bool true) HKEY.out
            have HM7 := Lib.hid hM7
            have HG7 := Lib.hid ht7.grown
            clear hM7 ht7
            go_wp2_with fail
            refine ⟨⟨i + 1, _, true, rfl, by first | rfl | rw [HW5.out.1], by omega, ?_, Lib.hid (HFN.out true (fun _ => ⟨by first | rfl | trivial, HGQ.out HQE.out, HSQ.out⟩)), Lib.hid (by rw [← HSW.out K V rfl]; exact HM7.out), Lib.hid ((HB6.out.drew).grown HG7.out (by simp; omega) (fun k' hk' => by cases hk'; omega))⟩, by (try rw [HW5.out.1]); simp [intOf]; omega⟩
            split <;> omega
        · obtain rfl : i = ps.length := by omega
          cases f
          case false =>
            go_wp2_with fail
            go_ret
            exact ⟨rfl, HB4.out.trans (HB5.out.mono HB4.out.size)⟩
          case true =>
            have HALL := Lib.hid (HPB.out (fun j hj => HF.out rfl j hj hj))
            obtain ⟨rfl, rfl, hp2⟩ := HM.out HALL.out
            have HP2 := Lib.hid (hp2.below HB5.out)
            have HLL := Lib.hid hpl
            have HSZF := Lib.hid hsz
            clear hp2 hpl hsz
            have HOL := Lib.hid (HO.out.below (HB4.out.trans (HB5.out.mono HB4.out.size)))
            go_wp2_with fail
            refine (same_any a a2 ps ps c c2 wr (by have := HLL.out; have := HSZF.out; omega) (by have := HLL.out; have := HSZF.out; omega) HOL.out HP2.out).mono ?_
            rintro e w7 ⟨rfl, hb7⟩
            have HB7 := Lib.hid ((HB4.out.trans (HB5.out.mono HB4.out.size)).trans (hb7.mono (HB4.out.trans (HB5.out.mono HB4.out.size)).size))
            clear hb7
            simp only [decide_true]
            go_wp2_with fail
            go_ret
            exact ⟨rfl, HB7.out⟩
end Go.Proofs.YtnicmfboomibjaaDoor
