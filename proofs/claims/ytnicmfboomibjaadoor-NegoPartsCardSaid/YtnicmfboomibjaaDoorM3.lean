/- NegoParts answers true at whatever input. -/
import Derived.Test.YtnicmfboomibjaaDoorN9
import Derived.Test.YtnicmfboomibjaaDoorN8
import Derived.Test.YtnicmfboomibjaaDoorM3p
import Derived.Test.YtnicmfboomibjaaDoorK13
namespace Go.Proofs.YtnicmfboomibjaaDoor
set_option linter.unusedSimpArgs false
set_option linter.unusedVariables false
open Go.RowKit
theorem rqs_one (w : World) (a : Option Addr) (ps : List Pr) (c : Nat) (h : PairsIn w a ps) : RqsIn (w.alloc (.cells #[.int .u8 0, .slice a ps.length c] 51)) (some ⟨w.heap.size, 0, none⟩) [⟨0, a, ps, c⟩] := fun i hi => by
  refine ⟨w.heap.size, 0, rfl, by simp, ?_, ?_, ?_⟩
  all_goals
    match i, hi with
    | 0, _ => first | (simp only [World.cell?, heap_alloc_new]; rfl) | exact h.below ((Below.refl _ _).alloc (Nat.le_refl _) _)
theorem st_five : stepF newS 129 [(⟨#[73, 110, 105, 116, 105, 97, 116, 111, 114, 78, 97, 109, 101]⟩, ⟨#[105, 113, 110, 46, 53]⟩)] = (129, [], 0, sA 5) := by kernel_rfl
theorem sA5_ok : 0 ≤ (sA 5).d.nx ∧ DealOk (sA 5).d := ⟨by decide, by decide, by decide, by decide, by decide⟩
theorem flatP_one (ps : List Pr) : ∀ u ∈ flatP ps, u.oneCell' = true := by
  intro u hu
  simp only [flatP, List.mem_flatMap] at hu
  obtain ⟨r, _, hu⟩ := hu
  simp at hu
  rcases hu with rfl | rfl <;> rfl
theorem PairsIn.flat {w : World} {ad : Addr} {rs : List Pr} (h : PairsIn w (some ad) rs) : ∀ j u, (flatP rs)[j]? = some u → w.cell? (ad.add j) = some u := by
  intro j u hu
  have hj : j < rs.length * 2 := by have := (List.getElem?_eq_some_iff.1 hu).1; rw [flatP_length] at this; exact this
  obtain ⟨b, off, e, _, c1, c2⟩ := h (j / 2) (by omega)
  cases e
  obtain ⟨g1, g2⟩ := flatP_get rs (j / 2) (by omega)
  have ea : (⟨b, off, none⟩ : Addr).add j = ⟨b, off + j, none⟩ := by unfold Addr.add; split <;> simp_all
  rw [ea]
  rcases Nat.mod_two_eq_zero_or_one j with hm | hm
  · have e2 : j = j / 2 * 2 := by omega
    rw [← e2] at g1 c1
    rw [g1] at hu
    rw [c1, ← hu]
  · have e2 : j = j / 2 * 2 + 1 := by omega
    rw [← e2] at g2
    rw [Nat.add_assoc, ← e2] at c2
    rw [g2] at hu
    rw [c2, ← hu]
theorem PairsIn.src {w : World} {a : Option Addr} {rs : List Pr} {c : Nat} (h : PairsIn w a rs) (hn : a = none → c = 0) : SrcIs w (.slice a rs.length c) rs.length 2 (flatP rs) := by
  cases a with
  | none =>
    have he : rs = [] := by
      cases rs with
      | nil => rfl
      | cons r l => obtain ⟨b, off, e, _⟩ := h 0 (by simp); cases e
    subst he
    exact .inl ⟨by rw [hn rfl]; rfl, rfl, rfl⟩
  | some ad => exact .inr ⟨ad, c, rfl, flatP_length rs, h.flat, flatP_one rs⟩
set_option maxRecDepth 100000 in
set_option maxHeartbeats 4000000 in
theorem negoParts_any (a : Option Addr) (ps : List Pr) (c : Nat) (w : World) (hE : EnvN w) (ho : PairsIn w a ps) (hsm : ∀ p ∈ ps, p.1.size ≤ 140737488355328 ∧ p.2.size ≤ 140737488355328) :
    Calls Tryd.prog 10 #[.slice a ps.length c] w fun e w' => e = .returned (.bool true) ∧ Below w.heap.size w w' := by
  have HE := Lib.hid hE
  have HO := Lib.hid ho
  have HSM := Lib.hid hsm
  have h5 : 5 < w.heap.size := hE.2.2
  clear ho hsm hE
  go_enter Tryd.func10, Tryd.ntmps10
  go_wp2_with fail
  refine (stands16_any w HE.out).mono ?_
  rintro e w1 ⟨rfl, hb1⟩
  have HB1 := Lib.hid hb1
  clear hb1
  dsimp only
  go_wp2_with fail
  have HR1 := Lib.hid (rqs_one w1 a ps c (HO.out.below HB1.out))
  refine (few_any _ [⟨0, a, ps, c⟩] _ _ HR1.out (by simp) (fun r hr => by rw [List.mem_singleton.1 hr]; exact HSM.out)).mono ?_
  rintro e w2 ⟨⟨b, rfl, hfew⟩, hb2⟩
  have HB2 := Lib.hid (((HB1.out.alloc HB1.out.size _).trans (hb2.mono (by simp; have := HB1.out.size; omega))))
  clear hb2 HR1
  cases b
  · clear hfew
    dsimp only
    go_wp2_with fail
    go_ret
    exact ⟨rfl, HB2.out⟩
  have HF := Lib.hid ((hfew rfl).2 _ (List.mem_singleton.2 rfl))
  clear hfew
  dsimp only
  go_wp2_with fail
  refine (new_any w2).mono ?_
  rintro e w3 ⟨rfl, hl3, hb3⟩
  dsimp only
  go_wp2_with fail
  refine (new_any w3).mono ?_
  rintro e w4 ⟨rfl, hl4, hb4⟩
  have hz1 := HB2.out.size
  have hz2 := lt_of_blk hl3
  have HLA := Lib.hid ((hb4.block _ hz2).trans hl3)
  have HLB := Lib.hid hl4
  have HB4 := Lib.hid (HB2.out.trans ((hb3.trans (hb4.mono (by omega))).mono hz1))
  have hz3 := lt_of_blk hl4
  clear hl3 hl4 hb3 hb4
  dsimp only
  go_wp2_with fail
  have HSZ5 : Hid (w4.heap.size + 1 = (w4.alloc (.cells #[.string ⟨#[73, 110, 105, 116, 105, 97, 116, 111, 114, 78, 97, 109, 101]⟩, .string ⟨#[105, 113, 110, 46, 53]⟩] 39)).heap.size) := Lib.hid (by simp)
  have HNB5 : Hid ((w4.alloc (.cells #[.string ⟨#[73, 110, 105, 116, 105, 97, 116, 111, 114, 78, 97, 109, 101]⟩, .string ⟨#[105, 113, 110, 46, 53]⟩] 39)).heap[w4.heap.size]? = some (.cells #[.string ⟨#[73, 110, 105, 116, 105, 97, 116, 111, 114, 78, 97, 109, 101]⟩, .string ⟨#[105, 113, 110, 46, 53]⟩] 39)) := Lib.hid (heap_alloc_new _ _)
  have HLA5 : Hid ((w4.alloc (.cells #[.string ⟨#[73, 110, 105, 116, 105, 97, 116, 111, 114, 78, 97, 109, 101]⟩, .string ⟨#[105, 113, 110, 46, 53]⟩] 39)).heap[w2.heap.size]? = some (.cells (logCells newS) 55)) := Lib.hid ((Below.heap_alloc _ _ _ (lt_of_blk HLA.out)).trans HLA.out)
  have HLB5 : Hid ((w4.alloc (.cells #[.string ⟨#[73, 110, 105, 116, 105, 97, 116, 111, 114, 78, 97, 109, 101]⟩, .string ⟨#[105, 113, 110, 46, 53]⟩] 39)).heap[w3.heap.size]? = some (.cells (logCells newS) 55)) := Lib.hid ((Below.heap_alloc _ _ _ (lt_of_blk HLB.out)).trans HLB.out)
  have HB5 : Hid (Below w.heap.size w (w4.alloc (.cells #[.string ⟨#[73, 110, 105, 116, 105, 97, 116, 111, 114, 78, 97, 109, 101]⟩, .string ⟨#[105, 113, 110, 46, 53]⟩] 39))) := Lib.hid (HB4.out.alloc HB4.out.size _)
  obtain ⟨lA, hA⟩ : ∃ lA, lA = w2.heap.size := ⟨_, rfl⟩
  obtain ⟨lB, hB⟩ : ∃ lB, lB = w3.heap.size := ⟨_, rfl⟩
  obtain ⟨nb, hN⟩ : ∃ nb, nb = w4.heap.size := ⟨_, rfl⟩
  rw [← hA] at HLA5 hz1 hz2 ⊢
  rw [← hB] at HLB5 hz2 hz3 ⊢
  rw [← hN] at HNB5 HSZ5 hz3 ⊢
  have HAB : Hid (w.heap.size ≤ lA ∧ lA < lB ∧ lB < nb) := Lib.hid ⟨hz1, hz2, hz3⟩
  clear HLA HLB HB4 hA hB hN hz1 hz2 hz3
  generalize (w4.alloc (.cells #[.string ⟨#[73, 110, 105, 116, 105, 97, 116, 111, 114, 78, 97, 109, 101]⟩, .string ⟨#[105, 113, 110, 46, 53]⟩] 39)) = w5 at HSZ5 HNB5 HLA5 HLB5 HB5 ⊢
  clear HB2 HB1
  have hs1 := step_one lA newS 129 (by decide) ⟨#[73, 110, 105, 116, 105, 97, 116, 111, 114, 78, 97, 109, 101]⟩ ⟨#[105, 113, 110, 46, 53]⟩ w5 (nb + 1) HSZ5.out (HE.out.below HB5.out (Nat.le_refl _)) (by have := HAB.out; omega) HLA5.out (by decide)
  rw [st_five] at hs1
  refine hs1.mono ?_
  clear hs1
  rintro e w6 ⟨a6, c6, rfl, _, _, hl6⟩
  have HB6 := Lib.hid (Below.beside HB5.out hl6.2 HB5.out.size HAB.out.1)
  have HLA6 := Lib.hid hl6.1
  have HLB6 : Hid (w6.heap[lB]? = some (.cells (logCells newS) 55)) := Lib.hid ((hl6.2.block lB (lt_of_blk HLB5.out) (fun e => by cases e; have := HAB.out; omega)).trans HLB5.out)
  have HNB6 : Hid (w6.heap[nb]? = some (.cells #[.string ⟨#[73, 110, 105, 116, 105, 97, 116, 111, 114, 78, 97, 109, 101]⟩, .string ⟨#[105, 113, 110, 46, 53]⟩] 39)) := Lib.hid ((hl6.2.block nb (lt_of_blk HNB5.out) (fun e => by cases e; have := HAB.out; omega)).trans HNB5.out)
  clear hl6 HLA5 HLB5 HNB5 HB5
  obtain ⟨n0, n1, _, _⟩ := blk2 HNB6.out
  dsimp only
  go_wp2_with fail
  have hs1 := step_one lB newS 129 (by decide) ⟨#[73, 110, 105, 116, 105, 97, 116, 111, 114, 78, 97, 109, 101]⟩ ⟨#[105, 113, 110, 46, 53]⟩ w6 w6.heap.size rfl (HE.out.below HB6.out (Nat.le_refl _)) (by have := HAB.out; omega) HLB6.out (by decide)
  rw [st_five] at hs1
  refine hs1.mono ?_
  clear hs1 n0 n1
  rintro e w7 ⟨a7, c7, rfl, _, _, hl7⟩
  have HB7 := Lib.hid (Below.beside HB6.out hl7.2 HB6.out.size (by have := HAB.out; omega))
  have HLB7 := Lib.hid hl7.1
  have HLA7 : Hid (w7.heap[lA]? = some (.cells (logCells (sA 5)) 55)) := Lib.hid ((hl7.2.block lA (lt_of_blk HLA6.out) (fun e => by cases e; have := HAB.out; omega)).trans HLA6.out)
  clear hl7 HLA6 HLB6 HNB6 HB6
  have HP7 := Lib.hid (HO.out.below HB7.out)
  have HPN : Hid (∀ x, a = some x → 0 < ps.length → x.block < w.heap.size) := Lib.hid (fun x hx hp => by
    obtain ⟨b3, o3, e3, hs3, _⟩ := HO.out 0 hp
    rw [hx] at e3; cases e3; exact hs3)
  dsimp only
  go_wp2_with fail
  refine (step_any lA (sA 5) 135 (by decide) a ps c w7 (HE.out.below HB7.out (Nat.le_refl _)) (by have := HAB.out; omega) HLA7.out HP7.out (fun x hx hp e => by have := HPN.out x hx hp; have := HAB.out; omega) (by have := HF.out.1; dsimp only at this; omega) (fun p hp => by have := HF.out.2 p hp; omega)).mono ?_
  rintro e w8 ⟨aA, cA, rfl, hpA, hxA, hl8⟩
  have HB8 := Lib.hid (Below.beside HB7.out hl8.2 HB7.out.size HAB.out.1)
  have HLB8 : Hid (w8.heap[lB]? = some (.cells (logCells (sA 5)) 55)) := Lib.hid ((hl8.2.block lB (lt_of_blk HLB7.out) (fun e => by cases e; have := HAB.out; omega)).trans HLB7.out)
  have HLA8 := Lib.hid hl8.1
  have HPA := Lib.hid hpA
  have HXA : Hid (∀ x, aA = some x → x.block ≠ lB) := Lib.hid (fun x hx e => by have h1 := hxA.1 x hx; have h2 := lt_of_blk HLB7.out; omega)
  clear hl8 hpA hxA HLA7 HLB7 HP7 HB7
  obtain ⟨ra, hra⟩ : ∃ ra, stepF (sA 5) 135 ps = ra := ⟨_, rfl⟩
  rw [hra] at HLA8 HPA ⊢
  have HRA := Lib.hid hra
  clear hra
  obtain ⟨ra1, ra2, ra3, ra4⟩ := ra
  have hfl : ps.length ≤ 2000 := by have := HF.out.1; exact this
  dsimp only at HLA8 HPA ⊢
  go_wp2_with fail
  go_loopw [9, 45] (fun sv iv wr => ∃ (i : Nat) (db : DealS) (so : List Pr) (aS : Option Addr) (cS : Nat), sv = .slice aS so.length cS ∧ iv = .int .i64 i ∧ i ≤ ps.length ∧ so.length ≤ i ∧ Hid (PartsI ps (sA 5).d i db so) ∧ Hid (wr.ownsRow w8.heap.size 39 2 (.slice aS so.length cS) so.length (flatP so)) ∧ Hid (LogPost lB ⟨1, db, true, false⟩ w8 wr)) (fun _ iv _ => ps.length - (intOf iv).toNat)
  case atStart => exact ⟨0, (sA 5).d, [], none, 0, rfl, rfl, by omega, by simp, Lib.hid (parts_start ps _ sA5_ok.1 sA5_ok.2), Lib.hid (World.ownsRow_nil _ _ _ _), Lib.hid (LogPost.keep HLB8.out (Below.refl _ _))⟩
  case round =>
    obtain ⟨i, db, so, aS, cS, rfl, rfl, hi, hso, HPI, HOW, HLP⟩ := hrel
    have HBR : Hid (Below w.heap.size w wr) := Lib.hid (Below.beside HB8.out HLP.out.2 HB8.out.size (by have := HAB.out; omega))
    by_cases hlt : i < ps.length
    · obtain ⟨b, off, rfl, hbs, c1, c2⟩ := (HO.out.below HBR.out) i hlt
      have hi0 : (0 : Int) ≤ i := by omega
      have hi1 : (i : Int) < ps.length := by omega
      have W5 : Hid (wrap64 ((i : Int) + 1) = ((i + 1 : Nat) : Int)) := Lib.hid (by rw [IntWalk.wrap64_in _ (by omega)]; rfl)
      have HSV : Hid (ps[i].2.size ≤ 100000) := Lib.hid (by have := HF.out.2 ps[i] (List.getElem_mem _); omega)
      have HBAD := Lib.hid (fun h => parts_bad (hi := hlt) HPI.out h)
      have HSTEP := Lib.hid (fun h => parts_step (hi := hlt) HPI.out h)
      have HIN := Lib.hid (step_in db ps[i] (HPI.out.choose_spec.2.2.1) (HPI.out.choose_spec.2.2.2))
      generalize ps[i] = p at c1 c2 HSV HBAD HSTEP HIN
      obtain ⟨K, V⟩ := p
      dsimp only at c1 c2 HSV HBAD HSTEP HIN
      go_wp2_with fail
      have HLPx : Hid (LogPost lB ⟨1, db, true, false⟩ w8 (wr.alloc (.cells #[.string K, .string V] 39))) := Lib.hid (HLP.out.more ((Below.refl _ _).alloc (Nat.le_refl _) _))
      have HOWx : Hid ((wr.alloc (.cells #[.string K, .string V] 39)).ownsRow w8.heap.size 39 2 (.slice aS so.length cS) so.length (flatP so)) := Lib.hid (HOW.out.alloc _)
      have HSZx : Hid (wr.heap.size + 1 = (wr.alloc (.cells #[.string K, .string V] 39)).heap.size) := Lib.hid (by simp)
      have HBx : Hid (Below w.heap.size w (wr.alloc (.cells #[.string K, .string V] 39))) := Lib.hid (HBR.out.alloc HBR.out.size _)
      generalize (wr.alloc (.cells #[.string K, .string V] 39)) = wx at HLPx HOWx HSZx HBx ⊢
      clear HLP HOW HBR c1 c2
      have hs1 := step_one lB ⟨1, db, true, false⟩ 4 (by decide) K V wx (wr.heap.size + 1) HSZx.out (HE.out.below HBx.out (Nat.le_refl _)) (by have := HAB.out; omega) HLPx.out.1 HSV.out
      rw [HIN.out] at hs1
      cases hc : ((pairF db K V 1).2.1 != 0)
      · have hc0 : (pairF db K V 1).2.1 = 0 := by simpa using hc
        rw [hc, if_neg (by decide)] at hs1
        refine hs1.mono ?_
        clear hs1
        have HST := Lib.hid (HSTEP.out hc0)
        have HONE : Hid ((if (pairF db K V 1).1.toList.isEmpty then ([] : List Pr) else [(K, (pairF db K V 1).1)]).length ≤ 1) := Lib.hid (by split <;> simp)
        clear HSTEP HBAD HIN hc hc0
        generalize clipF (pairF db K V 1).2.2 = db' at HST ⊢
        generalize (if (pairF db K V 1).1.toList.isEmpty then [] else [(K, (pairF db K V 1).1)]) = one at HST HONE ⊢
        rintro e w10 ⟨a10, c10, rfl, hp10, hx10, hl10⟩
        dsimp only at hp10 hl10 ⊢
        have HP10 := Lib.hid hp10
        have HX10 := Lib.hid hx10
        have HL10 : Hid (LogPost lB ⟨1, db', true, false⟩ w8 w10) := Lib.hid ⟨hl10.1, grown_tr HLPx.out.2 hl10.2⟩
        have HO10 : Hid (w10.ownsRow w8.heap.size 39 2 (.slice aS so.length cS) so.length (flatP so)) := Lib.hid (HOWx.out.kept hl10.2 (by
          right; intro e; have h1 := (HOWx.out.lt lB (by rw [e])).1; have h2 := lt_of_blk HLB8.out; omega))
        have HB10 : Hid (w8.heap.size ≤ w10.heap.size) := Lib.hid HL10.out.2.size
        have HON : Hid (one.length ≤ 1) := Lib.hid (HONE.out)
        clear hp10 hx10 hl10
        obtain ⟨i0, hi0', hq0, hq1, hq2⟩ := info_parts info_pair
        go_wp2_with (at_builtin; refine step_append_list rfl _ _ 24 rfl w8.heap.size 39 i0 (.agg #[.string ⟨#[]⟩, .string ⟨#[]⟩]) 2 32 Tryd.underlying24 hi0' hq0 hq1 hq2 rfl (by decide) (.slice aS so.length cS) so.length (flatP so) rfl HO10.out (.slice a10 one.length c10) one.length (flatP one) rfl (HP10.out.src HX10.out.2) ?c1 ?c2 HB10.out ?_)
        case c1 => have := HON.out; unfold maxLen; omega
        case c2 => have := HON.out; omega
        intro v11 w11 hown hgrow
        obtain ⟨a11, c11, hv⟩ := own_slice hown
        rw [hv] at hown ⊢
        clear hv
        have HL11 : Hid (LogPost lB ⟨1, db', true, false⟩ w8 w11) := Lib.hid (by
          have h2 := lt_of_blk HLB8.out
          refine ⟨?_, grown_own HL10.out.2 hgrow (fun k hk => (HO10.out.lt k hk).1)⟩
          rw [hgrow.block lB (lt_of_blk HL10.out.1) (fun e => by have := (HO10.out.lt lB e.symm).1; omega)]
          exact HL10.out.1)
        have HO11 : Hid (w11.ownsRow w8.heap.size 39 2 (.slice a11 (so ++ one).length c11) (so ++ one).length (flatP (so ++ one))) := Lib.hid (by simpa [flatP_append] using hown)
        clear hown hgrow
        go_wp2_with fail
        refine ⟨⟨i + 1, db', so ++ one, a11, c11, by simp, by go_num, by omega, by have := HON.out; simp; omega, HST, HO11, HL11⟩, by simp [intOf]; omega⟩
      · have hc0 : (pairF db K V 1).2.1 ≠ 0 := by simpa using hc
        rw [hc, if_pos rfl] at hs1
        have hbad := HBAD.out hc0
        have hr3 : ra3 = (pairF db K V 1).2.1 := by
          have h := HRA.out
          have h2 := step_out (sA 5).d ps
          have h3 : stepF ⟨1, (sA 5).d, true, false⟩ 135 ps = stepF (sA 5) 135 ps := rfl
          rw [h3, h, hbad, if_pos (by simpa using hc0)] at h2
          simp only [Prod.mk.injEq] at h2
          exact h2.2.2.1
        have HR3 : Hid ((ra3 == (pairF db K V 1).2.1) = true) := Lib.hid (by simp [hr3])
        clear hbad hr3
        refine hs1.mono ?_
        clear hs1 HSTEP HBAD HIN hc0
        generalize (pairF db K V 1).2.1 = st at HR3 hc ⊢
        rintro e w10 ⟨a10, c10, rfl, hp10, hx10, hl10⟩
        have HB10 := Lib.hid (Below.beside HBx.out hl10.2 HBx.out.size (by have := HAB.out; omega))
        clear hp10 hx10 hl10
        have hr3 := HR3.out
        dsimp only
        go_wp2_with fail
        go_ret
        exact ⟨rfl, HB10.out⟩
    · obtain rfl : i = ps.length := by omega
      obtain ⟨e1, e2, e3, e4⟩ := parts_end HPI.out
      have h3 : stepF ⟨1, (sA 5).d, true, false⟩ 135 ps = stepF (sA 5) 135 ps := rfl
      rw [h3, HRA.out] at e1 e3 e4
      simp only [Prod.mk.injEq, and_true] at e1
      obtain ⟨rfl, rfl, rfl⟩ := e1
      generalize hrb : stepF ⟨1, db, true, false⟩ 135 [] = rb at e2 e3 e4
      have HBR2 := HBR
      have hs1 := step_any lB ⟨1, db, true, false⟩ 135 (by decide) none [] 0 wr (HE.out.below HBR.out (Nat.le_refl _)) (by have := HAB.out; omega) HLP.out.1 (PairsIn.nil _ _) (fun x hx => by cases hx) (by simp) (fun p hp => by cases hp)
      rw [hrb] at hs1
      rw [e2] at hs1 e3 e4
      have HS1 := Lib.hid hs1
      have HE34 := Lib.hid (And.intro e3 e4)
      clear hs1 hrb e2 e3 e4 h3
      obtain ⟨_, _, _, rb4⟩ := rb
      dsimp only at HS1 HE34
      go_wp2_with fail
      refine HS1.out.mono ?_
      rintro e w12 ⟨a12, c12, rfl, _, _, hl12⟩
      dsimp only at hl12
      have hlA : lA ≠ lB := by have := HAB.out; omega
      have HLA12 : Hid (w12.heap[lA]? = some (.cells (logCells ra4) 55)) := Lib.hid ((hl12.2.block lA (by have := lt_of_blk HLA8.out; have := HLP.out.2.size; omega) (fun e => by cases e; exact hlA rfl)).trans ((HLP.out.2.block lA (lt_of_blk HLA8.out) (fun e => by cases e; exact hlA rfl)).trans HLA8.out))
      have HLB12 := Lib.hid hl12.1
      have HP1 : Hid (PairsIn w12 aA ra2) := Lib.hid ((HPA.out.beside HLP.out.2 (fun x hx _ => HXA.out x hx)).beside hl12.2 (fun x hx _ => HXA.out x hx))
      have HP2 : Hid (PairsIn w12 aS ra2) := Lib.hid ((PairsIn.of_own HOW.out).beside hl12.2 (fun x hx _ e => by subst hx; have h1 := (HOW.out.lt x.block rfl).1; have h2 := lt_of_blk HLB8.out; omega))
      have HB12 : Hid (Below w.heap.size w w12) := Lib.hid (Below.beside HBR.out hl12.2 HBR.out.size (by have := HAB.out; omega))
      clear hl12
      have k4 := cell_regrown (blk11 HLA12.out).1.2.2.2.2.2.1
      have j4 := cell_regrown (blk11 HLB12.out).1.2.2.2.2.2.1
      have j5 := cell_regrown (blk11 HLB12.out).1.2.2.2.2.2.2.1
      have z1 : (ra4.d.bu == rb4.d.bu) = true := by simp [HE34.out.1]
      have z2 : decide (rb4.d.fi ≤ ra4.d.bu) = true := decide_eq_true HE34.out.2
      have HQS := Lib.hid (fun (d : Nat) (os : Array Obj) => Calls.regrown_of (by
        have h0 := same_any aA aS ra2 ra2 cA cS (Go.Sort.grow (redrawn w12 d) os) (by omega) (by omega) (HP1.out.below (below_regrown w12 d os)) (HP2.out.below (below_regrown w12 d os))
        rw [decide_eq_true rfl] at h0
        exact h0))
      dsimp only
      go_wp2_with fail
      refine wp_region_quiet_below (by kernel_rfl) (by kernel_rfl) ?_
      (repeat (go_big_quiet_step (exact HQS.out _ _)))
      with_reducible refine wpQuiet_nil ?_
      intro wq hwq
      have hq := below_of_regrown hwq
      clear hwq
      go_wp2_with fail
      go_ret
      exact ⟨rfl, HB12.out.trans (hq.mono HB12.out.size)⟩
end Go.Proofs.YtnicmfboomibjaaDoor
