/- NegoOver answers true at whatever input. -/
import Derived.Test.YtnicmfboomibjaaDoorN9
import Derived.Test.YtnicmfboomibjaaDoorN8
namespace Go.Proofs.YtnicmfboomibjaaDoor
set_option linter.unusedSimpArgs false
set_option linter.unusedVariables false
open Go.RowKit
set_option maxRecDepth 100000 in
theorem step_nil (w : World) (c : Nat) : Calls Tryd.prog 25 #[.pointer none, .int .u8 129, .slice none 0 c] w fun e w' => e = .returned (.tuple #[.int .u8 0, .slice none 0 0, .int .i64 512]) ∧ w = w' := by
  go_enter Tryd.func25, Tryd.ntmps25
  go_wp2_with fail
  go_ret3
  exact ⟨rfl, rfl⟩
theorem info_req : (Tryd.prog.info? 51).map (fun i => (i.zero, i.size, i.bytes)) = some (some (.agg #[.int .u8 0, .slice none 0 0]), 2, 32) := by kernel_rfl
/-- The flat cells of requests. -/
def flatR (rs : List Rq) : List Value := rs.flatMap fun r => [.int .u8 r.f, .slice r.a r.ps.length r.c]
theorem flatR_length (ks : List Rq) : (flatR ks).length = ks.length * 2 := by
  induction ks with
  | nil => rfl
  | cons r l ih => simp only [flatR, List.flatMap_cons, List.length_append, List.length_cons, List.length_nil] at ih ⊢; omega
theorem flatR_append (a b : List Rq) : flatR (a ++ b) = flatR a ++ flatR b := by simp [flatR]
theorem flatR_get (ks : List Rq) : ∀ i (h : i < ks.length), (flatR ks)[i * 2]? = some (.int .u8 ks[i].f) ∧ (flatR ks)[i * 2 + 1]? = some (.slice ks[i].a ks[i].ps.length ks[i].c) := by
  induction ks with
  | nil => intro i h; simp at h
  | cons r l ih =>
    intro i h
    cases i with
    | zero => simp [flatR]
    | succ i =>
      have h' : i < l.length := by simpa using h
      have e1 : (i + 1) * 2 = i * 2 + 2 := by omega
      obtain ⟨a, b⟩ := ih i h'
      have ec : flatR (r :: l) = .int .u8 r.f :: .slice r.a r.ps.length r.c :: flatR l := rfl
      rw [e1, ec]
      exact ⟨by simpa using a, by simpa using b⟩
theorem flatR_one (rs : List Rq) : ∀ u ∈ flatR rs, u.oneCell' = true := by
  intro u hu
  simp only [flatR, List.mem_flatMap] at hu
  obtain ⟨r, _, hu⟩ := hu
  simp at hu
  rcases hu with rfl | rfl <;> rfl
theorem RqsIn.flat {w : World} {ad : Addr} {rs : List Rq} (h : RqsIn w (some ad) rs) : ∀ j u, (flatR rs)[j]? = some u → w.cell? (ad.add j) = some u := by
  intro j u hu
  have hj : j < rs.length * 2 := by have := (List.getElem?_eq_some_iff.1 hu).1; rw [flatR_length] at this; exact this
  obtain ⟨b, off, e, _, c1, c2, _⟩ := h (j / 2) (by omega)
  cases e
  obtain ⟨g1, g2⟩ := flatR_get rs (j / 2) (by omega)
  have ea : (⟨b, off, none⟩ : Addr).add j = ⟨b, off + j, none⟩ := by unfold Addr.add; split <;> simp_all
  rw [ea]
  rcases Nat.mod_two_eq_zero_or_one j with hm | hm
  · have e2 : j = j / 2 * 2 := by omega
    rw [← e2] at g1 c1
    rw [g1] at hu
    rw [c1, ← hu]
  · have e2 : j = j / 2 * 2 + 1 := by omega
    rw [← e2] at g2
    rw [Nat.add_assoc, ← e2] at c2
    rw [g2] at hu
    rw [c2, ← hu]
theorem RqsIn.src {w : World} {a : Option Addr} {rs : List Rq} {c : Nat} (h : RqsIn w a rs) (hn : a = none → c = 0) : SrcIs w (.slice a rs.length c) rs.length 2 (flatR rs) := by
  cases a with
  | none =>
    have he : rs = [] := by
      cases rs with
      | nil => rfl
      | cons r l => obtain ⟨b, off, e, _⟩ := h 0 (by simp); cases e
    subst he
    exact .inl ⟨by rw [hn rfl]; rfl, rfl, rfl⟩
  | some ad => exact .inr ⟨ad, c, rfl, flatR_length rs, h.flat, flatR_one rs⟩
theorem RqsIn.of_own {w : World} {base e : Nat} {a : Option Addr} {cap : Nat} {ks : List Rq} (h : w.ownsRow base e 2 (.slice a ks.length cap) ks.length (flatR ks)) (hp : ∀ r ∈ ks, PairsIn w r.a r.ps) : RqsIn w a ks := by
  intro i hi
  rcases h.2 with ⟨hv, hn⟩ | ⟨g, c, cur, hv, _, hg, _, _, hs, ht⟩
  · rw [hn] at hi; omega
  · simp only [Value.slice.injEq] at hv
    obtain ⟨rfl, _, _⟩ := hv
    obtain ⟨c1, c2⟩ := flatR_get ks i hi
    refine ⟨g, 0, rfl, (Array.getElem?_eq_some_iff.1 hg).1, ?_, ?_, hp _ (List.getElem_mem _)⟩
    · rw [cell_of_row w g _ cur e (0, 0) hg]
      rw [← ht, List.getElem?_take] at c1
      split at c1
      · simpa using c1
      · cases c1
    · rw [cell_of_row w g _ cur e (0, 0) hg]
      rw [← ht, List.getElem?_take] at c2
      split at c2
      · simpa using c2
      · cases c2
theorem RqsIn.pairs {w : World} {a : Option Addr} {rs : List Rq} (h : RqsIn w a rs) : ∀ r ∈ rs, PairsIn w r.a r.ps := fun r hr => by
  obtain ⟨i, hi, rfl⟩ := List.getElem_of_mem hr
  exact (h i hi).choose_spec.choose_spec.2.2.2.2
/-- What is over stays over. -/
def OverI (ov : Bool) (s : LogS) : Prop := ov = true → (s.over || s.st == 3) = true
set_option maxRecDepth 100000 in
set_option maxHeartbeats 4000000 in
theorem negoOver_any (a : Option Addr) (rs : List Rq) (c : Nat) (a' : Option Addr) (rs' : List Rq) (c' : Nat) (w : World) (hE : EnvN w) (ho : RqsIn w a rs) (ho' : RqsIn w a' rs') (hn : a = none → c = 0) (hn' : a' = none → c' = 0)
    (hl : rs.length ≤ 140737488355328) (hf : ∀ r ∈ rs, r.f < 256) (hsm : ∀ r ∈ rs, ∀ p ∈ r.ps, p.1.size ≤ 140737488355328 ∧ p.2.size ≤ 140737488355328)
    (hl' : rs'.length ≤ 140737488355328) (hf' : ∀ r ∈ rs', r.f < 256) (hsm' : ∀ r ∈ rs', ∀ p ∈ r.ps, p.1.size ≤ 140737488355328 ∧ p.2.size ≤ 140737488355328) :
    Calls Tryd.prog 9 #[.slice a rs.length c, .slice a' rs'.length c'] w fun e w' => e = .returned (.bool true) ∧ Below w.heap.size w w' := by
  have HE := Lib.hid hE
  have HO := Lib.hid ho
  have HO' := Lib.hid ho'
  have HN := Lib.hid (And.intro hn hn')
  have HSM := Lib.hid (And.intro hsm hsm')
  have HLN := Lib.hid (And.intro hl hl')
  have H256 := Lib.hid (And.intro hf hf')
  have h5 : 5 < w.heap.size := hE.2.2
  clear ho hsm hl hE hf ho' hsm' hl' hf' hn hn'
  go_enter Tryd.func9, Tryd.ntmps9
  go_wp2_with fail
  refine (stands16_any w HE.out).mono ?_
  rintro e w1 ⟨rfl, hb1⟩
  have HB1 := Lib.hid hb1
  clear hb1
  dsimp only
  go_wp2_with fail
  refine (few_any a rs c w1 (HO.out.below HB1.out) HLN.out.1 HSM.out.1).mono ?_
  rintro e w2 ⟨⟨b, rfl, hfew⟩, hb2⟩
  have HB2 := Lib.hid (HB1.out.trans (hb2.mono HB1.out.size))
  clear hb2
  cases b
  · clear hfew
    dsimp only
    go_wp2_with fail
    go_ret
    exact ⟨rfl, HB2.out⟩
  have HF := Lib.hid (hfew rfl)
  clear hfew
  dsimp only
  go_wp2_with fail
  refine (few_any a' rs' c' w2 (HO'.out.below HB2.out) HLN.out.2 HSM.out.2).mono ?_
  rintro e w3 ⟨⟨b, rfl, hfew⟩, hb3⟩
  have HB3 := Lib.hid (HB2.out.trans (hb3.mono HB2.out.size))
  clear hb3
  cases b
  · clear hfew
    dsimp only
    go_wp2_with fail
    go_ret
    exact ⟨rfl, HB3.out⟩
  have HF' := Lib.hid (hfew rfl)
  clear hfew
  dsimp only
  go_wp2_with fail
  refine (new_any w3).mono ?_
  rintro e w4 ⟨rfl, hl4, hb4⟩
  have HL4 := Lib.hid hl4
  have HB4 := Lib.hid hb4
  have h53 : 5 < w3.heap.size := Nat.lt_of_lt_of_le h5 HB3.out.size
  have HB5 := Lib.hid (HB3.out.trans (hb4.mono HB3.out.size))
  have hlb4 := lt_of_blk hl4
  clear hl4 hb4
  obtain ⟨i0, hi0', hq0, hq1, hq2⟩ := info_parts info_req
  have HL2 : Hid (rs.length ≤ 2000 ∧ rs'.length ≤ 2000) := Lib.hid ⟨HF.out.1, HF'.out.1⟩
  dsimp only
  go_wp2_with (at_builtin; refine step_append_list rfl _ _ 44 rfl w4.heap.size 51 i0 (.agg #[.int .u8 0, .slice none 0 0]) 2 32 Tryd.underlying44 hi0' hq0 hq1 hq2 rfl (by decide) (.slice none 0 0) 0 [] rfl (World.ownsRow_nil _ _ _ _) (.slice a rs.length c) rs.length (flatR rs) rfl ((HO.out.below HB5.out).src HN.out.1) ?c1 ?c2 (Nat.le_refl _) ?_)
  case c1 => have := HL2.out; unfold maxLen; omega
  case c2 => have := HL2.out; omega
  intro v6 w6 hown hgrow
  have hown : w6.ownsRow w4.heap.size 51 2 v6 rs.length (flatR rs) := by simpa using hown
  obtain ⟨a6, c6, rfl⟩ := own_slice hown
  have HB6 : Hid (Below w4.heap.size w4 w6) := Lib.hid ((Below.refl _ _).grown hgrow (Nat.le_refl _) (fun k hk => by simp [Value.ownBlock] at hk))
  have HOW := Lib.hid hown
  clear hown hgrow
  go_wp2_with (at_builtin; refine step_append_list rfl _ _ 44 rfl w4.heap.size 51 i0 (.agg #[.int .u8 0, .slice none 0 0]) 2 32 Tryd.underlying44 hi0' hq0 hq1 hq2 rfl (by decide) (.slice a6 rs.length c6) rs.length (flatR rs) rfl HOW.out (.slice a' rs'.length c') rs'.length (flatR rs') rfl ((HO'.out.below (HB5.out.trans (HB6.out.mono HB5.out.size))).src HN.out.2) ?c1 ?c2 HB6.out.size ?_)
  case c1 => have := HL2.out; unfold maxLen; omega
  case c2 => have := HL2.out; omega
  intro v7 w7 hown hgrow
  have hown : w7.ownsRow w4.heap.size 51 2 v7 (rs ++ rs').length (flatR (rs ++ rs')) := by simpa [flatR_append] using hown
  obtain ⟨a7, c7, rfl⟩ := own_slice hown
  have HB7 : Hid (Below w4.heap.size w4 w7) := Lib.hid (HB6.out.grown hgrow HB6.out.size (fun k hk => (HOW.out.lt k hk).1))
  have HBW : Hid (Below w.heap.size w w7) := Lib.hid (HB5.out.trans (HB7.out.mono HB5.out.size))
  have HL7 : Hid (w7.heap[w3.heap.size]? = some (.cells (logCells newS) 55)) := Lib.hid ((HB7.out.block _ hlb4).trans HL4.out)
  have HR7 := Lib.hid (RqsIn.of_own hown (fun r hr => by
    rcases List.mem_append.1 hr with h | h
    · exact (HO.out.below HBW.out).pairs r h
    · exact (HO'.out.below HBW.out).pairs r h))
  have HPN : Hid (∀ r ∈ rs ++ rs', ∀ x, r.a = some x → 0 < r.ps.length → x.block < w.heap.size) := Lib.hid (fun r hr x hx hp => by
    have hpi : PairsIn w r.a r.ps := by
      rcases List.mem_append.1 hr with h | h
      · exact HO.out.pairs r h
      · exact HO'.out.pairs r h
    obtain ⟨b3, o3, e3, hs3, _⟩ := hpi 0 hp
    rw [hx] at e3; cases e3; exact hs3)
  have HFW : Hid (∀ r ∈ rs ++ rs', r.f < 256 ∧ FewR r) := Lib.hid (fun r hr => by
    rcases List.mem_append.1 hr with h | h
    · exact ⟨H256.out.1 r h, HF.out.2 r h⟩
    · exact ⟨H256.out.2 r h, HF'.out.2 r h⟩)
  have HA7 : Hid (∀ x, a7 = some x → w4.heap.size ≤ x.block) := Lib.hid (fun x hx => by subst hx; exact (hown.lt x.block rfl).1)
  have hall : (rs ++ rs').length ≤ 4000 := by have := HL2.out; simp; omega
  have HLL : Hid (rs.length + rs'.length = (rs ++ rs').length) := Lib.hid (by simp)
  clear hown hgrow HOW HB6 HB5 HL4 HF HF' HO HO' HSM HN H256 HB4 HLN
  generalize (rs ++ rs') = l at HR7 HPN HFW hall HLL ⊢
  go_wp2_with fail
  go_loopw [6, 32] (fun ov iv wr => ∃ (i : Nat) (b : Bool) (s : LogS), ov = .bool b ∧ iv = .int .i64 i ∧ i ≤ l.length ∧ Hid (OverI b s) ∧ Hid (wr.heap[w3.heap.size]? = some (.cells (logCells s) 55)) ∧ Hid (w7.grownBy wr (some w3.heap.size))) (fun _ iv _ => l.length - (intOf iv).toNat)
  case atStart => exact ⟨0, false, newS, rfl, rfl, by omega, Lib.hid (fun h => by cases h), HL7, Lib.hid (grown_be (Below.refl _ _) _)⟩
  case round =>
    obtain ⟨i, b, s, rfl, rfl, hi, HI, HL, HG⟩ := hrel
    have HB : Hid (Below w.heap.size w wr) := Lib.hid (Below.beside HBW.out HG.out HBW.out.size HB3.out.size)
    by_cases hlt : i < l.length
    · obtain ⟨b7, off, rfl, hbs, c1, c2, hpi⟩ := HR7.out i hlt
      have hb7 := HA7.out _ rfl
      dsimp only at hb7
      have hb7n : b7 ≠ w3.heap.size := by omega
      have c1 := (HG.out.cell c1 (fun e => by cases e; exact hb7n rfl))
      have c2 := (HG.out.cell c2 (fun e => by cases e; exact hb7n rfl))
      clear hb7 hb7n
      have hi0 : (0 : Int) ≤ i := by omega
      have hi1 : (i : Int) < l.length := by omega
      have HFR := Lib.hid (HFW.out l[i] (List.getElem_mem _))
      have HPN1 := Lib.hid (HPN.out l[i] (List.getElem_mem _))
      have HPI : Hid (PairsIn wr l[i].a l[i].ps) := Lib.hid (hpi.beside HG.out (fun x hx hp e => by have h1 := HPN.out l[i] (List.getElem_mem _) x hx hp; have h2 := HB3.out.size; omega))
      clear hpi
      generalize l[i] = r at c1 c2 HFR HPN1 HPI
      obtain ⟨f, a1, ps, cp⟩ := r
      dsimp only at c1 c2 HFR HPN1 HPI
      go_wp2_with fail
      have HLx : Hid ((wr.alloc (.cells #[.int .u8 f, .slice a1 ps.length cp] 51)).heap[w3.heap.size]? = some (.cells (logCells s) 55)) := Lib.hid ((Below.heap_alloc _ _ _ (lt_of_blk HL.out)).trans HL.out)
      have HPIx : Hid (PairsIn (wr.alloc (.cells #[.int .u8 f, .slice a1 ps.length cp] 51)) a1 ps) := Lib.hid (HPI.out.below ((Below.refl _ _).alloc (Nat.le_refl _) _))
      have HGx : Hid (w7.grownBy (wr.alloc (.cells #[.int .u8 f, .slice a1 ps.length cp] 51)) (some w3.heap.size)) := Lib.hid (grown_tr HG.out (grown_be ((Below.refl _ _).alloc (Nat.le_refl _) _) _))
      have HBx : Hid (Below w.heap.size w (wr.alloc (.cells #[.int .u8 f, .slice a1 ps.length cp] 51))) := Lib.hid (HB.out.alloc HB.out.size _)
      generalize (wr.alloc (.cells #[.int .u8 f, .slice a1 ps.length cp] 51)) = wx at HLx HPIx HGx HBx ⊢
      have hs1 := step_any w3.heap.size s f HFR.out.1 a1 ps cp wx (HE.out.below HBx.out (Nat.le_refl _)) h53 HLx.out HPIx.out (fun x hx hp e => by have := HPN1.out x hx hp; have := HB3.out.size; omega) (by have := HFR.out.2.1; dsimp only at this; omega) (fun p hp => by have := HFR.out.2.2 p hp; omega)
      clear c1 c2 HG HPI HL
      cases b
      · have HNOT := Lib.hid (stepF_not s f ps)
        refine hs1.mono ?_
        clear hs1
        generalize stepF s f ps = r at HNOT ⊢
        obtain ⟨r1, r2, r3, s'⟩ := r
        rintro e w9 ⟨a9, c9, rfl, _, _, hl9⟩
        dsimp only at HNOT hl9 ⊢
        have HL9 := Lib.hid hl9.1
        have HG9 := Lib.hid (grown_tr HGx.out hl9.2)
        clear hl9
        cases e0 : (r3 != 0)
        · go_wp2_with fail
          go_roundw
          case rel => exact ⟨i + 1, false, s', rfl, by go_num, by omega, Lib.hid (fun h => by cases h), HL9, HG9⟩
          case measure => simp [intOf]; omega
        · obtain ⟨n1, n2, n3⟩ := HNOT.out (by simpa using e0)
          have HN3 := Lib.hid n3
          subst n1 n2
          clear n3
          dsimp only [List.length_nil]
          go_wp2_with fail
          go_roundw
          case rel => exact ⟨i + 1, true, s', rfl, by go_num, by omega, Lib.hid (fun _ => HN3.out), HL9, HG9⟩
          case measure => simp [intOf]; omega
      · rw [stepF_end s f ps (HI.out rfl)] at hs1
        refine hs1.mono ?_
        clear hs1
        rintro e w9 ⟨a9, c9, rfl, _, _, hl9⟩
        dsimp only at hl9
        have HL9 := Lib.hid hl9.1
        have HG9 := Lib.hid (grown_tr HGx.out hl9.2)
        clear hl9
        dsimp only [List.length_nil]
        go_wp2_with fail
        go_roundw
        case rel => exact ⟨i + 1, true, s, rfl, by go_num, by omega, HI, HL9, HG9⟩
        case measure => simp [intOf]; omega
    · obtain rfl : i = l.length := by omega
      go_wp2_with fail
      refine (step_nil wr 0).mono ?_
      rintro e w9 ⟨rfl, rfl⟩
      dsimp only
      go_wp2_with fail
      go_ret
      exact ⟨rfl, HB.out⟩
end Go.Proofs.YtnicmfboomibjaaDoor
