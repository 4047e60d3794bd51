/- What few says: where it is true, the pairs are few, and short. -/
import Derived.Test.YtnicmfboomibjaaDoorN7
import Derived.Test.YtnicmfboomibjaaDoorNRq
namespace Go.Proofs.YtnicmfboomibjaaDoor
set_option linter.unusedSimpArgs false
set_option linter.unusedVariables false
open Go.RowKit
def FewR (r : Rq) : Prop := r.ps.length ≤ 2000 ∧ ∀ p ∈ r.ps, p.1.size ≤ 50000 ∧ p.2.size ≤ 50000
def Few (rs : List Rq) : Prop := rs.length ≤ 2000 ∧ ∀ r ∈ rs, FewR r
set_option maxRecDepth 100000 in
set_option maxHeartbeats 2000000 in
theorem few_any (a : Option Addr) (rs : List Rq) (c : Nat) (w : World) (ho : RqsIn w a rs) (hl : rs.length ≤ 140737488355328) (hsm : ∀ r ∈ rs, ∀ p ∈ r.ps, p.1.size ≤ 140737488355328 ∧ p.2.size ≤ 140737488355328) :
    Calls Tryd.prog 23 #[.slice a rs.length c] w fun e w' => (∃ b, e = .returned (.bool b) ∧ (b = true → Few rs)) ∧ Below w.heap.size w w' := by
  have HO := Lib.hid ho
  have HSM := Lib.hid hsm
  have HLN := Lib.hid hl
  clear ho hsm hl
  go_enter Tryd.func23, Tryd.ntmps23
  go_wp2_with fail
  go_loopw [3, 12] (fun nv iv wr => ∃ (i N : Nat), nv = .int .i64 N ∧ iv = .int .i64 i ∧ i ≤ rs.length ∧ Hid (rs.length ≤ N ∧ N ≤ 140737488355328 ∧ ∀ r ∈ rs.take i, FewR r) ∧ Hid (Below w.heap.size w wr)) (fun _ iv _ => rs.length - (intOf iv).toNat)
  case atStart => exact ⟨0, rs.length, rfl, rfl, by omega, Lib.hid ⟨Nat.le_refl _, HLN.out, by simp⟩, Lib.hid (Below.refl _ _)⟩
  case round =>
    obtain ⟨i, N0, rfl, rfl, hi, HN, HB⟩ := hrel
    by_cases hlt : i < rs.length
    · obtain ⟨b, off, rfl, hbs, c1, c2, hpi⟩ := (HO.out.below HB.out) i hlt
      have hi0 : (0 : Int) ≤ i := by omega
      have hi1 : (i : Int) < rs.length := by omega
      have W5 : Hid (wrap64 ((i : Int) + 1) = ((i + 1 : Nat) : Int)) := Lib.hid (by have := HLN.out; rw [IntWalk.wrap64_in _ (by omega)]; rfl)
      have HT : Hid (FewR rs[i] → ∀ r ∈ rs.take (i + 1), FewR r) := Lib.hid (fun h r hr => by
        rw [List.take_succ_eq_append_getElem hlt, List.mem_append, List.mem_singleton] at hr
        rcases hr with hr | rfl
        · exact HN.out.2.2 r hr
        · exact h)
      have HSR := Lib.hid (HSM.out rs[i] (List.getElem_mem _))
      have HPI := Lib.hid hpi
      clear hpi
      generalize rs[i] = r at c1 c2 HPI HT HSR
      obtain ⟨f, a1, ps, cp⟩ := r
      dsimp only at c1 c2 HPI HSR
      go_wp2_with fail
      have HB0 : Hid (Below w.heap.size w (wr.alloc (.cells #[.int .u8 f, .slice a1 ps.length cp] 51))) := Lib.hid (HB.out.alloc HB.out.size _)
      have HPI0 : Hid (PairsIn (wr.alloc (.cells #[.int .u8 f, .slice a1 ps.length cp] 51)) a1 ps) := Lib.hid (HPI.out.below ((Below.refl _ _).alloc (Nat.le_refl _) _))
      generalize (wr.alloc (.cells #[.int .u8 f, .slice a1 ps.length cp] 51)) = w0 at HB0 HPI0 ⊢
      go_loopw [3, 19] (fun nv jv wx => ∃ (j N : Nat), nv = .int .i64 N ∧ jv = .int .i64 j ∧ j ≤ ps.length ∧ Hid (rs.length ≤ N ∧ N ≤ 140737488355328 ∧ (j = 0 ∨ N ≤ 2000) ∧ j ≤ N ∧ ∀ p ∈ ps.take j, p.1.size ≤ 50000 ∧ p.2.size ≤ 50000) ∧ Hid (Below w0.heap.size w0 wx)) (fun _ jv _ => ps.length - (intOf jv).toNat)
      case atStart => exact ⟨0, N0, rfl, rfl, by omega, Lib.hid ⟨HN.out.1, HN.out.2.1, .inl rfl, by omega, by simp⟩, Lib.hid (Below.refl _ _)⟩
      case round =>
        obtain ⟨j, N, rfl, rfl, hj, HM, HBX⟩ := hrel
        by_cases hjl : j < ps.length
        · obtain ⟨b2, o2, rfl, hb2, d1, d2⟩ := (HPI0.out.below HBX.out) j hjl
          have hj0 : (0 : Int) ≤ j := by omega
          have hj1 : (j : Int) < ps.length := by omega
          have HT2 : Hid ((ps[j].1.size ≤ 50000 ∧ ps[j].2.size ≤ 50000) → ∀ p ∈ ps.take (j + 1), p.1.size ≤ 50000 ∧ p.2.size ≤ 50000) := Lib.hid (fun h r hr => by
            rw [List.take_succ_eq_append_getElem hjl, List.mem_append, List.mem_singleton] at hr
            rcases hr with hr | rfl
            · exact HM.out.2.2.2.2 r hr
            · exact h)
          have hkv := HSR.out ps[j] (List.getElem_mem _)
          have HJ : Hid (j ≤ 140737488355328) := Lib.hid (by have := HM.out; omega)
          generalize ps[j] = p at d1 d2 HT2 hkv
          obtain ⟨K, V⟩ := p
          dsimp only at d1 d2 hkv
          have HW : Hid (wrap64 ((N : Int) + wrap64 (wrap64 (1 + wrap64 ((K.size : Int) / 20)) + wrap64 ((V.size : Int) / 20))) = ((N + (1 + K.size / 20 + V.size / 20) : Nat) : Int)) := Lib.hid (by
            have hn := HM.out.2.1
            obtain ⟨hk, hv⟩ := hkv
            rw [IntWalk.wrap64_in ((K.size : Int) / 20) (by omega), IntWalk.wrap64_in ((V.size : Int) / 20) (by omega), IntWalk.wrap64_in (1 + (K.size : Int) / 20) (by omega), IntWalk.wrap64_in (1 + (K.size : Int) / 20 + (V.size : Int) / 20) (by omega), IntWalk.wrap64_in _ (by omega)]
            omega)
          obtain ⟨M, hM⟩ : ∃ M, M = N + (1 + K.size / 20 + V.size / 20) := ⟨_, rfl⟩
          have HMM := Lib.hid hM
          rw [← hM] at HW
          have hw := HW.out
          have W6 : Hid (wrap64 ((j : Int) + 1) = ((j + 1 : Nat) : Int)) := Lib.hid (by have := HJ.out; rw [IntWalk.wrap64_in _ (by omega)]; rfl)
          clear hM hkv
          cases hbig : decide ((2000 : Int) < (M : Int))
          · have HBG := Lib.hid (of_decide_eq_false hbig)
            go_wp2_with fail
            refine ⟨⟨j + 1, M, by rw [hw], by rw [W6.out], by omega, Lib.hid ?_, Lib.hid (HBX.out.alloc HBX.out.size _)⟩, by rw [W6.out]; simp [intOf]; omega⟩
            clear hw
            have h1 := HM.out
            have h2 := HMM.out
            have h3 := HBG.out
            exact ⟨by omega, by omega, .inr (by omega), by omega, HT2.out ⟨by dsimp only; omega, by dsimp only; omega⟩⟩
          · go_wp2_with fail
            go_ret
            exact ⟨.inl rfl, HB0.out.trans ((HBX.out.alloc HBX.out.size _).mono HB0.out.size)⟩
        · obtain rfl : j = ps.length := by omega
          rw [List.take_length] at HM
          go_wp2_with fail
          refine ⟨⟨i + 1, N, rfl, by rw [W5.out], by omega, Lib.hid ⟨HM.out.1, HM.out.2.1, HT.out ⟨?_, HM.out.2.2.2.2⟩⟩, Lib.hid (HB0.out.trans (HBX.out.mono HB0.out.size))⟩, by rw [W5.out]; simp [intOf]; omega⟩
          have h1 := HM.out
          dsimp only
          omega
    · obtain rfl : i = rs.length := by omega
      rw [List.take_length] at HN
      cases hq : decide ((N0 : Int) ≤ 2000)
      · go_wp2_with fail
        go_ret
        exact ⟨⟨false, rfl, fun h => by cases h⟩, HB.out⟩
      · have HQ := Lib.hid (of_decide_eq_true hq)
        go_wp2_with fail
        go_ret
        exact ⟨⟨true, rfl, fun _ => ⟨by have h1 := HN.out.1; have h2 := HQ.out; omega, HN.out.2.2⟩⟩, HB.out⟩
end Go.Proofs.YtnicmfboomibjaaDoor
