/- The law's look at a table and at a map of entries: all answers hold together. -/
import Derived.Test.YtajmcplanlibnaaGreatDoorKX3
import Derived.Deep.DeepCutAuto
set_option linter.unusedSimpArgs false
set_option linter.unusedVariables false
set_option linter.unnecessarySimpa false
namespace Go.Proofs.YtajmcplanlibnaaGreatDoor
open Go.RowKit Go.Maps
theorem ent_field0 (dg : List Int) (hd : dg.length = 32) (s r : Int) (w : World) : (Instr.field 70 (.agg (entC dg s r)) 0).run Tryz.prog w = .ok (.agg (v8a dg)) w := by
  simp [Instr.field, Sem.run_bind, run_underlying Tryz.underlying70, asAgg, part_dg dg hd]
theorem ent_field1 (dg : List Int) (hd : dg.length = 32) (s r : Int) (w : World) : (Instr.field 70 (.agg (entC dg s r)) 1).run Tryz.prog w = .ok (.int .i64 s) w := by
  simp [Instr.field, Sem.run_bind, run_underlying Tryz.underlying70, asAgg, part_sl dg hd]
theorem ent_field2 (dg : List Int) (hd : dg.length = 32) (s r : Int) (w : World) : (Instr.field 70 (.agg (entC dg s r)) 2).run Tryz.prog w = .ok (.int .i64 r) w := by
  simp [Instr.field, Sem.run_bind, run_underlying Tryz.underlying70, asAgg, part_rf dg hd]
def gath (M : Nat → Option En) (P : En → Bool) (ks : List Int) : Bool := ks.any fun x => match M x.toNat with | none => false | some e => decide (0 ≤ x) && P e
theorem gath_nil (M : Nat → Option En) (P : En → Bool) : gath M P [] = false := rfl
theorem gath_snoc {M : Nat → Option En} (P : En → Bool) (ks : List Int) {p : Nat} {e : En} (h : M p = some e) : gath M P (ks ++ [(p : Int)]) = (gath M P ks || P e) := by
  unfold gath
  rw [List.any_append]
  simp [h]
def NatsW (w : World) (a : Option Addr) (l : List Nat) : Prop := IntsIn w a (l.map fun i : Nat => (i : Int))
theorem NatsW.of_own {w : World} {base : Nat} {a : Option Addr} {cap : Nat} {l : List Nat} (h : w.ownsRow base 3 1 (.slice a l.length cap) l.length (natsI l)) : NatsW w a l := by
  unfold NatsW
  have e : natsI l = (l.map fun i : Nat => (i : Int)).map (Value.int .i64) := by unfold natsI; rw [List.map_map]; rfl
  rw [e] at h
  exact IntsIn.of_own (cap := cap) (by rw [List.length_map]; exact h)
theorem NatsW.at {w : World} {a : Option Addr} {l : List Nat} (h : NatsW w a l) (k : Nat) (hk : k < l.length) : ∃ b off, a = some ⟨b, off, none⟩ ∧ w.cell? ⟨b, off + k, none⟩ = some (.int .i64 ((l[k] : Nat) : Int)) := by
  obtain ⟨b, off, h1, _, h2, _⟩ := h k (by rw [List.length_map]; exact hk)
  rw [List.getElem_map] at h2
  exact ⟨b, off, h1, h2⟩
set_option maxRecDepth 100000 in
set_option maxHeartbeats 8000000 in
theorem right_any {g : Geo} {k0 : Nat} {N : Nat → Prop} {tb bb n mb : Nat} {M : Nat → Option En} (hn60 : n ≤ 60) (hn1 : 1 ≤ n) (w : World) (h : EnS g k0 N tb bb n mb M w) :
    Calls Tryz.prog 36 #[.pointer (some ⟨tb, 0, none⟩), .map (some mb), .int .i64 (n : Int)] w fun e w' => e = .returned (.bool true) ∧ Below w.heap.size w w' := by
  have HE := Lib.hid (fun wx (hb : Below w.heap.size w wx) => h.below hb)
  have HOK : Hid (∀ p e, p < n → M p = some e → EnOk e) := Lib.hid h.1.ok
  have HOUT : Hid (∀ p, n ≤ p → M p = none) := Lib.hid h.1.out
  have HMB := Lib.hid h.2.1.lt
  have hA := tb_all h.1
  have hj1 : (1 : Int) ≤ n := by omega
  have hj2 : (n : Int) ≤ 60 := by omega
  have hcl : cntM M n ≤ 60 := by have := cntM_le M n; omega
  clear h
  go_enter Tryz.func36, Tryz.ntmps36
  go_wp2_with fail
  refine hA.mono ?_
  clear hA
  rintro e w1 ⟨⟨a, c, l, hl, hll, rfl, ho⟩, hb1⟩
  have HL := Lib.hid hl
  have HLL := Lib.hid hll
  have H1 : Hid (NatsW w1 a l ∧ Below w.heap.size w w1) := Lib.hid ⟨NatsW.of_own ho, hb1⟩
  have hls : l.length ≤ 60 := by omega
  have hlc : ((l.length : Int) != (cntM M n : Int)) = false := by rw [hll]; simp
  clear hl hll ho hb1
  try dsimp only
  go_wp2_with (first | (refine len_is_g _ rfl _ 62 rfl 3 70 Tryz.underlying62 mb (cntM M n) (enL M) rfl (HE.out w1 H1.out.2).2.1 ?_))
  clear hlc
  go_loopw [47] (fun kv wr => ∃ k : Nat, kv = .int .i64 (k : Int) ∧ k ≤ l.length ∧ Hid (NatsW wr a l ∧ Below w.heap.size w wr)) (fun kv _ => 61 - (intOf kv).toNat)
  case atStart => exact ⟨0, rfl, by omega, H1⟩
  case round =>
    clear H1
    obtain ⟨k, rfl, hk, H⟩ := hrel
    by_cases hkl : k < l.length
    · obtain ⟨b, off, rfl, c0⟩ := H.out.1.at k hkl
      obtain ⟨g1, g2, g3⟩ := ents_at M n HL.out k hkl
      have hi1 : (k : Int) < l.length := by omega
      have hi0 : (0 : Int) ≤ k := by omega
      have hMl := enD_len HOK.out HOUT.out l[k]
      have HM := Lib.hid (HE.out wr H.out.2).2.1
      rcases k with _ | j
      · simp only [Nat.add_zero] at c0
        generalize l[0] = x at c0 g1 g2 g3 hMl
        generalize hen : enD (M x) = e0 at hMl
        obtain ⟨dg, sl, rf⟩ := e0
        dsimp only at hMl
        have hxi : x ≤ 4096 := by omega
        clear g3 hkl
        go_wp2_with (first | (refine en_look_ok rfl _ _ rfl mb (cntM M n) x M hxi rfl rfl HM.out ?_; rw [hen, g2]) | (refine ent_store rfl (.tmp 11) (.tmp 56) rfl wr.heap.size dg (zer 32) sl rf 0 0 rfl rfl (heap_alloc_new wr _) hMl rfl ?_))
        have hbx : ∀ o : Obj, Below wr.heap.size wr ((wr.alloc o).setRow wr.heap.size (entC dg sl rf)) := fun o => below_setRow ((Below.refl _ _).alloc (Nat.le_refl _) _) (Nat.le_refl _) _
        have H2 : ∀ o : Obj, Hid (NatsW ((wr.alloc o).setRow wr.heap.size (entC dg sl rf)) (some ⟨b, off, none⟩) l ∧ Below w.heap.size w ((wr.alloc o).setRow wr.heap.size (entC dg sl rf))) := fun o => Lib.hid ⟨IntsIn.below H.out.1 (hbx o), H.out.2.trans ((hbx o).mono H.out.2.size)⟩
        exact ⟨⟨0 + 1, by push_cast; rfl, by omega, H2 _⟩, by first | (simp [intOf]; done) | (simp [intOf]; omega)⟩
      · have hlt := g3 j (by omega) (by omega)
        have hjl : j < l.length := by omega
        generalize l[j + 1] = x at c0 g1 g2 g3 hMl hlt
        generalize hen : enD (M x) = e0 at hMl
        obtain ⟨dg, sl, rf⟩ := e0
        dsimp only at hMl
        have hxi : x ≤ 4096 := by omega
        have hj0 : (0 : Int) ≤ j := by omega
        have hjc : ((j + 1 : Nat) : Int) = (j : Int) + 1 := by omega
        rw [hjc] at hi1 hi0 ⊢
        clear g3 hjc
        repeat ((fail_if_success (with_reducible refine stop_at 58 rfl ?_)); (first | (first | (refine en_look_ok rfl _ _ rfl mb (cntM M n) x M hxi rfl rfl HM.out ?_; rw [hen, g2]) | (refine ent_store rfl (.tmp 11) (.tmp 56) rfl wr.heap.size dg (zer 32) sl rf 0 0 rfl rfl (heap_alloc_new wr _) hMl rfl ?_)) | go_values | go_skip | go_guarded | go_step | go_upon))
        have hbx : ∀ o : Obj, Below wr.heap.size wr ((wr.alloc o).setRow wr.heap.size (entC dg sl rf)) := fun o => below_setRow ((Below.refl _ _).alloc (Nat.le_refl _) _) (Nat.le_refl _) _
        refine gen_world (fun wx => Hid (NatsW wx (some ⟨b, off, none⟩) l ∧ Below w.heap.size w wx)) (Lib.hid ⟨IntsIn.below H.out.1 (hbx _), H.out.2.trans ((hbx _).mono H.out.2.size)⟩) ?_
        clear hbx H HM c0 hen
        generalize wr.heap.size = b11
        intro w2 H2
        try simp only [Act.put]
        obtain ⟨b', off', e', c1⟩ := H2.out.1.at j hjl
        cases e'
        generalize l[j] = y at c1 hlt
        have hyx : ¬ ((x : Int) ≤ y) := by omega
        clear hkl hlt hjl
        go_wp2_with fail
        exact ⟨⟨j + 1 + 1, by push_cast; rfl, by omega, H2⟩, by simp [intOf]; omega⟩
    · have hi1 : ¬ ((k : Int) < l.length) := by omega
      have H2 := Lib.hid H.out.2
      clear hk hkl H HL HLL hls
      go_wp2_with fail
      go_loopw [75] (fun iv wr => ∃ i : Nat, iv = .int .i64 (i : Int) ∧ i ≤ n ∧ Hid (Below w.heap.size w wr)) (fun iv _ => n + 1 - (intOf iv).toNat)
      case atStart => exact ⟨0, rfl, by omega, H2⟩
      case round =>
        clear H2
        obtain ⟨i, rfl, hi, H⟩ := hrel
        have hi0 : (0 : Int) ≤ i := by omega
        by_cases hin : i < n
        · have hi2 : (i : Int) < n := by omega
          have hG := tb_get hin (HE.out wr H.out).1
          have hxi : i ≤ 4096 := by omega
          clear hi1
          go_wp2_with fail
          refine hG.mono ?_
          clear hG
          rintro e w2 ⟨hg, hb2⟩
          have H2 := Lib.hid (H.out.trans (hb2.mono H.out.size))
          clear hb2 H
          rcases hg with ⟨e', hM, rfl⟩ | ⟨hM, t, x, rfl, he⟩
          · have hen : enD (M i) = e' := by rw [hM]; rfl
            have hs1 : (M i).isSome = true := by rw [hM]; rfl
            have hdl := (HOK.out i e' hin hM).1.1
            obtain ⟨dg, sl, rf⟩ := e'
            dsimp only at hdl
            have HEN := Lib.hid (And.intro hen hs1)
            clear hM hen hs1
            try dsimp only
            repeat ((fail_if_success (with_reducible refine stop_at 85 rfl ?_)); (first | (refine ent_store rfl (.tmp 14) (.tmp 82) rfl w2.heap.size dg (zer 32) sl rf 0 0 rfl rfl (heap_alloc_new w2 _) hdl rfl ?_) | go_values | go_skip | go_guarded | go_step | go_upon))
            have hbx : ∀ o : Obj, Below w2.heap.size w2 ((w2.alloc o).setRow w2.heap.size (entC dg sl rf)) := fun o => below_setRow ((Below.refl _ _).alloc (Nat.le_refl _) _) (Nat.le_refl _) _
            refine gen_world (fun wx => Hid (wx.heap[w2.heap.size]? = some (.cells (entC dg sl rf) 70) ∧ Below w.heap.size w wx)) (Lib.hid ⟨setRow_heap _ _ _ _ _ (0, 0) (heap_alloc_new w2 _), H2.out.trans ((hbx _).mono H2.out.size)⟩) ?_
            clear hbx H2
            generalize w2.heap.size = b14
            intro w3 H3
            try simp only [Act.put]
            have HM := Lib.hid (HE.out w3 H3.out.2).2.1
            repeat ((fail_if_success (with_reducible refine stop_at 90 rfl ?_)); (first | (first | (refine en_look_ok rfl _ _ rfl mb (cntM M n) i M hxi rfl rfl HM.out ?_; rw [HEN.out.1, HEN.out.2]) | (refine ent_store rfl (.tmp 16) (.tmp 88) rfl w3.heap.size dg (zer 32) sl rf 0 0 rfl rfl (heap_alloc_new w3 _) hdl rfl ?_)) | go_values | go_skip | go_guarded | go_step | go_upon))
            have hbx : ∀ o : Obj, Below w3.heap.size w3 ((w3.alloc o).setRow w3.heap.size (entC dg sl rf)) := fun o => below_setRow ((Below.refl _ _).alloc (Nat.le_refl _) _) (Nat.le_refl _) _
            refine gen_world (fun wx => Hid (wx.heap[b14]? = some (.cells (entC dg sl rf) 70) ∧ wx.heap[w3.heap.size]? = some (.cells (entC dg sl rf) 70) ∧ Below w.heap.size w wx)) (Lib.hid ⟨((hbx _).block _ (lt_of_blk H3.out.1)).trans H3.out.1, setRow_heap _ _ _ _ _ (0, 0) (heap_alloc_new w3 _), H3.out.2.trans ((hbx _).mono H3.out.2.size)⟩) ?_
            clear hbx H3 HM
            generalize w3.heap.size = b16
            intro w4 H4
            try simp only [Act.put]
            go_wp2_with (first | (refine ent_load_g rfl (.tmp 16) rfl b16 dg sl rf rfl H4.out.2.1 hdl ?_) | (refine ent_load_g rfl (.tmp 14) rfl b14 dg sl rf rfl H4.out.1 hdl ?_) | (refine ent_neq_gd rfl (.tmp 95) (.tmp 96) _ rfl dg sl rf rfl rfl hdl ?_))
            exact ⟨⟨i + 1, by push_cast; rfl, by omega, Lib.hid H4.out.2.2⟩, by simp [intOf]; omega⟩
          · have hen : enD (M i) = (zer 32, 0, 0) := by rw [hM]; rfl
            have hs1 : (M i).isSome = false := by rw [hM]; rfl
            have HEN := Lib.hid (And.intro hen hs1)
            have HER := Lib.hid he
            clear hM hen hs1 he
            try dsimp only
            repeat ((fail_if_success (with_reducible refine stop_at 85 rfl ?_)); (first | (refine ent_store rfl (.tmp 14) (.tmp 82) rfl w2.heap.size (zer 32) (zer 32) 0 0 0 0 rfl rfl (heap_alloc_new w2 _) rfl rfl ?_) | go_values | go_skip | go_guarded | go_step | go_upon))
            have hbx : ∀ o : Obj, Below w2.heap.size w2 ((w2.alloc o).setRow w2.heap.size (entC (zer 32) 0 0)) := fun o => below_setRow ((Below.refl _ _).alloc (Nat.le_refl _) _) (Nat.le_refl _) _
            refine gen_world (fun wx => Hid (ErrV wx (.iface t x) 23 ∧ Below w.heap.size w wx)) (Lib.hid ⟨HER.out.below (hbx _), H2.out.trans ((hbx _).mono H2.out.size)⟩) ?_
            clear hbx H2 HER
            generalize w2.heap.size = b14
            intro w3 H3
            try simp only [Act.put]
            have HM := Lib.hid (HE.out w3 H3.out.2).2.1
            repeat ((fail_if_success (with_reducible refine stop_at 90 rfl ?_)); (first | (first | (refine en_look_ok rfl _ _ rfl mb (cntM M n) i M hxi rfl rfl HM.out ?_; rw [HEN.out.1, HEN.out.2]) | (refine ent_store rfl (.tmp 16) (.tmp 88) rfl w3.heap.size (zer 32) (zer 32) 0 0 0 0 rfl rfl (heap_alloc_new w3 _) rfl rfl ?_)) | go_values | go_skip | go_guarded | go_step | go_upon))
            have hbx : ∀ o : Obj, Below w3.heap.size w3 ((w3.alloc o).setRow w3.heap.size (entC (zer 32) 0 0)) := fun o => below_setRow ((Below.refl _ _).alloc (Nat.le_refl _) _) (Nat.le_refl _) _
            refine gen_world (fun wx => Hid (ErrV wx (.iface t x) 23 ∧ Below w.heap.size w wx)) (Lib.hid ⟨H3.out.1.below (hbx _), H3.out.2.trans ((hbx _).mono H3.out.2.size)⟩) ?_
            clear hbx H3 HM
            generalize w3.heap.size = b16
            intro w4 H4
            try simp only [Act.put]
            have hNU := num08_err (.iface t x) 23 w4 H4.out.1 (HE.out w4 H4.out.2).2.2.2.2
            go_wp2_with fail
            refine hNU.mono ?_
            clear hNU
            rintro e w5 ⟨rfl, hb5⟩
            have H5 := Lib.hid (H4.out.2.trans (hb5.mono H4.out.2.size))
            clear hb5 H4
            try dsimp only
            go_wp2_with fail
            exact ⟨⟨i + 1, by push_cast; rfl, by omega, H5⟩, by simp [intOf]; omega⟩
        · have hi2 : ¬ ((i : Int) < n) := by omega
          have H2 := Lib.hid H.out
          clear hi hin hi1 H
          go_wp2_with fail
          clear hi0 hi2
          go_loopw [110] (fun xv wr => ∃ x : Nat, xv = .int .i64 (x : Int) ∧ x ≤ 8 ∧ Hid (Below w.heap.size w wr)) (fun xv _ => 9 - (intOf xv).toNat)
          case atStart => exact ⟨0, rfl, by omega, H2⟩
          case round =>
            clear H2
            obtain ⟨x, rfl, hx, H⟩ := hrel
            have hx0 : (0 : Int) ≤ x := by omega
            by_cases hx8 : x < 8
            · have hx1 : (x : Int) < 8 := by omega
              have hD := Lib.hid (digest_any (x : Int) (by omega))
              have HDG := Lib.hid (digX_ok (x : Int) (by omega))
              have hdl := HDG.out.1
              generalize digX (x : Int) = dg at hD HDG hdl
              go_wp2_with fail
              refine (hD.out wr).mono ?_
              clear hD
              rintro e w2 ⟨rfl, hb2⟩
              have H2 := Lib.hid (H.out.trans (hb2.mono H.out.size))
              clear hb2 H
              try dsimp only
              repeat ((fail_if_success (with_reducible refine stop_at 117 rfl ?_)); (first | (refine dg_store rfl (.tmp 19) (.tmp 115) rfl w2.heap.size dg (zer 32) rfl rfl (heap_alloc_new w2 _) hdl rfl ?_) | go_values | go_skip | go_guarded | go_step | go_upon))
              have hbx : ∀ o : Obj, Below w2.heap.size w2 ((w2.alloc o).setRow w2.heap.size (v8a dg)) := fun o => below_setRow ((Below.refl _ _).alloc (Nat.le_refl _) _) (Nat.le_refl _) _
              have hb19 : w.heap.size ≤ w2.heap.size := H2.out.size
              refine gen_world (fun wx => Hid (wx.heap[w2.heap.size]? = some (.cells (v8a dg) 67) ∧ Below w.heap.size w wx)) (Lib.hid ⟨setRow_heap _ _ _ _ _ (0, 0) (heap_alloc_new w2 _), H2.out.trans ((hbx _).mono H2.out.size)⟩) ?_
              clear hbx H2
              generalize w2.heap.size = b19 at hb19 ⊢
              intro w3 H3
              try simp only [Act.put]
              have HB19 := Lib.hid hb19
              clear hb19
              have hF := tb_find dg HDG.out (HE.out w3 H3.out.2).1
              go_wp2_with (first | (refine dg_load rfl (.tmp 19) rfl b19 0 dg rfl (row_range H3.out.1) hdl ?_))
              refine hF.mono ?_
              clear hF
              rintro e w4 ⟨hf, hb4⟩
              have H4 : Hid (w4.heap[b19]? = some (.cells (v8a dg) 67) ∧ Below w.heap.size w w4) := Lib.hid ⟨(hb4.block _ (lt_of_blk H3.out.1)).trans H3.out.1, H3.out.2.trans (hb4.mono H3.out.2.size)⟩
              clear hb4 H3
              have hfo : ∃ (oi : Nat) (ob : Bool), e = .returned (.tuple #[.int .i64 (oi : Int), .bool ob, .nilIface]) ∧ ob = anyM (fun e => decide (e.1 = dg) && decide (e.2.2 < 15)) M n ∧ (ob = true → ∃ e', oi < n ∧ M oi = some e' ∧ e'.1 = dg ∧ e'.2.2 < 15) ∧ (ob = false → oi = 0) := by
                rcases hf with ⟨p, e', hp, hm, hd', hr', ha, rfl⟩ | ⟨ha, rfl⟩
                · exact ⟨p, true, rfl, ha.symm, fun _ => ⟨e', hp, hm, hd', hr'⟩, fun h => by cases h⟩
                · exact ⟨0, false, rfl, ha.symm, fun h => (by cases h), fun _ => rfl⟩
              clear hf
              obtain ⟨oi, ob, rfl, hob, ho1, ho0⟩ := hfo
              have HOB := Lib.hid hob
              have HO1 := Lib.hid (And.intro ho1 ho0)
              clear hob ho1 ho0
              try dsimp only
              go_wp2_with (at_range; refine wpList_range_is _ rfl _ 62 rfl 3 70 (int_keyed Tryz.underlying3) Tryz.underlying62 mb (cntM M n) (enL M) rfl (HE.out w4 H4.out.2).2.1 ?_; intro w5 left0 hr0 hl0 hb5; go_frame)
              generalize hrr : w4.heap.size = r at hr0 hb5 ⊢
              have HR0 := Lib.hid hr0
              have HL0 := Lib.hid hl0
              have HRB : Hid (w.heap.size ≤ r ∧ b19 < r) := Lib.hid ⟨by have := H4.out.2.size; omega, by have := lt_of_blk H4.out.1; omega⟩
              have hbB : Below w4.heap.size w4 w5 := by rw [hrr]; exact hb5
              have H5 : Hid (w5.heap[b19]? = some (.cells (v8a dg) 67) ∧ Below w.heap.size w w5) := Lib.hid ⟨(hbB.block _ (lt_of_blk H4.out.1)).trans H4.out.1, H4.out.2.trans (hbB.mono H4.out.2.size)⟩
              clear hr0 hl0 hb5 hbB hrr H4
              go_loopw [23, 24] (fun sv tv wr => ∃ (ks : List Int) (left : Lit → Bool) (cnt : Nat) (b1 b2 : Bool), sv = .bool b1 ∧ tv = .bool b2 ∧ Hid (b1 = gath M (fun e => decide (e.1 = dg) && decide (e.2.2 < 15)) ks) ∧ Hid (b2 = gath M (fun e => decide (e.2.1 = (x : Int))) ks) ∧ Hid (MapR Tryz.prog 3 wr mb r (cntM M n) (enL M) left cnt) ∧ Hid (Met .i64 (enL M) left ks) ∧ Hid (∀ y ∈ ks, (Lit.int .i64 y).wf = true) ∧ Hid (wr.heap[b19]? = some (.cells (v8a dg) 67) ∧ Below w.heap.size w wr)) (fun _ _ wr => wr.rangeLeft mb r)
              case atStart => exact ⟨[], left0, _, false, false, rfl, rfl, Lib.hid rfl, Lib.hid rfl, HR0, Lib.hid (Met.start HL0.out (fun x hx => trivial)), Lib.hid (fun x hx => by cases hx), H5⟩
              case round =>
                clear H5 HR0 HL0
                obtain ⟨ks, left, cnt, b1, b2, rfl, rfl, HG1, HG2, HR, HM, HW, H⟩ := hrel
                go_wp2_with (at_next; refine wpList_next_is _ rfl _ rfl 3 .i64 (int_keyed Tryz.underlying3) Tryz.underlying3 mb r _ (enL M) left cnt rfl HR.out ?done ?more)
                case more =>
                  intro y v w6 cnt6 hkey hly hfy hr6 hlt6 hg6 hs6 hen
                  obtain ⟨p, e', rfl, hMp, rfl⟩ := enL_inv hfy
                  have hpn : p < n := by
                    apply Classical.byContradiction
                    intro hq
                    rw [HOUT.out p (by omega)] at hMp; cases hMp
                  have hdl' := (HOK.out p e' hpn hMp).1.1
                  have HR6 := Lib.hid hr6
                  have HG1' := Lib.hid (gath_snoc (fun e => decide (e.1 = dg) && decide (e.2.2 < 15)) ks hMp)
                  have HG2' := Lib.hid (gath_snoc (fun e => decide (e.2.1 = (x : Int))) ks hMp)
                  have HM6 := Lib.hid (HM.out.step (key_wf hkey) hly hfy HW.out)
                  have HW6 : Hid (∀ y ∈ ks ++ [(p : Int)], (Lit.int .i64 y).wf = true) := Lib.hid (fun y hy => by
                    rcases List.mem_append.1 hy with hy | hy
                    · exact HW.out y hy
                    · rw [List.mem_singleton.1 hy]; exact key_wf hkey)
                  have HLT : Hid (cnt6 < cnt) := Lib.hid hlt6
                  have H6 : Hid (w6.heap[b19]? = some (.cells (v8a dg) 67) ∧ Below w.heap.size w w6) := Lib.hid ⟨(hg6.block b19 (lt_of_blk H.out.1) (fun e => by have := HRB.out.2; simp at e; omega)).trans H.out.1, H.out.2.grown hg6 H.out.2.size (fun q hq => by simp at hq; have := HRB.out.1; omega)⟩
                  obtain ⟨dg', sl', rf'⟩ := e'
                  dsimp only at hdl' HG1' HG2' hen
                  rw [← HG1.out] at HG1'
                  rw [← HG2.out] at HG2'
                  clear hkey hly hfy hr6 hg6 hs6 hMp hpn hlt6 HG1 HG2 HM HW H
                  go_upto_region 28 with (refine ent_store rfl (.tmp 26) (.tmp 128) rfl w6.heap.size dg' (zer 32) sl' rf' 0 0 rfl rfl (heap_alloc_new w6 _) hdl' rfl ?_)
                  have hbx : ∀ o : Obj, Below w6.heap.size w6 ((w6.alloc o).setRow w6.heap.size (entC dg' sl' rf')) := fun o => below_setRow ((Below.refl _ _).alloc (Nat.le_refl _) _) (Nat.le_refl _) _
                  refine gen_code (fun wx => Hid (wx.heap[w6.heap.size]? = some (.cells (entC dg' sl' rf') 70) ∧ MapR Tryz.prog 3 wx mb r (cntM M n) (enL M) (fun z => left z && !z.sameKey (.int .i64 (p : Int))) cnt6 ∧ wx.heap[b19]? = some (.cells (v8a dg) 67) ∧ Below w.heap.size w wx)) (Lib.hid ⟨setRow_heap _ _ _ _ _ (0, 0) (heap_alloc_new w6 _), HR6.out.kept ((hbx _).block _ HR6.out.is.lt) ((hbx _).block _ HR6.out.lt), ((hbx _).block _ (lt_of_blk H6.out.1)).trans H6.out.1, H6.out.2.trans ((hbx _).mono H6.out.2.size)⟩) ?_
                  clear hbx H6 HR6 hen
                  generalize w6.heap.size = b26
                  intro w7 H7
                  try simp only [Act.put]
                  obtain ⟨y0, y1⟩ := ent_cells hdl' H7.out.1
                  have H8 := Lib.hid H7.out.2
                  have HBX := Lib.hid H7.out.1
                  clear H7
                  have hc2 : b2 = true ∨ (b2 = false ∧ (sl' == (x : Int)) = true) ∨ (b2 = false ∧ (sl' == (x : Int)) = false) := by
                    cases b2 with
                    | true => exact .inl rfl
                    | false =>
                      cases q : (sl' == (x : Int)) with
                      | true => exact .inr (.inl ⟨rfl, rfl⟩)
                      | false => exact .inr (.inr ⟨rfl, rfl⟩)
                  have HMS : Hid (wr.rangeLeft mb r = cnt) := Lib.hid HR.out.left_eq
                  have HM7 : Hid (w7.rangeLeft mb r = cnt6) := Lib.hid H8.out.1.left_eq
                  go_cut [23] (fun s wx => s = .bool (b1 || (decide (dg' = dg) && decide (rf' < 15))) ∧ wx = w7)
                  case first =>
                    clear hc2
                    cases b1 with
                    | true =>
                      go_wp2_with fail
                      go_meet
                      exact ⟨rfl, rfl⟩
                    | false =>
                      obtain ⟨bq, hbq⟩ : ∃ bq, decide (dg' = dg) = bq := ⟨_, rfl⟩
                      repeat ((fail_if_success (with_reducible refine stop_at 132 rfl ?_)); (first | go_values | go_skip | go_guarded | go_step | go_upon))
                      refine dg_load_g rfl (.tmp 131) rfl b26 0 dg' rfl (ent_rdg HBX.out) hdl' ?_
                      simp only [Act.put, List.setIfInBounds_toArray, List.set_cons_zero, List.set_cons_succ]
                      refine dg_load_g rfl (.tmp 19) rfl b19 0 dg rfl (row_range H8.out.2.1) hdl ?_
                      simp only [Act.put, List.setIfInBounds_toArray, List.set_cons_zero, List.set_cons_succ]
                      refine dg_eql_gd rfl (.tmp 132) (.tmp 133) _ rfl dg' dg rfl rfl hdl' hdl ?_
                      rw [hbq]
                      simp only [Act.put, List.setIfInBounds_toArray, List.set_cons_zero, List.set_cons_succ]
                      clear HBX
                      cases bq with
                      | false =>
                        go_wp2_with fail
                        go_meet
                        exact ⟨by rw [hbq]; rfl, rfl⟩
                      | true =>
                        by_cases qr : rf' < 15
                        · go_wp2_with fail
                          go_meet
                          exact ⟨by rw [hbq]; simp [qr], rfl⟩
                        · go_wp2_with fail
                          go_meet
                          exact ⟨by rw [hbq]; simp [qr], rfl⟩
                  case rest =>
                    obtain ⟨rfl, rfl⟩ := hcut
                    clear HBX
                    rcases hc2 with rfl | ⟨rfl, q3⟩ | ⟨rfl, q3⟩
                    · go_wp2_with fail
                      go_roundw
                      case rel => exact ⟨ks ++ [(p : Int)], _, cnt6, _, _, rfl, rfl, Lib.hid (by rw [HG1'.out]), Lib.hid (by rw [HG2'.out]; simp), Lib.hid H8.out.1, HM6, HW6, Lib.hid H8.out.2⟩
                      case measure => rw [HMS.out, HM7.out]; exact HLT.out
                    · go_wp2_with fail
                      go_roundw
                      case rel => exact ⟨ks ++ [(p : Int)], _, cnt6, _, _, rfl, rfl, Lib.hid (by rw [HG1'.out]), Lib.hid (by rw [HG2'.out]; simp at q3; simp [q3]), Lib.hid H8.out.1, HM6, HW6, Lib.hid H8.out.2⟩
                      case measure => rw [HMS.out, HM7.out]; exact HLT.out
                    · go_wp2_with fail
                      go_roundw
                      case rel => exact ⟨ks ++ [(p : Int)], _, cnt6, _, _, rfl, rfl, Lib.hid (by rw [HG1'.out]), Lib.hid (by rw [HG2'.out]; simp at q3; simp [q3]), Lib.hid H8.out.1, HM6, HW6, Lib.hid H8.out.2⟩
                      case measure => rw [HMS.out, HM7.out]; exact HLT.out
                case done =>
                  intro hld
                  have hb1 : b1 = anyM (fun e => decide (e.1 = dg) && decide (e.2.2 < 15)) M n := HG1.out.trans (any_met HOUT.out _ HM.out hld (by omega))
                  have hb2 : b2 = anyM (fun e => decide (e.2.1 = (x : Int))) M n := HG2.out.trans (any_met HOUT.out _ HM.out hld (by omega))
                  have e1 : ob = b1 := HOB.out.trans hb1.symm
                  have HX2 := Lib.hid hb2
                  subst e1
                  clear hb1 hb2 hld HG1 HG2 HR HM HW HOB
                  go_upto_region 30 with fail
                  go_cut [180] (fun s wx => s = .bool false ∧ wx = wr)
                  case first =>
                    cases ob with
                    | true =>
                      obtain ⟨e', hon, hMo, hd', hr'⟩ := HO1.out.1 rfl
                      have hen : enD (M oi) = e' := by rw [hMo]; rfl
                      obtain ⟨dg', sl', rf'⟩ := e'
                      dsimp only at hd' hr'
                      have hd2 := hd'.symm
                      subst hd2
                      clear hd'
                      have hf0 := ent_field0 dg hdl sl' rf'
                      have hf2 := ent_field2 dg hdl sl' rf'
                      have hrr : ¬ (15 ≤ rf') := by omega
                      have hdd : (!decide (dg = dg)) = false := by simp
                      have HEN := Lib.hid hen
                      clear hMo hen hr'
                      repeat ((fail_if_success (with_reducible refine stop_at 160 rfl ?_)); (first | go_values | go_skip | go_guarded | go_step | go_upon))
                      refine en_look rfl _ _ rfl mb (cntM M n) oi M (by omega) rfl rfl (HE.out _ H.out.2).2.1 ?_
                      rw [HEN.out]
                      simp only [Act.put, List.setIfInBounds_toArray, List.set_cons_zero, List.set_cons_succ]
                      repeat ((fail_if_success (with_reducible refine stop_at 162 rfl ?_)); (first | go_values | go_skip | go_guarded | go_step | go_upon))
                      refine dg_load_g rfl (.tmp 19) rfl b19 0 dg rfl (row_range H.out.1) hdl ?_
                      simp only [Act.put, List.setIfInBounds_toArray, List.set_cons_zero, List.set_cons_succ]
                      refine dg_neq_gd rfl (.tmp 161) (.tmp 162) _ rfl dg dg rfl rfl hdl hdl ?_
                      rw [hdd]
                      simp only [Act.put, List.setIfInBounds_toArray, List.set_cons_zero, List.set_cons_succ]
                      repeat ((fail_if_success (with_reducible refine stop_at 167 rfl ?_)); (first | go_values | go_skip | go_guarded | go_step | go_upon))
                      refine en_look rfl _ _ rfl mb (cntM M n) oi M (by omega) rfl rfl (HE.out _ H.out.2).2.1 ?_
                      rw [HEN.out]
                      simp only [Act.put, List.setIfInBounds_toArray, List.set_cons_zero, List.set_cons_succ]
                      go_wp2_with fail
                      go_meet
                      exact ⟨rfl, rfl⟩
                    | false =>
                      have hoi := HO1.out.2 rfl
                      subst hoi
                      go_wp2_with fail
                      go_meet
                      exact ⟨rfl, rfl⟩
                  case rest =>
                    obtain ⟨rfl, rfl⟩ := hcut
                    clear HO1
                    have hSl := tb_slot (x : Int) (HE.out _ H.out.2).1
                    go_wp2_with fail
                    refine hSl.mono ?_
                    clear hSl
                    rintro e wS ⟨hs, hbS⟩
                    have HS : Hid (wS.heap[b19]? = some (.cells (v8a dg) 67) ∧ Below w.heap.size w wS) := Lib.hid ⟨(hbS.block _ (lt_of_blk H.out.1)).trans H.out.1, H.out.2.trans (hbS.mono H.out.2.size)⟩
                    clear hbS H
                    have hso : ∃ (si : Nat) (sb : Bool), e = .returned (.tuple #[.int .i64 (si : Int), .bool sb, .nilIface]) ∧ b2 = sb ∧ (sb = true → ∃ e', si < n ∧ M si = some e' ∧ e'.2.1 = (x : Int) ∧ 1 ≤ e'.2.2) := by
                      rcases hs with ⟨p, e', hp, hM, hsl, hrf, ha, rfl⟩ | ⟨ha, rfl⟩
                      · exact ⟨p, true, rfl, HX2.out.trans ha, fun _ => ⟨e', hp, hM, hsl, hrf⟩⟩
                      · exact ⟨0, false, rfl, HX2.out.trans ha, fun h => (by cases h)⟩
                    clear hs
                    obtain ⟨si, sb, rfl, hsb, hs1⟩ := hso
                    subst hsb
                    have HS1 := Lib.hid hs1
                    clear hs1
                    try dsimp only
                    go_upto_region 33 with fail
                    go_cut [212] (fun s wx => s = .bool false ∧ wx = wS)
                    case first =>
                      cases b2 with
                      | true =>
                        obtain ⟨e', hp, hM, hsl, hrf⟩ := HS1.out rfl
                        have hen : enD (M si) = e' := by rw [hM]; rfl
                        have hdl' := (HOK.out si e' hp hM).1.1
                        obtain ⟨dg', sl', rf'⟩ := e'
                        dsimp only at hdl' hsl hrf
                        have hf1 := ent_field1 dg' hdl' sl' rf'
                        have hf2 := ent_field2 dg' hdl' sl' rf'
                        have hr0 : (rf' == 0) = false := by rw [beq_eq_false_iff_ne]; omega
                        have hsx : (sl' != (x : Int)) = false := by simp [hsl]
                        have HEN := Lib.hid hen
                        clear hM hen hsl hrf
                        repeat ((fail_if_success (with_reducible refine stop_at 200 rfl ?_)); (first | go_values | go_skip | go_guarded | go_step | go_upon))
                        refine en_look rfl _ _ rfl mb (cntM M n) si M (by omega) rfl rfl (HE.out _ HS.out.2).2.1 ?_
                        rw [HEN.out]
                        simp only [Act.put, List.setIfInBounds_toArray, List.set_cons_zero, List.set_cons_succ]
                        repeat ((fail_if_success (with_reducible refine stop_at 206 rfl ?_)); (first | go_values | go_skip | go_guarded | go_step | go_upon))
                        refine en_look rfl _ _ rfl mb (cntM M n) si M (by omega) rfl rfl (HE.out _ HS.out.2).2.1 ?_
                        rw [HEN.out]
                        simp only [Act.put, List.setIfInBounds_toArray, List.set_cons_zero, List.set_cons_succ]
                        go_wp2_with fail
                        go_meet
                        exact ⟨rfl, rfl⟩
                      | false =>
                        go_wp2_with fail
                        go_meet
                        exact ⟨rfl, rfl⟩
                    case rest =>
                      obtain ⟨rfl, rfl⟩ := hcut
                      have hFr := tb_free dg HDG.out (HE.out _ HS.out.2).1
                      go_wp2_with (first | (refine dg_load rfl (.tmp 19) rfl b19 0 dg rfl (row_range HS.out.1) hdl ?_))
                      refine hFr.mono ?_
                      clear hFr
                      rintro e wF ⟨hf, hbF⟩
                      have HF := Lib.hid (HS.out.2.trans (hbF.mono HS.out.2.size))
                      clear hbF HS
                      rcases hf with ⟨p, hp, hM, rfl⟩ | ⟨hc, t, xe, rfl, he⟩
                      · have hen : enD (M p) = (zer 32, 0, 0) := by rw [hM]; rfl
                        have hs1 : (M p).isSome = false := by rw [hM]; rfl
                        have HEN := Lib.hid (And.intro hen hs1)
                        have hcn : (cntM M n : Int) < n := by
                          have h1 := cntM_le M n
                          have h2 : cntM M n ≠ n := fun h => by have := cntM_full M n h p hp; rw [hM] at this; cases this
                          omega
                        have hcm : ((cntM M n : Int) == (n : Int)) = false := by rw [beq_eq_false_iff_ne]; omega
                        have hp1 : (p : Int) < n := by omega
                        have hp0 : (0 : Int) ≤ p := by omega
                        have hp2 : ¬ ((n : Int) ≤ p) := by omega
                        have hp3 : decide ((n : Int) ≤ (p : Int)) = false := by rw [decide_eq_false_iff_not]; omega
                        have hp4 : decide ((p : Int) < 0) = false := by rw [decide_eq_false_iff_not]; omega
                        clear hM hen hs1
                        try dsimp only
                        repeat ((fail_if_success (with_reducible refine stop_at 222 rfl ?_)); (first | go_values | go_skip | go_guarded | go_step | go_upon))
                        refine en_look_ok rfl _ _ rfl mb (cntM M n) p M (by omega) rfl rfl (HE.out _ HF.out).2.1 ?_
                        rw [HEN.out.1, HEN.out.2]
                        simp only [Act.put, List.setIfInBounds_toArray, List.set_cons_zero, List.set_cons_succ]
                        repeat ((fail_if_success (with_reducible refine stop_at 30 rfl ?_)); (first | (refine ent_store rfl (.tmp 29) (.tmp 223) rfl wF.heap.size (zer 32) (zer 32) 0 0 0 0 rfl rfl (heap_alloc_new wF _) rfl rfl ?_) | go_values | go_skip | go_guarded | go_step | go_upon))
                        have hbx : ∀ o : Obj, Below wF.heap.size wF ((wF.alloc o).setRow wF.heap.size (entC (zer 32) 0 0)) := fun o => below_setRow ((Below.refl _ _).alloc (Nat.le_refl _) _) (Nat.le_refl _) _
                        refine gen_world (fun wx => Hid (Below w.heap.size w wx)) (Lib.hid (HF.out.trans ((hbx _).mono HF.out.size))) ?_
                        clear hbx HF
                        generalize wF.heap.size = b29
                        intro wG HG
                        try simp only [Act.put]
                        repeat ((fail_if_success (with_reducible refine stop_at 226 rfl ?_)); (first | go_values | go_skip | go_guarded | go_step | go_upon))
                        refine len_is_g _ rfl _ 62 rfl 3 70 Tryz.underlying62 mb (cntM M n) (enL M) rfl (HE.out wG HG.out).2.1 ?_
                        simp only [Act.put, List.setIfInBounds_toArray, List.set_cons_zero, List.set_cons_succ]
                        repeat ((fail_if_success (with_reducible refine stop_at 247 rfl ?_)); (first | go_values | go_skip | go_guarded | go_step | go_upon))
                        refine len_is_g _ rfl _ 62 rfl 3 70 Tryz.underlying62 mb (cntM M n) (enL M) rfl (HE.out wG HG.out).2.1 ?_
                        simp only [Act.put, List.setIfInBounds_toArray, List.set_cons_zero, List.set_cons_succ]
                        go_wp2_with fail
                        go_roundw
                        case rel => exact ⟨x + 1, by push_cast; rfl, by omega, HG⟩
                        case measure => simp [intOf]; omega
                      · have h0s := cntM_full M n hc 0 (by omega)
                        obtain ⟨e0, hM0⟩ := Option.isSome_iff_exists.1 h0s
                        have hen : enD (M 0) = e0 := by rw [hM0]; rfl
                        have hd0 := (HOK.out 0 e0 (by omega) hM0).1.1
                        obtain ⟨dg0, sl0, rf0⟩ := e0
                        dsimp only at hd0
                        have HEN := Lib.hid (And.intro hen h0s)
                        have HER := Lib.hid he
                        have hcn : ¬ ((cntM M n : Int) < n) := by omega
                        have hcm : ((cntM M n : Int) == (n : Int)) = true := by simp [hc]
                        clear hM0 hen h0s he hc
                        try dsimp only
                        repeat ((fail_if_success (with_reducible refine stop_at 222 rfl ?_)); (first | go_values | go_skip | go_guarded | go_step | go_upon))
                        refine en_look_ok rfl _ _ rfl mb (cntM M n) 0 M (by omega) rfl rfl (HE.out _ HF.out).2.1 ?_
                        rw [HEN.out.1, HEN.out.2]
                        simp only [Act.put, List.setIfInBounds_toArray, List.set_cons_zero, List.set_cons_succ]
                        repeat ((fail_if_success (with_reducible refine stop_at 30 rfl ?_)); (first | (refine ent_store rfl (.tmp 29) (.tmp 223) rfl wF.heap.size dg0 (zer 32) sl0 rf0 0 0 rfl rfl (heap_alloc_new wF _) hd0 rfl ?_) | go_values | go_skip | go_guarded | go_step | go_upon))
                        have hbx : ∀ o : Obj, Below wF.heap.size wF ((wF.alloc o).setRow wF.heap.size (entC dg0 sl0 rf0)) := fun o => below_setRow ((Below.refl _ _).alloc (Nat.le_refl _) _) (Nat.le_refl _) _
                        refine gen_world (fun wx => Hid (ErrV wx (.iface t xe) 21 ∧ Below w.heap.size w wx)) (Lib.hid ⟨HER.out.below (hbx _), HF.out.trans ((hbx _).mono HF.out.size)⟩) ?_
                        clear hbx HF HER
                        generalize wF.heap.size = b29
                        intro wG HG
                        try simp only [Act.put]
                        have hNU := num08_err (.iface t xe) 21 wG HG.out.1 (HE.out wG HG.out.2).2.2.2.2
                        repeat ((fail_if_success (with_reducible refine stop_at 226 rfl ?_)); (first | go_values | go_skip | go_guarded | go_step | go_upon))
                        refine len_is_g _ rfl _ 62 rfl 3 70 Tryz.underlying62 mb (cntM M n) (enL M) rfl (HE.out wG HG.out.2).2.1 ?_
                        simp only [Act.put, List.setIfInBounds_toArray, List.set_cons_zero, List.set_cons_succ]
                        repeat ((fail_if_success (with_reducible refine stop_at 247 rfl ?_)); (first | go_values | go_skip | go_guarded | go_step | go_upon))
                        refine len_is_g _ rfl _ 62 rfl 3 70 Tryz.underlying62 mb (cntM M n) (enL M) rfl (HE.out wG HG.out.2).2.1 ?_
                        simp only [Act.put, List.setIfInBounds_toArray, List.set_cons_zero, List.set_cons_succ]
                        go_wp2_with fail
                        refine hNU.mono ?_
                        clear hNU
                        rintro e wH ⟨rfl, hbH⟩
                        have HH := Lib.hid (HG.out.2.trans (hbH.mono HG.out.2.size))
                        clear hbH HG
                        try dsimp only
                        go_wp2_with fail
                        go_roundw
                        case rel => exact ⟨x + 1, by push_cast; rfl, by omega, HH⟩
                        case measure => simp [intOf]; omega
            · have hx1 : ¬ ((x : Int) < 8) := by omega
              clear hx hx8
              go_wp2_with fail
              go_ret
              exact ⟨rfl, H.out⟩
end Go.Proofs.YtajmcplanlibnaaGreatDoor
