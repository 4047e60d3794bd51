/- A table: the places of all entries. -/
import Derived.Test.YtajmcplanlibnaaGreatDoorKE6
set_option linter.unusedSimpArgs false
set_option linter.unusedVariables false
set_option linter.unnecessarySimpa false
namespace Go.Proofs.YtajmcplanlibnaaGreatDoor
open Go.RowKit Go.Maps
/-- The places of entries. -/
def entN (B : BookS) (first n : Nat) : List Nat := (List.range n).filter fun p => isEnt (B.view (first + p))
theorem entN_succ (B : BookS) (first n : Nat) : entN B first (n + 1) = if isEnt (B.view (first + n)) = true then entN B first n ++ [n] else entN B first n := by
  unfold entN
  rw [List.range_succ, List.filter_append]
  by_cases h : isEnt (B.view (first + n)) = true
  · rw [if_pos h]; simp [h]
  · rw [if_neg h]; simp [h]
theorem entN_le (B : BookS) (first n : Nat) : (entN B first n).length ≤ n := by
  have := List.length_filter_le (fun p => isEnt (B.view (first + p))) (List.range n)
  rwa [List.length_range] at this
def natsI (l : List Nat) : List Value := l.map fun i : Nat => .int .i64 (i : Int)
theorem lookC_cells (p : List Int) (hp : p.length = 64) : ∃ dg sl rf, lookC p = entC dg sl rf ∧ dg.length = 32 := by
  unfold lookC
  split
  · exact ⟨_, _, _, rfl, pDg_length hp⟩
  · exact ⟨_, _, _, rfl, rfl⟩
set_option maxRecDepth 100000 in
set_option maxHeartbeats 4000000 in
theorem all_any (tb : Nat) (N : Nat → Prop) (bb first n : Nat) (B : BookS) (w : World) (h : TabI w tb N bb first n B) :
    Calls Tryz.prog 89 #[.pointer (some ⟨tb, 0, none⟩)] w fun e w' => (∃ a c, e = .returned (.tuple #[.slice a (entN B first n).length c, .nilIface]) ∧ w'.ownsRow w.heap.size 3 1 (.slice a (entN B first n).length c) (entN B first n).length (natsI (entN B first n))) ∧ Below w.heap.size w w' := by
  have HT := Lib.hid h
  have hok := h.2.1.isOk
  have hn1 := h.2.2.2.1
  have hn2 := hok.n.2
  have HV : Hid (∀ i, i < n → PgOk (B.view (first + i))) := Lib.hid (fun i hi => BookS.view_ok hok _ (by omega))
  have hLK := Lib.hid (fun wx (hb : Below w.heap.size w wx) (i : Nat) (hi : i < n) => look_any tb N bb first n B i hi wx (HT.out.below hb))
  obtain ⟨z0, z1, z2⟩ := blk3 h.1
  obtain ⟨i0, hi0', hz0, hz1, hz2⟩ := info_parts info_int
  have HI := Lib.hid (And.intro hi0' (And.intro hz0 (And.intro hz1 hz2)))
  clear h hok hi0' hz0 hz1 hz2
  go_enter Tryz.func89, Tryz.ntmps89
  go_wp2_with fail
  clear z0 z1 z2
  go_loopw [4, 17] (fun lv iv wr => ∃ (i : Nat) (a : Option Addr) (c : Nat) (l : List Nat), iv = .int .i64 (i : Int) ∧ i ≤ n ∧ lv = .slice a l.length c ∧ Hid (l = entN B first i) ∧ Hid (wr.ownsRow w.heap.size 3 1 (.slice a l.length c) l.length (natsI l) ∧ Below w.heap.size w wr)) (fun _ iv _ => n + 1 - (intOf iv).toNat)
  case atStart => exact ⟨0, none, 0, [], rfl, by omega, rfl, Lib.hid rfl, Lib.hid ⟨World.ownsRow_nil _ _ _ _, Below.refl _ _⟩⟩
  case round =>
    obtain ⟨i, a, c, l, rfl, hi, rfl, HL, HO⟩ := hrel
    have hll : l.length ≤ 2048 := by have := entN_le B first i; rw [HL.out]; omega
    by_cases hlt : i < n
    · have hi1 : (i : Int) < n := by omega
      have hi2 : (n : Int) ≤ 2048 := by omega
      have hLi := hLK.out wr HO.out.2 i hlt
      have HNX := Lib.hid (entN_succ B first i)
      rw [← HL.out] at HNX
      have HPK := Lib.hid (HV.out i hlt)
      generalize B.view (first + i) = pg at hLi HNX HPK
      obtain ⟨dg, sl, rf, hlk, hdl⟩ := lookC_cells pg HPK.out.1
      rw [hlk] at hLi
      clear hlk
      go_wp2_with fail
      refine hLi.mono ?_
      clear hLi
      rintro e w2 ⟨rfl, hb2⟩
      have H2 : Hid (w2.ownsRow w.heap.size 3 1 (.slice a l.length c) l.length (natsI l) ∧ Below w.heap.size w w2) := Lib.hid ⟨own_same HO.out.1 (fun k hk => hb2.block k (HO.out.1.lt k hk).2), HO.out.2.trans (hb2.mono HO.out.2.size)⟩
      clear hb2 HO
      try dsimp only
      repeat ((fail_if_success (with_reducible refine stop_at 27 rfl ?_)); (first | (refine ent_store rfl (.tmp 6) (.tmp 24) rfl w2.heap.size dg (zer 32) sl rf 0 0 rfl rfl (heap_alloc_new w2 _) hdl rfl ?_) | go_values | go_skip | go_guarded | go_step | go_upon))
      have hbx : ∀ o : Obj, Below w2.heap.size w2 ((w2.alloc o).setRow w2.heap.size (entC dg sl rf)) := fun o => below_setRow ((Below.refl _ _).alloc (Nat.le_refl _) _) (Nat.le_refl _) _
      refine gen_world (fun wx => Hid (wx.ownsRow w.heap.size 3 1 (.slice a l.length c) l.length (natsI l) ∧ Below w.heap.size w wx)) (Lib.hid ⟨own_same H2.out.1 (fun k hk => (hbx _).block k (H2.out.1.lt k hk).2), H2.out.2.trans ((hbx _).mono H2.out.2.size)⟩) ?_
      clear hbx H2
      generalize w2.heap.size = b6
      intro w3 H3
      obtain ⟨t, ht⟩ : ∃ t, isEnt pg = t := ⟨_, rfl⟩
      rw [ht] at HNX ⊢
      clear ht
      cases t with
      | true =>
        rw [if_pos rfl] at HNX
        repeat ((fail_if_success (with_reducible refine stop_at 34 rfl ?_)); (first | go_values | go_skip | go_guarded | go_step | go_upon))
        refine step_append_list rfl (.tmp 31) (.tmp 33) 33 rfl w.heap.size 3 i0 (.int .i64 0) 1 8 Tryz.underlying33 HI.out.1 HI.out.2.1 HI.out.2.2.1 HI.out.2.2.2 rfl (by decide) (.slice a l.length c) l.length (natsI l) rfl ?c0 (.slice (some ⟨w3.heap.size, 0, none⟩) 1 1) 1 [.int .i64 (i : Int)] rfl (one_srcN w3 [.int .i64 (i : Int)] 3 1 rfl (by intro u hu; rw [List.mem_singleton] at hu; subst hu; rfl)) ?c1 ?c2 ?c3 ?_
        case c0 => exact own_below H3.out.1 ((Below.refl _ _).alloc (Nat.le_refl _) _)
        case c1 => unfold maxLen; omega
        case c2 => omega
        case c3 => have := H3.out.2.size; simp; omega
        intro v4 w4 ho4 hg4
        obtain ⟨a4, c4, rfl⟩ := own_slice ho4
        have hlen : (l ++ [i]).length = l.length + 1 := by simp
        have H4 : Hid (w4.ownsRow w.heap.size 3 1 (.slice a4 (l ++ [i]).length c4) (l ++ [i]).length (natsI (l ++ [i])) ∧ Below w.heap.size w w4) := Lib.hid ⟨by rw [hlen]; simpa [natsI] using ho4, (H3.out.2.trans (((Below.refl _ _).alloc (Nat.le_refl _) _).mono H3.out.2.size)).grown hg4 (by have := H3.out.2.size; simp; omega) (fun q hq => (H3.out.1.lt q hq).1)⟩
        clear ho4 hg4 H3
        simp only [Act.put, List.setIfInBounds_toArray, List.set_cons_zero, List.set_cons_succ]
        go_wp2_with fail
        exact ⟨⟨i + 1, a4, c4, l ++ [i], by push_cast; rfl, by omega, by rw [hlen], Lib.hid HNX.out.symm, H4⟩, by simp [intOf]; omega⟩
      | false =>
        rw [if_neg (by decide)] at HNX
        go_wp2_with fail
        exact ⟨⟨i + 1, a, c, l, by push_cast; rfl, by omega, rfl, Lib.hid HNX.out.symm, H3⟩, by simp [intOf]; omega⟩
    · have hi1 : ¬ ((i : Int) < n) := by omega
      have hin : i = n := by omega
      have HIN := Lib.hid hin
      clear hin hi
      go_wp2_with fail
      go_ret2
      have hl := HL.out
      rw [HIN.out] at hl
      rw [← hl]
      exact ⟨⟨a, c, rfl, HO.out.1⟩, HO.out.2⟩
end Go.Proofs.YtajmcplanlibnaaGreatDoor
