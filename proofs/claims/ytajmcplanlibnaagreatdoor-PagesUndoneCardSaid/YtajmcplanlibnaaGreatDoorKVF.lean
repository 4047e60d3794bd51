/- A transaction that is undone, or that is empty, changes nothing: the law of layer 6, at whatever calls. -/
import Derived.Test.YtajmcplanlibnaaGreatDoorKVC
set_option linter.unusedSimpArgs false
set_option linter.unusedVariables false
set_option linter.unnecessarySimpa false
namespace Go.Proofs.YtajmcplanlibnaaGreatDoor
open Go.RowKit Go.Maps
/-- A book under way on a book of which only what is under way is new. -/
def UdB (N : Nat → Prop) (bb : Nat) (S : BookS) (wx : World) : Prop := ∃ B, BookI wx bb N B ∧ B.shut = S
theorem UdB.below {N : Nat → Prop} {bb : Nat} {S : BookS} {w w' : World} (h : UdB N bb S w) (hb : Below w.heap.size w w') : UdB N bb S w' := by
  obtain ⟨B, h1, h2⟩ := h
  exact ⟨B, h1.below hb, h2⟩
/-- What is known of a book that was just mounted. -/
structure FrS (S : BookS) (db : Nat) : Prop where
  n : S.n = 28
  base : ∀ i, i < 28 → S.base i = zer 64
  cache : S.disk.cache = []
  db : S.db = some db
  opn : S.opn = none
  shut : S.shut = S
theorem frS_of {B : BookS} {db : Nat} (hn : B.n = 28) (hb : ∀ i, i < 28 → B.base i = zer 64) (hc : B.disk.cache = []) (hd : B.db = some db) : FrS B.shut db :=
  ⟨hn, hb, hc, hd, rfl, rfl⟩
set_option maxRecDepth 100000 in
set_option maxHeartbeats 8000000 in
theorem undone06_any (a : Option Addr) (len cap : Nat) (K I X : Nat → Int) (A : Nat → Option Addr) (L C : Nat → Nat) (hlen : len ≤ maxLen) (hL : ∀ i, i < len → L i ≤ maxLen) (hX : ∀ i, i < len → 0 ≤ X i ∧ X i < 256) (w : World) (h : Calls6At w a len K I X A L C) :
    Calls Tryz.prog 3 #[.slice a len cap] w fun e w' => e = .returned (.bool true) ∧ Below w.heap.size w w' := by
  have hST := stands06_any (fun k => k < w.heap.size) w (fun i hi => hi)
  have HC := Lib.hid h
  have HX := Lib.hid hX
  have HL := Lib.hid hL
  have hlen' := Lib.hid hlen
  have hml : len ≤ 9223372036854775807 := by unfold maxLen at hlen; omega
  clear h hX hL hlen
  go_enter Tryz.func3, Tryz.ntmps3
  go_wp2_with fail
  refine hST.mono ?_
  clear hST
  rintro e w1 ⟨rfl, hk1⟩
  have HK1 := Lib.hid hk1
  have hs1 := hk1.size
  have hLT := light_any a len cap K I X A L C hlen'.out HL.out w1 (HC.out.keeps hk1)
  clear hk1 hlen'
  try dsimp only
  go_wp2_with fail
  refine hLT.mono ?_
  clear hLT
  rintro e w2 ⟨⟨b, rfl⟩, hb2⟩
  have HK2 : Hid (Keeps (fun k => k < w.heap.size) w w2) := Lib.hid (HK1.out.trans (Keeps.of_below hb2))
  have hs2 := hb2.size
  clear hb2 HK1
  try dsimp only
  cases b with
  | false =>
    go_wp2_with fail
    go_ret
    exact ⟨rfl, HK2.out.below (Nat.le_refl _) (fun i hi => hi)⟩
  | true =>
    have hND := diskNew_any 130 (by decide) (fun k => k < w.heap.size) w2 (fun i hi => by omega)
    go_wp2_with fail
    refine hND.mono ?_
    clear hND
    rintro e w3 ⟨⟨db, rfl, hdb, hD⟩, hb3⟩
    have hMT := g_fresh 100 28 130 db (by decide) (by decide) (by decide) (by decide) (by decide) (fun k => k < w.heap.size) w3 (by omega) hD
    have HK3 : Hid (Keeps (fun k => k < w.heap.size) w w3) := Lib.hid (HK2.out.trans (Keeps.of_below hb3))
    have hs3 := hb3.size
    clear hD hb3 HK2
    try dsimp only
    go_wp2_with fail
    refine hMT.mono ?_
    clear hMT
    rintro e w4 ⟨⟨bb, rfl, hbb, hB, hG⟩, hk4⟩
    obtain ⟨S, hS⟩ : ∃ S, (fr 100 28 130 db).shut = S := ⟨_, rfl⟩
    have HF : Hid (FrS S db) := Lib.hid (by rw [← hS]; exact frS_of (fr_n _ _ _ _) (fun i hi => fr_base 100 28 130 db (by decide) (by decide) (by decide) (by decide) i hi) (fr_cache _ _ _ _) hG.db)
    have HU4 : Hid (UdB (fun k => k < w.heap.size) bb S w4) := Lib.hid ⟨_, hB, hS⟩
    have HK4 : Hid (Keeps (fun k => k < w.heap.size) w w4) := Lib.hid (HK3.out.trans hk4)
    clear hB hG hk4 HK3 hS
    try dsimp only
    go_wp2_with fail
    go_loopw [31] (fun iv wr => ∃ i : Nat, iv = .int .i64 (i : Int) ∧ i ≤ len ∧ Hid (UdB (fun k => k < w.heap.size) bb S wr) ∧ Hid (Keeps (fun k => k < w.heap.size) w wr)) (fun iv _ => 9223372036854775808 - (intOf iv).toNat)
    case atStart => exact ⟨0, rfl, by omega, HU4, HK4⟩
    case round => as_aux_lemma =>
      clear HU4 HK4
      obtain ⟨i, rfl, hi, HU, HK⟩ := hrel
      have hi0 : (0 : Int) ≤ i := by omega
      by_cases hil : i < len
      · have hi1 : (i : Int) < len := by omega
        obtain ⟨pb, off, hpa, hpb, hrg⟩ := (HC.out.keeps HK.out) i hil
        subst hpa
        have HRG := Lib.hid hrg
        have hxr := HX.out i hil
        generalize K i = ck at HRG
        generalize I i = ci at HRG
        generalize X i = cx at HRG hxr
        generalize A i = ca at HRG
        generalize L i = cl at HRG
        generalize C i = cc at HRG
        clear hrg
        go_upto_region 12 with (first | (refine wpList_load_mid rfl 35 (.tmp 33) rfl pb (off + i * 4) rfl (call6V ck ci cx ca cl cc) _ HRG.out Tryz.underlying35 rfl info_call6 ?_) | (refine wpList_store_row rfl 35 (.tmp 8) (.tmp 34) rfl wr.heap.size (call6V ck ci cx ca cl cc).toArray rfl rfl 35 #[.int .i64 0, .int .i64 0, .int .u8 0, .slice none 0 0] (heap_alloc_new wr _) info_call6 rfl (by simp [Value.oneCell', call6V]) ?_))
        have hbx : ∀ o : Obj, Below wr.heap.size wr ((wr.alloc o).setRow wr.heap.size (call6V ck ci cx ca cl cc).toArray) := fun o => below_setRow ((Below.refl _ _).alloc (Nat.le_refl _) _) (Nat.le_refl _) _
        refine gen_code (fun wx => Hid (wx.heap[wr.heap.size]? = some (.cells (call6V ck ci cx ca cl cc).toArray 35)) ∧ Hid (UdB (fun k => k < w.heap.size) bb S wx) ∧ Hid (Keeps (fun k => k < w.heap.size) w wx)) ⟨Lib.hid (setRow_heap _ _ _ _ _ (0, 0) (heap_alloc_new wr _)), Lib.hid (HU.out.below (hbx _)), Lib.hid (HK.out.trans (Keeps.of_below (hbx _)))⟩ ?_
        clear hbx HU HK HRG
        generalize wr.heap.size = cb
        rintro w5 ⟨HP, HU, HK⟩
        try simp only [Act.put]
        obtain ⟨y0, y1, y2, y3⟩ := call6_cells HP.out
        by_cases hk0 : ck = 0
        · subst hk0
          obtain ⟨pg, hpg⟩ : ∃ pg, pgU cx = pg := ⟨_, rfl⟩
          have HPO : Hid (PgOk pg) := Lib.hid (by rw [← hpg]; exact pgU_ok cx hxr)
          have HBP : Hid (Tryz.prog.built 37 [(0, .int .u8 cx)] = some (v8a pg)) := Lib.hid (by rw [← hpg]; exact built_pgU _)
          have hp64 := HPO.out.1
          clear hpg
          repeat ((fail_if_success (with_reducible refine stop_at 43 rfl ?_)); (first | go_values | go_skip | go_guarded | go_step | go_upon))
          refine wpList_build_to rfl 37 _ rfl (v8a pg) (by simp only [List.map_toArray, List.map_cons, List.map_nil]; exact HBP.out) ?_
          obtain ⟨B, hB, hBS⟩ := HU.out
          have hBn : B.n = 28 := (congrArg BookS.n hBS).trans HF.out.n
          by_cases hib : 0 ≤ ci ∧ ci < 28
          · obtain ⟨q, rfl⟩ : ∃ q : Nat, ci = (q : Int) := ⟨ci.toNat, by omega⟩
            have hWR := bookWrite_any bb _ B q pg (by rw [hBn]; omega) HPO.out (.inr (.inr (by
              have := keysF_le B.f B.n
              rw [hBn] at this
              rw [hBn]
              omega))) w5 hB
            clear HU
            go_wp2_with fail
            refine hWR.mono ?_
            clear hWR hB
            rintro e w6 ⟨rfl, hB6, hk6⟩
            try dsimp only
            go_wp2_with fail
            exact ⟨⟨i + 1, by push_cast; rfl, by omega, Lib.hid ⟨_, hB6, (BookS.wrote_shut B q pg).trans hBS⟩, Lib.hid (HK.out.trans hk6)⟩, by simp [intOf]; omega⟩
          · have hWR := bookWrite_bad bb _ B ci (by rw [hBn]; omega) pg hp64 w5 hB
            clear HU
            go_wp2_with fail
            refine hWR.mono ?_
            clear hWR
            rintro e w6 ⟨⟨t, x, rfl, _⟩, hb6⟩
            try dsimp only
            go_wp2_with fail
            exact ⟨⟨i + 1, by push_cast; rfl, by omega, Lib.hid ⟨B, hB.below hb6, hBS⟩, Lib.hid (HK.out.trans (Keeps.of_below hb6))⟩, by simp [intOf]; omega⟩
        · go_wp2_with fail
          exact ⟨⟨i + 1, by push_cast; rfl, by omega, HU, HK⟩, by simp [intOf]; omega⟩
      · obtain rfl : i = len := by omega
        obtain ⟨B, hB, hBS⟩ := HU.out
        have hUN := undo_any bb _ B wr hB
        clear HU HC HX HL
        go_wp2_with fail
        refine hUN.mono ?_
        clear hUN hB
        rintro e w5 ⟨rfl, hB5, hk5⟩
        rw [hBS] at hB5
        have HK5 : Hid (Keeps (fun k => k < w.heap.size) w w5) := Lib.hid (HK.out.trans hk5)
        clear hBS hk5 HK
        clear B
        obtain ⟨N', hDk⟩ := hB5.disk_at HF.out.db
        have hPN := pending_any db N' S.disk w5 hDk
        rw [HF.out.cache] at hPN
        clear hDk
        clear N'
        try dsimp only
        go_wp2_with fail
        refine hPN.mono ?_
        clear hPN
        rintro e w6 ⟨rfl, rfl⟩
        have hCM := commit_none bb _ S HF.out.opn w5 hB5
        clear hB5
        try dsimp only
        go_wp2_with fail
        refine hCM.mono ?_
        clear hCM
        rintro e w6 ⟨rfl, hB6, hk6⟩
        rw [HF.out.shut] at hB6
        have HK6 : Hid (Keeps (fun k => k < w.heap.size) w w6) := Lib.hid (HK5.out.trans hk6)
        clear hk6 HK5
        obtain ⟨N', hDk⟩ := hB6.disk_at HF.out.db
        have hPN := pending_any db N' S.disk w6 hDk
        rw [HF.out.cache] at hPN
        clear hDk
        clear N'
        try dsimp only
        go_wp2_with fail
        refine hPN.mono ?_
        clear hPN
        rintro e w7 ⟨rfl, rfl⟩
        have HB6 := Lib.hid hB6
        have hPG := bookPages_any bb _ S w6 hB6
        rw [HF.out.n] at hPG
        clear hB6
        try dsimp only
        go_wp2_with fail
        refine hPG.mono ?_
        clear hPG
        rintro e w7 ⟨rfl, rfl⟩
        try dsimp only
        go_wp2_with fail
        go_loopw [61] (fun jv wx => ∃ j : Nat, jv = .int .i64 (j : Int) ∧ j ≤ 28 ∧ Hid (Below w6.heap.size w6 wx)) (fun jv _ => 29 - (intOf jv).toNat)
        case atStart => exact ⟨0, rfl, by omega, Lib.hid (Below.refl _ _)⟩
        case round => as_aux_lemma =>
          obtain ⟨j, rfl, hj, HBW⟩ := hrel
          have hj0 : (0 : Int) ≤ j := by omega
          by_cases hjt : j < 28
          · have hj1 : (j : Int) < 28 := by omega
            have hRD := bookRead_any bb _ S j (by rw [HF.out.n]; exact hjt) wr (HB6.out.below HBW.out)
            rw [BookS.base_view HF.out.opn, HF.out.base j hjt] at hRD
            go_wp2_with fail
            refine hRD.mono ?_
            clear hRD
            rintro e w11 ⟨rfl, hb11⟩
            have HB11 : Hid (Below w6.heap.size w6 w11) := Lib.hid (HBW.out.trans (hb11.mono HBW.out.size))
            clear hb11 HBW
            try dsimp only
            go_upto_region 23 with (refine page_store rfl (.tmp 11) (.tmp 68) rfl w11.heap.size (zer 64) (zer 64) rfl rfl (heap_alloc_new w11 _) rfl rfl ?_)
            have hbx : ∀ o : Obj, Below w11.heap.size w11 ((w11.alloc o).setRow w11.heap.size (v8a (zer 64))) := fun o => below_setRow ((Below.refl _ _).alloc (Nat.le_refl _) _) (Nat.le_refl _) _
            refine gen_code (fun wx => Hid (wx.heap[w11.heap.size]? = some (.cells (v8a (zer 64)) 37)) ∧ Hid (Below w6.heap.size w6 wx)) ⟨Lib.hid (setRow_heap _ _ _ _ _ (0, 0) (heap_alloc_new w11 _)), Lib.hid (HB11.out.trans ((hbx _).mono HB11.out.size))⟩ ?_
            clear hbx HB11
            generalize w11.heap.size = b11
            rintro w12 ⟨HP, HB12⟩
            try simp only [Act.put]
            have hdd : (!decide (zer 64 = zer 64)) = false := by simp
            go_wp2_with (first | (refine page_neq_g2 rfl _ _ _ rfl (zer 64) (zer 64) rfl rfl rfl rfl ?_; rw [hdd]) | (refine page_load_g2 rfl (.tmp 11) rfl b11 (zer 64) rfl HP.out rfl ?_) | (refine build_g2 rfl 37 _ rfl (v8a (zer 64)) built_pg0 ?_))
            exact ⟨⟨_, _, _, _, _, ⟨j + 1, rfl, by omega⟩, rfl, rfl, rfl, rfl, by push_cast; rfl⟩, by simp [intOf]; omega⟩
          · obtain rfl : j = 28 := by omega
            go_wp2_with fail
            go_ret
            exact ⟨rfl, (HK6.out.trans (Keeps.of_below HBW.out)).below (Nat.le_refl _) (fun i hi => hi)⟩
end Go.Proofs.YtajmcplanlibnaaGreatDoor
