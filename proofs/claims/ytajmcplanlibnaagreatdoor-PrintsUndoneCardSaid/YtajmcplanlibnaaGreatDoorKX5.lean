/- A table whose book is under way: whatever is set, what stood before stands behind an Undo. -/
import Derived.Test.YtajmcplanlibnaaGreatDoorKX4
import Derived.Test.YtajmcplanlibnaaGreatDoorKVN
import Derived.Test.YtajmcplanlibnaaGreatDoorKX3
set_option linter.unusedSimpArgs false
set_option linter.unusedVariables false
set_option linter.unnecessarySimpa false
namespace Go.Proofs.YtajmcplanlibnaaGreatDoor
open Go.RowKit Go.Maps
/-- A table under way on a book that was S. -/
def TbU (g : Geo) (k : Nat) (N : Nat → Prop) (tb bb n : Nat) (S : BookS) (wx : World) : Prop := ∃ B M, TabI wx tb N bb g.fs n B ∧ EnX g.fs B n M ∧ GdT B g k ∧ B.shut = S
section
variable {g : Geo} {k : Nat} {N : Nat → Prop} {tb bb n : Nat} {S : BookS} {wx wy : World}
theorem TbU.below (h : TbU g k N tb bb n S wx) (hb : Below wx.heap.size wx wy) : TbU g k N tb bb n S wy := by
  obtain ⟨B, M, h1, h2⟩ := h
  exact ⟨B, M, h1.below hb, h2⟩
theorem tbu_try (hn : n ≤ 60) (h256 : g.fs + n ≤ 256) (dg : List Int) (hd : dg.length = 32 ∧ U8s dg) (i sl rf : Int) (h : TbU g k N tb bb n S wx) :
    Calls Tryz.prog 34 #[.pointer (some ⟨tb, 0, none⟩), .int .i64 i, .agg (entC dg sl rf)] wx fun e wy => (∃ v, e = .returned v) ∧ TbU g k N tb bb n S wy ∧ Keeps N wx wy := by
  by_cases hg : 0 ≤ i ∧ i < (n : Int) ∧ 0 ≤ rf ∧ rf ≤ 15 ∧ 0 ≤ sl ∧ sl < 256
  · obtain ⟨p, rfl⟩ := Int.eq_ofNat_of_zero_le hg.1
    have hp : p < n := by omega
    obtain ⟨B, M, h1, h2, h3, h4⟩ := h
    have hle := h2.le
    refine (set_any tb N bb g.fs n B p hp dg sl rf hd ⟨by omega, by omega⟩ ⟨by omega, by omega⟩ (h2.room hn p hp _) wx h1).mono ?_
    rintro e wy ⟨rfl, hT, hk⟩
    exact ⟨⟨_, rfl⟩, ⟨_, _, hT, h2.set hp hd ⟨by omega, by omega⟩ ⟨by omega, by omega⟩, h3.wrote (by omega) (setP_ok _ _ _ hd) (by omega) (setP_tame _ _ _), (BookS.wrote_shut _ _ _).trans h4⟩, hk⟩
  · obtain ⟨B, M, h1, h2, h3, h4⟩ := h
    have hT : TbS g k N tb bb n M wx := ⟨B, h1, h2, h3, h256⟩
    refine (tb_bad hd.1 hg wx hT).mono ?_
    rintro e wy ⟨⟨t, x, rfl, _⟩, hb⟩
    exact ⟨⟨_, rfl⟩, ⟨B, M, h1.below hb, h2, h3, h4⟩, Keeps.of_below hb⟩
theorem tbu_undo (h : TbU g k N tb bb n S wx) :
    Calls Tryz.prog 15 #[.pointer (some ⟨bb, 0, none⟩)] wx fun e wy => e = .returned (.tuple #[]) ∧ TabI wy tb N bb g.fs n S ∧ Keeps N wx wy := by
  obtain ⟨B, M, ⟨t1, t2, t3, t4, t5⟩, h2, h3, h4⟩ := h
  refine (undo_any bb (fun k => N k ∨ k = tb) B wx t2).mono ?_
  rintro e wy ⟨rfl, hB, hk⟩
  rw [h4] at hB
  exact ⟨rfl, ⟨hk.blk (.inr rfl) t1, hB, t3, by rw [← h4]; exact t4, t5⟩, hk.mono (fun q _ hq => .inl hq)⟩
end
theorem shut_of_opn {B : BookS} (h : B.opn = none) : B.shut = B := by
  cases B
  simp only at h
  subst h
  rfl
/-- A table of which nothing is under way. -/
def TbO (g : Geo) (k : Nat) (N : Nat → Prop) (tb bb n : Nat) (M : Nat → Option En) (wx : World) : Prop := ∃ B, B.opn = none ∧ TabI wx tb N bb g.fs n B ∧ EnX g.fs B n M ∧ GdT B g k ∧ g.fs + n ≤ 256
theorem TbO.toS {g : Geo} {k : Nat} {N : Nat → Prop} {tb bb n : Nat} {M : Nat → Option En} {wx : World} (h : TbO g k N tb bb n M wx) : TbS g k N tb bb n M wx := by
  obtain ⟨B, _, h⟩ := h
  exact ⟨B, h⟩
theorem TbO.below {g : Geo} {k : Nat} {N : Nat → Prop} {tb bb n : Nat} {M : Nat → Option En} {wx wy : World} (h : TbO g k N tb bb n M wx) (hb : Below wx.heap.size wx wy) : TbO g k N tb bb n M wy := by
  obtain ⟨B, h1, h2, h3⟩ := h
  exact ⟨B, h1, h2.below hb, h3⟩
/-- A table of which nothing is under way, and a map with the same entries. -/
def EnO (g : Geo) (k : Nat) (N : Nat → Prop) (tb bb n mb : Nat) (M : Nat → Option En) (wx : World) : Prop := TbO g k N tb bb n M wx ∧ MapIs Tryz.prog 3 wx mb (cntM M n) (enL M) ∧ N mb ∧ N 0 ∧ EtAt wx
theorem EnO.toS {g : Geo} {k : Nat} {N : Nat → Prop} {tb bb n mb : Nat} {M : Nat → Option En} {wx : World} (h : EnO g k N tb bb n mb M wx) : EnS g k N tb bb n mb M wx := ⟨h.1.toS, h.2⟩
theorem EnO.below {g : Geo} {k : Nat} {N : Nat → Prop} {tb bb n mb : Nat} {M : Nat → Option En} {wx wy : World} (h : EnO g k N tb bb n mb M wx) (hb : Below wx.heap.size wx wy) : EnO g k N tb bb n mb M wy :=
  ⟨h.1.below hb, h.2.1.below hb h.2.1.lt, h.2.2.1, h.2.2.2.1, h.2.2.2.2.below hb h.2.2.2.2.pos⟩
theorem ens_commit {g : Geo} {k : Nat} {N : Nat → Prop} {tb bb n mb : Nat} {M : Nat → Option En} {wx : World} (hk : k ≤ 9000) (hn : n ≤ 60) (h : EnS g k N tb bb n mb M wx) :
    Calls Tryz.prog 17 #[.pointer (some ⟨bb, 0, none⟩)] wx fun e wy => e = .returned .nilIface ∧ EnO g (k + 1) N tb bb n mb M wy ∧ Keeps N wx wy := by
  obtain ⟨⟨B, ⟨t1, t2, t3, t4, t5⟩, h2, h3, h4⟩, hm, hN, hN0, het⟩ := h
  have hc := h2.cnt
  refine (g_commitT (k := k) (by omega) (by omega) h3.2 wx t2 h3.1).mono ?_
  rintro e wy ⟨rfl, hB, hG, hkp⟩
  have hkN : Keeps N wx wy := hkp.mono (fun q _ hq => .inl hq)
  exact ⟨rfl, ⟨⟨B.done, BookS.done_opn B, ⟨hkp.blk (.inr rfl) t1, hB, t3, by rw [BookS.done_n]; exact t4, t5⟩, h2.congr (BookS.done_n B) (BookS.done_opn B) (fun i hi => BookS.done_view_lim h3.1.ok h3.1.lim (by omega) i hi), GdT.of_opn hG (BookS.done_opn B), h4⟩, hkN.map hN hm, hN, hN0, het.keeps hkN hN0⟩, hkN⟩
/-- What is known of a book that is flushed, and not under way: its table's entries. -/
structure FlS (S : BookS) (g : Geo) (k n : Nat) (M : Nat → Option En) : Prop where
  ent : EnX g.fs S n M
  good : GdT S g k
  cache : S.disk.cache = []
  opn : S.opn = none
  shut : S.shut = S
theorem tb_sync {g : Geo} {k : Nat} {N : Nat → Prop} {tb bb n : Nat} {M : Nat → Option En} {wx : World} {B : BookS} (ho : B.opn = none) (h1 : TabI wx tb N bb g.fs n B) (h2 : EnX g.fs B n M) (h3 : GdT B g k) :
    Calls Tryz.prog 33 #[.pointer (some ⟨bb, 0, none⟩)] wx fun e wy => e = .returned .nilIface ∧ (∃ S, FlS S g k n M ∧ TabI wy tb N bb g.fs n S) ∧ Keeps N wx wy := by
  obtain ⟨t1, t2, t3, t4, t5⟩ := h1
  refine (g_sync wx t2 h3.1).mono ?_
  rintro e wy ⟨rfl, hB, hG, hk⟩
  have hso : B.synced.opn = none := ho
  refine ⟨rfl, ⟨B.synced, ⟨h2.congr rfl hso (fun i hi => ?_), GdT.of_opn hG hso, rfl, hso, ?_⟩, ⟨hk.blk (.inr rfl) t1, hB, t3, t4, t5⟩⟩, hk.mono (fun q _ hq => .inl hq)⟩
  · rw [BookS.base_view hso, BookS.base_view ho]
    exact BookS.synced_base h3.1.ok i hi
  · exact shut_of_opn hso
end Go.Proofs.YtajmcplanlibnaaGreatDoor
set_option linter.unnecessarySimpa false
namespace Go.Proofs.YtajmcplanlibnaaGreatDoor
open Go.RowKit Go.Maps
theorem info_call8 : (Tryz.prog.info? 64).map (·.size) = some 5 := by kernel_rfl
def callV (k i d s r : Int) : List Value := [.int .i64 k, .int .i64 i, .int .u8 d, .int .i64 s, .int .i64 r]
/-- Calls in memory: K i, I i, D i, S i, R i. -/
def Calls8At (w : World) (a : Option Addr) (len : Nat) (K I D S R : Nat → Int) : Prop := ∀ i, i < len → ∃ b off, a = some ⟨b, off, none⟩ ∧ b < w.heap.size ∧ w.rangeAt b (off + i * 5) (callV (K i) (I i) (D i) (S i) (R i))
theorem Calls8At.keeps {w w' : World} {a : Option Addr} {len : Nat} {K I D S R : Nat → Int} (h : Calls8At w a len K I D S R) (hk : Keeps (fun k => k < w.heap.size) w w') : Calls8At w' a len K I D S R := fun i hi => by
  obtain ⟨b, off, ha, hb, hc⟩ := h i hi
  refine ⟨b, off, ha, Nat.lt_of_lt_of_le hb hk.size, fun j v hv => ?_⟩
  have := hc j v hv
  unfold World.cell? at this ⊢
  rw [hk.block b hb hb]
  exact this
theorem call8_load {ops : Array Oper} {rest : List Oper} {o : Oper} {a : Act} {w : World} {Q : Exit → Act → World → Prop} (hgd : o.guard = none) (y : Operand) (ho : o.op = .load 64 y) (g off : Nat) (k i d s r : Int) (hx : a.eval y = .pointer (some ⟨g, off, none⟩)) (hg : w.rangeAt g off (callV k i d s r))
    (h : wpList Tryz.prog ops Q rest (a.put o.dst (.agg #[.int .i64 k, .int .i64 i, .int .u8 d, .int .i64 s, .int .i64 r])) w) : wpList Tryz.prog ops Q (o :: rest) a w :=
  wpList_load_mid hgd 64 y ho g off hx (callV k i d s r) _ hg Tryz.underlying64 rfl info_call8 h
theorem call8_store {ops : Array Oper} {rest : List Oper} {o : Oper} {a : Act} {w : World} {Q : Exit → Act → World → Prop} (hgd : o.guard = none) (y z : Operand) (ho : o.op = .store 64 y z) (g : Nat) (k i d s r c0 c1 c2 c3 c4 : Int) (hx : a.eval y = .pointer (some ⟨g, 0, none⟩)) (hy : a.eval z = .agg #[.int .i64 k, .int .i64 i, .int .u8 d, .int .i64 s, .int .i64 r])
    (hg : w.heap[g]? = some (.cells #[.int .i64 c0, .int .i64 c1, .int .u8 c2, .int .i64 c3, .int .i64 c4] 64)) (h : wpList Tryz.prog ops Q rest (a.put o.dst undef) (w.setRow g #[.int .i64 k, .int .i64 i, .int .u8 d, .int .i64 s, .int .i64 r])) : wpList Tryz.prog ops Q (o :: rest) a w :=
  wpList_store_row hgd _ y z ho g #[.int .i64 k, .int .i64 i, .int .u8 d, .int .i64 s, .int .i64 r] hx hy _ #[.int .i64 c0, .int .i64 c1, .int .u8 c2, .int .i64 c3, .int .i64 c4] hg info_call8 rfl (by simp [Value.oneCell']) h
theorem call8_range {w : World} {b T : Nat} {k i d s r : Int} (h : w.heap[b]? = some (.cells #[.int .i64 k, .int .i64 i, .int .u8 d, .int .i64 s, .int .i64 r] T)) : w.rangeAt b 0 (callV k i d s r) := fun j v hv => by
  rw [cell_of_row w b (0 + j) _ T (0, 0) h]
  unfold callV at hv
  simpa using hv
end Go.Proofs.YtajmcplanlibnaaGreatDoor
