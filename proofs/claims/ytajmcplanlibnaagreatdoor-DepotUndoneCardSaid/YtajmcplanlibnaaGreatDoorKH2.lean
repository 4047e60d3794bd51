/- The sum of texts: sixty-four bytes are taken in. -/
import Derived.Test.YtajmcplanlibnaaGreatDoorKH1
import Derived.Deep.QuietTactic
import Derived.BigQuiet
import Derived.Laws.CopyOwn
set_option linter.unusedSimpArgs false
set_option linter.unusedVariables false
namespace Go.Proofs.YtajmcplanlibnaaGreatDoor
open Go.RowKit
/-- Bytes in memory, a cell each. -/
def ByIn (w : World) (a : Option Addr) (l : List Int) : Prop :=
  ∀ i (h : i < l.length), ∃ b off, a = some ⟨b, off, none⟩ ∧ b < w.heap.size ∧ w.cell? ⟨b, off + i, none⟩ = some (.int .u8 (l.getD i 0))
theorem ByIn.below {w w' : World} {a : Option Addr} {l : List Int} (h : ByIn w a l) (hb : Below w.heap.size w w') : ByIn w' a l := fun i hi =>
  let ⟨b, off, ha, hs, c1⟩ := h i hi
  ⟨b, off, ha, Nat.lt_of_lt_of_le hs hb.size, (hb.cell (p := ⟨b, off + i, none⟩) hs).trans c1⟩
def U8s (l : List Int) : Prop := ∀ x ∈ l, 0 ≤ x ∧ x < 256
theorem U8s.at {l : List Int} (h : U8s l) (i : Nat) : 0 ≤ l.getD i 0 ∧ l.getD i 0 < 256 := by
  rw [List.getD_eq_getElem?_getD]
  cases hi : l[i]? with
  | none => simp
  | some x => exact h x (List.mem_of_getElem? hi)
def U32s (l : List Int) : Prop := ∀ x ∈ l, U32 x
theorem U32s.at {l : List Int} (h : U32s l) (i : Nat) : U32 (l.getD i 0) := by
  rw [List.getD_eq_getElem?_getD]
  cases hi : l[i]? with
  | none => exact ⟨by decide, by decide⟩
  | some x => exact h x (List.mem_of_getElem? hi)
def hashCells (h : List Int) (rv : Value) (n : Int) : Array Value := (h.map (Value.int .u32) ++ [rv, .int .u64 n]).toArray
theorem v32_cell {w : World} {B T : Nat} {l : List Int} (h : w.heap[B]? = some (.cells (v32 l) T)) (i : Nat) (hi : i < l.length) : w.cell? ⟨B, i, none⟩ = some (.int .u32 (l.getD i 0)) ∧ w.frozen? ⟨B, i, none⟩ = false := by
  simp [World.cell?, World.frozen?, h, v32, hi]
theorem v32_set {w : World} {B T : Nat} {l : List Int} (h : w.heap[B]? = some (.cells (v32 l) T)) (i : Nat) (x : Int) : (w.setCell ⟨B, i, none⟩ (.int .u32 x)).heap[B]? = some (.cells (v32 (l.set i x)) T) := by
  rw [set_blk h]; simp [v32]
/-- Four bytes as a word, the highest first. -/
def beW (a b c d : Int) : Int := bits BinOp.or IntKind.u32 (bits BinOp.or IntKind.u32 (bits BinOp.or IntKind.u32 (a * 16777216) (b * 65536)) (c * 256)) d
theorem beW_u32 (a b c d : Int) : U32 (beW a b c d) := ⟨bits_lo_u32 _ _ _, by have := bits_hi_u32 BinOp.or (bits BinOp.or IntKind.u32 (bits BinOp.or IntKind.u32 (a * 16777216) (b * 65536)) (c * 256)) d; unfold beW; omega⟩
theorem eight (h : List Int) (hl : h.length = 8) : ∃ h0 h1 h2 h3 h4 h5 h6 h7, h = [h0, h1, h2, h3, h4, h5, h6, h7] := by
  match h, hl with
  | [a, b, c, d, e, f, g, k], _ => exact ⟨a, b, c, d, e, f, g, k, rfl⟩
theorem blk10 {w : World} {B : Nat} {c0 c1 c2 c3 c4 c5 c6 c7 c8 c9 : Value} {T : Nat} (h : w.heap[B]? = some (.cells #[c0, c1, c2, c3, c4, c5, c6, c7, c8, c9] T)) :
    (w.cell? ⟨B, 0, none⟩ = some c0 ∧ w.cell? ⟨B, 1, none⟩ = some c1 ∧ w.cell? ⟨B, 2, none⟩ = some c2 ∧ w.cell? ⟨B, 3, none⟩ = some c3 ∧ w.cell? ⟨B, 4, none⟩ = some c4 ∧ w.cell? ⟨B, 5, none⟩ = some c5 ∧ w.cell? ⟨B, 6, none⟩ = some c6 ∧ w.cell? ⟨B, 7, none⟩ = some c7 ∧ w.cell? ⟨B, 8, none⟩ = some c8 ∧ w.cell? ⟨B, 9, none⟩ = some c9) ∧
    (w.frozen? ⟨B, 0, none⟩ = false ∧ w.frozen? ⟨B, 1, none⟩ = false ∧ w.frozen? ⟨B, 2, none⟩ = false ∧ w.frozen? ⟨B, 3, none⟩ = false ∧ w.frozen? ⟨B, 4, none⟩ = false ∧ w.frozen? ⟨B, 5, none⟩ = false ∧ w.frozen? ⟨B, 6, none⟩ = false ∧ w.frozen? ⟨B, 7, none⟩ = false ∧ w.frozen? ⟨B, 8, none⟩ = false ∧ w.frozen? ⟨B, 9, none⟩ = false) := by simp [World.cell?, World.frozen?, h]
def w1F (p : List Int) : Nat → List Int
  | 0 => List.replicate 64 0
  | i + 1 => (w1F p i).set i (beW (p.getD (4 * i) 0) (p.getD (4 * i + 1) 0) (p.getD (4 * i + 2) 0) (p.getD (4 * i + 3) 0))
theorem blk8 {w : World} {B : Nat} {c0 c1 c2 c3 c4 c5 c6 c7 : Value} {T : Nat} (h : w.heap[B]? = some (.cells #[c0, c1, c2, c3, c4, c5, c6, c7] T)) :
    (w.cell? ⟨B, 0, none⟩ = some c0 ∧ w.cell? ⟨B, 1, none⟩ = some c1 ∧ w.cell? ⟨B, 2, none⟩ = some c2 ∧ w.cell? ⟨B, 3, none⟩ = some c3 ∧ w.cell? ⟨B, 4, none⟩ = some c4 ∧ w.cell? ⟨B, 5, none⟩ = some c5 ∧ w.cell? ⟨B, 6, none⟩ = some c6 ∧ w.cell? ⟨B, 7, none⟩ = some c7) ∧
    (w.frozen? ⟨B, 0, none⟩ = false ∧ w.frozen? ⟨B, 1, none⟩ = false ∧ w.frozen? ⟨B, 2, none⟩ = false ∧ w.frozen? ⟨B, 3, none⟩ = false ∧ w.frozen? ⟨B, 4, none⟩ = false ∧ w.frozen? ⟨B, 5, none⟩ = false ∧ w.frozen? ⟨B, 6, none⟩ = false ∧ w.frozen? ⟨B, 7, none⟩ = false) := by simp [World.cell?, World.frozen?, h]
theorem kWords_u32s : U32s kWords := kWords_u32
theorem w1F_length (p : List Int) : ∀ i, (w1F p i).length = 64
  | 0 => by simp [w1F]
  | i + 1 => by simp [w1F, w1F_length p i]
theorem set_u32 {l : List Int} (h : U32s l) (i : Nat) {x : Int} (hx : U32 x) : U32s (l.set i x) := fun y hy => by
  rcases List.mem_or_eq_of_mem_set hy with h1 | rfl
  · exact h y h1
  · exact hx
theorem w1F_u32 (p : List Int) : ∀ i, U32s (w1F p i)
  | 0 => fun x hx => by
    have := List.eq_of_mem_replicate (show x ∈ List.replicate 64 0 from hx); subst this; exact ⟨by decide, by decide⟩
  | i + 1 => set_u32 (w1F_u32 p i) i (beW_u32 _ _ _ _)
def s0F (x : Int) : Int := bits BinOp.xor IntKind.u32 (bits BinOp.xor IntKind.u32 (turnF x 7) (turnF x 18)) (x / 8)
def s1F (x : Int) : Int := bits BinOp.xor IntKind.u32 (bits BinOp.xor IntKind.u32 (turnF x 17) (turnF x 19)) (x / 1024)
theorem s0F_u32 (x : Int) : U32 (s0F x) := ⟨bits_lo_u32 _ _ _, by have := bits_hi_u32 BinOp.xor (bits BinOp.xor IntKind.u32 (turnF x 7) (turnF x 18)) (x / 8); unfold s0F; omega⟩
theorem s1F_u32 (x : Int) : U32 (s1F x) := ⟨bits_lo_u32 _ _ _, by have := bits_hi_u32 BinOp.xor (bits BinOp.xor IntKind.u32 (turnF x 17) (turnF x 19)) (x / 1024); unfold s1F; omega⟩
def schF (ws : List Int) (i : Nat) : Int := (ws.getD (i - 16) 0 + s0F (ws.getD (i - 15) 0) + ws.getD (i - 7) 0 + s1F (ws.getD (i - 2) 0)) % 4294967296
def schG (p : List Int) : Nat → List Int
  | 0 => w1F p 16
  | k + 1 => (schG p k).set (16 + k) (schF (schG p k) (16 + k))
theorem schF_u32 (ws : List Int) (i : Nat) : U32 (schF ws i) := by unfold schF U32; omega
theorem schG_length (p : List Int) : ∀ k, (schG p k).length = 64
  | 0 => w1F_length p 16
  | k + 1 => by simp [schG, schG_length p k]
theorem schG_u32 (p : List Int) : ∀ k, U32s (schG p k)
  | 0 => w1F_u32 p 16
  | k + 1 => set_u32 (schG_u32 p k) _ (schF_u32 _ _)
def w2F (p : List Int) (i : Nat) : List Int := schG p (i - 16)
theorem w2F_length (p : List Int) (i : Nat) : (w2F p i).length = 64 := schG_length p _
theorem w2F_u32 (p : List Int) (i : Nat) : U32s (w2F p i) := schG_u32 p _
theorem w2F_next (p : List Int) (i : Nat) (h : 16 ≤ i) : w2F p (i + 1) = (w2F p i).set i (((w2F p i).getD (i - 16) 0 + s0F ((w2F p i).getD (i - 15) 0) + (w2F p i).getD (i - 7) 0 + s1F ((w2F p i).getD (i - 2) 0)) % 4294967296) := by
  obtain ⟨k, rfl⟩ : ∃ k, i = 16 + k := ⟨i - 16, by omega⟩
  unfold w2F
  rw [show 16 + k + 1 - 16 = k + 1 by omega, show 16 + k - 16 = k by omega]
  simp only [schG, schF]
  rw [show 16 + k - 16 = k by omega]
def bs0F (a : Int) : Int := bits BinOp.xor IntKind.u32 (bits BinOp.xor IntKind.u32 (turnF a 2) (turnF a 13)) (turnF a 22)
def bs1F (e : Int) : Int := bits BinOp.xor IntKind.u32 (bits BinOp.xor IntKind.u32 (turnF e 6) (turnF e 11)) (turnF e 25)
def chF (e f g : Int) : Int := bits BinOp.xor IntKind.u32 (bits BinOp.and IntKind.u32 e f) (bits BinOp.and IntKind.u32 (bits BinOp.xor IntKind.u32 IntKind.u32.max e) g)
def majF (a b c : Int) : Int := bits BinOp.xor IntKind.u32 (bits BinOp.xor IntKind.u32 (bits BinOp.and IntKind.u32 a b) (bits BinOp.and IntKind.u32 a c)) (bits BinOp.and IntKind.u32 b c)
def tF (k x e f g h : Int) : Int := (h + bs1F e + chF e f g + k + x) % 4294967296
def uF (a b c : Int) : Int := (bs0F a + majF a b c) % 4294967296
def rndF (k x : Int) (v : List Int) : List Int :=
  [(tF k x (v.getD 4 0) (v.getD 5 0) (v.getD 6 0) (v.getD 7 0) + uF (v.getD 0 0) (v.getD 1 0) (v.getD 2 0)) % 4294967296, v.getD 0 0, v.getD 1 0, v.getD 2 0,
   (v.getD 3 0 + tF k x (v.getD 4 0) (v.getD 5 0) (v.getD 6 0) (v.getD 7 0)) % 4294967296, v.getD 4 0, v.getD 5 0, v.getD 6 0]
def vF (p h : List Int) : Nat → List Int
  | 0 => h
  | i + 1 => rndF (kWords.getD i 0) ((w2F p 64).getD i 0) (vF p h i)
theorem vF_ok (p h : List Int) : ∀ i, h.length = 8 → U32s h → (vF p h i).length = 8 ∧ U32s (vF p h i)
  | 0, hl, hu => ⟨hl, hu⟩
  | i + 1, hl, hu => by
    obtain ⟨_, h2⟩ := vF_ok p h i hl hu
    refine ⟨rfl, fun x hx => ?_⟩
    simp only [vF, rndF, List.mem_cons, List.not_mem_nil, or_false] at hx
    rcases hx with rfl | rfl | rfl | rfl | rfl | rfl | rfl | rfl
    all_goals first | exact h2.at _ | (unfold U32; omega)
def finF (h v : List Int) : Nat → List Int
  | 0 => h
  | i + 1 => (finF h v i).set i (((finF h v i).getD i 0 + v.getD i 0) % 4294967296)
theorem finF_length (h v : List Int) : ∀ i, (finF h v i).length = h.length
  | 0 => rfl
  | i + 1 => by simp [finF, finF_length h v i]
theorem finF_u32 (h v : List Int) (hu : U32s h) : ∀ i, U32s (finF h v i)
  | 0 => hu
  | i + 1 => set_u32 (finF_u32 h v hu i) i (by unfold U32; omega)
/-- What sixty-four bytes make of eight words. -/
def blockF (p h : List Int) : List Int := finF h (vF p h 64) 8
theorem blockF_ok (p h : List Int) (hl : h.length = 8) (hu : U32s h) : (blockF p h).length = 8 ∧ U32s (blockF p h) := ⟨by unfold blockF; rw [finF_length, hl], finF_u32 _ _ hu _⟩
theorem hash_cell {w : World} {B T : Nat} {l : List Int} {rv : Value} {n : Int} (h : w.heap[B]? = some (.cells (hashCells l rv n) T)) (i : Nat) (hi : i < l.length) : w.cell? ⟨B, i, none⟩ = some (.int .u32 (l.getD i 0)) ∧ w.frozen? ⟨B, i, none⟩ = false := by
  simp [World.cell?, World.frozen?, h, hashCells, hi, List.getElem?_append]
theorem hash_set {w : World} {B T : Nat} {l : List Int} {rv : Value} {n : Int} (h : w.heap[B]? = some (.cells (hashCells l rv n) T)) (i : Nat) (hi : i < l.length) (x : Int) : (w.setCell ⟨B, i, none⟩ (.int .u32 x)).heap[B]? = some (.cells (hashCells (l.set i x) rv n) T) := by
  rw [set_blk h]; simp [hashCells, List.set_append, hi]
set_option maxRecDepth 100000 in
set_option maxHeartbeats 4000000 in
theorem block_any (hb : Nat) (h : List Int) (rv : Value) (n : Int) (pa : Option Addr) (p : List Int) (c : Nat) (w : World) (hlen : h.length = 8) (hu : U32s h) (hp : p.length = 64) (hp8 : U8s p) (hc : p.length ≤ c)
    (hblk : w.heap[hb]? = some (.cells (hashCells h rv n) 307)) (hpi : ByIn w pa p) :
    Calls Tryz.prog 192 #[.pointer (some ⟨hb, 0, none⟩), .slice pa p.length c] w fun e w' => e = .returned (.tuple #[]) ∧ w'.heap[hb]? = some (.cells (hashCells (blockF p h) rv n) 307) ∧ w.grownBy w' (some hb) := by
  have HB := Lib.hid hblk
  have HP := Lib.hid hpi
  have HU := Lib.hid (And.intro hu hp8)
  obtain ⟨h0, h1, h2, h3, h4, h5, h6, h7, rfl⟩ := eight h hlen
  rw [hp] at hc ⊢
  have HPL := Lib.hid hp
  clear hblk hpi hu hlen hp8 hp
  go_enter Tryz.func192, Tryz.ntmps192
  go_wp2_with fail
  have HW0 : Hid ((w.alloc (.cells (v32 (List.replicate 64 0)) 338)).heap[w.heap.size]? = some (.cells (v32 (w1F p 0)) 338) ∧ Below w.heap.size w (w.alloc (.cells (v32 (List.replicate 64 0)) 338))) := Lib.hid ⟨heap_alloc_new w _, (Below.refl _ _).alloc (Nat.le_refl _) _⟩
  refine gen_code (fun wx => Hid (wx.heap[w.heap.size]? = some (.cells (v32 (w1F p 0)) 338) ∧ Below w.heap.size w wx)) HW0 ?_
  clear HW0
  intro w1 HW1
  go_loopw [17] (fun iv wr => ∃ i : Nat, iv = .int .i64 i ∧ i ≤ 16 ∧ Hid (wr.heap[w.heap.size]? = some (.cells (v32 (w1F p i)) 338) ∧ Below w.heap.size w wr)) (fun iv _ => 16 - (intOf iv).toNat)
  case atStart => exact ⟨0, rfl, by omega, HW1⟩
  case round =>
    obtain ⟨i, rfl, hi, HW⟩ := hrel
    by_cases hlt : i < 16
    · obtain ⟨b, off, rfl, hb0, c0⟩ := (HP.out.below HW.out.2) (4 * i) (by rw [HPL.out]; omega)
      obtain ⟨b, off, e1, hb1, c1⟩ := (HP.out.below HW.out.2) (4 * i + 1) (by rw [HPL.out]; omega)
      cases e1
      obtain ⟨b, off, e1, hb2, c2⟩ := (HP.out.below HW.out.2) (4 * i + 2) (by rw [HPL.out]; omega)
      cases e1
      obtain ⟨b, off, e1, hb3, c3⟩ := (HP.out.below HW.out.2) (4 * i + 3) (by rw [HPL.out]; omega)
      cases e1
      have HN : Hid (w1F p (i + 1) = (w1F p i).set i (beW (p.getD (4 * i) 0) (p.getD (4 * i + 1) 0) (p.getD (4 * i + 2) 0) (p.getD (4 * i + 3) 0))) := Lib.hid rfl
      have hi1 : (i : Int) < 16 := by omega
      have hi0 : (0 : Int) ≤ i := by omega
      have g0 := HU.out.2.at (4 * i)
      have g1 := HU.out.2.at (4 * i + 1)
      have g2 := HU.out.2.at (4 * i + 2)
      have g3 := HU.out.2.at (4 * i + 3)
      generalize p.getD (4 * i) 0 = x0 at c0 g0 HN
      generalize p.getD (4 * i + 1) 0 = x1 at c1 g1 HN
      generalize p.getD (4 * i + 2) 0 = x2 at c2 g2 HN
      generalize p.getD (4 * i + 3) 0 = x3 at c3 g3 HN
      obtain ⟨g00, g01⟩ := g0
      obtain ⟨g10, g11⟩ := g1
      obtain ⟨g20, g21⟩ := g2
      obtain ⟨g30, g31⟩ := g3
      have r0 := cell_regrown c0
      have r1 := cell_regrown c1
      have r2 := cell_regrown c2
      have r3 := cell_regrown c3
      clear c0 c1 c2 c3
      go_wp2_with fail
      refine wp_region_qlast 35 (fun w' => ∃ p : Regrown, w' = Go.Sort.grow (redrawn wr p.d) p.os) (by kernel_rfl) (by kernel_rfl) (fun _ _ d _ _ h => by cases d <;> exact h) (grows_drew _) ?_
      simp only [List.take_succ_cons, List.take_zero]
      repeat (go_big_quiet_step (fail))
      with_reducible refine wpQuiet_nil ?_
      with_reducible refine mix_a ?_
      simp only [List.drop_succ_cons, List.drop_zero, List.take_succ_cons, List.take_zero]
      obtain ⟨k0, k1⟩ := v32_cell HW.out.1 i (by rw [w1F_length]; omega)
      go_wp2_with fail
      refine mixQ_normal ⟨fun h => absurd h (by simp), mix_nil ?_⟩
      go_wp2_with fail
      go_roundw
      case rel =>
        refine ⟨i + 1, by go_num, by omega, Lib.hid ⟨?_, ?_⟩⟩
        · rw [HN.out]; exact v32_set HW.out.1 i _
        · have hbw := HW.out.2
          repeat (first | with_reducible assumption | (with_reducible refine Below.setCell ?_ (by first | omega | (simp; done) | (simp; omega)) _) | (with_reducible refine Below.alloc ?_ (by first | omega | (simp; done) | (simp; omega)) _) | (with_reducible refine Below.drew ?_) | (with_reducible refine below_dN ?_ _) | with_reducible exact Below.refl _ _ | (with_reducible refine Below.trans ?_ (Below.mono (by assumption) (by first | omega | (simp; done) | (simp; omega)))))
      case measure => simp [intOf]; omega
    · obtain rfl : i = 16 := by omega
      go_wp2_with fail
      go_loopw [6] (fun iv wr => ∃ i : Nat, iv = .int .i64 i ∧ 16 ≤ i ∧ i ≤ 64 ∧ Hid (wr.heap[w.heap.size]? = some (.cells (v32 (w2F p i)) 338) ∧ Below w.heap.size w wr)) (fun iv _ => 64 - (intOf iv).toNat)
      case atStart => exact ⟨16, rfl, by omega, by omega, HW⟩
      case round =>
        clear HW HP
        obtain ⟨i, rfl, hi, hi2, HW⟩ := hrel
        by_cases hlt : i < 64
        · have hi0 : (16 : Int) ≤ i := by omega
          have hi1 : (i : Int) < 64 := by omega
          have C15 := Lib.hid (fun (wx : World) (h : wx.heap[w.heap.size]? = some (.cells (v32 (w2F p i)) 338)) => (v32_cell h (i - 15) (by rw [w2F_length]; omega)).1)
          have C2 := Lib.hid (fun (wx : World) (h : wx.heap[w.heap.size]? = some (.cells (v32 (w2F p i)) 338)) => (v32_cell h (i - 2) (by rw [w2F_length]; omega)).1)
          have C16 := Lib.hid (fun (wx : World) (h : wx.heap[w.heap.size]? = some (.cells (v32 (w2F p i)) 338)) => (v32_cell h (i - 16) (by rw [w2F_length]; omega)).1)
          have C7 := Lib.hid (fun (wx : World) (h : wx.heap[w.heap.size]? = some (.cells (v32 (w2F p i)) 338)) => (v32_cell h (i - 7) (by rw [w2F_length]; omega)).1)
          have HN := Lib.hid (w2F_next p i hi)
          have g15 := (w2F_u32 p i).at (i - 15)
          have g2 := (w2F_u32 p i).at (i - 2)
          have g16 := (w2F_u32 p i).at (i - 16)
          have g7 := (w2F_u32 p i).at (i - 7)
          generalize (w2F p i).getD (i - 15) 0 = x15 at C15 g15 HN
          generalize (w2F p i).getD (i - 2) 0 = x2 at C2 g2 HN
          generalize (w2F p i).getD (i - 16) 0 = x16 at C16 g16 HN
          generalize (w2F p i).getD (i - 7) 0 = x7 at C7 g7 HN
          have G15 := Lib.hid g15
          have G2 := Lib.hid g2
          obtain ⟨g150, g151⟩ := g15
          obtain ⟨g20, g21⟩ := g2
          obtain ⟨g160, g161⟩ := g16
          obtain ⟨g70, g71⟩ := g7
          have c15 := C15.out wr HW.out.1
          go_wp2_with fail
          go_quiet ((go_at_call 223; exact Calls.quiet_of_same ((turn_any _ _ _ (by assumption) (by omega)).mono (fun e w' h => ⟨h.1, h.2.symm⟩))))
          have HW2 : Hid ((wr.drewN nq).heap[w.heap.size]? = some (.cells (v32 (w2F p i)) 338) ∧ Below w.heap.size w (wr.drewN nq)) := Lib.hid ⟨HW.out.1, below_dN HW.out.2 _⟩
          clear c15 HW
          generalize wr.drewN nq = wr2 at HW2 ⊢
          have HA : bits BinOp.xor IntKind.u32 (bits BinOp.xor IntKind.u32 (turnF x15 7) (turnF x15 18)) (x15 / 8) = s0F x15 := rfl
          rw [HA]
          clear HA
          obtain ⟨ga0, ga1⟩ := s0F_u32 x15
          generalize s0F x15 = A at HN ga0 ga1 ⊢
          have c2 := C2.out wr2 HW2.out.1
          go_wp2_with fail
          go_quiet ((go_at_call 223; exact Calls.quiet_of_same ((turn_any _ _ _ (by assumption) (by omega)).mono (fun e w' h => ⟨h.1, h.2.symm⟩))))
          have HW3 : Hid ((wr2.drewN nq).heap[w.heap.size]? = some (.cells (v32 (w2F p i)) 338) ∧ Below w.heap.size w (wr2.drewN nq)) := Lib.hid ⟨HW2.out.1, below_dN HW2.out.2 _⟩
          clear c2 HW2
          generalize wr2.drewN nq = wr3 at HW3 ⊢
          have HA : bits BinOp.xor IntKind.u32 (bits BinOp.xor IntKind.u32 (turnF x2 17) (turnF x2 19)) (x2 / 1024) = s1F x2 := rfl
          rw [HA]
          clear HA
          obtain ⟨gb0, gb1⟩ := s1F_u32 x2
          generalize s1F x2 = B at HN gb0 gb1 ⊢
          have r16 := cell_regrown (C16.out wr3 HW3.out.1)
          have r7 := cell_regrown (C7.out wr3 HW3.out.1)
          go_wp2_with fail
          refine wp_region_qlast 15 (fun w' => ∃ p : Regrown, w' = Go.Sort.grow (redrawn wr3 p.d) p.os) (by kernel_rfl) (by kernel_rfl) (fun _ _ d _ _ h => by cases d <;> exact h) (grows_drew _) ?_
          simp only [List.take_succ_cons, List.take_zero]
          repeat (go_big_quiet_step (fail))
          with_reducible refine wpQuiet_nil ?_
          with_reducible refine mix_a ?_
          simp only [List.drop_succ_cons, List.drop_zero, List.take_succ_cons, List.take_zero]
          obtain ⟨k0, k1⟩ := v32_cell HW3.out.1 i (by rw [w2F_length]; omega)
          go_wp2_with fail
          refine mixQ_normal ⟨fun h => absurd h (by simp), mix_nil ?_⟩
          go_wp2_with fail
          go_roundw
          case rel =>
            refine ⟨i + 1, by go_num, by omega, by omega, Lib.hid ⟨?_, ?_⟩⟩
            · rw [HN.out]; exact v32_set HW3.out.1 i _
            · have hbw := HW3.out.2
              repeat (first | with_reducible assumption | (with_reducible refine Below.setCell ?_ (by first | omega | (simp; done) | (simp; omega)) _) | (with_reducible refine Below.alloc ?_ (by first | omega | (simp; done) | (simp; omega)) _) | (with_reducible refine Below.drew ?_) | (with_reducible refine below_dN ?_ _) | with_reducible exact Below.refl _ _ | (with_reducible refine Below.trans ?_ (Below.mono (by assumption) (by first | omega | (simp; done) | (simp; omega)))))
          case measure => simp [intOf]; omega
        · obtain rfl : i = 64 := by omega
          have HH : Hid (wr.heap[hb]? = some (.cells (hashCells [h0, h1, h2, h3, h4, h5, h6, h7] rv n) 307)) := Lib.hid ((HW.out.2.block hb (lt_of_blk HB.out)).trans HB.out)
          obtain ⟨d0, d1, d2, d3, d4, d5, d6, d7, d8, d9⟩ := (blk10 HH.out).1
          go_wp2_with fail
          have HV0 : Hid ((wr.alloc (.cells (v32 [h0, h1, h2, h3, h4, h5, h6, h7]) 305)).heap[wr.heap.size]? = some (.cells (v32 [h0, h1, h2, h3, h4, h5, h6, h7]) 305)) := Lib.hid (heap_alloc_new wr _)
          have HWv : Hid ((wr.alloc (.cells (v32 [h0, h1, h2, h3, h4, h5, h6, h7]) 305)).heap[w.heap.size]? = some (.cells (v32 (w2F p 64)) 338) ∧ Below w.heap.size w (wr.alloc (.cells (v32 [h0, h1, h2, h3, h4, h5, h6, h7]) 305))) := Lib.hid ⟨(Below.heap_alloc _ _ _ (lt_of_blk HW.out.1)).trans HW.out.1, HW.out.2.alloc HW.out.2.size _⟩
          have hwv := lt_of_blk HW.out.1
          clear d0 d1 d2 d3 d4 d5 d6 d7 d8 d9 HW HH
          obtain ⟨vb, hvb⟩ : ∃ vb, vb = wr.heap.size := ⟨_, rfl⟩
          rw [← hvb] at HV0 hwv ⊢
          refine (words_any _).mono ?_
          rintro e w5 ⟨rfl, hb5⟩
          have HV5 := Lib.hid ((hb5.block vb (by rw [hvb]; simp)).trans HV0.out)
          have HW5 : Hid (w5.heap[w.heap.size]? = some (.cells (v32 (w2F p 64)) 338) ∧ Below w.heap.size w w5) := Lib.hid ⟨(hb5.block _ (by rw [hvb] at hwv; simp; omega)).trans HWv.out.1, HWv.out.2.trans (hb5.mono HWv.out.2.size)⟩
          clear HV0 HWv hb5 hvb
          have hsz : (v32 kWords).size = 64 := by rw [v32_size, kWords_length]
          dsimp only
          go_wp2_with (refine wpList_store_row rfl 338 (.tmp 10) (.tmp 113) rfl w5.heap.size (v32 kWords) rfl rfl 338 (v32 (List.replicate 64 0)) ?s1 ?s2 ?s3 (v32_one _) ?_)
          case s1 => exact heap_alloc_new w5 _
          case s2 => rw [hsz]; exact info_w64
          case s3 => rw [hsz, v32_size]; simp
          have hwlt := lt_of_blk HW5.out.1
          have hvlt := lt_of_blk HV5.out
          refine gen_code (fun wx => Hid (wx.heap[w5.heap.size]? = some (.cells (v32 kWords) 338) ∧ wx.heap[vb]? = some (.cells (v32 (vF p [h0, h1, h2, h3, h4, h5, h6, h7] 0)) 305) ∧ wx.heap[w.heap.size]? = some (.cells (v32 (w2F p 64)) 338) ∧ Below w.heap.size w wx)) ?_ ?_
          · refine Lib.hid ⟨setRow_heap _ _ _ _ _ (0, 0) (heap_alloc_new w5 _), ?_, ?_, ?_⟩
            · rw [setRow_other _ _ _ _ (by omega)]; exact (Below.heap_alloc _ _ _ hvlt).trans HV5.out
            · rw [setRow_other _ _ _ _ (by omega)]; exact (Below.heap_alloc _ _ _ hwlt).trans HW5.out.1
            · exact below_setRow (HW5.out.2.alloc HW5.out.2.size _) HW5.out.2.size _
          intro w6 HS6
          have hws := HW5.out.2.size
          clear HV5 HW5
          obtain ⟨kb, hkb⟩ : ∃ kb, kb = w5.heap.size := ⟨_, rfl⟩
          rw [← hkb] at HS6 hvlt hwlt hws ⊢
          clear hkb
          clear w5
          go_loopw [114] (fun iv wr => ∃ i : Nat, iv = .int .i64 i ∧ i ≤ 64 ∧ Hid (wr.heap[kb]? = some (.cells (v32 kWords) 338) ∧ wr.heap[vb]? = some (.cells (v32 (vF p [h0, h1, h2, h3, h4, h5, h6, h7] i)) 305) ∧ wr.heap[w.heap.size]? = some (.cells (v32 (w2F p 64)) 338) ∧ Below w.heap.size w wr)) (fun iv _ => 64 - (intOf iv).toNat)
          case atStart => exact ⟨0, rfl, by omega, HS6⟩
          case round =>
            clear HS6
            obtain ⟨i, rfl, hi, HS⟩ := hrel
            by_cases hlt : i < 64
            · have hi0 : (0 : Int) ≤ i := by omega
              have hi1 : (i : Int) < 64 := by omega
              have HN : Hid (vF p [h0, h1, h2, h3, h4, h5, h6, h7] (i + 1) = rndF (kWords.getD i 0) ((w2F p 64).getD i 0) (vF p [h0, h1, h2, h3, h4, h5, h6, h7] i)) := Lib.hid rfl
              have HVU := Lib.hid (vF_ok p [h0, h1, h2, h3, h4, h5, h6, h7] i rfl HU.out.1)
              obtain ⟨a, b, c', d, e, f, g, k, hv⟩ := eight _ HVU.out.1
              rw [hv] at HS HN HVU
              clear hv
              have ga := HVU.out.2 a (by simp)
              have gb := HVU.out.2 b (by simp)
              have gc := HVU.out.2 c' (by simp)
              have gd := HVU.out.2 d (by simp)
              have ge := HVU.out.2 e (by simp)
              have gf := HVU.out.2 f (by simp)
              have gg := HVU.out.2 g (by simp)
              have gk := HVU.out.2 k (by simp)
              clear HVU
              have gki := (kWords_u32s).at i
              have gxi := (w2F_u32 p 64).at i
              have CK := Lib.hid (fun (wx : World) (h : wx.heap[kb]? = some (.cells (v32 kWords) 338)) => (v32_cell h i (by rw [kWords_length]; omega)).1)
              have CX := Lib.hid (fun (wx : World) (h : wx.heap[w.heap.size]? = some (.cells (v32 (w2F p 64)) 338)) => (v32_cell h i (by rw [w2F_length]; omega)).1)
              generalize kWords.getD i 0 = ki at gki CK HN
              generalize (w2F p 64).getD i 0 = xi at gxi CX HN
              have HN : Hid (vF p [h0, h1, h2, h3, h4, h5, h6, h7] (i + 1) = [(tF ki xi e f g k + uF a b c') % 4294967296, a, b, c', (d + tF ki xi e f g k) % 4294967296, e, f, g]) := Lib.hid HN.out
              have GA := Lib.hid ga
              have GE := Lib.hid ge
              obtain ⟨ga0, ga1⟩ := ga
              obtain ⟨gb0, gb1⟩ := gb
              obtain ⟨gc0, gc1⟩ := gc
              obtain ⟨gd0, gd1⟩ := gd
              obtain ⟨ge0, ge1⟩ := ge
              obtain ⟨gf0, gf1⟩ := gf
              obtain ⟨gg0, gg1⟩ := gg
              obtain ⟨gk0, gk1⟩ := gk
              obtain ⟨gki0, gki1⟩ := gki
              obtain ⟨gxi0, gxi1⟩ := gxi
              have HS1 := HS
              obtain ⟨z0, z1, z2, z3, z4, z5, z6, z7⟩ := (blk8 (show wr.heap[vb]? = some (.cells #[.int .u32 a, .int .u32 b, .int .u32 c', .int .u32 d, .int .u32 e, .int .u32 f, .int .u32 g, .int .u32 k] 305) from HS1.out.2.1)).1
              go_wp2_with fail
              go_quiet (fail)
              clear HS
              have HS2 : Hid ((wr.drewN nq).heap[kb]? = some (.cells (v32 kWords) 338) ∧ (wr.drewN nq).heap[vb]? = some (.cells (v32 [a, b, c', d, e, f, g, k]) 305) ∧ (wr.drewN nq).heap[w.heap.size]? = some (.cells (v32 (w2F p 64)) 338) ∧ Below w.heap.size w (wr.drewN nq)) := Lib.hid ⟨HS1.out.1, HS1.out.2.1, HS1.out.2.2.1, below_dN HS1.out.2.2.2 _⟩
              clear HS1 z0 z1 z2 z3 z4 z5 z6 z7
              generalize wr.drewN nq = wr2 at HS2 ⊢
              obtain ⟨z0, z1, z2, z3, z4, z5, z6, z7⟩ := (blk8 (show wr2.heap[vb]? = some (.cells #[.int .u32 a, .int .u32 b, .int .u32 c', .int .u32 d, .int .u32 e, .int .u32 f, .int .u32 g, .int .u32 k] 305) from HS2.out.2.1)).1
              have ck := CK.out wr2 HS2.out.1
              have cx := CX.out wr2 HS2.out.2.2.1
              go_wp2_with fail
              go_quiet ((go_at_call 223; exact Calls.quiet_of_same ((turn_any _ _ _ (by assumption) (by omega)).mono (fun e w' h => ⟨h.1, h.2.symm⟩))))
              clear ck cx
              go_wp2_with fail
              have HT : (k + bits BinOp.xor IntKind.u32 (bits BinOp.xor IntKind.u32 (turnF e 6) (turnF e 11)) (turnF e 25) + bits BinOp.xor IntKind.u32 (bits BinOp.and IntKind.u32 e f) (bits BinOp.and IntKind.u32 (bits BinOp.xor IntKind.u32 IntKind.u32.max e) g) + ki + xi) % 4294967296 = tF ki xi e f g k := rfl
              rw [HT]
              clear HT
              have gt : 0 ≤ tF ki xi e f g k ∧ tF ki xi e f g k < 4294967296 := by unfold tF; omega
              generalize tF ki xi e f g k = T at HN gt ⊢
              obtain ⟨gt0, gt1⟩ := gt
              have HS3 : Hid ((wr2.drewN nq).heap[kb]? = some (.cells (v32 kWords) 338) ∧ (wr2.drewN nq).heap[vb]? = some (.cells (v32 [a, b, c', d, e, f, g, k]) 305) ∧ (wr2.drewN nq).heap[w.heap.size]? = some (.cells (v32 (w2F p 64)) 338) ∧ Below w.heap.size w (wr2.drewN nq)) := Lib.hid ⟨HS2.out.1, HS2.out.2.1, HS2.out.2.2.1, below_dN HS2.out.2.2.2 _⟩
              clear HS2 z0 z1 z2 z3 z4 z5 z6 z7
              generalize wr2.drewN nq = wr3 at HS3 ⊢
              obtain ⟨z0, z1, z2, z3, z4, z5, z6, z7⟩ := (blk8 (show wr3.heap[vb]? = some (.cells #[.int .u32 a, .int .u32 b, .int .u32 c', .int .u32 d, .int .u32 e, .int .u32 f, .int .u32 g, .int .u32 k] 305) from HS3.out.2.1)).1
              go_wp2_with fail
              go_quiet ((go_at_call 223; exact Calls.quiet_of_same ((turn_any _ _ _ (by assumption) (by omega)).mono (fun e w' h => ⟨h.1, h.2.symm⟩))))
              go_wp2_with fail
              have HT : (bits BinOp.xor IntKind.u32 (bits BinOp.xor IntKind.u32 (turnF a 2) (turnF a 13)) (turnF a 22) + bits BinOp.xor IntKind.u32 (bits BinOp.xor IntKind.u32 (bits BinOp.and IntKind.u32 a b) (bits BinOp.and IntKind.u32 a c')) (bits BinOp.and IntKind.u32 b c')) % 4294967296 = uF a b c' := rfl
              rw [HT]
              clear HT
              have gu : 0 ≤ uF a b c' ∧ uF a b c' < 4294967296 := by unfold uF; omega
              generalize uF a b c' = U at HN gu ⊢
              obtain ⟨gu0, gu1⟩ := gu
              have HS4 : Hid ((wr3.drewN nq).heap[kb]? = some (.cells (v32 kWords) 338) ∧ (wr3.drewN nq).heap[vb]? = some (.cells (v32 [a, b, c', d, e, f, g, k]) 305) ∧ (wr3.drewN nq).heap[w.heap.size]? = some (.cells (v32 (w2F p 64)) 338) ∧ Below w.heap.size w (wr3.drewN nq)) := Lib.hid ⟨HS3.out.1, HS3.out.2.1, HS3.out.2.2.1, below_dN HS3.out.2.2.2 _⟩
              clear HS3 z0 z1 z2 z3 z4 z5 z6 z7
              generalize wr3.drewN nq = wr4 at HS4 ⊢
              obtain ⟨z0, z1, z2, z3, z4, z5, z6, z7⟩ := (blk8 (show wr4.heap[vb]? = some (.cells #[.int .u32 a, .int .u32 b, .int .u32 c', .int .u32 d, .int .u32 e, .int .u32 f, .int .u32 g, .int .u32 k] 305) from HS4.out.2.1)).1
              obtain ⟨y0, y1, y2, y3, y4, y5, y6, y7⟩ := (blk8 (show wr4.heap[vb]? = some (.cells #[.int .u32 a, .int .u32 b, .int .u32 c', .int .u32 d, .int .u32 e, .int .u32 f, .int .u32 g, .int .u32 k] 305) from HS4.out.2.1)).2
              go_wp2_with fail
              refine wp_region_qlast 2 (fun w' => ∃ p : Regrown, w' = Go.Sort.grow (redrawn wr4 p.d) p.os) (by kernel_rfl) (by kernel_rfl) (fun _ _ d _ _ h => by cases d <;> exact h) (grows_drew _) ?_
              simp only [List.take_succ_cons, List.take_zero]
              repeat (go_big_quiet_step (fail))
              with_reducible refine wpQuiet_nil ?_
              with_reducible refine mix_a ?_
              simp only [List.drop_succ_cons, List.drop_zero, List.take_succ_cons, List.take_zero]
              refine wpList_copy_own rfl (.tmp 175) (.tmp 176) 341 341 rfl 107 Tryz.underlying341 (by kernel_rfl) vb 1 7 7 ⟨vb, 0, none⟩ 7 8 rfl rfl (v32 [a, b, c', d, e, f, g, k]) 305 HS4.out.2.1 [.int .u32 a, .int .u32 b, .int .u32 c', .int .u32 d, .int .u32 e, .int .u32 f, .int .u32 g] rfl ?k1 (by simp [v32]) (by simp [Value.oneCell']) ?_
              case k1 =>
                intro j v hj
                have hj7 : j < 7 := by have := (List.getElem?_eq_some_iff.1 hj).1; simpa using this
                have hc := cell_of_row wr4.drew vb j (v32 [a, b, c', d, e, f, g, k]) 305 (0, 0) HS4.out.2.1
                have ea : (⟨vb, 0, none⟩ : Addr).add j = ⟨vb, j, none⟩ := by unfold Addr.add; split <;> simp_all
                rw [ea, hc, ← hj]
                match j, hj7 with
                | 0, _ => rfl
                | 1, _ => rfl
                | 2, _ => rfl
                | 3, _ => rfl
                | 4, _ => rfl
                | 5, _ => rfl
                | 6, _ => rfl
              refine gen_world (fun wx => Hid (wx.heap[kb]? = some (.cells (v32 kWords) 338) ∧ wx.heap[vb]? = some (.cells (v32 [a, a, b, c', d, e, f, g]) 305) ∧ wx.heap[w.heap.size]? = some (.cells (v32 (w2F p 64)) 338) ∧ Below w.heap.size w wx)) ?_ ?_
              · have hk1 : kb ≠ vb := by omega
                have hk2 : w.heap.size ≠ vb := by omega
                refine Lib.hid ⟨?_, ?_, ?_, ?_⟩
                · rw [setRow_other _ _ _ _ hk1]; exact HS4.out.1
                · exact setRow_heap _ _ _ _ _ (0, 0) HS4.out.2.1
                · rw [setRow_other _ _ _ _ hk2]; exact HS4.out.2.2.1
                · exact below_setRow HS4.out.2.2.2.drew (by omega) _
              clear HS4 z0 z1 z2 z3 z4 z5 z6 z7 y0 y1 y2 y3 y4 y5 y6 y7
              intro wr5 HS5
              refine mixQ_normal ⟨fun h => absurd h (by simp), mix_nil ?_⟩
              obtain ⟨z0, z1, z2, z3, z4, z5, z6, z7⟩ := (blk8 (show wr5.heap[vb]? = some (.cells #[.int .u32 a, .int .u32 a, .int .u32 b, .int .u32 c', .int .u32 d, .int .u32 e, .int .u32 f, .int .u32 g] 305) from HS5.out.2.1)).1
              obtain ⟨y0, y1, y2, y3, y4, y5, y6, y7⟩ := (blk8 (show wr5.heap[vb]? = some (.cells #[.int .u32 a, .int .u32 a, .int .u32 b, .int .u32 c', .int .u32 d, .int .u32 e, .int .u32 f, .int .u32 g] 305) from HS5.out.2.1)).2
              go_wp2_with fail
              have hk1 : vb ≠ kb := by omega
              have hk2 : vb ≠ w.heap.size := by omega
              refine ⟨⟨i + 1, by go_num, by omega, Lib.hid ⟨?_, ?_, ?_, ?_⟩⟩, by simp [intOf]; omega⟩
              · exact heap_set_ne hk1 (heap_set_ne hk1 HS5.out.1)
              · rw [HN.out]; exact v32_set (v32_set HS5.out.2.1 4 _) 0 _
              · exact heap_set_ne hk2 (heap_set_ne hk2 HS5.out.2.2.1)
              · have hbw := HS5.out.2.2.2
                repeat (first | with_reducible assumption | (with_reducible refine Below.setCell ?_ (by first | omega | (simp; done) | (simp; omega)) _) | (with_reducible refine Below.alloc ?_ (by first | omega | (simp; done) | (simp; omega)) _) | (with_reducible refine Below.drew ?_) | (with_reducible refine below_dN ?_ _) | with_reducible exact Below.refl _ _ | (with_reducible refine Below.trans ?_ (Below.mono (by assumption) (by first | omega | (simp; done) | (simp; omega)))))
            · obtain rfl : i = 64 := by omega
              have HVU := Lib.hid (vF_ok p [h0, h1, h2, h3, h4, h5, h6, h7] 64 rfl HU.out.1)
              have hhb := lt_of_blk HB.out
              have HH : Hid (wr.heap[hb]? = some (.cells (hashCells (finF [h0, h1, h2, h3, h4, h5, h6, h7] (vF p [h0, h1, h2, h3, h4, h5, h6, h7] 64) 0) rv n) 307) ∧ wr.heap[vb]? = some (.cells (v32 (vF p [h0, h1, h2, h3, h4, h5, h6, h7] 64)) 305) ∧ w.grownBy wr (some hb)) := Lib.hid ⟨(HS.out.2.2.2.block hb hhb).trans HB.out, HS.out.2.1, grown_of_below HS.out.2.2.2 _⟩
              generalize hV : vF p [h0, h1, h2, h3, h4, h5, h6, h7] 64 = V at HH HVU
              have HFI := Lib.hid (show blockF p [h0, h1, h2, h3, h4, h5, h6, h7] = finF [h0, h1, h2, h3, h4, h5, h6, h7] V 8 by unfold blockF; rw [hV])
              have HHU := Lib.hid (show U32s [h0, h1, h2, h3, h4, h5, h6, h7] from HU.out.1)
              have HHL := Lib.hid (show [h0, h1, h2, h3, h4, h5, h6, h7].length = 8 from rfl)
              generalize hhe : [h0, h1, h2, h3, h4, h5, h6, h7] = h at HH HFI HHU HHL
              have HE := Lib.hid hhe
              clear hhe
              clear hV HS HB HPL HU
              go_wp2_with fail
              go_loopw [188] (fun iv wr => ∃ i : Nat, iv = .int .i64 i ∧ i ≤ 8 ∧ Hid (wr.heap[hb]? = some (.cells (hashCells (finF h V i) rv n) 307) ∧ wr.heap[vb]? = some (.cells (v32 V) 305) ∧ w.grownBy wr (some hb))) (fun iv _ => 8 - (intOf iv).toNat)
              case atStart => exact ⟨0, rfl, by omega, HH⟩
              case round =>
                clear HH
                obtain ⟨i, rfl, hi, HS⟩ := hrel
                by_cases hlt : i < 8
                · have hi0 : (0 : Int) ≤ i := by omega
                  have hi1 : (i : Int) < 8 := by omega
                  have HN : Hid (finF h V (i + 1) = (finF h V i).set i (((finF h V i).getD i 0 + V.getD i 0) % 4294967296)) := Lib.hid rfl
                  have gx := (finF_u32 h V HHU.out i).at i
                  have gv := HVU.out.2.at i
                  obtain ⟨k0, k1⟩ := hash_cell HS.out.1 i (by rw [finF_length, HHL.out]; exact hlt)
                  have k2 := (v32_cell HS.out.2.1 i (by rw [HVU.out.1]; exact hlt)).1
                  generalize (finF h V i).getD i 0 = x at gx k0 HN
                  generalize V.getD i 0 = y at gv k2 HN
                  obtain ⟨gx0, gx1⟩ := gx
                  obtain ⟨gv0, gv1⟩ := gv
                  have r0 := cell_regrown k0
                  have r2 := cell_regrown k2
                  go_wp2_with fail
                  refine wp_region_qlast 13 (fun w' => ∃ p : Regrown, w' = Go.Sort.grow (redrawn wr p.d) p.os) (by kernel_rfl) (by kernel_rfl) (fun _ _ d _ _ h => by cases d <;> exact h) (grows_drew _) ?_
                  simp only [List.take_succ_cons, List.take_zero]
                  repeat (go_big_quiet_step (fail))
                  with_reducible refine wpQuiet_nil ?_
                  with_reducible refine mix_a ?_
                  simp only [List.drop_succ_cons, List.drop_zero, List.take_succ_cons, List.take_zero]
                  go_wp2_with fail
                  refine mixQ_normal ⟨fun h => absurd h (by simp), mix_nil ?_⟩
                  go_wp2_with fail
                  have hvb : hb ≠ vb := by omega
                  refine ⟨⟨i + 1, by go_num, by omega, Lib.hid ⟨?_, ?_, ?_⟩⟩, by simp [intOf]; omega⟩
                  · rw [HN.out]; exact hash_set HS.out.1 i (by rw [finF_length, HHL.out]; exact hlt) _
                  · exact heap_set_ne hvb HS.out.2.1
                  · exact grown_trans HS.out.2.2 (grown_trans (grown_set wr hb i _) (grown_of_below (Below.refl _ _).drew _))
                · obtain rfl : i = 8 := by omega
                  go_wp2_with fail
                  go_end0
                  exact ⟨rfl, by rw [HE.out, HFI.out]; exact HS.out.1, HS.out.2.2⟩
end Go.Proofs.YtajmcplanlibnaaGreatDoor
