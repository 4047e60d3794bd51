/- The sum of texts: turning a word; the round words. -/
import Derived.Test.YtajmcplanlibnaaGreatDoorKYLib
import Derived.Test.YtajmcplanlibnaaGreatDoorProg
import Derived.Deep.MidRow
import Derived.Laws.Closers25b
import Derived.Deep.QuietTactic
import Derived.BigQuiet
import Derived.Laws.CopyOwn
set_option linter.unusedSimpArgs false
set_option linter.unusedVariables false
set_option linter.unnecessarySimpa false
namespace Go.Proofs.YtajmcplanlibnaaGreatDoor
open Go.RowKit
def U32 (x : Int) : Prop := 0 ≤ x ∧ x < 4294967296
def turnF (x n : Int) : Int := bits BinOp.or IntKind.u32 (x / 2 ^ n.toNat) (x * 2 ^ (32 - n).toNat % 4294967296)
set_option maxRecDepth 100000 in
theorem turn_any (x n : Int) (w : World) (h : U32 x) (hn : 0 < n ∧ n < 32) :
    Calls Tryz.prog 223 #[.int .u32 x, .int .u64 n] w fun e w' => e = .returned (.int .u32 (turnF x n)) ∧ w = w' := by
  obtain ⟨h0, h1⟩ := h
  obtain ⟨hn, hn2⟩ := hn
  have HT : Hid (turnF x n = bits BinOp.or IntKind.u32 (x / 2 ^ n.toNat) (x * 2 ^ (32 - n).toNat % 4294967296)) := hZ rfl
  go_enter Tryz.func223, Tryz.ntmps223
  go_wp2_with fail
  go_ret
  exact ⟨by rw [HT.out]; rfl, rfl⟩
def Jz9 : List Int := [1116352408, 1899447441, 3049323471, 3921009573, 961987163, 1508970993, 2453635748, 2870763221, 3624381080, 310598401, 607225278, 1426881987, 1925078388, 2162078206, 2614888103, 3248222580, 3835390401, 4022224774, 264347078, 604807628, 770255983, 1249150122, 1555081692, 1996064986, 2554220882, 2821834349, 2952996808, 3210313671, 3336571891, 3584528711, 113926993, 338241895, 666307205, 773529912, 1294757372, 1396182291, 1695183700, 1986661051, 2177026350, 2456956037, 2730485921, 2820302411, 3259730800, 3345764771, 3516065817, 3600352804, 4094571909, 275423344, 430227734, 506948616, 659060556, 883997877, 958139571, 1322822218, 1537002063, 1747873779, 1955562222, 2024104815, 2227730452, 2361852424, 2428436474, 2756734187, 3204031479, 3329325298]
theorem kWords_length : Jz9.length = 64 := by decide +kernel
theorem kWords_u32 : ∀ x ∈ Jz9, U32 x := by
  have h : (Jz9.all fun x => decide (0 ≤ x) && decide (x < 4294967296)) = true := by decide +kernel
  intro x hx
  have := List.all_eq_true.1 h x hx
  simp only [Bool.and_eq_true, decide_eq_true_eq] at this
  exact this
def v32 (l : List Int) : Array Value := (l.map (Value.int .u32)).toArray
theorem v32_size (l : List Int) : (v32 l).size = l.length := by simp [v32]
theorem v32_one (l : List Int) : (v32 l).all (·.oneCell') = true := by simp [v32, Value.oneCell']
theorem Qz4 {P : Program} {ops : Array Oper} {rest : List Oper} {o : Oper} {a : Act} {w : World} {Q : Exit → Act → World → Prop} (hg : o.guard = none) (t : TypeId) (parts : Array (Nat × Operand)) (ho : o.op = .build t parts)
    (cs : Array Value) (hb : P.built t (parts.map fun (i, x) => (i, a.eval x)).toList = some cs) (h : wpList P ops Q rest (a.put o.dst (.agg cs)) w) : wpList P ops Q (o :: rest) a w :=
  wpList_build hg t parts ho (by rw [hb]; rfl) (by rw [hb]; exact h)
theorem below_setRow {w0 w : World} {B g : Nat} (h : Below B w0 w) (hg : B ≤ g) (cs : Array Value) : Below B w0 (w.setRow g cs) :=
  h.trans ⟨rfl, rfl, rfl, by simp [World.setRow], fun k hk => setRow_other w g k cs (by omega)⟩
theorem info_w64 : (Tryz.prog.info? 338).map (·.size) = some 64 := by kernel_rfl
set_option maxRecDepth 100000 in
set_option maxHeartbeats 1000000 in
theorem words_any (w : World) : Calls Tryz.prog 224 #[] w fun e w' => e = .returned (.agg (v32 Jz9)) ∧ Below w.heap.size w w' := by
  go_enter Tryz.func224, Tryz.ntmps224
  repeat (fail_if_success (with_reducible refine Vz1 "sha.go:18" rfl ?_)
          first | go_values | go_skip | go_guarded | go_step | go_upon)
  refine Qz4 rfl 338 _ rfl (v32 Jz9) (by kernel_rfl) ?_
  simp only [Act.put, qs0, qs1, qs2]
  have hsz : (v32 Jz9).size = 64 := by rw [v32_size, kWords_length]
  have hblk : (w.alloc (.cells (v32 (List.replicate 64 0)) 338)).heap[w.heap.size]? = some (.cells (v32 (List.replicate 64 0)) 338) := heap_alloc_new w _
  have hb : Below w.heap.size w (w.alloc (.cells (v32 (List.replicate 64 0)) 338)) := bZ
  refine Xz0 (fun wx => wx.heap[w.heap.size]? = some (.cells (v32 (List.replicate 64 0)) 338) ∧ Below w.heap.size w wx) ⟨hblk, hb⟩ ?_
  clear hblk hb
  rintro w1 ⟨hblk, hb⟩
  refine wpList_store_row rfl 338 (.tmp 0) (.tmp 1) rfl w.heap.size (v32 Jz9) rfl rfl 338 _ hblk (by rw [hsz]; exact info_w64) (by rw [v32_size, hsz]; simp) (v32_one _) ?_
  simp only [Act.put, qs0, qs1, qs2]
  have hfin := setRow_heap w1 w.heap.size _ (v32 Jz9) 338 (0, 0) hblk
  have hbf : Below w.heap.size w (w1.setRow w.heap.size (v32 Jz9)) := below_setRow hb (by omega) _
  generalize w1.setRow w.heap.size (v32 Jz9) = wf at hfin hbf ⊢
  repeat (first | go_values | go_skip | go_guarded | go_step | go_upon)
  exact bodyPost_ret (results_cell_row Tryz.results224 _ _ w.heap.size 338 (v32 Jz9) (0, 0) _ rfl hfin Tryz.underlying338 rfl (by rw [hsz]; exact info_w64)) rfl ⟨rfl, hbf⟩
open Go.RowKit
def ByIn (w : World) (a : Option Addr) (l : List Int) : Prop :=
  ∀ i (h : i < l.length), ∃ b off, a = some ⟨b, off, none⟩ ∧ b < w.heap.size ∧ w.cell? ⟨b, off + i, none⟩ = some (.int .u8 (l.getD i 0))
theorem ByIn.below {w w' : World} {a : Option Addr} {l : List Int} (h : ByIn w a l) (hb : Below w.heap.size w w') : ByIn w' a l := fun i hi =>
  let ⟨b, off, ha, hs, c1⟩ := h i hi
  ⟨b, off, ha, Nat.lt_of_lt_of_le hs hb.size, (hb.cell (p := ⟨b, off + i, none⟩) hs).trans c1⟩
def U8s (l : List Int) : Prop := ∀ x ∈ l, 0 ≤ x ∧ x < 256
theorem U8s.at {l : List Int} (h : U8s l) (i : Nat) : 0 ≤ l.getD i 0 ∧ l.getD i 0 < 256 := by
  rw [List.getD_eq_getElem?_getD]
  cases hi : l[i]? with
  | none => simp
  | some x => exact h x (List.mem_of_getElem? hi)
def U32s (l : List Int) : Prop := ∀ x ∈ l, U32 x
theorem U32s.at {l : List Int} (h : U32s l) (i : Nat) : U32 (l.getD i 0) := by
  rw [List.getD_eq_getElem?_getD]
  cases hi : l[i]? with
  | none => exact ⟨by decide, by decide⟩
  | some x => exact h x (List.mem_of_getElem? hi)
def Kz4 (h : List Int) (rv : Value) (n : Int) : Array Value := (h.map (Value.int .u32) ++ [rv, .int .u64 n]).toArray
theorem Jze {w : World} {B T : Nat} {l : List Int} (h : w.heap[B]? = some (.cells (v32 l) T)) (i : Nat) (hi : i < l.length) : w.cell? ⟨B, i, none⟩ = some (.int .u32 (l.getD i 0)) ∧ w.frozen? ⟨B, i, none⟩ = false := by
  simp [World.cell?, World.frozen?, h, v32, hi]
theorem v32_set {w : World} {B T : Nat} {l : List Int} (h : w.heap[B]? = some (.cells (v32 l) T)) (i : Nat) (x : Int) : (w.setCell ⟨B, i, none⟩ (.int .u32 x)).heap[B]? = some (.cells (v32 (l.set i x)) T) := by
  rw [Xz3 h]; simp [v32]
def beW (a b c d : Int) : Int := bits BinOp.or IntKind.u32 (bits BinOp.or IntKind.u32 (bits BinOp.or IntKind.u32 (a * 16777216) (b * 65536)) (c * 256)) d
theorem beW_u32 (a b c d : Int) : U32 (beW a b c d) := ⟨bits_lo_u32 _ _ _, by have := bits_hi_u32 BinOp.or (bits BinOp.or IntKind.u32 (bits BinOp.or IntKind.u32 (a * 16777216) (b * 65536)) (c * 256)) d; unfold beW; omega⟩
theorem eight (h : List Int) (hl : h.length = 8) : ∃ h0 h1 h2 h3 h4 h5 h6 h7, h = [h0, h1, h2, h3, h4, h5, h6, h7] := by
  match h, hl with
  | [a, b, c, d, e, f, g, k], _ => exact ⟨a, b, c, d, e, f, g, k, rfl⟩
theorem blk10 {w : World} {B : Nat} {c0 c1 c2 c3 c4 c5 c6 c7 c8 c9 : Value} {T : Nat} (h : w.heap[B]? = some (.cells #[c0, c1, c2, c3, c4, c5, c6, c7, c8, c9] T)) :
    (w.cell? ⟨B, 0, none⟩ = some c0 ∧ w.cell? ⟨B, 1, none⟩ = some c1 ∧ w.cell? ⟨B, 2, none⟩ = some c2 ∧ w.cell? ⟨B, 3, none⟩ = some c3 ∧ w.cell? ⟨B, 4, none⟩ = some c4 ∧ w.cell? ⟨B, 5, none⟩ = some c5 ∧ w.cell? ⟨B, 6, none⟩ = some c6 ∧ w.cell? ⟨B, 7, none⟩ = some c7 ∧ w.cell? ⟨B, 8, none⟩ = some c8 ∧ w.cell? ⟨B, 9, none⟩ = some c9) ∧
    (w.frozen? ⟨B, 0, none⟩ = false ∧ w.frozen? ⟨B, 1, none⟩ = false ∧ w.frozen? ⟨B, 2, none⟩ = false ∧ w.frozen? ⟨B, 3, none⟩ = false ∧ w.frozen? ⟨B, 4, none⟩ = false ∧ w.frozen? ⟨B, 5, none⟩ = false ∧ w.frozen? ⟨B, 6, none⟩ = false ∧ w.frozen? ⟨B, 7, none⟩ = false ∧ w.frozen? ⟨B, 8, none⟩ = false ∧ w.frozen? ⟨B, 9, none⟩ = false) := by simp [World.cell?, World.frozen?, h]
def w1F (p : List Int) : Nat → List Int
  | 0 => List.replicate 64 0
  | i + 1 => (w1F p i).set i (beW (p.getD (4 * i) 0) (p.getD (4 * i + 1) 0) (p.getD (4 * i + 2) 0) (p.getD (4 * i + 3) 0))
theorem blk8 {w : World} {B : Nat} {c0 c1 c2 c3 c4 c5 c6 c7 : Value} {T : Nat} (h : w.heap[B]? = some (.cells #[c0, c1, c2, c3, c4, c5, c6, c7] T)) :
    (w.cell? ⟨B, 0, none⟩ = some c0 ∧ w.cell? ⟨B, 1, none⟩ = some c1 ∧ w.cell? ⟨B, 2, none⟩ = some c2 ∧ w.cell? ⟨B, 3, none⟩ = some c3 ∧ w.cell? ⟨B, 4, none⟩ = some c4 ∧ w.cell? ⟨B, 5, none⟩ = some c5 ∧ w.cell? ⟨B, 6, none⟩ = some c6 ∧ w.cell? ⟨B, 7, none⟩ = some c7) ∧
    (w.frozen? ⟨B, 0, none⟩ = false ∧ w.frozen? ⟨B, 1, none⟩ = false ∧ w.frozen? ⟨B, 2, none⟩ = false ∧ w.frozen? ⟨B, 3, none⟩ = false ∧ w.frozen? ⟨B, 4, none⟩ = false ∧ w.frozen? ⟨B, 5, none⟩ = false ∧ w.frozen? ⟨B, 6, none⟩ = false ∧ w.frozen? ⟨B, 7, none⟩ = false) := by simp [World.cell?, World.frozen?, h]
theorem kWords_u32s : U32s Jz9 := kWords_u32
theorem w1F_length (p : List Int) : ∀ i, (w1F p i).length = 64
  | 0 => by simp [w1F]
  | i + 1 => by simp [w1F, w1F_length p i]
theorem set_u32 {l : List Int} (h : U32s l) (i : Nat) {x : Int} (hx : U32 x) : U32s (l.set i x) := fun y hy => by
  rcases List.mem_or_eq_of_mem_set hy with h1 | rfl
  · exact h y h1
  · exact hx
theorem w1F_u32 (p : List Int) : ∀ i, U32s (w1F p i)
  | 0 => fun x hx => by
    have := List.eq_of_mem_replicate (show x ∈ List.replicate 64 0 from hx); subst this; exact ⟨by decide, by decide⟩
  | i + 1 => set_u32 (w1F_u32 p i) i (beW_u32 _ _ _ _)
def s0F (x : Int) : Int := bits BinOp.xor IntKind.u32 (bits BinOp.xor IntKind.u32 (turnF x 7) (turnF x 18)) (x / 8)
def s1F (x : Int) : Int := bits BinOp.xor IntKind.u32 (bits BinOp.xor IntKind.u32 (turnF x 17) (turnF x 19)) (x / 1024)
theorem s0F_u32 (x : Int) : U32 (s0F x) := ⟨bits_lo_u32 _ _ _, by have := bits_hi_u32 BinOp.xor (bits BinOp.xor IntKind.u32 (turnF x 7) (turnF x 18)) (x / 8); unfold s0F; omega⟩
theorem s1F_u32 (x : Int) : U32 (s1F x) := ⟨bits_lo_u32 _ _ _, by have := bits_hi_u32 BinOp.xor (bits BinOp.xor IntKind.u32 (turnF x 17) (turnF x 19)) (x / 1024); unfold s1F; omega⟩
def schF (ws : List Int) (i : Nat) : Int := (ws.getD (i - 16) 0 + s0F (ws.getD (i - 15) 0) + ws.getD (i - 7) 0 + s1F (ws.getD (i - 2) 0)) % 4294967296
def schG (p : List Int) : Nat → List Int
  | 0 => w1F p 16
  | k + 1 => (schG p k).set (16 + k) (schF (schG p k) (16 + k))
theorem schF_u32 (ws : List Int) (i : Nat) : U32 (schF ws i) := by unfold schF U32; omega
theorem schG_length (p : List Int) : ∀ k, (schG p k).length = 64
  | 0 => w1F_length p 16
  | k + 1 => by simp [schG, schG_length p k]
theorem schG_u32 (p : List Int) : ∀ k, U32s (schG p k)
  | 0 => w1F_u32 p 16
  | k + 1 => set_u32 (schG_u32 p k) _ (schF_u32 _ _)
def w2F (p : List Int) (i : Nat) : List Int := schG p (i - 16)
theorem Zzf (p : List Int) (i : Nat) : (w2F p i).length = 64 := schG_length p _
theorem w2F_u32 (p : List Int) (i : Nat) : U32s (w2F p i) := schG_u32 p _
theorem w2F_next (p : List Int) (i : Nat) (h : 16 ≤ i) : w2F p (i + 1) = (w2F p i).set i (((w2F p i).getD (i - 16) 0 + s0F ((w2F p i).getD (i - 15) 0) + (w2F p i).getD (i - 7) 0 + s1F ((w2F p i).getD (i - 2) 0)) % 4294967296) := by
  obtain ⟨k, rfl⟩ : ∃ k, i = 16 + k := ⟨i - 16, by omega⟩
  unfold w2F
  rw [show 16 + k + 1 - 16 = k + 1 by omega, show 16 + k - 16 = k by omega]
  simp only [schG, schF]
  rw [show 16 + k - 16 = k by omega]
def bs0F (a : Int) : Int := bits BinOp.xor IntKind.u32 (bits BinOp.xor IntKind.u32 (turnF a 2) (turnF a 13)) (turnF a 22)
def bs1F (e : Int) : Int := bits BinOp.xor IntKind.u32 (bits BinOp.xor IntKind.u32 (turnF e 6) (turnF e 11)) (turnF e 25)
def chF (e f g : Int) : Int := bits BinOp.xor IntKind.u32 (bits BinOp.and IntKind.u32 e f) (bits BinOp.and IntKind.u32 (bits BinOp.xor IntKind.u32 IntKind.u32.max e) g)
def majF (a b c : Int) : Int := bits BinOp.xor IntKind.u32 (bits BinOp.xor IntKind.u32 (bits BinOp.and IntKind.u32 a b) (bits BinOp.and IntKind.u32 a c)) (bits BinOp.and IntKind.u32 b c)
def tF (k x e f g h : Int) : Int := (h + bs1F e + chF e f g + k + x) % 4294967296
def uF (a b c : Int) : Int := (bs0F a + majF a b c) % 4294967296
def rndF (k x : Int) (v : List Int) : List Int :=
  [(tF k x (v.getD 4 0) (v.getD 5 0) (v.getD 6 0) (v.getD 7 0) + uF (v.getD 0 0) (v.getD 1 0) (v.getD 2 0)) % 4294967296, v.getD 0 0, v.getD 1 0, v.getD 2 0,
   (v.getD 3 0 + tF k x (v.getD 4 0) (v.getD 5 0) (v.getD 6 0) (v.getD 7 0)) % 4294967296, v.getD 4 0, v.getD 5 0, v.getD 6 0]
def vF (p h : List Int) : Nat → List Int
  | 0 => h
  | i + 1 => rndF (Jz9.getD i 0) ((w2F p 64).getD i 0) (vF p h i)
theorem vF_ok (p h : List Int) : ∀ i, h.length = 8 → U32s h → (vF p h i).length = 8 ∧ U32s (vF p h i)
  | 0, hl, hu => ⟨hl, hu⟩
  | i + 1, hl, hu => by
    obtain ⟨_, h2⟩ := vF_ok p h i hl hu
    refine ⟨rfl, fun x hx => ?_⟩
    simp only [vF, rndF, List.mem_cons, List.not_mem_nil, or_false] at hx
    rcases hx with rfl | rfl | rfl | rfl | rfl | rfl | rfl | rfl
    all_goals first | exact h2.at _ | (unfold U32; omega)
def finF (h v : List Int) : Nat → List Int
  | 0 => h
  | i + 1 => (finF h v i).set i (((finF h v i).getD i 0 + v.getD i 0) % 4294967296)
theorem finF_length (h v : List Int) : ∀ i, (finF h v i).length = h.length
  | 0 => rfl
  | i + 1 => by simp [finF, finF_length h v i]
theorem finF_u32 (h v : List Int) (hu : U32s h) : ∀ i, U32s (finF h v i)
  | 0 => hu
  | i + 1 => set_u32 (finF_u32 h v hu i) i (by unfold U32; omega)
def blockF (p h : List Int) : List Int := finF h (vF p h 64) 8
theorem blockF_ok (p h : List Int) (hl : h.length = 8) (hu : U32s h) : (blockF p h).length = 8 ∧ U32s (blockF p h) := ⟨by unfold blockF; rw [finF_length, hl], finF_u32 _ _ hu _⟩
theorem hash_cell {w : World} {B T : Nat} {l : List Int} {rv : Value} {n : Int} (h : w.heap[B]? = some (.cells (Kz4 l rv n) T)) (i : Nat) (hi : i < l.length) : w.cell? ⟨B, i, none⟩ = some (.int .u32 (l.getD i 0)) ∧ w.frozen? ⟨B, i, none⟩ = false := by
  simp [World.cell?, World.frozen?, h, Kz4, hi, List.getElem?_append]
theorem hash_set {w : World} {B T : Nat} {l : List Int} {rv : Value} {n : Int} (h : w.heap[B]? = some (.cells (Kz4 l rv n) T)) (i : Nat) (hi : i < l.length) (x : Int) : (w.setCell ⟨B, i, none⟩ (.int .u32 x)).heap[B]? = some (.cells (Kz4 (l.set i x) rv n) T) := by
  rw [Xz3 h]; simp [Kz4, List.set_append, hi]
set_option maxRecDepth 100000 in
set_option maxHeartbeats 4000000 in
theorem block_any (hb : Nat) (h : List Int) (rv : Value) (n : Int) (pa : Option Addr) (p : List Int) (c : Nat) (w : World) (hlen : h.length = 8) (hu : U32s h) (hp : p.length = 64) (hp8 : U8s p) (hc : p.length ≤ c)
    (hblk : w.heap[hb]? = some (.cells (Kz4 h rv n) 307)) (hpi : ByIn w pa p) :
    Calls Tryz.prog 192 #[.pointer (some ⟨hb, 0, none⟩), .slice pa p.length c] w fun e w' => e = .returned (.tuple #[]) ∧ w'.heap[hb]? = some (.cells (Kz4 (blockF p h) rv n) 307) ∧ w.grownBy w' (some hb) := by
  have HB := hZ hblk
  have HP := hZ hpi
  have HU := hZ (And.intro hu hp8)
  obtain ⟨h0, h1, h2, h3, h4, h5, h6, h7, rfl⟩ := eight h hlen
  rw [hp] at hc ⊢
  have HPL := hZ hp
  clear hblk hpi hu hlen hp8 hp
  go_enter Tryz.func192, Tryz.ntmps192
  go_wp2_with fail
  have HW0 : Hid ((w.alloc (.cells (v32 (List.replicate 64 0)) 338)).heap[w.heap.size]? = some (.cells (v32 (w1F p 0)) 338) ∧ Below w.heap.size w (w.alloc (.cells (v32 (List.replicate 64 0)) 338))) := hZ ⟨heap_alloc_new w _, bZ⟩
  refine Kz0 (fun wx => Hid (wx.heap[w.heap.size]? = some (.cells (v32 (w1F p 0)) 338) ∧ Below w.heap.size w wx)) HW0 ?_
  clear HW0
  intro w1 HW1
  go_loopw [17] (fun iv wr => ∃ i : Nat, iv = .int .i64 i ∧ i ≤ 16 ∧ Hid (wr.heap[w.heap.size]? = some (.cells (v32 (w1F p i)) 338) ∧ Below w.heap.size w wr)) (fun iv _ => 16 - (intOf iv).toNat)
  case atStart => exact ⟨0, rfl, by omega, HW1⟩
  case round =>
    obtain ⟨i, rfl, hi, HW⟩ := hrel
    by_cases hlt : i < 16
    · obtain ⟨b, off, rfl, hb0, c0⟩ := (HP.out.below HW.out.2) (4 * i) (by rw [HPL.out]; omega)
      obtain ⟨b, off, e1, hb1, c1⟩ := (HP.out.below HW.out.2) (4 * i + 1) (by rw [HPL.out]; omega)
      cases e1
      obtain ⟨b, off, e1, hb2, c2⟩ := (HP.out.below HW.out.2) (4 * i + 2) (by rw [HPL.out]; omega)
      cases e1
      obtain ⟨b, off, e1, hb3, c3⟩ := (HP.out.below HW.out.2) (4 * i + 3) (by rw [HPL.out]; omega)
      cases e1
      have HN : Hid (w1F p (i + 1) = (w1F p i).set i (beW (p.getD (4 * i) 0) (p.getD (4 * i + 1) 0) (p.getD (4 * i + 2) 0) (p.getD (4 * i + 3) 0))) := hZ rfl
      have hi1 : (i : Int) < 16 := by omega
      have hi0 : (0 : Int) ≤ i := by omega
      have g0 := HU.out.2.at (4 * i)
      have g1 := HU.out.2.at (4 * i + 1)
      have g2 := HU.out.2.at (4 * i + 2)
      have g3 := HU.out.2.at (4 * i + 3)
      generalize p.getD (4 * i) 0 = x0 at c0 g0 HN
      generalize p.getD (4 * i + 1) 0 = x1 at c1 g1 HN
      generalize p.getD (4 * i + 2) 0 = x2 at c2 g2 HN
      generalize p.getD (4 * i + 3) 0 = x3 at c3 g3 HN
      obtain ⟨g00, g01⟩ := g0
      obtain ⟨g10, g11⟩ := g1
      obtain ⟨g20, g21⟩ := g2
      obtain ⟨g30, g31⟩ := g3
      have r0 := cell_regrown c0
      have r1 := cell_regrown c1
      have r2 := cell_regrown c2
      have r3 := cell_regrown c3
      clear c0 c1 c2 c3
      go_wp2_with fail
      refine Zz3 35 (fun w' => ∃ p : Regrown, w' = Go.Sort.grow (redrawn wr p.d) p.os) (by kernel_rfl) (by kernel_rfl) (fun _ _ d _ _ h => by cases d <;> exact h) (Vz2 _) ?_
      simp only [List.take_succ_cons, List.take_zero]
      repeat (go_big_quiet_step (fail))
      with_reducible refine wpQuiet_nil ?_
      with_reducible refine mix_a ?_
      simp only [qd1, qd0, qt1, qt0]
      obtain ⟨k0, k1⟩ := Jze HW.out.1 i (by rw [w1F_length]; omega)
      go_wp2_with fail
      refine Qz0 ⟨fun h => absurd h (by simp), Wz1 ?_⟩
      go_wp2_with fail
      go_roundw
      case rel =>
        refine ⟨i + 1, by go_num, by omega, hZ ⟨?_, ?_⟩⟩
        · rw [HN.out]; exact v32_set HW.out.1 i _
        · have hbw := HW.out.2
          repeat (first | with_reducible assumption | (with_reducible refine Below.setCell ?_ (by first | omega | (simp; done) | (simp; omega)) _) | (with_reducible refine Below.alloc ?_ (by first | omega | (simp; done) | (simp; omega)) _) | (with_reducible refine Below.drew ?_) | (with_reducible refine Qz2 ?_ _) | with_reducible exact Below.refl _ _ | (with_reducible refine Below.trans ?_ (Below.mono (by assumption) (by first | omega | (simp; done) | (simp; omega)))))
      case measure => simp [intOf]; omega
    · obtain rfl : i = 16 := by omega
      go_wp2_with fail
      go_loopw [6] (fun iv wr => ∃ i : Nat, iv = .int .i64 i ∧ 16 ≤ i ∧ i ≤ 64 ∧ Hid (wr.heap[w.heap.size]? = some (.cells (v32 (w2F p i)) 338) ∧ Below w.heap.size w wr)) (fun iv _ => 64 - (intOf iv).toNat)
      case atStart => exact ⟨16, rfl, by omega, by omega, HW⟩
      case round =>
        clear HW HP
        obtain ⟨i, rfl, hi, hi2, HW⟩ := hrel
        by_cases hlt : i < 64
        · have hi0 : (16 : Int) ≤ i := by omega
          have hi1 : (i : Int) < 64 := by omega
          have C15 := hZ (fun (wx : World) (h : wx.heap[w.heap.size]? = some (.cells (v32 (w2F p i)) 338)) => (Jze h (i - 15) (by rw [Zzf]; omega)).1)
          have C2 := hZ (fun (wx : World) (h : wx.heap[w.heap.size]? = some (.cells (v32 (w2F p i)) 338)) => (Jze h (i - 2) (by rw [Zzf]; omega)).1)
          have C16 := hZ (fun (wx : World) (h : wx.heap[w.heap.size]? = some (.cells (v32 (w2F p i)) 338)) => (Jze h (i - 16) (by rw [Zzf]; omega)).1)
          have C7 := hZ (fun (wx : World) (h : wx.heap[w.heap.size]? = some (.cells (v32 (w2F p i)) 338)) => (Jze h (i - 7) (by rw [Zzf]; omega)).1)
          have HN := hZ (w2F_next p i hi)
          have g15 := (w2F_u32 p i).at (i - 15)
          have g2 := (w2F_u32 p i).at (i - 2)
          have g16 := (w2F_u32 p i).at (i - 16)
          have g7 := (w2F_u32 p i).at (i - 7)
          generalize (w2F p i).getD (i - 15) 0 = x15 at C15 g15 HN
          generalize (w2F p i).getD (i - 2) 0 = x2 at C2 g2 HN
          generalize (w2F p i).getD (i - 16) 0 = x16 at C16 g16 HN
          generalize (w2F p i).getD (i - 7) 0 = x7 at C7 g7 HN
          have G15 := hZ g15
          have G2 := hZ g2
          obtain ⟨g150, g151⟩ := g15
          obtain ⟨g20, g21⟩ := g2
          obtain ⟨g160, g161⟩ := g16
          obtain ⟨g70, g71⟩ := g7
          have c15 := C15.out wr HW.out.1
          go_wp2_with fail
          go_quiet ((go_at_call 223; exact Calls.quiet_of_same ((turn_any _ _ _ (by assumption) (by omega)).mono (fun e w' h => ⟨h.1, h.2.symm⟩))))
          have HW2 : Hid ((wr.drewN nq).heap[w.heap.size]? = some (.cells (v32 (w2F p i)) 338) ∧ Below w.heap.size w (wr.drewN nq)) := hZ ⟨HW.out.1, Qz2 HW.out.2 _⟩
          clear c15 HW
          generalize wr.drewN nq = wr2 at HW2 ⊢
          have HA : bits BinOp.xor IntKind.u32 (bits BinOp.xor IntKind.u32 (turnF x15 7) (turnF x15 18)) (x15 / 8) = s0F x15 := rfl
          rw [HA]
          clear HA
          obtain ⟨ga0, ga1⟩ := s0F_u32 x15
          generalize s0F x15 = A at HN ga0 ga1 ⊢
          have c2 := C2.out wr2 HW2.out.1
          go_wp2_with fail
          go_quiet ((go_at_call 223; exact Calls.quiet_of_same ((turn_any _ _ _ (by assumption) (by omega)).mono (fun e w' h => ⟨h.1, h.2.symm⟩))))
          have HW3 : Hid ((wr2.drewN nq).heap[w.heap.size]? = some (.cells (v32 (w2F p i)) 338) ∧ Below w.heap.size w (wr2.drewN nq)) := hZ ⟨HW2.out.1, Qz2 HW2.out.2 _⟩
          clear c2 HW2
          generalize wr2.drewN nq = wr3 at HW3 ⊢
          have HA : bits BinOp.xor IntKind.u32 (bits BinOp.xor IntKind.u32 (turnF x2 17) (turnF x2 19)) (x2 / 1024) = s1F x2 := rfl
          rw [HA]
          clear HA
          obtain ⟨gb0, gb1⟩ := s1F_u32 x2
          generalize s1F x2 = B at HN gb0 gb1 ⊢
          have r16 := cell_regrown (C16.out wr3 HW3.out.1)
          have r7 := cell_regrown (C7.out wr3 HW3.out.1)
          go_wp2_with fail
          refine Zz3 15 (fun w' => ∃ p : Regrown, w' = Go.Sort.grow (redrawn wr3 p.d) p.os) (by kernel_rfl) (by kernel_rfl) (fun _ _ d _ _ h => by cases d <;> exact h) (Vz2 _) ?_
          simp only [List.take_succ_cons, List.take_zero]
          repeat (go_big_quiet_step (fail))
          with_reducible refine wpQuiet_nil ?_
          with_reducible refine mix_a ?_
          simp only [qd1, qd0, qt1, qt0]
          obtain ⟨k0, k1⟩ := Jze HW3.out.1 i (by rw [Zzf]; omega)
          go_wp2_with fail
          refine Qz0 ⟨fun h => absurd h (by simp), Wz1 ?_⟩
          go_wp2_with fail
          go_roundw
          case rel =>
            refine ⟨i + 1, by go_num, by omega, by omega, hZ ⟨?_, ?_⟩⟩
            · rw [HN.out]; exact v32_set HW3.out.1 i _
            · have hbw := HW3.out.2
              repeat (first | with_reducible assumption | (with_reducible refine Below.setCell ?_ (by first | omega | (simp; done) | (simp; omega)) _) | (with_reducible refine Below.alloc ?_ (by first | omega | (simp; done) | (simp; omega)) _) | (with_reducible refine Below.drew ?_) | (with_reducible refine Qz2 ?_ _) | with_reducible exact Below.refl _ _ | (with_reducible refine Below.trans ?_ (Below.mono (by assumption) (by first | omega | (simp; done) | (simp; omega)))))
          case measure => simp [intOf]; omega
        · obtain rfl : i = 64 := by omega
          have HH : Hid (wr.heap[hb]? = some (.cells (Kz4 [h0, h1, h2, h3, h4, h5, h6, h7] rv n) 307)) := hZ ((HW.out.2.block hb (Zz0 HB.out)).trans HB.out)
          obtain ⟨d0, d1, d2, d3, d4, d5, d6, d7, d8, d9⟩ := (blk10 HH.out).1
          go_wp2_with fail
          have HV0 : Hid ((wr.alloc (.cells (v32 [h0, h1, h2, h3, h4, h5, h6, h7]) 305)).heap[wr.heap.size]? = some (.cells (v32 [h0, h1, h2, h3, h4, h5, h6, h7]) 305)) := hZ (heap_alloc_new wr _)
          have HWv : Hid ((wr.alloc (.cells (v32 [h0, h1, h2, h3, h4, h5, h6, h7]) 305)).heap[w.heap.size]? = some (.cells (v32 (w2F p 64)) 338) ∧ Below w.heap.size w (wr.alloc (.cells (v32 [h0, h1, h2, h3, h4, h5, h6, h7]) 305))) := hZ ⟨(Below.heap_alloc _ _ _ (Zz0 HW.out.1)).trans HW.out.1, HW.out.2.alloc HW.out.2.size _⟩
          have hwv := Zz0 HW.out.1
          clear d0 d1 d2 d3 d4 d5 d6 d7 d8 d9 HW HH
          obtain ⟨vb, hvb⟩ : ∃ vb, vb = wr.heap.size := ⟨_, rfl⟩
          rw [← hvb] at HV0 hwv ⊢
          refine (words_any _).mono ?_
          rintro e w5 ⟨rfl, hb5⟩
          have HV5 := hZ ((hb5.block vb (by rw [hvb]; simp)).trans HV0.out)
          have HW5 : Hid (w5.heap[w.heap.size]? = some (.cells (v32 (w2F p 64)) 338) ∧ Below w.heap.size w w5) := hZ ⟨(hb5.block _ (by rw [hvb] at hwv; simp; omega)).trans HWv.out.1, HWv.out.2.trans (hb5.mono HWv.out.2.size)⟩
          clear HV0 HWv hb5 hvb
          have hsz : (v32 Jz9).size = 64 := by rw [v32_size, kWords_length]
          dsimp only
          go_wp2_with (refine wpList_store_row rfl 338 (.tmp 10) (.tmp 113) rfl w5.heap.size (v32 Jz9) rfl rfl 338 (v32 (List.replicate 64 0)) ?s1 ?s2 ?s3 (v32_one _) ?_)
          case s1 => exact heap_alloc_new w5 _
          case s2 => rw [hsz]; exact info_w64
          case s3 => rw [hsz, v32_size]; simp
          have hwlt := Zz0 HW5.out.1
          have hvlt := Zz0 HV5.out
          refine Kz0 (fun wx => Hid (wx.heap[w5.heap.size]? = some (.cells (v32 Jz9) 338) ∧ wx.heap[vb]? = some (.cells (v32 (vF p [h0, h1, h2, h3, h4, h5, h6, h7] 0)) 305) ∧ wx.heap[w.heap.size]? = some (.cells (v32 (w2F p 64)) 338) ∧ Below w.heap.size w wx)) ?_ ?_
          · refine hZ ⟨setRow_heap _ _ _ _ _ (0, 0) (heap_alloc_new w5 _), ?_, ?_, ?_⟩
            · rw [setRow_other _ _ _ _ (by omega)]; exact (Below.heap_alloc _ _ _ hvlt).trans HV5.out
            · rw [setRow_other _ _ _ _ (by omega)]; exact (Below.heap_alloc _ _ _ hwlt).trans HW5.out.1
            · exact below_setRow (HW5.out.2.alloc HW5.out.2.size _) HW5.out.2.size _
          intro w6 HS6
          have hws := HW5.out.2.size
          clear HV5 HW5
          obtain ⟨kb, hkb⟩ : ∃ kb, kb = w5.heap.size := ⟨_, rfl⟩
          rw [← hkb] at HS6 hvlt hwlt hws ⊢
          clear hkb
          clear w5
          go_loopw [114] (fun iv wr => ∃ i : Nat, iv = .int .i64 i ∧ i ≤ 64 ∧ Hid (wr.heap[kb]? = some (.cells (v32 Jz9) 338) ∧ wr.heap[vb]? = some (.cells (v32 (vF p [h0, h1, h2, h3, h4, h5, h6, h7] i)) 305) ∧ wr.heap[w.heap.size]? = some (.cells (v32 (w2F p 64)) 338) ∧ Below w.heap.size w wr)) (fun iv _ => 64 - (intOf iv).toNat)
          case atStart => exact ⟨0, rfl, by omega, HS6⟩
          case round =>
            clear HS6
            obtain ⟨i, rfl, hi, HS⟩ := hrel
            by_cases hlt : i < 64
            · have hi0 : (0 : Int) ≤ i := by omega
              have hi1 : (i : Int) < 64 := by omega
              have HN : Hid (vF p [h0, h1, h2, h3, h4, h5, h6, h7] (i + 1) = rndF (Jz9.getD i 0) ((w2F p 64).getD i 0) (vF p [h0, h1, h2, h3, h4, h5, h6, h7] i)) := hZ rfl
              have HVU := hZ (vF_ok p [h0, h1, h2, h3, h4, h5, h6, h7] i rfl HU.out.1)
              obtain ⟨a, b, c', d, e, f, g, k, hv⟩ := eight _ HVU.out.1
              rw [hv] at HS HN HVU
              clear hv
              have ga := HVU.out.2 a (by simp)
              have gb := HVU.out.2 b (by simp)
              have gc := HVU.out.2 c' (by simp)
              have gd := HVU.out.2 d (by simp)
              have ge := HVU.out.2 e (by simp)
              have gf := HVU.out.2 f (by simp)
              have gg := HVU.out.2 g (by simp)
              have gk := HVU.out.2 k (by simp)
              clear HVU
              have gki := (kWords_u32s).at i
              have gxi := (w2F_u32 p 64).at i
              have CK := hZ (fun (wx : World) (h : wx.heap[kb]? = some (.cells (v32 Jz9) 338)) => (Jze h i (by rw [kWords_length]; omega)).1)
              have CX := hZ (fun (wx : World) (h : wx.heap[w.heap.size]? = some (.cells (v32 (w2F p 64)) 338)) => (Jze h i (by rw [Zzf]; omega)).1)
              generalize Jz9.getD i 0 = ki at gki CK HN
              generalize (w2F p 64).getD i 0 = xi at gxi CX HN
              have HN : Hid (vF p [h0, h1, h2, h3, h4, h5, h6, h7] (i + 1) = [(tF ki xi e f g k + uF a b c') % 4294967296, a, b, c', (d + tF ki xi e f g k) % 4294967296, e, f, g]) := hZ HN.out
              have GA := hZ ga
              have GE := hZ ge
              obtain ⟨ga0, ga1⟩ := ga
              obtain ⟨gb0, gb1⟩ := gb
              obtain ⟨gc0, gc1⟩ := gc
              obtain ⟨gd0, gd1⟩ := gd
              obtain ⟨ge0, ge1⟩ := ge
              obtain ⟨gf0, gf1⟩ := gf
              obtain ⟨gg0, gg1⟩ := gg
              obtain ⟨gk0, gk1⟩ := gk
              obtain ⟨gki0, gki1⟩ := gki
              obtain ⟨gxi0, gxi1⟩ := gxi
              have HS1 := HS
              obtain ⟨z0, z1, z2, z3, z4, z5, z6, z7⟩ := (blk8 (show wr.heap[vb]? = some (.cells #[.int .u32 a, .int .u32 b, .int .u32 c', .int .u32 d, .int .u32 e, .int .u32 f, .int .u32 g, .int .u32 k] 305) from HS1.out.2.1)).1
              go_wp2_with fail
              go_quiet (fail)
              clear HS
              have HS2 : Hid ((wr.drewN nq).heap[kb]? = some (.cells (v32 Jz9) 338) ∧ (wr.drewN nq).heap[vb]? = some (.cells (v32 [a, b, c', d, e, f, g, k]) 305) ∧ (wr.drewN nq).heap[w.heap.size]? = some (.cells (v32 (w2F p 64)) 338) ∧ Below w.heap.size w (wr.drewN nq)) := hZ ⟨HS1.out.1, HS1.out.2.1, HS1.out.2.2.1, Qz2 HS1.out.2.2.2 _⟩
              clear HS1 z0 z1 z2 z3 z4 z5 z6 z7
              generalize wr.drewN nq = wr2 at HS2 ⊢
              obtain ⟨z0, z1, z2, z3, z4, z5, z6, z7⟩ := (blk8 (show wr2.heap[vb]? = some (.cells #[.int .u32 a, .int .u32 b, .int .u32 c', .int .u32 d, .int .u32 e, .int .u32 f, .int .u32 g, .int .u32 k] 305) from HS2.out.2.1)).1
              have ck := CK.out wr2 HS2.out.1
              have cx := CX.out wr2 HS2.out.2.2.1
              go_wp2_with fail
              go_quiet ((go_at_call 223; exact Calls.quiet_of_same ((turn_any _ _ _ (by assumption) (by omega)).mono (fun e w' h => ⟨h.1, h.2.symm⟩))))
              clear ck cx
              go_wp2_with fail
              have HT : (k + bits BinOp.xor IntKind.u32 (bits BinOp.xor IntKind.u32 (turnF e 6) (turnF e 11)) (turnF e 25) + bits BinOp.xor IntKind.u32 (bits BinOp.and IntKind.u32 e f) (bits BinOp.and IntKind.u32 (bits BinOp.xor IntKind.u32 IntKind.u32.max e) g) + ki + xi) % 4294967296 = tF ki xi e f g k := rfl
              rw [HT]
              clear HT
              have gt : 0 ≤ tF ki xi e f g k ∧ tF ki xi e f g k < 4294967296 := by unfold tF; omega
              generalize tF ki xi e f g k = T at HN gt ⊢
              obtain ⟨gt0, gt1⟩ := gt
              have HS3 : Hid ((wr2.drewN nq).heap[kb]? = some (.cells (v32 Jz9) 338) ∧ (wr2.drewN nq).heap[vb]? = some (.cells (v32 [a, b, c', d, e, f, g, k]) 305) ∧ (wr2.drewN nq).heap[w.heap.size]? = some (.cells (v32 (w2F p 64)) 338) ∧ Below w.heap.size w (wr2.drewN nq)) := hZ ⟨HS2.out.1, HS2.out.2.1, HS2.out.2.2.1, Qz2 HS2.out.2.2.2 _⟩
              clear HS2 z0 z1 z2 z3 z4 z5 z6 z7
              generalize wr2.drewN nq = wr3 at HS3 ⊢
              obtain ⟨z0, z1, z2, z3, z4, z5, z6, z7⟩ := (blk8 (show wr3.heap[vb]? = some (.cells #[.int .u32 a, .int .u32 b, .int .u32 c', .int .u32 d, .int .u32 e, .int .u32 f, .int .u32 g, .int .u32 k] 305) from HS3.out.2.1)).1
              go_wp2_with fail
              go_quiet ((go_at_call 223; exact Calls.quiet_of_same ((turn_any _ _ _ (by assumption) (by omega)).mono (fun e w' h => ⟨h.1, h.2.symm⟩))))
              go_wp2_with fail
              have HT : (bits BinOp.xor IntKind.u32 (bits BinOp.xor IntKind.u32 (turnF a 2) (turnF a 13)) (turnF a 22) + bits BinOp.xor IntKind.u32 (bits BinOp.xor IntKind.u32 (bits BinOp.and IntKind.u32 a b) (bits BinOp.and IntKind.u32 a c')) (bits BinOp.and IntKind.u32 b c')) % 4294967296 = uF a b c' := rfl
              rw [HT]
              clear HT
              have gu : 0 ≤ uF a b c' ∧ uF a b c' < 4294967296 := by unfold uF; omega
              generalize uF a b c' = U at HN gu ⊢
              obtain ⟨gu0, gu1⟩ := gu
              have HS4 : Hid ((wr3.drewN nq).heap[kb]? = some (.cells (v32 Jz9) 338) ∧ (wr3.drewN nq).heap[vb]? = some (.cells (v32 [a, b, c', d, e, f, g, k]) 305) ∧ (wr3.drewN nq).heap[w.heap.size]? = some (.cells (v32 (w2F p 64)) 338) ∧ Below w.heap.size w (wr3.drewN nq)) := hZ ⟨HS3.out.1, HS3.out.2.1, HS3.out.2.2.1, Qz2 HS3.out.2.2.2 _⟩
              clear HS3 z0 z1 z2 z3 z4 z5 z6 z7
              generalize wr3.drewN nq = wr4 at HS4 ⊢
              obtain ⟨z0, z1, z2, z3, z4, z5, z6, z7⟩ := (blk8 (show wr4.heap[vb]? = some (.cells #[.int .u32 a, .int .u32 b, .int .u32 c', .int .u32 d, .int .u32 e, .int .u32 f, .int .u32 g, .int .u32 k] 305) from HS4.out.2.1)).1
              obtain ⟨y0, y1, y2, y3, y4, y5, y6, y7⟩ := (blk8 (show wr4.heap[vb]? = some (.cells #[.int .u32 a, .int .u32 b, .int .u32 c', .int .u32 d, .int .u32 e, .int .u32 f, .int .u32 g, .int .u32 k] 305) from HS4.out.2.1)).2
              go_wp2_with fail
              refine Zz3 2 (fun w' => ∃ p : Regrown, w' = Go.Sort.grow (redrawn wr4 p.d) p.os) (by kernel_rfl) (by kernel_rfl) (fun _ _ d _ _ h => by cases d <;> exact h) (Vz2 _) ?_
              simp only [List.take_succ_cons, List.take_zero]
              repeat (go_big_quiet_step (fail))
              with_reducible refine wpQuiet_nil ?_
              with_reducible refine mix_a ?_
              simp only [qd1, qd0, qt1, qt0]
              refine wpList_copy_own rfl (.tmp 175) (.tmp 176) 341 341 rfl 107 Tryz.underlying341 (by kernel_rfl) vb 1 7 7 ⟨vb, 0, none⟩ 7 8 rfl rfl (v32 [a, b, c', d, e, f, g, k]) 305 HS4.out.2.1 [.int .u32 a, .int .u32 b, .int .u32 c', .int .u32 d, .int .u32 e, .int .u32 f, .int .u32 g] rfl ?k1 (by simp [v32]) (by simp [Value.oneCell']) ?_
              case k1 =>
                intro j v hj
                have hj7 : j < 7 := by have := (List.getElem?_eq_some_iff.1 hj).1; simpa using this
                have hc := cell_of_row wr4.drew vb j (v32 [a, b, c', d, e, f, g, k]) 305 (0, 0) HS4.out.2.1
                have ea : (⟨vb, 0, none⟩ : Addr).add j = ⟨vb, j, none⟩ := by unfold Addr.add; split <;> simp_all
                rw [ea, hc, ← hj]
                match j, hj7 with
                | 0, _ => rfl
                | 1, _ => rfl
                | 2, _ => rfl
                | 3, _ => rfl
                | 4, _ => rfl
                | 5, _ => rfl
                | 6, _ => rfl
              refine Xz0 (fun wx => Hid (wx.heap[kb]? = some (.cells (v32 Jz9) 338) ∧ wx.heap[vb]? = some (.cells (v32 [a, a, b, c', d, e, f, g]) 305) ∧ wx.heap[w.heap.size]? = some (.cells (v32 (w2F p 64)) 338) ∧ Below w.heap.size w wx)) ?_ ?_
              · have hk1 : kb ≠ vb := by omega
                have hk2 : w.heap.size ≠ vb := by omega
                refine hZ ⟨?_, ?_, ?_, ?_⟩
                · rw [setRow_other _ _ _ _ hk1]; exact HS4.out.1
                · exact setRow_heap _ _ _ _ _ (0, 0) HS4.out.2.1
                · rw [setRow_other _ _ _ _ hk2]; exact HS4.out.2.2.1
                · exact below_setRow HS4.out.2.2.2.drew (by omega) _
              clear HS4 z0 z1 z2 z3 z4 z5 z6 z7 y0 y1 y2 y3 y4 y5 y6 y7
              intro wr5 HS5
              refine Qz0 ⟨fun h => absurd h (by simp), Wz1 ?_⟩
              obtain ⟨z0, z1, z2, z3, z4, z5, z6, z7⟩ := (blk8 (show wr5.heap[vb]? = some (.cells #[.int .u32 a, .int .u32 a, .int .u32 b, .int .u32 c', .int .u32 d, .int .u32 e, .int .u32 f, .int .u32 g] 305) from HS5.out.2.1)).1
              obtain ⟨y0, y1, y2, y3, y4, y5, y6, y7⟩ := (blk8 (show wr5.heap[vb]? = some (.cells #[.int .u32 a, .int .u32 a, .int .u32 b, .int .u32 c', .int .u32 d, .int .u32 e, .int .u32 f, .int .u32 g] 305) from HS5.out.2.1)).2
              go_wp2_with fail
              have hk1 : vb ≠ kb := by omega
              have hk2 : vb ≠ w.heap.size := by omega
              refine ⟨⟨i + 1, by go_num, by omega, hZ ⟨?_, ?_, ?_, ?_⟩⟩, by simp [intOf]; omega⟩
              · exact Zz1 hk1 (Zz1 hk1 HS5.out.1)
              · rw [HN.out]; exact v32_set (v32_set HS5.out.2.1 4 _) 0 _
              · exact Zz1 hk2 (Zz1 hk2 HS5.out.2.2.1)
              · have hbw := HS5.out.2.2.2
                repeat (first | with_reducible assumption | (with_reducible refine Below.setCell ?_ (by first | omega | (simp; done) | (simp; omega)) _) | (with_reducible refine Below.alloc ?_ (by first | omega | (simp; done) | (simp; omega)) _) | (with_reducible refine Below.drew ?_) | (with_reducible refine Qz2 ?_ _) | with_reducible exact Below.refl _ _ | (with_reducible refine Below.trans ?_ (Below.mono (by assumption) (by first | omega | (simp; done) | (simp; omega)))))
            · obtain rfl : i = 64 := by omega
              have HVU := hZ (vF_ok p [h0, h1, h2, h3, h4, h5, h6, h7] 64 rfl HU.out.1)
              have hhb := Zz0 HB.out
              have HH : Hid (wr.heap[hb]? = some (.cells (Kz4 (finF [h0, h1, h2, h3, h4, h5, h6, h7] (vF p [h0, h1, h2, h3, h4, h5, h6, h7] 64) 0) rv n) 307) ∧ wr.heap[vb]? = some (.cells (v32 (vF p [h0, h1, h2, h3, h4, h5, h6, h7] 64)) 305) ∧ w.grownBy wr (some hb)) := hZ ⟨(HS.out.2.2.2.block hb hhb).trans HB.out, HS.out.2.1, Zz2 HS.out.2.2.2 _⟩
              generalize hV : vF p [h0, h1, h2, h3, h4, h5, h6, h7] 64 = V at HH HVU
              have HFI := hZ (show blockF p [h0, h1, h2, h3, h4, h5, h6, h7] = finF [h0, h1, h2, h3, h4, h5, h6, h7] V 8 by unfold blockF; rw [hV])
              have HHU := hZ (show U32s [h0, h1, h2, h3, h4, h5, h6, h7] from HU.out.1)
              have HHL := hZ (show [h0, h1, h2, h3, h4, h5, h6, h7].length = 8 from rfl)
              generalize hhe : [h0, h1, h2, h3, h4, h5, h6, h7] = h at HH HFI HHU HHL
              have HE := hZ hhe
              clear hhe
              clear hV HS HB HPL HU
              go_wp2_with fail
              go_loopw [188] (fun iv wr => ∃ i : Nat, iv = .int .i64 i ∧ i ≤ 8 ∧ Hid (wr.heap[hb]? = some (.cells (Kz4 (finF h V i) rv n) 307) ∧ wr.heap[vb]? = some (.cells (v32 V) 305) ∧ w.grownBy wr (some hb))) (fun iv _ => 8 - (intOf iv).toNat)
              case atStart => exact ⟨0, rfl, by omega, HH⟩
              case round =>
                clear HH
                obtain ⟨i, rfl, hi, HS⟩ := hrel
                by_cases hlt : i < 8
                · have hi0 : (0 : Int) ≤ i := by omega
                  have hi1 : (i : Int) < 8 := by omega
                  have HN : Hid (finF h V (i + 1) = (finF h V i).set i (((finF h V i).getD i 0 + V.getD i 0) % 4294967296)) := hZ rfl
                  have gx := (finF_u32 h V HHU.out i).at i
                  have gv := HVU.out.2.at i
                  obtain ⟨k0, k1⟩ := hash_cell HS.out.1 i (by rw [finF_length, HHL.out]; exact hlt)
                  have k2 := (Jze HS.out.2.1 i (by rw [HVU.out.1]; exact hlt)).1
                  generalize (finF h V i).getD i 0 = x at gx k0 HN
                  generalize V.getD i 0 = y at gv k2 HN
                  obtain ⟨gx0, gx1⟩ := gx
                  obtain ⟨gv0, gv1⟩ := gv
                  have r0 := cell_regrown k0
                  have r2 := cell_regrown k2
                  go_wp2_with fail
                  refine Zz3 13 (fun w' => ∃ p : Regrown, w' = Go.Sort.grow (redrawn wr p.d) p.os) (by kernel_rfl) (by kernel_rfl) (fun _ _ d _ _ h => by cases d <;> exact h) (Vz2 _) ?_
                  simp only [List.take_succ_cons, List.take_zero]
                  repeat (go_big_quiet_step (fail))
                  with_reducible refine wpQuiet_nil ?_
                  with_reducible refine mix_a ?_
                  simp only [qd1, qd0, qt1, qt0]
                  go_wp2_with fail
                  refine Qz0 ⟨fun h => absurd h (by simp), Wz1 ?_⟩
                  go_wp2_with fail
                  have hvb : hb ≠ vb := by omega
                  refine ⟨⟨i + 1, by go_num, by omega, hZ ⟨?_, ?_, ?_⟩⟩, by simp [intOf]; omega⟩
                  · rw [HN.out]; exact hash_set HS.out.1 i (by rw [finF_length, HHL.out]; exact hlt) _
                  · exact Zz1 hvb HS.out.2.1
                  · exact Xz2 HS.out.2.2 (Xz2 (Zz4 wr hb i _) (Zz2 (Below.refl _ _).drew _))
                · obtain rfl : i = 8 := by omega
                  go_wp2_with fail
                  go_end0
                  exact ⟨rfl, by rw [HE.out, HFI.out]; exact HS.out.1, HS.out.2.2⟩
open Go.RowKit
def Xz8 : Nat → List Int → List Int → List Int × List Int
  | 0, h, r => (h, r)
  | k + 1, h, r => if 64 ≤ r.length then Xz8 k (blockF (r.take 64) h) (r.drop 64) else (h, r)
theorem Vz7 (k : Nat) (h r : List Int) (hr : r.length < 64) : Xz8 k h r = (h, r) := by
  cases k with
  | zero => rfl
  | succ k => unfold Xz8; rw [if_neg (by omega)]
theorem Wzc (k : Nat) (h r : List Int) (hr : 64 ≤ r.length) : Xz8 (k + 1) h r = Xz8 k (blockF (r.take 64) h) (r.drop 64) := by
  show (if 64 ≤ r.length then _ else _) = _
  rw [if_pos hr]
theorem absorb_fuel : ∀ (k m : Nat) (h r : List Int), r.length ≤ k → r.length ≤ m → Xz8 k h r = Xz8 m h r
  | 0, m, h, r, h1, h2 => by rw [Vz7 m h r (by omega), Vz7 0 h r (by omega)]
  | k + 1, 0, h, r, h1, h2 => by rw [Vz7 _ h r (by omega), Vz7 0 h r (by omega)]
  | k + 1, m + 1, h, r, h1, h2 => by
    by_cases hr : 64 ≤ r.length
    · rw [Wzc k h r hr, Wzc m h r hr]
      exact absorb_fuel k m _ _ (by simp; omega) (by simp; omega)
    · rw [Vz7 _ h r (by omega), Vz7 _ h r (by omega)]
theorem absorb_len : ∀ (k : Nat) (h r : List Int), (Xz8 k h r).2.length ≤ r.length
  | 0, h, r => Nat.le_refl _
  | k + 1, h, r => by
    unfold Xz8
    split
    · exact Nat.le_trans (absorb_len k _ _) (by simp)
    · exact Nat.le_refl _
theorem absorb_app : ∀ (k : Nat) (h d b : List Int), d.length ≤ k → Xz8 (k + b.length) h (d ++ b) = Xz8 (k + b.length) (Xz8 k h d).1 ((Xz8 k h d).2 ++ b)
  | 0, h, d, b, hk => by rw [Vz7 0 h d (by omega)]
  | k + 1, h, d, b, hk => by
    by_cases hd : 64 ≤ d.length
    · rw [Wzc k h d hd, show k + 1 + b.length = k + b.length + 1 by omega, Wzc _ h (d ++ b) (by simp; omega),
        List.take_append_of_le_length hd, List.drop_append_of_le_length hd, absorb_app k _ _ b (by simp; omega)]
      have := absorb_len k (blockF (d.take 64) h) (d.drop 64)
      exact absorb_fuel _ _ _ _ (by simp at this ⊢; omega) (by simp at this ⊢; omega)
    · rw [Vz7 _ h d (by omega)]
theorem absorb_ok : ∀ (k : Nat) (h r : List Int), r.length ≤ k → h.length = 8 → U32s h → U8s r → (Xz8 k h r).1.length = 8 ∧ U32s (Xz8 k h r).1 ∧ (Xz8 k h r).2.length < 64 ∧ U8s (Xz8 k h r).2
  | 0, h, r, h1, h2, h3, h4 => ⟨h2, h3, by simp [Xz8]; omega, h4⟩
  | k + 1, h, r, h1, h2, h3, h4 => by
    by_cases hr : 64 ≤ r.length
    · rw [Wzc k h r hr]
      obtain ⟨b1, b2⟩ := blockF_ok (r.take 64) h h2 h3
      exact absorb_ok k _ _ (by simp; omega) b1 b2 (fun x hx => h4 x (List.mem_of_mem_drop hx))
    · rw [Vz7 _ h r (by omega)]
      exact ⟨h2, h3, by simp; omega, h4⟩
open Go.RowKit
def v8 (l : List Int) : List Value := l.map (Value.int .u8)
def HashR (w : World) (hb : Nat) (N : Nat → Prop) (h r : List Int) (n : Int) : Prop :=
  ∃ rv, w.heap[hb]? = some (.cells (Kz4 h rv n) 307) ∧ w.ownsRow 0 5 1 rv r.length (v8 r) ∧ (∀ k, rv.ownBlock = some k → ¬ N k) ∧ ¬ N hb ∧ (∀ i, N i → i < w.heap.size) ∧ h.length = 8 ∧ U32s h ∧ U8s r
theorem HashR.lt {w : World} {hb : Nat} {N : Nat → Prop} {h r : List Int} {n : Int} (H : HashR w hb N h r n) : hb < w.heap.size := by
  obtain ⟨rv, h1, _⟩ := H; exact Zz0 h1
theorem HashR.keep {w w' : World} {hb : Nat} {N N' : Nat → Prop} {h r : List Int} {n : Int} (H : HashR w hb N h r n) (hb' : Below w.heap.size w w') (hn : ∀ i, N' i → i < w'.heap.size ∧ (N i ∨ w.heap.size ≤ i)) : HashR w' hb N' h r n := by
  obtain ⟨rv, h1, h2, h3, h4, h5, h6⟩ := H
  refine ⟨rv, (hb'.block hb (Zz0 h1)).trans h1, Xz5 h2 (fun k hk => hb'.block k (h2.lt k hk).2), fun k hk hN => ?_, fun hN => ?_, fun i hi => (hn i hi).1, h6⟩
  · rcases (hn k hN).2 with h | h
    · exact h3 k hk h
    · have := (h2.lt k hk).2; omega
  · rcases (hn hb hN).2 with h | h
    · exact h4 h
    · have := Zz0 h1; omega
def ivs : List Int := [1779033703, 3144134277, 1013904242, 2773480762, 1359893119, 2600822924, 528734635, 1541459225]
theorem ivs_ok : ivs.length = 8 ∧ U32s ivs := by
  refine ⟨rfl, ?_⟩
  have h : (ivs.all fun x => decide (0 ≤ x) && decide (x < 4294967296)) = true := by decide +kernel
  intro x hx
  have := List.all_eq_true.1 h x hx
  simp only [Bool.and_eq_true, decide_eq_true_eq] at this
  exact this
set_option maxRecDepth 100000 in
theorem shaNew_any (w : World) (N : Nat → Prop) (hN : ∀ i, N i → i < w.heap.size) : Calls Tryz.prog 145 #[] w fun e w' => e = .returned (.pointer (some ⟨w.heap.size, 0, none⟩)) ∧ HashR w' w.heap.size N ivs [] 0 ∧ Below w.heap.size w w' := by
  have HN := hZ hN
  clear hN
  go_enter Tryz.func145, Tryz.ntmps145
  go_wp2_with fail
  go_ret
  refine ⟨rfl, ⟨.slice none 0 0, heap_alloc_new w _, World.ownsRow_nil _ _ _ _, fun k hk => by simp [Value.ownBlock] at hk, fun h => by have := HN.out _ h; omega, fun i hi => by have := HN.out i hi; simp; omega, ivs_ok.1, ivs_ok.2, fun x hx => by cases hx⟩, ?_⟩
  repeat (first | with_reducible assumption | (with_reducible refine Below.setCell ?_ (by first | omega | (simp; done) | (simp; omega)) _) | (with_reducible refine Below.alloc ?_ (by first | omega | (simp; done) | (simp; omega)) _) | (with_reducible refine Below.drew ?_) | (with_reducible refine Qz2 ?_ _) | with_reducible exact Below.refl _ _ | (with_reducible refine Below.trans ?_ (Below.mono (by assumption) (by first | omega | (simp; done) | (simp; omega)))))
theorem Kzf {w : World} {B T : Nat} {l : List Int} {rv : Value} {n : Int} (h : w.heap[B]? = some (.cells (Kz4 l rv n) T)) (hl : l.length = 8) : w.cell? ⟨B, 8, none⟩ = some rv ∧ w.cell? ⟨B, 9, none⟩ = some (.int .u64 n) ∧ w.frozen? ⟨B, 8, none⟩ = false ∧ w.frozen? ⟨B, 9, none⟩ = false := by
  simp [World.cell?, World.frozen?, h, Kz4, hl, List.getElem?_append]
theorem hash_set8 {w : World} {B T : Nat} {l : List Int} {rv : Value} {n : Int} (h : w.heap[B]? = some (.cells (Kz4 l rv n) T)) (hl : l.length = 8) (x : Value) : (w.setCell ⟨B, 8, none⟩ x).heap[B]? = some (.cells (Kz4 l x n) T) := by
  rw [Xz3 h]; simp [Kz4, List.set_append, hl]
theorem hash_set9 {w : World} {B T : Nat} {l : List Int} {rv : Value} {n : Int} (h : w.heap[B]? = some (.cells (Kz4 l rv n) T)) (hl : l.length = 8) (x : Int) : (w.setCell ⟨B, 9, none⟩ (.int .u64 x)).heap[B]? = some (.cells (Kz4 l rv x) T) := by
  rw [Xz3 h]; simp [Kz4, List.set_append, hl]
theorem Wz0 (l : List Int) : (v8 l).length = l.length * 1 := by simp [v8]
theorem v8_append (a b : List Int) : v8 (a ++ b) = v8 a ++ v8 b := by simp [v8]
theorem v8_get (l : List Int) (i : Nat) (hi : i < l.length) : (v8 l)[i]? = some (.int .u8 (l.getD i 0)) := by simp [v8, hi]
theorem Kz7 (l : List Int) : ∀ u ∈ v8 l, u.oneCell' = true := by
  intro u hu
  simp only [v8, List.mem_map] at hu
  obtain ⟨x, _, rfl⟩ := hu
  rfl
theorem ByIn.src {w : World} {a : Option Addr} {l : List Int} {c : Nat} (h : ByIn w a l) (hn : a = none → c = 0) : SrcIs w (.slice a l.length c) l.length 1 (v8 l) := by
  cases a with
  | none =>
    have he : l = [] := by
      cases l with
      | nil => rfl
      | cons r l => obtain ⟨b, off, e, _⟩ := h 0 (by simp); cases e
    subst he
    exact .inl ⟨by rw [hn rfl]; rfl, rfl, rfl⟩
  | some ad =>
    refine .inr ⟨ad, c, rfl, Wz0 l, fun j u hu => ?_, Kz7 l⟩
    have hj : j < l.length := by have := (List.getElem?_eq_some_iff.1 hu).1; simpa [v8] using this
    obtain ⟨b, off, e, _, c1⟩ := h j hj
    cases e
    rw [v8_get l j hj] at hu
    have ea : (⟨b, off, none⟩ : Addr).add j = ⟨b, off + j, none⟩ := by unfold Addr.add; split <;> simp_all
    rw [ea, c1, ← hu]
theorem ByIn.of_own {w : World} {base e : Nat} {a : Option Addr} {cap : Nat} {l : List Int} (h : w.ownsRow base e 1 (.slice a l.length cap) l.length (v8 l)) : ByIn w a l := by
  intro i hi
  rcases h.2 with ⟨hv, hn⟩ | ⟨g, c, cur, hv, _, hg, _, _, hs, ht⟩
  · rw [hn] at hi; omega
  · simp only [Value.slice.injEq] at hv
    obtain ⟨rfl, _, _⟩ := hv
    have c1 := v8_get l i hi
    refine ⟨g, 0, rfl, (Array.getElem?_eq_some_iff.1 hg).1, ?_⟩
    rw [cell_of_row w g _ cur e (0, 0) hg]
    rw [← ht, List.getElem?_take] at c1
    split at c1
    · simpa using c1
    · cases c1
open Go.RowKit
theorem info_u8 : (Tryz.prog.info? 5).map (fun i => (i.zero, i.size, i.bytes)) = some (some (.int .u8 0), 1, 1) := by kernel_rfl
theorem block_at (hb : Nat) (h : List Int) (rv : Value) (n : Int) (pa : Option Addr) (p : List Int) (c : Nat) (w : World) (hlen : h.length = 8) (hu : U32s h) (hp : p.length = 64) (hp8 : U8s p) (hc : 64 ≤ c)
    (hblk : w.heap[hb]? = some (.cells (Kz4 h rv n) 307)) (hpi : ByIn w pa p) :
    Calls Tryz.prog 192 #[.pointer (some ⟨hb, 0, none⟩), .slice pa 64 c] w fun e w' => e = .returned (.tuple #[]) ∧ w'.heap[hb]? = some (.cells (Kz4 (blockF p h) rv n) 307) ∧ w.grownBy w' (some hb) := by
  have := block_any hb h rv n pa p c w hlen hu hp hp8 (by omega) hblk hpi
  rw [hp] at this
  exact this
theorem ByIn.take {w : World} {a : Option Addr} {l : List Int} (h : ByIn w a l) (m : Nat) : ByIn w a (l.take m) := fun i hi => by
  have hi' : i < m ∧ i < l.length := by simp at hi; omega
  obtain ⟨b, off, e, hs, c⟩ := h i hi'.2
  refine ⟨b, off, e, hs, ?_⟩
  rw [c]; simp [hi'.1]
theorem ByIn.drop {w : World} {b off : Nat} {l : List Int} (h : ByIn w (some ⟨b, off, none⟩) l) (m : Nat) : ByIn w (some ⟨b, off + m, none⟩) (l.drop m) := fun i hi => by
  have hi' : m + i < l.length := by simp at hi; omega
  obtain ⟨b', off', e, hs, c⟩ := h (m + i) hi'
  cases e
  refine ⟨b, off + m, rfl, hs, ?_⟩
  rw [Nat.add_assoc, c]; simp
def restLen (w : World) (hb : Nat) : Nat := match w.cell? ⟨hb, 8, none⟩ with
  | some (.slice _ n _) => n
  | _ => 0
theorem restLen_eq {w : World} {hb T : Nat} {h : List Int} {a : Option Addr} {l c : Nat} {n : Int} (hblk : w.heap[hb]? = some (.cells (Kz4 h (.slice a l c) n) T)) (hl : h.length = 8) : restLen w hb = l := by
  unfold restLen; rw [(Kzf hblk hl).1]
set_option maxRecDepth 100000 in
set_option maxHeartbeats 4000000 in
theorem hashWrite_any (hb : Nat) (N : Nat → Prop) (h r : List Int) (n : Int) (a : Option Addr) (b : List Int) (c : Nat) (w : World) (hH : HashR w hb N h r n) (hbi : ByIn w a b) (hn0 : 0 ≤ n ∧ n ≤ 1000000000) (hbl : b.length ≤ 1000000) (hrl : r.length ≤ 64)
    (hb8 : U8s b) (hac : a = none → c = 0) (hne : ∀ x, a = some x → 0 < b.length → x.block ≠ hb) :
    Calls Tryz.prog 146 #[.pointer (some ⟨hb, 0, none⟩), .slice a b.length c] w fun e w' => e = .returned (.tuple #[]) ∧
      HashR w' hb N (Xz8 (r ++ b).length h (r ++ b)).1 (Xz8 (r ++ b).length h (r ++ b)).2 (n + b.length) ∧ Keeps N w w' := by
  obtain ⟨rv, q1, q2, q3, q4, q5, q6, q7, q8⟩ := hH
  obtain ⟨ar, cr, rfl⟩ := Kz3 q2
  have HB := hZ q1
  have HO := hZ q2
  have HQ := hZ (And.intro q3 (And.intro q4 (And.intro q5 (And.intro q6 (And.intro q7 q8)))))
  have HBI := hZ hbi
  have HAC := hZ hac
  have HNE := hZ hne
  have H8 := hZ hb8
  obtain ⟨hn0, hn1⟩ := hn0
  obtain ⟨c8, c9, f8, f9⟩ := Kzf q1 q6
  clear q1 q2 q3 q4 q5 q6 q7 q8 hbi hac hne hb8
  obtain ⟨i0, hi0', hz0, hz1, hz2⟩ := info_parts info_u8
  go_enter Tryz.func146, Tryz.ntmps146
  have HW1 : Hid ((w.setCell ⟨hb, 9, none⟩ (.int .u64 (n + b.length))).heap[hb]? = some (.cells (Kz4 h (.slice ar r.length cr) (n + b.length)) 307)) := hZ (hash_set9 HB.out HQ.out.2.2.2.1 _)
  have HO1 : Hid ((w.setCell ⟨hb, 9, none⟩ (.int .u64 (n + b.length))).ownsRow 0 5 1 (.slice ar r.length cr) r.length (v8 r)) := hZ (Xz5 HO.out (fun k hk => Below.heap_setCell _ _ _ _ (Vz5 HB.out HO.out (by decide) hk)))
  have HBI1 : Hid (ByIn (w.setCell ⟨hb, 9, none⟩ (.int .u64 (n + b.length))) a b) := hZ (fun i hi => by
    obtain ⟨b', off, e, hs, c1⟩ := HBI.out i hi
    have hx := HNE.out _ e (by omega)
    refine ⟨b', off, e, by simpa [World.setCell] using hs, ?_⟩
    rw [World.cell?_of_block (Below.heap_setCell _ _ _ _ hx)]; exact c1)
  have HK1 : Hid (Keeps N w (w.setCell ⟨hb, 9, none⟩ (.int .u64 (n + b.length)))) := hZ (Keeps.set w hb 9 _ HQ.out.2.1)
  go_wp2_with (at_builtin; refine Xz6 rfl _ _ 118 rfl 5 i0 (.int .u8 0) 1 1 Tryz.underlying118 hi0' hz0 hz1 hz2 rfl (by decide) (.slice ar r.length cr) r.length (v8 r) rfl HO1.out (.slice a b.length c) b.length (v8 b) rfl (HBI1.out.src HAC.out) ?c1 ?c2 ?_)
  case c1 => unfold maxLen; omega
  case c2 => omega
  intro v2 w2 hown hgrow hwh
  have hown : w2.ownsRow 0 5 1 v2 (r ++ b).length (v8 (r ++ b)) := by simpa [v8_append] using hown
  obtain ⟨a2, c2, rfl⟩ := Kz3 hown
  have hrb : (r ++ b).length = r.length + b.length := by simp
  have hnb : ∀ k, (Value.slice ar r.length cr).ownBlock = some k → k ≠ hb := fun k hk => Vz5 HB.out HO.out (by decide) hk
  have hb2 : w2.heap[hb]? = some (.cells (Kz4 h (.slice ar r.length cr) (n + b.length)) 307) := (hgrow.block hb (by have := Zz0 HW1.out; exact this) (fun e => hnb hb e.symm rfl)).trans HW1.out
  have HK2 : Hid (Keeps N w w2) := hZ (HK1.out.trans (Keeps.of_grown hgrow (fun k hk => HQ.out.1 k hk)))
  have HW2 : Hid (HashR (w2.setCell ⟨hb, 8, none⟩ (.slice a2 (r ++ b).length c2)) hb N h (r ++ b) (n + b.length)) := hZ (by
    refine ⟨.slice a2 (r ++ b).length c2, hash_set8 hb2 HQ.out.2.2.2.1 _, Xz5 hown (fun k hk => Below.heap_setCell _ _ _ _ (Vz5 hb2 hown (by decide) hk)), fun k hk hNk => ?_, HQ.out.2.1, fun i hi => ?_, HQ.out.2.2.2.1, HQ.out.2.2.2.2.1, ?_⟩
    · rcases hwh k hk with h1 | h1
      · exact HQ.out.1 k h1 hNk
      · have := HQ.out.2.2.1 k hNk; have h1 : w.heap.size ≤ k := by simpa [World.setCell] using h1
        omega
    · have h1 := HQ.out.2.2.1 i hi
      have h2 := HK2.out.size
      simp [World.setCell]; omega
    · intro x hx
      rcases List.mem_append.1 hx with hx | hx
      · exact HQ.out.2.2.2.2.2 x hx
      · exact H8.out x hx)
  have HK3 : Hid (Keeps N w (w2.setCell ⟨hb, 8, none⟩ (.slice a2 (r ++ b).length c2))) := hZ (HK2.out.trans (Keeps.set w2 hb 8 _ HQ.out.2.1))
  obtain ⟨g8, g9, e8, e9⟩ := Kzf hb2 HQ.out.2.2.2.1
  have HLR : Hid ((r ++ b).length = r.length + b.length) := hZ hrb
  clear hown hgrow hwh hnb hb2 hrb c8 c9 f8 f9 HW1 HO1 HBI1 HK1
  go_wp2_with fail
  refine Kz0 (fun wx => Hid (HashR wx hb N h (r ++ b) (n + b.length)) ∧ Hid (Keeps N w wx)) ⟨by have h := HW2; simp only [List.length_append] at h ⊢; exact h, by have h := HK3; simp only [List.length_append] at h ⊢; exact h⟩ ?_
  clear HW2 HK3 HK2 g8 g9 e8 e9
  rintro w3 ⟨HW3, HK3⟩
  have hlr : (r ++ b).length ≤ 1000064 := by have := HLR.out; omega
  generalize hrb : (r ++ b) = rb at HW3 hlr ⊢
  have HRB := hZ hrb
  clear hrb
  clear HLR HB HO HQ HBI HAC HNE H8
  go_loopw [] (fun wr => ∃ (k : Nat) (h' r' : List Int), r'.length ≤ k ∧ r'.length ≤ 1000064 ∧ Hid (HashR wr hb N h' r' (n + b.length)) ∧ Hid (Keeps N w wr) ∧ Hid (Xz8 rb.length h rb = Xz8 k h' r')) (fun wr => restLen wr hb)
  case atStart => exact ⟨rb.length, h, rb, Nat.le_refl _, hlr, HW3, HK3, hZ rfl⟩
  case round =>
    obtain ⟨k, h', r', hk, hr', HR, HK, HA⟩ := hrel
    obtain ⟨rv, q1, q2, q3, q4, q5, q6, q7, q8⟩ := HR.out
    obtain ⟨ar', cr', rfl⟩ := Kz3 q2
    obtain ⟨c8, c9, f8, f9⟩ := Kzf q1 q6
    have HB := hZ q1
    have HO := hZ q2
    have HQ := hZ (And.intro q3 (And.intro q4 (And.intro q5 (And.intro q6 (And.intro q7 q8)))))
    have HRL := hZ (restLen_eq q1 q6)
    clear q1 q2 q3 q4 q5 q6 q7 q8
    by_cases hlt : 64 ≤ r'.length
    · have hi : (64 : Int) ≤ r'.length := by omega
      obtain ⟨b1, o1, rfl, _, _⟩ := (ByIn.of_own HO.out) 0 (by omega)
      have hcap : r'.length ≤ cr' := by
        rcases HO.out.2 with ⟨hv, _⟩ | ⟨g, c, cur, hv, _, _, hn, _⟩
        · simp at hv
        · simp only [Value.slice.injEq] at hv; omega
      go_wp2_with fail
      refine (block_at hb h' _ _ (some ⟨b1, o1, none⟩) (r'.take 64) cr' wr HQ.out.2.2.2.1 HQ.out.2.2.2.2.1 (by simp; omega) (fun x hx => HQ.out.2.2.2.2.2 x (List.mem_of_mem_take hx)) (by omega) HB.out ((ByIn.of_own HO.out).take 64)).mono ?_
      rintro e w5 ⟨rfl, q1, hg⟩
      have hnb : ∀ k, (Value.slice (some ⟨b1, o1, none⟩) r'.length cr').ownBlock = some k → k ≠ hb := fun k hk => Vz5 HB.out HO.out (by decide) hk
      have HB5 := hZ q1
      have HO5 : Hid (w5.ownsRow 0 5 1 (.slice (some ⟨b1, o1, none⟩) r'.length cr') r'.length (v8 r')) := hZ (Xz5 HO.out (fun k hk => hg.block k (HO.out.lt k hk).2 (fun e => hnb k hk (by cases e; rfl))))
      have HK5 : Hid (Keeps N w w5) := hZ (HK.out.trans (Keeps.of_grown hg (fun k hk => by cases hk; exact HQ.out.2.1)))
      have HZ5 : Hid (∀ i, N i → i < w5.heap.size) := hZ (fun i hi => Nat.lt_of_lt_of_le (HQ.out.2.2.1 i hi) hg.size)
      have HB58 := hZ (blockF_ok (r'.take 64) h' HQ.out.2.2.2.1 HQ.out.2.2.2.2.1)
      have HA5 : Hid (Xz8 rb.length h rb = Xz8 (k - 1) (blockF (r'.take 64) h') (r'.drop 64)) := hZ (by
        rw [HA.out, ← Wzc _ _ _ hlt]; congr 1; omega)
      generalize blockF (r'.take 64) h' = h2 at HB5 HB58 HA5
      obtain ⟨c8, c9, f8, f9⟩ := Kzf HB5.out HB58.out.1
      clear q1 hg hnb
      dsimp only
      by_cases hcc : cr' = 64
      · subst hcc
        have hrl : r'.length = 64 := by omega
        have HDR : Hid (r'.drop 64 = []) := hZ (by rw [List.drop_eq_nil_iff]; omega)
        go_wp2_with fail
        have hs8 := hash_set8 HB5.out HB58.out.1 (.slice none 0 0)
        have hA := HA5.out
        rw [HDR.out] at hA
        exact ⟨⟨k - 1, h2, [], by simp, by simp, hZ ⟨.slice none 0 0, hs8, World.ownsRow_nil _ _ _ _, fun k hk => by simp [Value.ownBlock] at hk, HQ.out.2.1, fun i hi => by have := HZ5.out i hi; simp [World.setCell]; omega, HB58.out.1, HB58.out.2, fun x hx => by cases hx⟩,
          hZ (HK5.out.trans (Keeps.set w5 hb 8 _ HQ.out.2.1)), hZ hA⟩, by rw [HRL.out, restLen_eq hs8 HB58.out.1]; omega⟩
      · have hcg : 64 < cr' := by omega
        go_wp2_with (at_builtin; refine Xz6 rfl _ _ 118 rfl 5 i0 (.int .u8 0) 1 1 Tryz.underlying118 hi0' hz0 hz1 hz2 rfl (by decide) (.slice none 0 0) 0 [] rfl (World.ownsRow_nil _ _ _ _) (.slice (some ⟨b1, o1 + 64, none⟩) (r'.length - 64) (cr' - 64)) (r'.length - 64) (v8 (r'.drop 64)) rfl (by have h := ((ByIn.of_own HO5.out).drop 64).src (c := cr' - 64) (fun e => by cases e); simp only [List.length_drop] at h; exact h) ?c1 ?c2 ?_)
        case c1 => unfold maxLen; omega
        case c2 => omega
        intro v6 w6 hown hgrow hwh
        have hown : w6.ownsRow 0 5 1 v6 (r'.drop 64).length (v8 (r'.drop 64)) := by simpa using hown
        obtain ⟨a6, c6, rfl⟩ := Kz3 hown
        have hb6 : w6.heap[hb]? = some (.cells (Kz4 h2 (.slice (some ⟨b1, o1, none⟩) r'.length cr') (n + b.length)) 307) := (hgrow.block hb (Zz0 HB5.out) (fun e => by simp [Value.ownBlock] at e)).trans HB5.out
        have HK6 : Hid (Keeps N w w6) := hZ (HK5.out.trans (Keeps.of_grown hgrow (fun k hk => by simp [Value.ownBlock] at hk)))
        have HW6 : Hid (HashR (w6.setCell ⟨hb, 8, none⟩ (.slice a6 (r'.drop 64).length c6)) hb N h2 (r'.drop 64) (n + b.length)) := hZ (by
          refine ⟨.slice a6 (r'.drop 64).length c6, hash_set8 hb6 HB58.out.1 _, Xz5 hown (fun k hk => Below.heap_setCell _ _ _ _ (Vz5 hb6 hown (by decide) hk)), fun k hk hNk => ?_, HQ.out.2.1, fun i hi => ?_, HB58.out.1, HB58.out.2, fun x hx => HQ.out.2.2.2.2.2 x (List.mem_of_mem_drop hx)⟩
          · rcases hwh k hk with h1 | h1
            · simp [Value.ownBlock] at h1
            · have := HZ5.out k hNk; omega
          · have h1 := HZ5.out i hi
            have h2 := hgrow.size
            simp [World.setCell]; omega)
        have HK7 : Hid (Keeps N w (w6.setCell ⟨hb, 8, none⟩ (.slice a6 (r'.drop 64).length c6))) := hZ (HK6.out.trans (Keeps.set w6 hb 8 _ HQ.out.2.1))
        have HM : Hid (restLen (w6.setCell ⟨hb, 8, none⟩ (.slice a6 (r'.drop 64).length c6)) hb < restLen wr hb) := hZ (by
          rw [HRL.out, restLen_eq (hash_set8 hb6 HB58.out.1 _) HB58.out.1]; simp; omega)
        obtain ⟨g8, g9, e8, e9⟩ := Kzf hb6 HB58.out.1
        clear hown hgrow hwh hb6 c8 c9 f8 f9
        have hdl : (r'.drop 64).length = r'.length - 64 := by simp
        rw [hdl] at HW6 HK7 HM
        clear hdl
        go_wp2_with fail
        exact ⟨⟨k - 1, h2, r'.drop 64, by simp; omega, by simp; omega, HW6, HK7, HA5⟩, HM.out⟩
    · have hi : (r'.length : Int) < 64 := by omega
      go_wp2_with fail
      go_end0
      refine ⟨rfl, ?_, HK.out⟩
      have h1 := HA.out
      rw [Vz7 k h' r' (by omega)] at h1
      rw [HRB.out, h1]
      exact HR.out
open Go.RowKit
theorem own_src8 {w : World} {base e : Nat} {v : Value} {l : List Int} (h : w.ownsRow base e 1 v l.length (v8 l)) : SrcIs w v l.length 1 (v8 l) := by
  rcases h.2 with ⟨rfl, hn⟩ | ⟨g, c, cur, hv, _, hg, _, _, hs, ht⟩
  · have : l = [] := List.eq_nil_of_length_eq_zero hn
    subst this
    exact .inl ⟨rfl, rfl, rfl⟩
  · subst hv
    exact .inr ⟨⟨g, 0, none⟩, c, rfl, Wz0 l, h.cells rfl, Kz7 l⟩
def padN (k : Nat) : Nat := (119 - k) % 64
def be64 (x : Int) (i : Nat) : Int := x / 2 ^ (8 * (7 - i)) % 256
def tailF (r : List Int) (n : Int) : List Int := r ++ [128] ++ List.replicate (padN r.length) 0 ++ (List.range 8).map (be64 (n * 8))
theorem be64_u8 (x : Int) (i : Nat) : 0 ≤ be64 x i ∧ be64 x i < 256 := by unfold be64; omega
def zer (n : Nat) : List Int := List.replicate n 0
def v8a (l : List Int) : Array Value := (v8 l).toArray
def tlz (r : List Int) (j : Nat) : List Int := r ++ [128] ++ zer j
def tlb (r : List Int) (j : Nat) (n : Int) (i : Nat) : List Int := tlz r j ++ (List.range i).map (be64 (n * 8))
theorem tlz_next (r : List Int) (j : Nat) : tlz r (j + 1) = tlz r j ++ [0] := by simp [tlz, zer, List.replicate_succ']
theorem tlb_next (r : List Int) (j : Nat) (n : Int) (i : Nat) : tlb r j n (i + 1) = tlb r j n i ++ [n * 8 / 2 ^ (8 * (7 - i)) % 256] := by unfold tlb; rw [List.range_succ]; simp [be64]
theorem tlz_length (r : List Int) (j : Nat) : (tlz r j).length = r.length + 1 + j := by simp [tlz, zer]; omega
theorem tlb_length (r : List Int) (j : Nat) (n : Int) (i : Nat) : (tlb r j n i).length = r.length + 1 + j + i := by simp [tlb, tlz_length]
theorem tailF_u8 (r : List Int) (n : Int) (h : U8s r) : U8s (tailF r n) := by
  intro x hx
  unfold tailF at hx
  simp only [List.mem_append, List.mem_singleton, List.mem_replicate, List.mem_map, List.mem_range] at hx
  rcases hx with ((hx | rfl) | ⟨_, rfl⟩) | ⟨i, _, rfl⟩
  · exact h x hx
  · decide
  · decide
  · exact be64_u8 _ _
def slLen : Value → Nat
  | .slice _ n _ => n
  | _ => 0
def SumW (w : World) (h : List Int) (tl : List Int) (tv : Value) (wx : World) : Prop :=
  wx.heap[w.heap.size]? = some (.cells (v8a (zer 32)) 67) ∧ wx.heap[w.heap.size + 1]? = some (.cells (v8a (zer 32)) 67) ∧ wx.heap[w.heap.size + 1 + 1]? = some (.cells (Kz4 h (.slice none 0 0) 0) 307) ∧
  wx.ownsRow w.heap.size 5 1 tv tl.length (v8 tl) ∧ Below w.heap.size w wx ∧ w.heap.size + 1 + 1 < wx.heap.size
theorem SumW.grow {w wx wy : World} {h tl tl' : List Int} {tv tv' : Value} (H : SumW w h tl tv wx) (hg : wx.grownBy wy tv.ownBlock) (ho : wy.ownsRow w.heap.size 5 1 tv' tl'.length (v8 tl')) : SumW w h tl' tv' wy := by
  obtain ⟨h0, h1, h2, h3, h4, h5⟩ := H
  refine ⟨(hg.block _ (Zz0 h0) (fun e => Vz5 h0 h3 (by decide) e.symm rfl)).trans h0, (hg.block _ (Zz0 h1) (fun e => Vz5 h1 h3 (by decide) e.symm rfl)).trans h1,
    (hg.block _ (Zz0 h2) (fun e => Vz5 h2 h3 (by decide) e.symm rfl)).trans h2, ho, h4.grown hg h4.size (fun k hk => (h3.lt k hk).1), Nat.lt_of_lt_of_le h5 hg.size⟩
theorem SumW.below {w wx wy : World} {h tl : List Int} {tv : Value} (H : SumW w h tl tv wx) (hb : Below wx.heap.size wx wy) : SumW w h tl tv wy := by
  obtain ⟨h0, h1, h2, h3, h4, h5⟩ := H
  exact ⟨(hb.block _ (Zz0 h0)).trans h0, (hb.block _ (Zz0 h1)).trans h1, (hb.block _ (Zz0 h2)).trans h2, Xz5 h3 (fun k hk => hb.block k (h3.lt k hk).2), h4.trans (hb.mono h4.size), Nat.lt_of_lt_of_le h5 hb.size⟩
theorem one_src8 (w : World) (x : Int) (e : Nat) (N : Nat) (hN : N = w.heap.size) : SrcIs (w.alloc (.cells #[.int .u8 x] e)) (.slice (some ⟨N, 0, none⟩) 1 1) 1 1 (v8 [x]) := by
  subst hN
  refine .inr ⟨⟨w.heap.size, 0, none⟩, 1, rfl, rfl, fun j u hu => ?_, Kz7 _⟩
  match j with
  | 0 =>
    simp [v8] at hu
    subst hu
    have h := cell_of_row (w.alloc (.cells #[.int .u8 x] e)) w.heap.size 0 #[.int .u8 x] e (0, 0) (heap_alloc_new w _)
    simpa [Addr.add] using h
  | j + 1 => simp [v8] at hu
def outF (hs : List Int) : Nat → List Int
  | 0 => zer 32
  | i + 1 => ((((outF hs i).set (4 * i) (hs.getD i 0 / 16777216)).set (4 * i + 1) (hs.getD i 0 / 65536 % 256)).set (4 * i + 2) (hs.getD i 0 / 256 % 256)).set (4 * i + 3) (hs.getD i 0 % 256)
theorem Zzb (hs : List Int) : ∀ i, (outF hs i).length = 32
  | 0 => by simp [outF, zer]
  | i + 1 => by simp [outF, Zzb hs i]
def sumF (h r : List Int) (n : Int) : List Int := outF (Xz8 (tailF r n).length h (tailF r n)).1 8
def SumX (w : World) (o : List Int) (wx : World) : Prop :=
  wx.heap[w.heap.size]? = some (.cells (v8a (zer 32)) 67) ∧ wx.heap[w.heap.size + 1]? = some (.cells (v8a o) 67) ∧ Below w.heap.size w wx
theorem v8a_cell {w : World} {B T : Nat} {l : List Int} (h : w.heap[B]? = some (.cells (v8a l) T)) (i : Nat) (hi : i < l.length) : w.cell? ⟨B, i, none⟩ = some (.int .u8 (l.getD i 0)) ∧ w.frozen? ⟨B, i, none⟩ = false := by
  simp [World.cell?, World.frozen?, h, v8a, v8, hi]
theorem v8a_set {w : World} {B T : Nat} {l : List Int} (h : w.heap[B]? = some (.cells (v8a l) T)) (i : Nat) (x : Int) : (w.setCell ⟨B, i, none⟩ (.int .u8 x)).heap[B]? = some (.cells (v8a (l.set i x)) T) := by
  rw [Xz3 h]; simp [v8a, v8]
theorem index8_0 (g0 g1 g2 g3 g4 g5 g6 g7 : Int) (wx : World) : (Instr.index 305 (.agg #[.int .u32 g0, .int .u32 g1, .int .u32 g2, .int .u32 g3, .int .u32 g4, .int .u32 g5, .int .u32 g6, .int .u32 g7]) (.int .i64 0)).run Tryz.prog wx = .ok (.int .u32 g0) wx := by kernel_rfl
theorem index8_1 (g0 g1 g2 g3 g4 g5 g6 g7 : Int) (wx : World) : (Instr.index 305 (.agg #[.int .u32 g0, .int .u32 g1, .int .u32 g2, .int .u32 g3, .int .u32 g4, .int .u32 g5, .int .u32 g6, .int .u32 g7]) (.int .i64 1)).run Tryz.prog wx = .ok (.int .u32 g1) wx := by kernel_rfl
theorem index8_2 (g0 g1 g2 g3 g4 g5 g6 g7 : Int) (wx : World) : (Instr.index 305 (.agg #[.int .u32 g0, .int .u32 g1, .int .u32 g2, .int .u32 g3, .int .u32 g4, .int .u32 g5, .int .u32 g6, .int .u32 g7]) (.int .i64 2)).run Tryz.prog wx = .ok (.int .u32 g2) wx := by kernel_rfl
theorem index8_3 (g0 g1 g2 g3 g4 g5 g6 g7 : Int) (wx : World) : (Instr.index 305 (.agg #[.int .u32 g0, .int .u32 g1, .int .u32 g2, .int .u32 g3, .int .u32 g4, .int .u32 g5, .int .u32 g6, .int .u32 g7]) (.int .i64 3)).run Tryz.prog wx = .ok (.int .u32 g3) wx := by kernel_rfl
theorem index8_4 (g0 g1 g2 g3 g4 g5 g6 g7 : Int) (wx : World) : (Instr.index 305 (.agg #[.int .u32 g0, .int .u32 g1, .int .u32 g2, .int .u32 g3, .int .u32 g4, .int .u32 g5, .int .u32 g6, .int .u32 g7]) (.int .i64 4)).run Tryz.prog wx = .ok (.int .u32 g4) wx := by kernel_rfl
theorem index8_5 (g0 g1 g2 g3 g4 g5 g6 g7 : Int) (wx : World) : (Instr.index 305 (.agg #[.int .u32 g0, .int .u32 g1, .int .u32 g2, .int .u32 g3, .int .u32 g4, .int .u32 g5, .int .u32 g6, .int .u32 g7]) (.int .i64 5)).run Tryz.prog wx = .ok (.int .u32 g5) wx := by kernel_rfl
theorem index8_6 (g0 g1 g2 g3 g4 g5 g6 g7 : Int) (wx : World) : (Instr.index 305 (.agg #[.int .u32 g0, .int .u32 g1, .int .u32 g2, .int .u32 g3, .int .u32 g4, .int .u32 g5, .int .u32 g6, .int .u32 g7]) (.int .i64 6)).run Tryz.prog wx = .ok (.int .u32 g6) wx := by kernel_rfl
theorem index8_7 (g0 g1 g2 g3 g4 g5 g6 g7 : Int) (wx : World) : (Instr.index 305 (.agg #[.int .u32 g0, .int .u32 g1, .int .u32 g2, .int .u32 g3, .int .u32 g4, .int .u32 g5, .int .u32 g6, .int .u32 g7]) (.int .i64 7)).run Tryz.prog wx = .ok (.int .u32 g7) wx := by kernel_rfl
theorem index_eight (g0 g1 g2 g3 g4 g5 g6 g7 : Int) (i : Nat) (h : i < 8) : ∀ wx : World, (Instr.index 305 (.agg #[.int .u32 g0, .int .u32 g1, .int .u32 g2, .int .u32 g3, .int .u32 g4, .int .u32 g5, .int .u32 g6, .int .u32 g7]) (.int .i64 (i : Int))).run Tryz.prog wx = .ok (.int .u32 ([g0, g1, g2, g3, g4, g5, g6, g7].getD i 0)) wx := by
  intro wx
  have hh : i = 0 ∨ i = 1 ∨ i = 2 ∨ i = 3 ∨ i = 4 ∨ i = 5 ∨ i = 6 ∨ i = 7 := by omega
  rcases hh with rfl | rfl | rfl | rfl | rfl | rfl | rfl | rfl
  · exact index8_0 g0 g1 g2 g3 g4 g5 g6 g7 wx
  · exact index8_1 g0 g1 g2 g3 g4 g5 g6 g7 wx
  · exact index8_2 g0 g1 g2 g3 g4 g5 g6 g7 wx
  · exact index8_3 g0 g1 g2 g3 g4 g5 g6 g7 wx
  · exact index8_4 g0 g1 g2 g3 g4 g5 g6 g7 wx
  · exact index8_5 g0 g1 g2 g3 g4 g5 g6 g7 wx
  · exact index8_6 g0 g1 g2 g3 g4 g5 g6 g7 wx
  · exact index8_7 g0 g1 g2 g3 g4 g5 g6 g7 wx
set_option maxRecDepth 100000 in
set_option maxHeartbeats 4000000 in
theorem hashSum_any (hb : Nat) (N : Nat → Prop) (h r : List Int) (n : Int) (w : World) (hH : HashR w hb N h r n) (hn0 : 0 ≤ n ∧ n ≤ 1000000000) (hrl : r.length < 64) :
    Calls Tryz.prog 147 #[.pointer (some ⟨hb, 0, none⟩)] w fun e w' => e = .returned (.agg (v8a (sumF h r n))) ∧ Below w.heap.size w w' := by
  obtain ⟨rv, q1, q2, q3, q4, q5, q6, q7, q8⟩ := hH
  obtain ⟨ar, cr, rfl⟩ := Kz3 q2
  have HB := hZ q1
  have HO := hZ q2
  have HQ := hZ (And.intro q3 (And.intro q4 (And.intro q5 (And.intro q6 (And.intro q7 q8)))))
  obtain ⟨hn0, hn1⟩ := hn0
  have hhb := Zz0 q1
  obtain ⟨h0, h1, h2, h3, h4, h5, h6, h7, rfl⟩ := eight h q6
  obtain ⟨d0, d1, d2, d3, d4, d5, d6, d7, d8, d9⟩ := (blk10 q1).1
  clear q1 q2 q3 q4 q5 q6 q7 q8
  obtain ⟨i0, hi0', hz0, hz1, hz2⟩ := info_parts info_u8
  go_enter Tryz.func147, Tryz.ntmps147
  repeat (fail_if_success (with_reducible refine Vz1 "sha.go:79" rfl ?_)
          first | go_values | go_skip | go_guarded | go_step | go_upon)
  refine Xz0 (fun wx => Hid (SumW w [h0, h1, h2, h3, h4, h5, h6, h7] [] (.slice none 0 0) wx)) ?_ ?_
  · obtain ⟨b0, b1, b2⟩ := heap3 w (.cells (v8a (zer 32)) 67) (.cells (v8a (zer 32)) 67) (.cells (Kz4 [h0, h1, h2, h3, h4, h5, h6, h7] (.slice none 0 0) 0) 307)
    exact hZ ⟨b0, b1, b2, World.ownsRow_nil _ _ _ _, by repeat (first | with_reducible assumption | (with_reducible refine Below.setCell ?_ (by first | omega | (simp; done) | (simp; omega)) _) | (with_reducible refine Below.alloc ?_ (by first | omega | (simp; done) | (simp; omega)) _) | (with_reducible refine Below.drew ?_) | (with_reducible refine Qz2 ?_ _) | with_reducible exact Below.refl _ _ | (with_reducible refine Below.trans ?_ (Below.mono (by assumption) (by first | omega | (simp; done) | (simp; omega))))), by simp⟩
  intro w1 H1
  have HB1 := hZ ((H1.out.2.2.2.2.1.block hb hhb).trans HB.out)
  have HO1 : Hid (w1.ownsRow 0 5 1 (.slice ar r.length cr) r.length (v8 r)) := hZ (Xz5 HO.out (fun k hk => H1.out.2.2.2.2.1.block k (HO.out.lt k hk).2))
  clear d0 d1 d2 d3 d4 d5 d6 d7 d8 d9
  obtain ⟨_, _, _, _, _, _, _, _, d8, d9⟩ := (blk10 HB1.out).1
  go_wp2_with (at_builtin; refine Jz2 rfl _ _ 118 rfl w.heap.size 5 i0 (.int .u8 0) 1 1 Tryz.underlying118 hi0' hz0 hz1 hz2 rfl (by decide) (.slice none 0 0) 0 [] rfl (World.ownsRow_nil _ _ _ _) (.slice ar r.length cr) r.length (v8 r) rfl (own_src8 HO1.out) ?c1 ?c2 ?c3 ?_)
  case c1 => unfold maxLen; omega
  case c2 => omega
  case c3 => have := H1.out.2.2.2.2.2; omega
  intro v2 w2 hown hgrow
  have H2 := hZ (H1.out.grow (tl' := r) (tv' := v2) hgrow (by simpa using hown))
  obtain ⟨a2, c2, rfl⟩ := Kz3 hown
  clear hown hgrow H1
  have H3 : Hid (SumW w [h0, h1, h2, h3, h4, h5, h6, h7] r (.slice a2 r.length c2) (w2.alloc (.cells #[.int .u8 128] 5))) := hZ (H2.out.below (bZ))
  go_wp2_with (at_builtin; refine Jz2 rfl _ _ 118 rfl w.heap.size 5 i0 (.int .u8 0) 1 1 Tryz.underlying118 hi0' hz0 hz1 hz2 rfl (by decide) (.slice a2 r.length c2) r.length (v8 r) rfl H3.out.2.2.2.1 (.slice (some ⟨w2.heap.size, 0, none⟩) 1 1) 1 (v8 [128]) rfl (one_src8 w2 128 5 _ rfl) ?c1 ?c2 ?c3 ?_)
  case c1 => unfold maxLen; omega
  case c2 => omega
  case c3 => have := H3.out.2.2.2.2.2; simp at this ⊢; omega
  intro v4 w4 hown hgrow
  have H4 := hZ (H3.out.grow (tl' := tlz r 0) (tv' := v4) hgrow (by simpa [v8, tlz, zer] using hown))
  obtain ⟨a4, c4, rfl⟩ := Kz3 hown
  clear hown hgrow H2 H3
  go_wp2_with fail
  go_loopw [5] (fun tv wr => ∃ (j L : Nat) (a4 : Option Addr) (c4 : Nat), tv = .slice a4 L c4 ∧ 1 ≤ L ∧ L ≤ 200 ∧ Hid (L = r.length + 1 + j ∧ j ≤ padN r.length) ∧ Hid (SumW w [h0, h1, h2, h3, h4, h5, h6, h7] (tlz r j) (.slice a4 L c4) wr)) (fun tv _ => 300 - slLen tv)
  case atStart => exact ⟨0, r.length + 1, a4, c4, rfl, by omega, by omega, hZ ⟨by omega, by omega⟩, H4⟩
  case round =>
    clear H4
    obtain ⟨j, L, a5, c5, rfl, hL1, hL2, HL, H5⟩ := hrel
    by_cases hd : L % 64 = 56
    · have hq : ((L : Int) % 64 != 56) = false := by simp; omega
      have HLJ : Hid (j = padN r.length) := hZ (by
        have h1 := HL.out
        unfold padN at h1 ⊢
        omega)
      have HLL : Hid ((tlz r j).length = L) := hZ (by have := HL.out.1; rw [tlz_length]; omega)
      go_wp2_with fail
      go_loopw [5, 6] (fun tv iv wr => ∃ (i : Nat) (a4 : Option Addr) (c4 : Nat), tv = .slice a4 (L + i) c4 ∧ iv = .int .i64 (7 - (i : Int)) ∧ i ≤ 8 ∧ Hid (SumW w [h0, h1, h2, h3, h4, h5, h6, h7] (tlb r j n i) (.slice a4 (L + i) c4) wr)) (fun tv iv _ => (intOf iv + 1).toNat)
      case atStart => exact ⟨0, a5, c5, rfl, rfl, by omega, by rw [show tlb r j n 0 = tlz r j by simp [tlb]]; exact H5⟩
      case round =>
        clear H5
        obtain ⟨i, a6, c6, rfl, rfl, hi, H6⟩ := hrel
        by_cases hlt : i < 8
        · have hi0 : (i : Int) < 8 := by omega
          have hi1 : (0 : Int) ≤ 7 - (i : Int) := by omega
          have HB6 := hZ ((H6.out.2.2.2.2.1.block hb hhb).trans HB.out)
          obtain ⟨_, _, _, _, _, _, _, _, d8, d9⟩ := (blk10 HB6.out).1
          have HLi : Hid ((tlb r j n i).length = L + i) := hZ (by have := HL.out.1; rw [tlb_length]; omega)
          have H7 : Hid (SumW w [h0, h1, h2, h3, h4, h5, h6, h7] (tlb r j n i) (.slice a6 (L + i) c6) (wr.alloc (.cells #[.int .u8 (n * 8 / 2 ^ (8 * (7 - i)) % 256)] 5))) := hZ (H6.out.below (bZ))
          go_wp2_with (at_builtin; refine Jz2 rfl _ _ 118 rfl w.heap.size 5 i0 (.int .u8 0) 1 1 Tryz.underlying118 hi0' hz0 hz1 hz2 rfl (by decide) (.slice a6 (L + i) c6) (L + i) (v8 (tlb r j n i)) rfl ?c0 (.slice (some ⟨wr.heap.size, 0, none⟩) 1 1) 1 (v8 [n * 8 / 2 ^ (8 * (7 - i)) % 256]) rfl (one_src8 wr _ 5 _ rfl) ?c1 ?c2 ?c3 ?_)
          case c0 => have h := H7.out.2.2.2.1; rw [HLi.out] at h; exact h
          case c1 => unfold maxLen; omega
          case c2 => omega
          case c3 => have := H7.out.2.2.2.2.2; simp at this ⊢; omega
          intro v8' w8 hown hgrow
          obtain ⟨a8, c8, rfl⟩ := Kz3 hown
          have H8 := hZ (H7.out.grow (tl' := tlb r j n (i + 1)) (tv' := .slice a8 (L + (i + 1)) c8) hgrow (by
            have e := tlb_next r j n i
            have e2 : (tlb r j n (i + 1)).length = L + (i + 1) := by rw [e, List.length_append, HLi.out]; rfl
            rw [e2, e, v8_append]; exact hown))
          clear hown hgrow H7 H6
          go_wp2_with fail
          exact ⟨⟨i + 1, a8, c8, rfl, by congr 1; omega, by omega, H8⟩, by simp [intOf]; omega⟩
        · obtain rfl : i = 8 := by omega
          go_wp2_with fail
          have HT : Hid (tlb r j n 8 = tailF r n) := hZ (by have := HLJ.out; subst this; rfl)
          have HLT : Hid ((tailF r n).length = L + 8) := hZ (by rw [← HT.out, tlb_length]; have := HL.out.1; omega)
          rw [HT.out] at H6
          have HT8 : Hid (U8s (tailF r n)) := hZ (tailF_u8 r n HQ.out.2.2.2.2.2)
          have HWR := hZ (hashWrite_any (w.heap.size + 1 + 1) (fun i => i < w.heap.size + 1 + 1) [h0, h1, h2, h3, h4, h5, h6, h7] [] 0 a6 (tailF r n) c6 wr ⟨.slice none 0 0, H6.out.2.2.1, World.ownsRow_nil _ _ _ _, fun k hk => by simp [Value.ownBlock] at hk, by omega, fun i hi => by have := H6.out.2.2.2.2.2; omega, rfl, HQ.out.2.2.2.2.1, fun x hx => by cases hx⟩ (ByIn.of_own (by have h := H6.out.2.2.2.1; rw [← HLT.out] at h; exact h)) ⟨by omega, by omega⟩ (by have := HLT.out; omega) (by simp) HT8.out (fun e => by
            have h := H6.out.2.2.2.1
            rcases h.2 with ⟨hv, _⟩ | ⟨g, c, cur, hv, _⟩
            · simp only [Value.slice.injEq] at hv; exact hv.2.2
            · rw [e] at hv; simp at hv) (fun x hx _ e => by
            have h := H6.out.2.2.2.1
            exact Vz5 H6.out.2.2.1 h (by decide) (by rw [hx]; rfl) e))
          rw [List.nil_append, HLT.out] at HWR
          have H00 := hZ H6.out.1
          have H01 := hZ H6.out.2.1
          have HBW := hZ H6.out.2.2.2.2.1
          clear H6 HT
          refine HWR.out.mono ?_
          clear HWR
          rintro e w9 ⟨rfl, hR9, hK9⟩
          have HE9 : Hid (sumF [h0, h1, h2, h3, h4, h5, h6, h7] r n = outF (Xz8 (L + 8) [h0, h1, h2, h3, h4, h5, h6, h7] (tailF r n)).1 8) := hZ (by unfold sumF; rw [HLT.out])
          generalize (Xz8 (L + 8) [h0, h1, h2, h3, h4, h5, h6, h7] (tailF r n)).1 = hs at hR9 HE9
          obtain ⟨rv9, t1, _, _, _, _, t2, t3, _⟩ := hR9
          obtain ⟨g0, g1, g2, g3, g4, g5, g6, g7, rfl⟩ := eight hs t2
          obtain ⟨e0, e1, e2, e3, e4, e5, e6, e7, _, _⟩ := (blk10 t1).1
          have HG := hZ t3
          have H90 : Hid (SumX w (outF [g0, g1, g2, g3, g4, g5, g6, g7] 0) w9) := hZ ⟨hK9.blk (by omega) H00.out, hK9.blk (by omega) H01.out, HBW.out.trans (hK9.below HBW.out.size (fun i hi => by omega))⟩
          clear t1 t2 t3 hK9
          dsimp only
          go_wp2_with fail
          clear e0 e1 e2 e3 e4 e5 e6 e7
          go_loopw [51] (fun iv wr => ∃ i : Nat, iv = .int .i64 i ∧ i ≤ 8 ∧ Hid (SumX w (outF [g0, g1, g2, g3, g4, g5, g6, g7] i) wr)) (fun iv _ => 8 - (intOf iv).toNat)
          case atStart => exact ⟨0, rfl, by omega, H90⟩
          case round =>
            clear H90
            obtain ⟨i, rfl, hi, HS⟩ := hrel
            by_cases hlt : i < 8
            · have hi0 : (0 : Int) ≤ i := by omega
              have hi1 : (i : Int) < 8 := by omega
              have hix := index_eight g0 g1 g2 g3 g4 g5 g6 g7 i hlt
              have gx := HG.out.at i
              have HN : Hid (outF [g0, g1, g2, g3, g4, g5, g6, g7] (i + 1) = ((((outF [g0, g1, g2, g3, g4, g5, g6, g7] i).set (4 * i) ([g0, g1, g2, g3, g4, g5, g6, g7].getD i 0 / 16777216)).set (4 * i + 1) ([g0, g1, g2, g3, g4, g5, g6, g7].getD i 0 / 65536 % 256)).set (4 * i + 2) ([g0, g1, g2, g3, g4, g5, g6, g7].getD i 0 / 256 % 256)).set (4 * i + 3) ([g0, g1, g2, g3, g4, g5, g6, g7].getD i 0 % 256)) := hZ rfl
              generalize [g0, g1, g2, g3, g4, g5, g6, g7].getD i 0 = x at hix gx HN
              obtain ⟨gx0, gx1⟩ := gx
              have p0 := v8a_cell HS.out.2.1 (4 * i) (by rw [Zzb]; omega)
              have p1 := v8a_cell HS.out.2.1 (4 * i + 1) (by rw [Zzb]; omega)
              have p2 := v8a_cell HS.out.2.1 (4 * i + 2) (by rw [Zzb]; omega)
              have p3 := v8a_cell HS.out.2.1 (4 * i + 3) (by rw [Zzb]; omega)
              go_wp2_with fail
              refine ⟨⟨i + 1, by go_num, by omega, hZ ⟨?_, ?_, ?_⟩⟩, by simp [intOf]; omega⟩
              · have hne : w.heap.size + 1 ≠ w.heap.size := by omega
                exact Zz1 hne (Zz1 hne (Zz1 hne (Zz1 hne HS.out.1)))
              · rw [HN.out]; exact v8a_set (v8a_set (v8a_set (v8a_set HS.out.2.1 _ _) _ _) _ _) _ _
              · have hbw := HS.out.2.2
                repeat (first | with_reducible assumption | (with_reducible refine Below.setCell ?_ (by first | omega | (simp; done) | (simp; omega)) _) | (with_reducible refine Below.alloc ?_ (by first | omega | (simp; done) | (simp; omega)) _) | (with_reducible refine Below.drew ?_) | (with_reducible refine Qz2 ?_ _) | with_reducible exact Below.refl _ _ | (with_reducible refine Below.trans ?_ (Below.mono (by assumption) (by first | omega | (simp; done) | (simp; omega)))))
            · obtain rfl : i = 8 := by omega
              rw [← HE9.out] at HS
              have HSL : Hid ((sumF [h0, h1, h2, h3, h4, h5, h6, h7] r n).length = 32) := hZ (by unfold sumF; rw [Zzb])
              generalize hsm : sumF [h0, h1, h2, h3, h4, h5, h6, h7] r n = sm at HS HSL
              have HSM := hZ hsm
              clear hsm
              have hsz : (v8a sm).size = 32 := by simp [v8a, v8, HSL.out]
              go_wp2_with (first
                | (refine wpList_load_row rfl 67 (.tmp 3) rfl (w.heap.size + 1) rfl 67 (v8a sm) (0, 0) _ HS.out.2.1 Tryz.underlying67 rfl ?s1 ?_)
                | (refine wpList_store_row rfl 67 (.tmp 2) (.tmp 82) rfl w.heap.size (v8a sm) rfl rfl 67 (v8a (zer 32)) HS.out.1 ?s2 ?s3 ?s4 ?_))
              case s1 => rw [hsz]; kernel_rfl
              case s2 => rw [hsz]; kernel_rfl
              case s3 => rw [hsz]; simp [v8a, v8, zer]
              case s4 => simp [v8a, v8, Value.oneCell']
              have hfin := setRow_heap wr w.heap.size _ (v8a sm) 67 (0, 0) HS.out.1
              have hbf : Below w.heap.size w (wr.setRow w.heap.size (v8a sm)) := below_setRow HS.out.2.2 (by omega) _
              generalize wr.setRow w.heap.size (v8a sm) = wf at hfin hbf ⊢
              simp only [Act.put, qs0, qs1, qs2]
              refine bodyPost_ret (results_cell_row Tryz.results147 _ _ w.heap.size 67 (v8a sm) (0, 0) _ rfl hfin Tryz.underlying67 rfl (by rw [hsz]; kernel_rfl)) rfl ⟨?_, hbf⟩
              rw [HSM.out]
    · have hq : ((L : Int) % 64 != 56) = true := by simp; omega
      have HJ : Hid (j + 1 ≤ padN r.length) := hZ (by have := HL.out; unfold padN at this ⊢; omega)
      have HLL : Hid ((tlz r j).length = L) := hZ (by have := HL.out.1; rw [tlz_length]; omega)
      have H6 : Hid (SumW w [h0, h1, h2, h3, h4, h5, h6, h7] (tlz r j) (.slice a5 L c5) (wr.alloc (.cells #[.int .u8 0] 5))) := hZ (H5.out.below (bZ))
      go_wp2_with (at_builtin; refine Jz2 rfl _ _ 118 rfl w.heap.size 5 i0 (.int .u8 0) 1 1 Tryz.underlying118 hi0' hz0 hz1 hz2 rfl (by decide) (.slice a5 L c5) L (v8 (tlz r j)) rfl ?c0 (.slice (some ⟨wr.heap.size, 0, none⟩) 1 1) 1 (v8 [0]) rfl (one_src8 wr 0 5 _ rfl) ?c1 ?c2 ?c3 ?_)
      case c0 => have h := H6.out.2.2.2.1; rw [HLL.out] at h; exact h
      case c1 => unfold maxLen; omega
      case c2 => omega
      case c3 => have := H6.out.2.2.2.2.2; simp at this ⊢; omega
      intro v7 w7 hown hgrow
      obtain ⟨a7, c7, rfl⟩ := Kz3 hown
      have H7 := hZ (H6.out.grow (tl' := tlz r (j + 1)) (tv' := .slice a7 (L + 1) c7) hgrow (by
        have e := tlz_next r j
        have e2 : (tlz r (j + 1)).length = L + 1 := by rw [e, List.length_append, HLL.out]; rfl
        rw [e2, e, v8_append]; exact hown))
      clear hown hgrow H6 H5
      go_wp2_with fail
      exact ⟨⟨j + 1, L + 1, a7, c7, rfl, by omega, by have h1 := HL.out; have h2 := HJ.out; unfold padN at h1 h2; omega, hZ ⟨by have := HL.out; omega, HJ.out⟩, H7⟩, by simp [slLen]; omega⟩
open Go.RowKit
def hst (d : List Int) : List Int × List Int := Xz8 d.length ivs d
theorem hst_ok (d : List Int) (h : U8s d) : (hst d).1.length = 8 ∧ U32s (hst d).1 ∧ (hst d).2.length < 64 ∧ U8s (hst d).2 := absorb_ok _ _ _ (Nat.le_refl _) ivs_ok.1 ivs_ok.2 h
theorem hst_app (d b : List Int) : Xz8 ((hst d).2 ++ b).length (hst d).1 ((hst d).2 ++ b) = hst (d ++ b) := by
  have h := absorb_app d.length ivs d b (Nat.le_refl _)
  have hl := absorb_len d.length ivs d
  have e : (d ++ b).length = d.length + b.length := List.length_append
  unfold hst
  rw [e, h]
  exact absorb_fuel _ _ _ _ (Nat.le_refl _) (by simp; omega)
def shaF (d : List Int) : List Int := sumF (hst d).1 (hst d).2 d.length
theorem Vz8 (d : List Int) : (shaF d).length = 32 := by unfold shaF sumF; exact Zzb _ _
theorem outF_u8 (hs : List Int) (h : U32s hs) : ∀ i, U8s (outF hs i)
  | 0 => fun x hx => by
    have : x = 0 := by simp [outF, zer] at hx; exact hx
    subst this; decide
  | i + 1 => by
    have ih := outF_u8 hs h i
    have hx := h.at i
    obtain ⟨h0, h1⟩ := hx
    intro y hy
    unfold outF at hy
    rcases List.mem_or_eq_of_mem_set hy with hy | rfl
    · rcases List.mem_or_eq_of_mem_set hy with hy | rfl
      · rcases List.mem_or_eq_of_mem_set hy with hy | rfl
        · rcases List.mem_or_eq_of_mem_set hy with hy | rfl
          · exact ih y hy
          · omega
        · omega
      · omega
    · omega
theorem shaF_u8 (d : List Int) (h : U8s d) : U8s (shaF d) := by
  obtain ⟨h1, h2, h3, h4⟩ := hst_ok d h
  unfold shaF sumF
  exact outF_u8 _ (absorb_ok _ _ _ (Nat.le_refl _) h1 h2 (tailF_u8 _ _ h4)).2.1 8
def HashD (w : World) (hb : Nat) (N : Nat → Prop) (d : List Int) : Prop := HashR w hb N (hst d).1 (hst d).2 d.length ∧ U8s d ∧ d.length ≤ 100000000
theorem HashD.keep {w w' : World} {hb : Nat} {N N' : Nat → Prop} {d : List Int} (H : HashD w hb N d) (hb' : Below w.heap.size w w') (hn : ∀ i, N' i → i < w'.heap.size ∧ (N i ∨ w.heap.size ≤ i)) : HashD w' hb N' d := ⟨H.1.keep hb' hn, H.2⟩
theorem hashNew_D (w : World) (N : Nat → Prop) (hN : ∀ i, N i → i < w.heap.size) : Calls Tryz.prog 145 #[] w fun e w' => e = .returned (.pointer (some ⟨w.heap.size, 0, none⟩)) ∧ HashD w' w.heap.size N [] ∧ Below w.heap.size w w' :=
  (shaNew_any w N hN).mono fun e w' ⟨h1, h2, h3⟩ => ⟨h1, ⟨h2, (fun x hx => by cases hx), by simp⟩, h3⟩
theorem Wz8 (hb : Nat) (N : Nat → Prop) (d : List Int) (a : Option Addr) (b : List Int) (c : Nat) (w : World) (H : HashD w hb N d) (hbi : ByIn w a b) (hbl : b.length ≤ 1000000) (hdl : d.length ≤ 90000000) (hb8 : U8s b) (hac : a = none → c = 0) (hne : ∀ x, a = some x → 0 < b.length → x.block ≠ hb) :
    Calls Tryz.prog 146 #[.pointer (some ⟨hb, 0, none⟩), .slice a b.length c] w fun e w' => e = .returned (.tuple #[]) ∧ HashD w' hb N (d ++ b) ∧ Keeps N w w' := by
  obtain ⟨h1, h2, h3⟩ := H
  have hr := (hst_ok d h2).2.2.1
  refine (hashWrite_any hb N _ _ _ a b c w h1 hbi ⟨by omega, by omega⟩ hbl (by omega) hb8 hac hne).mono ?_
  rintro e w' ⟨e1, e2, e3⟩
  rw [hst_app] at e2
  refine ⟨e1, ⟨?_, fun x hx => ?_, by simp; omega⟩, e3⟩
  · rw [List.length_append, Int.natCast_add]; exact e2
  · rcases List.mem_append.1 hx with hx | hx
    · exact h2 x hx
    · exact hb8 x hx
theorem hashSum_D (hb : Nat) (N : Nat → Prop) (d : List Int) (w : World) (H : HashD w hb N d) :
    Calls Tryz.prog 147 #[.pointer (some ⟨hb, 0, none⟩)] w fun e w' => e = .returned (.agg (v8a (shaF d))) ∧ Below w.heap.size w w' :=
  hashSum_any hb N _ _ _ w H.1 ⟨by omega, by have := H.2.2; omega⟩ (hst_ok d H.2.1).2.2.1
set_option maxRecDepth 100000 in
set_option maxHeartbeats 1000000 in
theorem shaSum_any (a : Option Addr) (b : List Int) (c : Nat) (w : World) (hbi : ByIn w a b) (hbl : b.length ≤ 1000000) (hb8 : U8s b) (hac : a = none → c = 0) :
    Calls Tryz.prog 184 #[.slice a b.length c] w fun e w' => e = .returned (.agg (v8a (shaF b))) ∧ Below w.heap.size w w' := by
  have HB := hZ hbi
  have HA := hZ hac
  have H8 := hZ hb8
  clear hbi hac hb8
  go_enter Tryz.func184, Tryz.ntmps184
  go_wp2_with fail
  have HW : Hid ((w.alloc (.cells (v8a (zer 32)) 67)).heap[w.heap.size]? = some (.cells (v8a (zer 32)) 67) ∧ Below w.heap.size w (w.alloc (.cells (v8a (zer 32)) 67)) ∧ w.heap.size < (w.alloc (.cells (v8a (zer 32)) 67)).heap.size) := hZ ⟨heap_alloc_new w _, bZ, by simp⟩
  have HNW := fun (wx : World) => hashNew_D wx (fun i => i < wx.heap.size) (fun i hi => hi)
  refine (HNW _).mono ?_
  clear HNW
  rintro e w2 ⟨rfl, hD, hb⟩
  simp only [World.size_alloc] at hD hb ⊢
  have HW2 : Hid (w2.heap[w.heap.size]? = some (.cells (v8a (zer 32)) 67) ∧ Below w.heap.size w w2) := hZ ⟨(hb.block _ (by omega)).trans HW.out.1, HW.out.2.1.trans (hb.mono (by omega))⟩
  have HD := hZ hD
  have HB2 := hZ (HB.out.below HW2.out.2)
  have HNE : Hid (∀ x, a = some x → 0 < b.length → x.block < w.heap.size) := hZ (fun x hx hp => by
    obtain ⟨b', off, e, hs, _⟩ := HB.out 0 hp
    rw [hx] at e; cases e; exact hs)
  clear hD hb HW
  try dsimp only
  go_wp2_with fail
  refine (Wz8 (w.heap.size + 1) _ [] a b c w2 HD.out HB2.out hbl (by simp) H8.out HA.out (fun x hx hp e => by have := HNE.out x hx hp; omega)).mono ?_
  rintro e w3 ⟨rfl, hD, hK⟩
  have HD3 := hZ hD
  have HW3 : Hid (w3.heap[w.heap.size]? = some (.cells (v8a (zer 32)) 67) ∧ Below w.heap.size w w3) := hZ ⟨hK.blk (by omega) HW2.out.1, HW2.out.2.trans (hK.below HW2.out.2.size (fun i hi => by omega))⟩
  clear hD hK
  try dsimp only
  go_wp2_with fail
  refine (hashSum_D (w.heap.size + 1) _ ([] ++ b) w3 HD3.out).mono ?_
  rintro e w4 ⟨rfl, hb4⟩
  rw [List.nil_append]
  have HW4 : Hid (w4.heap[w.heap.size]? = some (.cells (v8a (zer 32)) 67) ∧ Below w.heap.size w w4) := hZ ⟨(hb4.block _ (Zz0 HW3.out.1)).trans HW3.out.1, HW3.out.2.trans (hb4.mono HW3.out.2.size)⟩
  have HSL := hZ (Vz8 b)
  clear hb4
  generalize hsm : shaF b = sm at HSL ⊢
  have HSM := hZ hsm
  clear hsm
  have hsz : (v8a sm).size = 32 := by simp [v8a, v8, HSL.out]
  try dsimp only
  go_wp2_with (refine wpList_store_row rfl 67 (.tmp 2) (.tmp 9) rfl w.heap.size (v8a sm) rfl rfl 67 (v8a (zer 32)) HW4.out.1 ?s2 ?s3 ?s4 ?_)
  case s2 => rw [hsz]; kernel_rfl
  case s3 => rw [hsz]; simp [v8a, v8, zer]
  case s4 => simp [v8a, v8, Value.oneCell']
  have hfin := setRow_heap w4 w.heap.size _ (v8a sm) 67 (0, 0) HW4.out.1
  have hbf : Below w.heap.size w (w4.setRow w.heap.size (v8a sm)) := below_setRow HW4.out.2 (by omega) _
  generalize w4.setRow w.heap.size (v8a sm) = wf at hfin hbf ⊢
  try simp only [Act.put, qs0, qs1, qs2]
  refine bodyPost_ret (results_cell_row Tryz.results184 _ _ w.heap.size 67 (v8a sm) (0, 0) _ rfl hfin Tryz.underlying67 rfl (by rw [hsz]; kernel_rfl)) rfl ⟨?_, hbf⟩
  rw [HSM.out]
end Go.Proofs.YtajmcplanlibnaaGreatDoor
