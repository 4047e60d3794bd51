/- The sum of texts: turning a word; the round words. -/
import Derived.Test.YtajmcplanlibnaaGreatDoorKLib
import Derived.Test.YtajmcplanlibnaaGreatDoorProg
import Derived.Deep.MidRow
import Derived.Laws.Closers25b
set_option linter.unusedSimpArgs false
set_option linter.unusedVariables false
namespace Go.Proofs.YtajmcplanlibnaaGreatDoor
open Go.RowKit
/-- A word of 32 bits. -/
def U32 (x : Int) : Prop := 0 ≤ x ∧ x < 4294967296
def turnF (x n : Int) : Int := bits BinOp.or IntKind.u32 (x / 2 ^ n.toNat) (x * 2 ^ (32 - n).toNat % 4294967296)
theorem turnF_u32 (x n : Int) : U32 (turnF x n) := ⟨bits_lo_u32 _ _ _, by have := bits_hi_u32 BinOp.or (x / 2 ^ n.toNat) (x * 2 ^ (32 - n).toNat % 4294967296); unfold turnF; omega⟩
set_option maxRecDepth 100000 in
theorem turn_any (x n : Int) (w : World) (h : U32 x) (hn : 0 < n ∧ n < 32) :
    Calls Tryz.prog 223 #[.int .u32 x, .int .u64 n] w fun e w' => e = .returned (.int .u32 (turnF x n)) ∧ w = w' := by
  obtain ⟨h0, h1⟩ := h
  obtain ⟨hn, hn2⟩ := hn
  have HT : Hid (turnF x n = bits BinOp.or IntKind.u32 (x / 2 ^ n.toNat) (x * 2 ^ (32 - n).toNat % 4294967296)) := Lib.hid rfl
  go_enter Tryz.func223, Tryz.ntmps223
  go_wp2_with fail
  go_ret
  exact ⟨by rw [HT.out]; rfl, rfl⟩
def kWords : List Int := [1116352408, 1899447441, 3049323471, 3921009573, 961987163, 1508970993, 2453635748, 2870763221, 3624381080, 310598401, 607225278, 1426881987, 1925078388, 2162078206, 2614888103, 3248222580, 3835390401, 4022224774, 264347078, 604807628, 770255983, 1249150122, 1555081692, 1996064986, 2554220882, 2821834349, 2952996808, 3210313671, 3336571891, 3584528711, 113926993, 338241895, 666307205, 773529912, 1294757372, 1396182291, 1695183700, 1986661051, 2177026350, 2456956037, 2730485921, 2820302411, 3259730800, 3345764771, 3516065817, 3600352804, 4094571909, 275423344, 430227734, 506948616, 659060556, 883997877, 958139571, 1322822218, 1537002063, 1747873779, 1955562222, 2024104815, 2227730452, 2361852424, 2428436474, 2756734187, 3204031479, 3329325298]
theorem kWords_length : kWords.length = 64 := by decide +kernel
theorem kWords_u32 : ∀ x ∈ kWords, U32 x := by
  have h : (kWords.all fun x => decide (0 ≤ x) && decide (x < 4294967296)) = true := by decide +kernel
  intro x hx
  have := List.all_eq_true.1 h x hx
  simp only [Bool.and_eq_true, decide_eq_true_eq] at this
  exact this
def v32 (l : List Int) : Array Value := (l.map (Value.int .u32)).toArray
theorem v32_size (l : List Int) : (v32 l).size = l.length := by simp [v32]
theorem v32_one (l : List Int) : (v32 l).all (·.oneCell') = true := by simp [v32, Value.oneCell']
theorem wpList_build_to {P : Program} {ops : Array Oper} {rest : List Oper} {o : Oper} {a : Act} {w : World} {Q : Exit → Act → World → Prop} (hg : o.guard = none) (t : TypeId) (parts : Array (Nat × Operand)) (ho : o.op = .build t parts)
    (cs : Array Value) (hb : P.built t (parts.map fun (i, x) => (i, a.eval x)).toList = some cs) (h : wpList P ops Q rest (a.put o.dst (.agg cs)) w) : wpList P ops Q (o :: rest) a w :=
  wpList_build hg t parts ho (by rw [hb]; rfl) (by rw [hb]; exact h)
theorem below_setRow {w0 w : World} {B g : Nat} (h : Below B w0 w) (hg : B ≤ g) (cs : Array Value) : Below B w0 (w.setRow g cs) :=
  h.trans ⟨rfl, rfl, rfl, by simp [World.setRow], fun k hk => setRow_other w g k cs (by omega)⟩
theorem info_w64 : (Tryz.prog.info? 338).map (·.size) = some 64 := by kernel_rfl
set_option maxRecDepth 100000 in
set_option maxHeartbeats 1000000 in
theorem words_any (w : World) : Calls Tryz.prog 224 #[] w fun e w' => e = .returned (.agg (v32 kWords)) ∧ Below w.heap.size w w' := by
  go_enter Tryz.func224, Tryz.ntmps224
  repeat (fail_if_success (with_reducible refine stop_pos "sha.go:18" rfl ?_)
          first | go_values | go_skip | go_guarded | go_step | go_upon)
  refine wpList_build_to rfl 338 _ rfl (v32 kWords) (by kernel_rfl) ?_
  simp only [Act.put, List.setIfInBounds_toArray, List.set_cons_zero, List.set_cons_succ]
  have hsz : (v32 kWords).size = 64 := by rw [v32_size, kWords_length]
  have hblk : (w.alloc (.cells (v32 (List.replicate 64 0)) 338)).heap[w.heap.size]? = some (.cells (v32 (List.replicate 64 0)) 338) := heap_alloc_new w _
  have hb : Below w.heap.size w (w.alloc (.cells (v32 (List.replicate 64 0)) 338)) := (Below.refl _ _).alloc (Nat.le_refl _) _
  refine gen_world (fun wx => wx.heap[w.heap.size]? = some (.cells (v32 (List.replicate 64 0)) 338) ∧ Below w.heap.size w wx) ⟨hblk, hb⟩ ?_
  clear hblk hb
  rintro w1 ⟨hblk, hb⟩
  refine wpList_store_row rfl 338 (.tmp 0) (.tmp 1) rfl w.heap.size (v32 kWords) rfl rfl 338 _ hblk (by rw [hsz]; exact info_w64) (by rw [v32_size, hsz]; simp) (v32_one _) ?_
  simp only [Act.put, List.setIfInBounds_toArray, List.set_cons_zero, List.set_cons_succ]
  have hfin := setRow_heap w1 w.heap.size _ (v32 kWords) 338 (0, 0) hblk
  have hbf : Below w.heap.size w (w1.setRow w.heap.size (v32 kWords)) := below_setRow hb (by omega) _
  generalize w1.setRow w.heap.size (v32 kWords) = wf at hfin hbf ⊢
  repeat (first | go_values | go_skip | go_guarded | go_step | go_upon)
  exact bodyPost_ret (results_cell_row Tryz.results224 _ _ w.heap.size 338 (v32 kWords) (0, 0) _ rfl hfin Tryz.underlying338 rfl (by rw [hsz]; exact info_w64)) rfl ⟨rfl, hbf⟩
end Go.Proofs.YtajmcplanlibnaaGreatDoor
