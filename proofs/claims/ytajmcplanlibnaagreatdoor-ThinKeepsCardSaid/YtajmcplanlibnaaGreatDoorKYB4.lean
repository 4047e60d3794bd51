/- A ring: its head is told; all of it is cut. -/
import Derived.Test.YtajmcplanlibnaaGreatDoorKYB1
set_option linter.unusedSimpArgs false
set_option linter.unusedVariables false
set_option linter.unnecessarySimpa false
namespace Go.Proofs.YtajmcplanlibnaaGreatDoor
open Go.RowKit Go.Maps
theorem ring_range {w : World} {B T db first n pl used : Nat} {num : Int} {last : List Int} (h : w.heap[B]? = some (.cells (ringC db first n pl num last used) T)) : w.rangeAt B 3 (.int .i64 (pl : Int) :: .int .u64 num :: v8 last) := fun j v hv => by
  have hj : j < (Value.int .i64 (pl : Int) :: .int .u64 num :: v8 last).length := (List.getElem?_eq_some_iff.1 hv).1
  rw [cell_of_row w B (3 + j) _ T (0, 0) h]
  have e : ringC db first n pl num last used = (([.pointer (some ⟨db, 0, none⟩), .int .i64 (first : Int), .int .i64 (n : Int)] : List Value) ++ ((Value.int .i64 (pl : Int) :: .int .u64 num :: v8 last) ++ [Value.int .i64 (used : Int)])).toArray := by simp [ringC]
  rw [e, List.getElem?_toArray, List.getElem?_append_right (by simp)]
  rw [show 3 + j - [Value.pointer (some ⟨db, 0, none⟩), .int .i64 (first : Int), .int .i64 (n : Int)].length = j by simp, List.getElem?_append_left hj]
  exact hv
theorem results_cell_one {P : Program} {fn : Func} {p : Tmp} {ty : TypeId} (h : fn.results = #[.cell p ty]) (tmps : Array Value) (w : World) (g : Nat) (t : TypeId) (cs : Array Value) (fr : Nat × Nat) (d : TypeDesc)
    (hp : tmps.getD p undef = .pointer (some ⟨g, 0, none⟩)) (hg : w.heap[g]? = some (.cells cs t fr))
    (hu : P.underlying ty = some d) (hd : (match d with | .struct _ | .array _ _ => true | _ => false) = true) (hi : (P.info? ty).map (·.size) = some cs.size) :
    (results fn tmps).run P w = .ok (.agg cs) w := results_cell_row h tmps w g t cs fr d hp hg hu hd hi
set_option maxRecDepth 100000 in
set_option maxHeartbeats 1000000 in
theorem ringHead_any (rb db first n pl used : Nat) (num : Int) (last : List Int) (w : World) (hl : last.length = 32) (h : w.heap[rb]? = some (.cells (ringC db first n pl num last used) 252)) :
    Calls Tryz.prog 144 #[.pointer (some ⟨rb, 0, none⟩)] w fun e w' => e = .returned (.agg (markC pl num last)) ∧ Below w.heap.size w w' := by
  have HR := hZ h
  clear h
  have HML : Hid ((Value.int .i64 (pl : Int) :: .int .u64 num :: v8 last).length = 34) := hZ (by simp only [List.length_cons, Wz0, hl])
  go_enter Tryz.func144, Tryz.ntmps144
  repeat ((fail_if_success (with_reducible refine Vz1 "ring.go:169" rfl ?_)); (first | go_values | go_skip | go_guarded | go_step | go_upon))
  refine Xz0 (fun wx => Hid (wx.heap[w.heap.size]? = some (.cells (markC 0 0 (zer 32)) 148) ∧ Below w.heap.size w wx)) (hZ ⟨heap_alloc_new w (.cells (markC 0 0 (zer 32)) 148), bZ⟩) ?_
  intro w1 H1
  have hrg := ring_range ((H1.out.2.block _ (Zz0 HR.out)).trans HR.out)
  go_wp2_with (first | (refine wpList_load_mid rfl 148 (.tmp 8) rfl rb 3 rfl (.int .i64 (pl : Int) :: .int .u64 num :: v8 last) _ hrg Tryz.underlying148 rfl ?s1 ?_) | (refine wpList_store_row rfl 148 (.tmp 2) (.tmp 9) rfl w.heap.size (markC pl num last) rfl rfl 148 (markC 0 0 (zer 32)) H1.out.1 ?s2 ?s3 (Xza _ _ _) ?_))
  case s1 => rw [HML.out]; exact Wz7
  case s2 => rw [Jz5 _ _ _ hl]; exact Wz7
  case s3 => rw [Jz5 _ _ _ hl]; rfl
  refine bodyPost_ret (results_cell_one Tryz.results144 _ _ w.heap.size 148 (markC pl num last) (0, 0) _ rfl (setRow_heap _ _ _ _ _ (0, 0) H1.out.1) Tryz.underlying148 rfl (by rw [Jz5 _ _ _ hl]; exact Wz7)) rfl ⟨rfl, below_setRow H1.out.2 (Nat.le_refl _) _⟩
theorem ring_last {w : World} {B T db first n pl used : Nat} {num : Int} {last c : List Int} (hl : last.length = 32) (hc : c.length = 32) (h : w.heap[B]? = some (.cells (ringC db first n pl num last used) T)) :
    (w.setCells B 5 (v8 c)).heap[B]? = some (.cells (ringC db first n pl num c used) T) := by
  have hl8 : (v8 last).length = 32 := by rw [Wz0, hl]
  have hc8 : (v8 c).length = 32 := by rw [Wz0, hc]
  have e : ringC db first n pl num last used = (([.pointer (some ⟨db, 0, none⟩), .int .i64 (first : Int), .int .i64 (n : Int), .int .i64 (pl : Int), .int .u64 num] : List Value) ++ (v8 last ++ [Value.int .i64 (used : Int)])).toArray := by simp [ringC]
  rw [e] at h
  rw [Qzb (vs := v8 c) (o := 5) h (by simp [hl8, hc8])]
  congr 2
  apply Array.ext'
  simp [ringC, hc8, hl8]
theorem ring_used {w : World} {B T db first n pl used : Nat} {num : Int} {last : List Int} (hl : last.length = 32) (u : Nat) (h : w.heap[B]? = some (.cells (ringC db first n pl num last used) T)) :
    (w.setCell ⟨B, 37, none⟩ (.int .i64 (u : Int))).heap[B]? = some (.cells (ringC db first n pl num last u) T) := by
  have hl8 : (v8 last).length = 32 := by rw [Wz0, hl]
  rw [Xz3 h]
  congr 2
  apply Array.ext'
  simp only [ringC, List.setIfInBounds_toArray, List.set_cons_succ]
  rw [List.set_append_right _ _ (by rw [hl8]; decide), hl8]
  rfl
theorem ring_fr {w : World} {B T db first n pl used : Nat} {num : Int} {last : List Int} (h : w.heap[B]? = some (.cells (ringC db first n pl num last used) T)) (i : Nat) : w.frozen? ⟨B, i, none⟩ = false := by
  simp [World.frozen?, h]
theorem ring_there {w : World} {B T db first n pl used : Nat} {num : Int} {last : List Int} (hl : last.length = 32) (h : w.heap[B]? = some (.cells (ringC db first n pl num last used) T)) : w.there B 5 32 :=
  blk_there h (by simp [ringC, v8, hl])
theorem Vz9 : (Tryz.prog.info? 67).map (·.size) = some 32 := by kernel_rfl
set_option maxRecDepth 100000 in
set_option maxHeartbeats 1000000 in
theorem ringCut_any (rb db first n pl used : Nat) (num : Int) (last c : List Int) (w : World) (hl : last.length = 32) (hc : c.length = 32) (h : w.heap[rb]? = some (.cells (ringC db first n pl num last used) 252)) :
    Calls Tryz.prog 148 #[.pointer (some ⟨rb, 0, none⟩), .agg (v8a c)] w fun e w' => e = .returned (.tuple #[]) ∧ w'.heap[rb]? = some (.cells (ringC db first n pl num c 0) 252) ∧ Keeps (fun k => k ≠ rb) w w' := by
  have HR := hZ h
  clear h
  have hc8 : (v8 c).length = 32 := by rw [Wz0, hc]
  have hca : (v8a c).size = 32 := by unfold v8a; rw [List.size_toArray, hc8]
  go_enter Tryz.func148, Tryz.ntmps148
  repeat ((fail_if_success (with_reducible refine Vz1 "ring.go:177" rfl ?_)); (first | go_values | go_skip | go_guarded | go_step | go_upon))
  refine Xz0 (fun wx => Hid (wx.heap[w.heap.size]? = some (.cells (v8a c) 67) ∧ Below w.heap.size w wx)) (hZ ⟨heap_alloc_new w (.cells (v8a c) 67), bZ⟩) ?_
  intro w1 H1
  have HR1 := hZ ((H1.out.2.block _ (Zz0 HR.out)).trans HR.out)
  have HLN : Hid ((v8 c).length = 32) := hZ hc8
  repeat ((fail_if_success (with_reducible refine Vz1 "ring.go:178" rfl ?_)); (first | go_values | go_skip | go_guarded | go_step | go_upon))
  repeat ((fail_if_success (with_reducible refine Kz1 12 rfl ?_)); (first | (first | (refine wpList_load_mid rfl 67 (.tmp 3) rfl w.heap.size 0 rfl (v8 c) _ (Vz6 H1.out.1) Tryz.underlying67 rfl (by rw [hc8]; exact Vz9) ?_) | (refine wpList_store_mid rfl 67 (.tmp 10) (.tmp 7) rfl rb 5 (v8a c) rfl rfl (by rw [hca]; exact ring_there hl HR1.out) (by rw [hca]; exact Vz9) (all_oneCell_toArray (Kz7 c)) ?_)) | go_values | go_skip | go_guarded | go_step | go_upon))
  refine Xz0 (fun wx => Hid (wx.heap[rb]? = some (.cells (ringC db first n pl num c used) 252) ∧ Keeps (fun k => k ≠ rb) w wx)) (hZ ⟨ring_last hl hc HR1.out, (Keeps.of_below H1.out.2).trans (Keeps.of_grown (Jz7 _ _ _ _) (fun k hk e => by cases hk; exact e rfl))⟩) ?_
  clear HR1 H1
  intro w2 H2
  obtain ⟨z0, z1, z2, z3, z4, z5⟩ := Wz6 hc H2.out.1
  have f5 := ring_fr H2.out.1 37
  go_wp2_with fail
  go_end0
  exact ⟨rfl, ring_used hc 0 H2.out.1, H2.out.2.trans (Keeps.set _ _ _ _ (fun e => e rfl))⟩
end Go.Proofs.YtajmcplanlibnaaGreatDoor
