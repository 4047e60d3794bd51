/- The shelf's table of sort.Slice at this dump, in plain words (written by the kit's lay-shelf.mjs and lay-plain.mjs). -/
import Derived.Shelf.SlSortFuncK.WholeK
import Derived.Shelf.GgSortFunc.Tiny
import Derived.Test.YtajmcplanlibnaaGreatDoorProg
import Derived.Test.YtajmcplanlibnaaGreatDoorKYLib
import Derived.Test.YtajmcplanlibnaaGreatDoorKYQ1
import Derived.Test.YtajmcplanlibnaaGreatDoorKYQ6
import Derived.Laws.IdiomRangeMap
set_option linter.unusedSimpArgs false
set_option linter.unusedVariables false
set_option linter.unnecessarySimpa false
namespace Go.Proofs
open Go.Shelf
def Tryz.laysGg6_ren : Go.Shelf.Ren := ⟨fun | 6 => 68 | 10 => 149 | 11 => 150 | 12 => 151 | 13 => 152 | 14 => 153 | 24 => 202 | 25 => 203 | 26 => 204 | 27 => 205 | 28 => 206 | 29 => 207 | 30 => 208 | 31 => 209 | 32 => 210 | 33 => 211 | 34 => 225 | 35 => 226 | 36 => 227 | 37 => 228 | 38 => 229 | 39 => 244 | n => n, fun | 20 => 20 | 26 => 159 | 35 => 265 | 0 => 0 | 37 => 267 | 3 => 3 | 41 => 191 | 44 => 272 | 49 => 107 | 51 => 144 | 4 => 4 | 54 => 315 | 53 => 314 | 58 => 181 | 5 => 5 | 9 => 9 | 60 => 342 | 64 => 346 | 66 => 358 | 67 => 130 | 17 => 17 | 32 => 262 | 33 => 263 | 82 => 380 | 12 => 12 | 75 => 374 | 76 => 285 | 77 => 375 | 78 => 376 | 79 => 377 | 80 => 378 | n => n, fun | n => n⟩
theorem Tryz.laysGg6 : Go.Proofs.LaysGg.n6 Tryz.prog Tryz.laysGg6_ren := {
  mixed := by kernel_rfl
  f6 := Tryz.func68.trans (congrArg some (by kernel_rfl))
  f10 := Tryz.func149.trans (congrArg some (by kernel_rfl))
  f11 := Tryz.func150.trans (congrArg some (by kernel_rfl))
  f12 := Tryz.func151.trans (congrArg some (by kernel_rfl))
  f13 := Tryz.func152.trans (congrArg some (by kernel_rfl))
  f14 := Tryz.func153.trans (congrArg some (by kernel_rfl))
  f24 := Tryz.func202.trans (congrArg some (by kernel_rfl))
  f25 := Tryz.func203.trans (congrArg some (by kernel_rfl))
  f26 := Tryz.func204.trans (congrArg some (by kernel_rfl))
  f27 := Tryz.func205.trans (congrArg some (by kernel_rfl))
  f28 := Tryz.func206.trans (congrArg some (by kernel_rfl))
  f29 := Tryz.func207.trans (congrArg some (by kernel_rfl))
  f30 := Tryz.func208.trans (congrArg some (by kernel_rfl))
  f31 := Tryz.func209.trans (congrArg some (by kernel_rfl))
  f32 := Tryz.func210.trans (congrArg some (by kernel_rfl))
  f33 := Tryz.func211.trans (congrArg some (by kernel_rfl))
  f34 := Tryz.func225.trans (congrArg some (by kernel_rfl))
  f35 := Tryz.func226.trans (congrArg some (by kernel_rfl))
  f36 := Tryz.func227.trans (congrArg some (by kernel_rfl))
  f37 := Tryz.func228.trans (congrArg some (by kernel_rfl))
  f38 := Tryz.func229.trans (congrArg some (by kernel_rfl))
  f39 := Tryz.func244.trans (congrArg some (by kernel_rfl))
  t0 := Tryz.underlying0
  a0 := Tryz.isAgg0
  z0 := Tryz.sizeOf0
  v0 := Tryz.zeroValue0
  i0 := by kernel_rfl
  t3 := Tryz.underlying3
  a3 := Tryz.isAgg3
  z3 := Tryz.sizeOf3
  v3 := Tryz.zeroValue3
  i3 := by kernel_rfl
  t4 := Tryz.underlying4
  a4 := Tryz.isAgg4
  z4 := Tryz.sizeOf4
  v4 := Tryz.zeroValue4
  i4 := by kernel_rfl
  t5 := Tryz.underlying5
  a5 := Tryz.isAgg5
  z5 := Tryz.sizeOf5
  v5 := Tryz.zeroValue5
  i5 := by kernel_rfl
  t9 := Tryz.underlying9
  a9 := Tryz.isAgg9
  z9 := Tryz.sizeOf9
  v9 := Tryz.zeroValue9
  i9 := by kernel_rfl
  t12 := Tryz.underlying12
  a12 := Tryz.isAgg12
  z12 := Tryz.sizeOf12
  v12 := Tryz.zeroValue12
  i12 := by kernel_rfl
  t17 := Tryz.underlying17
  a17 := Tryz.isAgg17
  z17 := Tryz.sizeOf17
  v17 := Tryz.zeroValue17
  i17 := by kernel_rfl
  t20 := Tryz.underlying20
  a20 := Tryz.isAgg20
  z20 := Tryz.sizeOf20
  v20 := Tryz.zeroValue20
  i20 := by kernel_rfl
  t26 := Tryz.underlying159
  a26 := Tryz.isAgg159
  z26 := Tryz.sizeOf159
  v26 := Tryz.zeroValue159
  i26 := by kernel_rfl
  t32 := Tryz.underlying262
  a32 := Tryz.isAgg262
  z32 := Tryz.sizeOf262
  v32 := Tryz.zeroValue262
  i32 := by kernel_rfl
  t33 := Tryz.underlying263
  a33 := Tryz.isAgg263
  z33 := Tryz.sizeOf263
  v33 := Tryz.zeroValue263
  i33 := by kernel_rfl
  t35 := Tryz.underlying265
  a35 := Tryz.isAgg265
  z35 := Tryz.sizeOf265
  v35 := Tryz.zeroValue265
  i35 := by kernel_rfl
  t37 := Tryz.underlying267
  a37 := Tryz.isAgg267
  z37 := Tryz.sizeOf267
  v37 := Tryz.zeroValue267
  i37 := by kernel_rfl
  t41 := Tryz.underlying191
  a41 := Tryz.isAgg191
  z41 := Tryz.sizeOf191
  v41 := Tryz.zeroValue191
  i41 := by kernel_rfl
  t44 := Tryz.underlying272
  a44 := Tryz.isAgg272
  z44 := Tryz.sizeOf272
  v44 := Tryz.zeroValue272
  i44 := by kernel_rfl
  t49 := Tryz.underlying107
  a49 := Tryz.isAgg107
  z49 := Tryz.sizeOf107
  v49 := Tryz.zeroValue107
  i49 := by kernel_rfl
  t51 := Tryz.underlying144
  a51 := Tryz.isAgg144
  z51 := Tryz.sizeOf144
  v51 := Tryz.zeroValue144
  i51 := by kernel_rfl
  t53 := Tryz.underlying314
  a53 := Tryz.isAgg314
  z53 := Tryz.sizeOf314
  v53 := Tryz.zeroValue314
  i53 := by kernel_rfl
  t54 := Tryz.underlying315
  a54 := Tryz.isAgg315
  z54 := Tryz.sizeOf315
  v54 := Tryz.zeroValue315
  i54 := by kernel_rfl
  t58 := Tryz.underlying181
  a58 := Tryz.isAgg181
  z58 := Tryz.sizeOf181
  v58 := Tryz.zeroValue181
  i58 := by kernel_rfl
  t60 := Tryz.underlying342
  a60 := Tryz.isAgg342
  z60 := Tryz.sizeOf342
  v60 := Tryz.zeroValue342
  i60 := by kernel_rfl
  t64 := Tryz.underlying346
  a64 := Tryz.isAgg346
  z64 := Tryz.sizeOf346
  v64 := Tryz.zeroValue346
  i64 := by kernel_rfl
  t66 := Tryz.underlying358
  a66 := Tryz.isAgg358
  z66 := Tryz.sizeOf358
  v66 := Tryz.zeroValue358
  i66 := by kernel_rfl
  t67 := Tryz.underlying130
  a67 := Tryz.isAgg130
  z67 := Tryz.sizeOf130
  v67 := Tryz.zeroValue130
  i67 := by kernel_rfl
  t75 := Tryz.underlying374
  a75 := Tryz.isAgg374
  z75 := Tryz.sizeOf374
  v75 := Tryz.zeroValue374
  i75 := by kernel_rfl
  t76 := Tryz.underlying285
  a76 := Tryz.isAgg285
  z76 := Tryz.sizeOf285
  v76 := Tryz.zeroValue285
  i76 := by kernel_rfl
  t77 := Tryz.underlying375
  a77 := Tryz.isAgg375
  z77 := Tryz.sizeOf375
  v77 := Tryz.zeroValue375
  i77 := by kernel_rfl
  t78 := Tryz.underlying376
  a78 := Tryz.isAgg376
  z78 := Tryz.sizeOf376
  v78 := Tryz.zeroValue376
  i78 := by kernel_rfl
  t79 := Tryz.underlying377
  a79 := Tryz.isAgg377
  z79 := Tryz.sizeOf377
  v79 := Tryz.zeroValue377
  i79 := by kernel_rfl
  t80 := Tryz.underlying378
  a80 := Tryz.isAgg378
  z80 := Tryz.sizeOf378
  v80 := Tryz.zeroValue378
  i80 := by kernel_rfl
  t82 := Tryz.underlying380
  a82 := Tryz.isAgg380
  z82 := Tryz.sizeOf380
  v82 := Tryz.zeroValue380
  i82 := by kernel_rfl }
end Go.Proofs
namespace Go.Proofs.YtajmcplanlibnaaGreatDoor
open Go.RowKit Go.Maps
def encC (x : Nat × List Int) : List Value := .int .i64 (x.1 : Int) :: v8 ((x.2 ++ zer 64).take 64)
theorem Kzc (x : Nat × List Int) : (encC x).length = 65 := by
  unfold encC
  rw [List.length_cons, Wz0, List.length_take, List.length_append]
  have : (zer 64).length = 64 := rfl
  omega
theorem encC_page {x : Nat × List Int} (h : x.2.length = 64) : encC x = .int .i64 (x.1 : Int) :: v8 x.2 := by
  unfold encC
  rw [List.take_left' h]
theorem encC_one (x : Nat × List Int) : ∀ v ∈ encC x, v.oneCell' = true := fun v hv => by
  rcases List.mem_cons.1 hv with rfl | hv
  · rfl
  · exact Kz7 _ v hv
def ltC (x y : Nat × List Int) : Bool := decide ((x.1 : Int) < (y.1 : Int))
theorem swo_ltC : Go.Sort.SWO ltC where
  irrefl := fun x => by simp [ltC]
  trans := fun x y z h1 h2 => by simp [ltC] at *; omega
  ntrans := fun x y z h1 h2 => by simp [ltC] at *; omega
noncomputable def svT : TypeInfo := (Tryz.prog.info? 154).get (by kernel_rfl)
noncomputable def svE : TypeInfo := (Tryz.prog.info? 156).get (by kernel_rfl)
theorem svK (n : Nat) (h2 : 2 ≤ n) (ke : Nat) (hk : ke = 25) : Go.Lib.swapperK n svE ke = 9 := by
  have a : svE.hasPointers = false := by kernel_rfl
  have b : svE.bytes = 72 := by kernel_rfl
  have c : (n == 0) = false := by simp; omega
  have d : (n == 1) = false := by simp; omega
  subst hk
  simp [Go.Lib.swapperK, a, b, c, d]
theorem keeps_put (w : World) (n blk off : Nat) (d : Array (Nat × List Int)) (os : Array Obj) : Keeps (fun k => k ≠ blk) w (Go.Sort.grow (Go.Sort.putRowK encC 65 (Go.Sort.ahead w n) blk off d) os) := by
  refine ⟨rfl, rfl, rfl, ?_, fun i hi hne => ?_⟩
  · simp [Go.Sort.grow, Go.Sort.putRowK, Go.Sort.ahead]
  · have h1 := Go.Sort.heap_grow_old (Go.Sort.putRowK encC 65 (Go.Sort.ahead w n) blk off d) os (k := i) (by simpa [Go.Sort.putRowK, Go.Sort.ahead] using hi)
    rw [h1]
    show (w.heap.modify blk _)[i]? = _
    rw [Array.getElem?_modify, if_neg (fun e => hne e.symm)]
theorem keeps_grow (N : Nat → Prop) (w : World) (os : Array Obj) : Keeps N w (Go.Sort.grow w os) := by
  refine ⟨rfl, rfl, rfl, by simp [Go.Sort.grow], fun i hi _ => Go.Sort.heap_grow_old w os hi⟩
theorem flatC_at : ∀ (L : List (Nat × List Int)) (t c : Nat), (∀ x ∈ L, x.2.length = 64) → c < 65 → (ht : t < L.length) → (flatC L)[t * 65 + c]? = (encC L[t])[c]?
  | [], t, c, _, _, ht => by simp at ht
  | x :: L, 0, c, h, hc, ht => by
    have hx := h x (by simp)
    have e : flatC (x :: L) = encC x ++ flatC L := by rw [encC_page hx]; rfl
    rw [e, show 0 * 65 + c = c by omega, List.getElem?_append_left (by rw [Kzc]; exact hc)]
    rfl
  | x :: L, t + 1, c, h, hc, ht => by
    have hx := h x (by simp)
    have e : flatC (x :: L) = encC x ++ flatC L := by rw [encC_page hx]; rfl
    rw [e, show (t + 1) * 65 + c = t * 65 + c + 65 by omega, List.getElem?_append_right (by rw [Kzc]; omega), Kzc, show t * 65 + c + 65 - 65 = t * 65 + c by omega]
    exact flatC_at L t c (fun y hy => h y (by simp [hy])) hc (by simpa using ht)
def ChOwn (w : World) (base : Nat) (v : Value) (L : List (Nat × List Int)) : Prop := w.ownsRow base 156 65 v L.length (flatC L)
theorem ChOwn.cell {w : World} {g c base : Nat} {L : List (Nat × List Int)} (h : ChOwn w base (.slice (some ⟨g, 0, none⟩) L.length c) L) (hL : ∀ x ∈ L, x.2.length = 64) (t k : Nat) (ht : t < L.length) (hk : k < 65) :
    w.cell? ⟨g, t * 65 + k, none⟩ = (encC L[t])[k]? ∧ w.frozen? ⟨g, t * 65 + k, none⟩ = false := by
  have he : k < (encC L[t]).length := by rw [Kzc]; exact hk
  have hf := flatC_at L t k hL hk ht
  have hc := World.ownsRow.cells h (g := g) rfl (t * 65 + k) (encC L[t])[k] (by rw [hf, List.getElem?_eq_getElem he])
  have ea : (⟨g, 0, none⟩ : Addr).add (t * 65 + k) = ⟨g, t * 65 + k, none⟩ := by unfold Addr.add; split <;> simp_all
  rw [ea] at hc
  refine ⟨by rw [hc, List.getElem?_eq_getElem he], ?_⟩
  rcases h.2 with ⟨hv, _⟩ | ⟨g', c', cur, hv, _, hg, _⟩
  · cases hv
  · simp only [Value.slice.injEq, Option.some.injEq, Addr.mk.injEq] at hv
    rw [hv.1.1]
    simp [World.frozen?, hg]
theorem ChOwn.row {w : World} {g c base : Nat} {L : List (Nat × List Int)} (h : ChOwn w base (.slice (some ⟨g, 0, none⟩) L.length c) L) (hL : ∀ x ∈ L, x.2.length = 64) : ChRow w g L := fun t ht j v hv => by
  have hj : j < 65 := by
    have := (List.getElem?_eq_some_iff.1 hv).1
    rw [List.length_cons, Wz0, hL _ (List.getElem_mem ht)] at this
    exact this
  rw [(h.cell hL t j ht hj).1, encC_page (hL _ (List.getElem_mem ht))]
  exact hv
theorem ChOwn.holds {w : World} {g c base : Nat} {L : List (Nat × List Int)} (h : ChOwn w base (.slice (some ⟨g, 0, none⟩) L.length c) L) (hL : ∀ x ∈ L, x.2.length = 64) : Go.Sort.HoldsK encC 65 w g 0 L.toArray := fun j hj => by
  rw [Go.Sort.size_flatK] at hj
  rw [Go.Sort.get_flatK _ _ _ _ hj]
  have hs : L.toArray.size = L.length := List.size_toArray
  rw [hs] at hj
  have ht : j / 65 < L.length := by omega
  have hk : j % 65 < 65 := Nat.mod_lt _ (by decide)
  have hc := h.cell hL (j / 65) (j % 65) ht hk
  have e : 0 + j = j / 65 * 65 + j % 65 := by omega
  have e1 : L.toArray[j / 65]! = L[j / 65] := by
    rw [getElem!_pos _ _ (by rw [hs]; exact ht)]; rfl
  have he : j % 65 < (encC L[j / 65]).length := by rw [Kzc]; exact hk
  rw [e, e1, hc.1, List.getElem?_eq_getElem he]
  refine ⟨?_, hc.2⟩
  rw [getElem!_pos (encC L[j / 65]) (j % 65) he]; rfl
theorem holds_row {w : World} {g : Nat} {d : Array (Nat × List Int)} (h : Go.Sort.HoldsK encC 65 w g 0 d) (hL : ∀ x ∈ d.toList, x.2.length = 64) : ChRow w g d.toList := fun t ht j v hv => by
  have hts : t < d.size := by simpa using ht
  have hx := hL _ (List.getElem_mem ht)
  have hj : j < 65 := by
    have := (List.getElem?_eq_some_iff.1 hv).1
    rw [List.length_cons, Wz0, hx] at this
    exact this
  have hc := (Go.Sort.HoldsK.cell h hts hj).1
  rw [show 0 + t * 65 + j = t * 65 + j by omega, getElem!_pos d t hts] at hc
  rw [hc]
  have e : d[t] = d.toList[t] := rfl
  rw [e, encC_page hx]
  have hl : j < (Value.int .i64 ((d.toList[t].1 : Nat) : Int) :: v8 d.toList[t].2).length := (List.getElem?_eq_some_iff.1 hv).1
  rw [getElem!_pos (Value.int .i64 ((d.toList[t].1 : Nat) : Int) :: v8 d.toList[t].2) j hl]
  exact congrArg some (List.getElem?_eq_some_iff.1 hv).2
theorem sorted_open {L L' : List (Nat × List Int)} (hp : L'.Perm L) (hs : L'.Pairwise fun x y => x.1 ≤ y.1) (hL : L.Pairwise fun x y => x.1 < y.1) : L' = L := by
  refine List.Perm.eq_of_pairwise (le := fun x y : Nat × List Int => x.1 ≤ y.1) (fun a b ha hb h1 h2 => ?_) hs (hL.imp (fun h => Nat.le_of_lt h)) hp
  have ha' := hp.mem_iff.1 ha
  obtain ⟨i, hi, rfl⟩ := List.mem_iff_getElem.1 ha'
  obtain ⟨j, hj, rfl⟩ := List.mem_iff_getElem.1 hb
  rw [List.pairwise_iff_getElem] at hL
  rcases Nat.lt_trichotomy i j with h | h | h
  · have := hL i j hi hj h; omega
  · subst h; rfl
  · have := hL j i hj hi h; omega
theorem keysF_sorted (f : PgF) (n : Nat) : (keysF f n).Pairwise (· < ·) := (List.pairwise_lt_range (n := n)).filter _
theorem openL_sorted (f : PgF) (n : Nat) : (openL f n).Pairwise fun x y => x.1 < y.1 := by
  unfold openL
  rw [List.pairwise_map]
  exact keysF_sorted f n
theorem kind_ch (w : World) : (Extern.Rtype.kind 156).run Tryz.prog w = .ok 25 w := by kernel_rfl
open Go.Shelf Go.Lib Go.Sort in
theorem sort_few (g c Bs : Nat) (p : Option Addr) (n : Nat) (h1 : n ≤ 1) (w : World) (la : Array Value) :
    Calls Tryz.prog 68 #[.iface 154 (.slice p n c), .func (.func 69) #[] la] w fun e w' => e = .returned (.tuple #[]) ∧ ∃ os, w' = Go.Sort.grow w os := by
  rcases (show n = 0 ∨ n = 1 by omega) with rfl | rfl
  · exact Any.sort_Slice_tiny Tryz.laysGg6 154 156 svT svE (by kernel_rfl) (by kernel_rfl) (by kernel_rfl) (by kernel_rfl) 25 kind_ch p 0 c (by decide) 193 (by kernel_rfl) (.func 69) #[] la w
  · exact Any.sort_Slice_tiny Tryz.laysGg6 154 156 svT svE (by kernel_rfl) (by kernel_rfl) (by kernel_rfl) (by kernel_rfl) 25 kind_ch p 1 c (by decide) 194 (by kernel_rfl) (.func 69) #[] la w
open Go.Shelf Go.Lib Go.Sort in
theorem sort_many (blk c Bs : Nat) (d : Array (Nat × List Int)) (h2 : 2 ≤ d.size) (hsz : d.size < 4611686018427387904) (w : World) (hH : HoldsK encC 65 w blk 0 d) (hblk : blk < w.heap.size)
    (hBs : w.cell? ⟨Bs, 0, none⟩ = some (.slice (some ⟨blk, 0, none⟩) d.size c)) (hB1 : Bs < w.heap.size) (hB2 : Bs ≠ blk) :
    Calls Tryz.prog 68 #[.iface 154 (.slice (some ⟨blk, 0, none⟩) d.size c), .func (.func 69) #[] #[.pointer (some ⟨Bs, 0, none⟩)]] w fun e w' =>
      e = .returned (.tuple #[]) ∧ ∃ d' n os, PermIn 0 d.size d d' ∧ SortedIn ltC 0 d.size d' ∧ w' = grow (putRowK encC 65 (Sort.ahead w n) blk 0 d') os := by
  have hless : LessReadsK Tryz.prog 69 #[.pointer (some ⟨Bs, 0, none⟩)] encC 65 ltC blk 0 d.size w := by
    intro m os dk hs i j hi hj
    have e : sortWorldK encC 65 w blk 0 m dk os = putRowK encC 65 (grow (Sort.ahead w m) os) blk 0 dk := by
      unfold sortWorldK; rw [putRowK_grow _ _ (Sort.ahead w m) _ blk 0 _ hblk]
    have hHg : HoldsK encC 65 (grow (Sort.ahead w m) os) blk 0 d := holdsK_grow _ _ _ _ blk 0 d hblk (holdsK_ahead _ _ _ _ _ _ _ hH)
    refine less_any blk 0 c Bs d.size _ (fun t => ((dk[t]!.1 : Nat) : Int)) ?_ (fun t ht => ?_) i j hi hj (by omega)
    · rw [e, cell?_putRowK_other _ _ _ blk 0 dk _ (by exact hB2), cell?_grow _ _ _ (by exact hB1)]; exact hBs
    · rw [e]
      exact ((holdsK_putRowK _ _ _ blk 0 d dk hHg hs).cell (i := t) (c := 0) (by omega) (by omega)).1
  exact Any.sort_Slice_cells_sorted Tryz.laysGg6 154 156 svT svE (by kernel_rfl) (by kernel_rfl) (by kernel_rfl) (by kernel_rfl) 25 kind_ch encC 65 Kzc (by kernel_rfl) (fun _ => by kernel_rfl)
    encC_one ltC swo_ltC 69 _
    (enters_of Tryz.func69 (by kernel_rfl) rfl) blk 0 c d h2 hsz 201 (by rw [svK _ h2 25 rfl]; kernel_rfl) false
    (fun args W => run_callFunc_extern Tryz.func201 (by kernel_rfl) (by kernel_rfl) (by kernel_rfl) (e := Extern.ReflectliteSwapper.swap false) (by kernel_rfl) args W) w hless hH hblk
theorem sort_open (base g c Bs : Nat) (L S : List (Nat × List Int)) (hp : S.Perm L) (hS : S.Pairwise fun x y => x.1 < y.1) (hL : ∀ x ∈ L, x.2.length = 64) (hlen : 2 ≤ L.length ∧ L.length ≤ 1000) (w : World)
    (ho : ChOwn w base (.slice (some ⟨g, 0, none⟩) L.length c) L) (hBs : w.cell? ⟨Bs, 0, none⟩ = some (.slice (some ⟨g, 0, none⟩) L.length c)) (hB1 : Bs < w.heap.size) (hB2 : Bs ≠ g) :
    Calls Tryz.prog 68 #[.iface 154 (.slice (some ⟨g, 0, none⟩) L.length c), .func (.func 69) #[] #[.pointer (some ⟨Bs, 0, none⟩)]] w fun e w' =>
      e = .returned (.tuple #[]) ∧ ChRow w' g S ∧ Keeps (fun k => k ≠ g) w w' := by
  have hg : g < w.heap.size := (World.ownsRow.lt ho g rfl).2
  have hH := ho.holds hL
  have hs : L.toArray.size = L.length := List.size_toArray
  have hc := sort_many g c Bs L.toArray (by omega) (by omega) w hH hg (by rw [hs]; exact hBs) hB1 hB2
  rw [hs] at hc
  refine hc.mono ?_
  rintro e w' ⟨rfl, d', n, os, ⟨p1, p2, p3⟩, hso, rfl⟩
  have ex : ∀ d : Array (Nat × List Int), d.size = L.length → (d.extract 0 L.length).toList = d.toList := fun d hd => by
    rw [← hd]; simp
  have hs' : d'.size = L.length := by rw [p1, hs]
  rw [ex d' hs', ex L.toArray hs] at p3
  have hperm : d'.toList.Perm S := p3.trans hp.symm
  have hsorted : d'.toList.Pairwise fun x y => x.1 ≤ y.1 := by
    rw [List.pairwise_iff_getElem]
    intro i j hi hj hij
    have hi' : i < d'.size := by simpa using hi
    have hj' : j < d'.size := by simpa using hj
    have := hso i j (Nat.zero_le _) hij (by omega)
    rw [getElem!_pos d' i hi', getElem!_pos d' j hj'] at this
    unfold ltC at this
    rw [decide_eq_false_iff_not] at this
    have e1 : d'[i] = d'.toList[i] := rfl
    have e2 : d'[j] = d'.toList[j] := rfl
    rw [e1, e2] at this
    omega
  have hd := sorted_open hperm hsorted hS
  refine ⟨rfl, ?_, keeps_put w n g 0 d' os⟩
  rw [← hd]
  refine holds_row ?_ (fun x hx => hL x (hp.mem_iff.1 (hperm.mem_iff.1 hx)))
  exact Go.Sort.holdsK_grow _ _ _ _ g 0 d' (by simpa [Go.Sort.putRowK, Go.Sort.ahead] using hg) (Go.Sort.holdsK_putRowK _ _ _ g 0 L.toArray d' (Go.Sort.holdsK_ahead _ _ _ _ _ _ _ hH) (by rw [hs', hs]))
theorem wpList_range_nil {P : Program} (w : World) {ops : Array Oper} {rest : List Oper} {o : Oper} {a : Act} {Q : Exit → Act → World → Prop} (hg : o.guard = none) (m : Operand) (t : TypeId) (hop : o.op = Op.range t m) (k e : TypeId) (ht : P.underlying t = some (.map k e))
    (hm : a.eval m = .map none) (hK : wpList P ops Q rest (a.put o.dst (.pointer (some ⟨w.heap.size, 0, none⟩))) (w.alloc (.mapIter none 0 #[] 0))) : wpList P ops Q (o :: rest) a w := by
  refine wpList_plain hg fun K' hK' => ?_
  have hrun := run_range_nilMap (P := P) w t k e ht
  unfold Oper.wp
  simp [execOp, hop, hm, hrun, Result.andThen]
  exact hK' _ _ hK
theorem wpList_next_nil {P : Program} (w : World) {ops : Array Oper} {rest : List Oper} {o : Oper} {a : Act} {Q : Exit → Act → World → Prop} (hg : o.guard = none) (it : Operand) (hop : o.op = Op.next it false) (r : Nat) (hit : a.eval it = .pointer (some ⟨r, 0, none⟩))
    (hr : ∃ x s y, w.heap[r]? = some (.mapIter none x s y)) (hK : wpList P ops Q rest (a.put o.dst (.tuple #[.bool false])) w) : wpList P ops Q (o :: rest) a w := by
  obtain ⟨x, s, y, hr⟩ := hr
  refine wpList_plain hg fun K' hK' => ?_
  have hrun : (Instr.next (.pointer (some ⟨r, 0, none⟩)) false o.type).run P w = .ok (.tuple #[.bool false]) w := by
    simp only [Instr.next, getObj, Sem.run_bind, Sem.run, hr, Result.andThen]
    rfl
  unfold Oper.wp
  simp [execOp, hop, hit, hrun, Result.andThen]
  exact hK' _ _ hK
open Go.RowKit Go.Maps
theorem BookS.lastH_ok {B : BookS} (h : B.ok) : B.lastH.length = 32 ∧ U8s B.lastH := by
  refine ⟨Vz8 _, shaF_u8 _ (fun x hx => ?_)⟩
  rcases List.mem_append.1 hx with hx | hx
  · exact h.last.2 x hx
  · obtain ⟨j, _, rfl⟩ := List.mem_map.1 hx
    exact byteAt_u8 _ _
theorem newsC_ok {B : BookS} (h : B.ok) : ∀ x ∈ newsC B, PgOk x.2 := fun x hx => by
  unfold newsC at hx
  obtain ⟨i, hi, rfl⟩ := List.mem_map.1 hx
  have hi2 := (List.mem_filter.1 hi).2
  obtain ⟨p, hp⟩ := Option.isSome_iff_exists.1 hi2
  simp only [hp, pgD, Option.getD_some]
  exact (h.news i p hp).2
theorem BookS.home_key {B : BookS} (h : B.ok) (hg : B.gen < 4611686018427387903) (F : List (List Int)) (i : Nat) (p : List Int) (c : List Int) (hF : F.length = B.disk.firm.length) (hp : ∀ q ∈ F, PgOk q) (ht : PgOk p) (hl : c.length = 32 ∧ U8s c) :
    BookS.ok { B with gen := B.gen + 1, news := fun _ => none, disk := ⟨F.set i p, []⟩, last := c, used := 0 } := by
  obtain ⟨o1, o2, o3, o4, o5, o6, o7, o8, o9, o10, o11⟩ := h
  refine ⟨o1, o2, ?_, ⟨by show 0 ≤ B.gen + 1; omega, by show B.gen + 1 < _; omega⟩, PgMap.none _, o6, o7, o8, hl, Nat.zero_le _, ⟨?_, fun q hq => ?_, fun x hx => (by cases hx), Nat.zero_le _⟩⟩
  · show 2 + B.size + B.n ≤ (F.set i p).length
    rw [List.length_set, hF]; exact o3
  · show 1 ≤ (F.set i p).length ∧ (F.set i p).length ≤ 4096
    rw [List.length_set, hF]; exact o11.1
  · rcases List.mem_or_eq_of_mem_set hq with hq | rfl
    · exact hp q hq
    · exact ht
theorem BookS.homed_ok {B : BookS} (h : B.ok) (hg : B.gen < 4611686018427387903) : B.homed.ok := by
  have hl := BookS.lastH_ok h
  have hn := newsC_ok h
  have o := h
  exact BookS.home_key h hg (Qz3 (Qz3 B.disk.firm B.disk.cache) (newsC B)) ((B.gen + 1) % 2).toNat (Wz5 (B.gen + 1) B.num B.pl B.lastH) B.lastH (by rw [Kz2, Kz2])
    (flushF_ok _ _ (flushF_ok _ _ o.disk.2.1 (fun x hx => (o.disk.2.2.1 x hx).2)) hn) (titleF_ok _ _ _ _ (by have := o.pl; have := o.size; omega) hl.1 hl.2) hl
theorem BookX.ringed {w w' : World} {bb : Nat} {N : Nat → Prop} {B : BookS} {db rb nb : Nat} {ov : Value} (h : BookX w bb N B db rb nb ov) (pl used : Nat) (num : Int) (c : List Int) (d : DiskS) (hpl : pl < B.size) (hnum : 0 ≤ num ∧ num < 4611686018427387904) (hc : c.length = 32 ∧ U8s c) (hu : used ≤ B.size)
    (hl : d.firm.length = B.disk.firm.length) (hk : Keeps (fun k => (N k ∨ k = bb ∨ k = rb ∨ k = nb ∨ ovB ov k) ∧ k ≠ rb) w w') (hr : w'.heap[rb]? = some (.cells (ringC db 2 B.size pl num c used) 252)) (hd : DiskI w' db (fun k => N k ∨ k = bb ∨ k = rb ∨ k = nb ∨ ovB ov k) d) :
    BookX w' bb N { B with disk := d, pl := pl, num := num, last := c, used := used } db rb nb ov := by
  have hbr : bb ≠ rb := Zze h.cells h.ring (by decide)
  have hbn : nb ≠ rb := Xz4 h.ring h.news
  obtain ⟨o1, o2, o3, o4, o5, o6, o7, o8, o9, o10, o11⟩ := h.ok
  refine ⟨hk.blk ⟨.inr (.inl rfl), hbr⟩ h.cells, hr, hd, hk.map ⟨.inr (.inr (.inr (.inl rfl))), hbn⟩ h.news, ?_, h.ne, h.nots, ⟨o1, o2, by show _ ≤ d.firm.length; rw [hl]; exact o3, o4, o5, o6, hpl, hnum, hc, hu, hd.isOk⟩, h.dbs⟩
  have ho := h.opn
  show OpenI _ ov B.n B.opn
  cases hB : B.opn with
  | none => rw [hB] at ho; exact ho
  | some f =>
    rw [hB] at ho
    obtain ⟨ob, h1, h2⟩ := ho
    exact ⟨ob, h1, hk.map ⟨.inr (.inr (.inr (.inr h1))), Xz4 h.ring h2⟩ h2⟩
theorem sort_some (base g c Bs : Nat) (L S : List (Nat × List Int)) (hp : S.Perm L) (hS : S.Pairwise fun x y => x.1 < y.1) (hL : ∀ x ∈ L, x.2.length = 64) (hlen : 1 ≤ L.length ∧ L.length ≤ 1000) (w : World)
    (ho : ChOwn w base (.slice (some ⟨g, 0, none⟩) L.length c) L) (hBs : w.cell? ⟨Bs, 0, none⟩ = some (.slice (some ⟨g, 0, none⟩) L.length c)) (hB1 : Bs < w.heap.size) (hB2 : Bs ≠ g) :
    Calls Tryz.prog 68 #[.iface 154 (.slice (some ⟨g, 0, none⟩) L.length c), .func (.func 69) #[] #[.pointer (some ⟨Bs, 0, none⟩)]] w fun e w' =>
      e = .returned (.tuple #[]) ∧ ChRow w' g S ∧ Keeps (fun k => k ≠ g) w w' := by
  by_cases h2 : 2 ≤ L.length
  · exact sort_open base g c Bs L S hp hS hL ⟨h2, hlen.2⟩ w ho hBs hB1 hB2
  · have h1 : L.length = 1 := by omega
    refine (sort_few g c Bs (some ⟨g, 0, none⟩) L.length (by omega) w _).mono ?_
    rintro e w' ⟨rfl, os, rfl⟩
    have hSL : S = L := by
      obtain ⟨x, rfl⟩ := List.length_eq_one_iff.1 h1
      exact List.perm_singleton.1 hp
    rw [hSL]
    refine ⟨rfl, fun t ht j v hv => ?_, keeps_grow _ _ _⟩
    rw [Go.Sort.cell?_grow _ _ _ (World.ownsRow.lt ho g rfl).2]
    exact ho.row hL t ht j v hv
theorem blk1 {w : World} {B : Nat} {c0 : Value} {T : Nat} (h : w.heap[B]? = some (.cells #[c0] T)) : w.cell? ⟨B, 0, none⟩ = some c0 ∧ w.frozen? ⟨B, 0, none⟩ = false := by
  constructor
  · rw [cell_of_row w B 0 _ T (0, 0) h]; rfl
  · simp [World.frozen?, h]
open Go.RowKit Go.Maps
def Tame (p : List Int) : Prop := p.getD 0 0 ≠ 84 ∨ p.getD 9 0 = 0
theorem Tame.stale {p : List Int} (h : Tame p) (num : Int) : Stale num p := h.elim .inl (fun h => .inr (.inl h))
def Jzg (LL : List (List (Nat × List Int))) : PgF := LL.foldl (fun f L => foldP L f) (fun _ => none)
def LogQ (gen : Int) (size n pl : Nat) (num : Int) (last : List Int) (used : Nat) (news : PgF) (d : DiskS) : Prop := ∃ (t : TitQ) (LL : List (List (Nat × List Int))), t.gen = gen ∧ Tits (d.view 0) (d.view 1) t ∧ t.pl < size ∧ TitB t.num t.last ∧
  Recs (fun s => d.view (2 + s)) size n ⟨t.pl, t.num, t.last, 0⟩ LL ⟨pl, num, last, used⟩ ∧ news = Jzg LL ∧ ∀ s, s < size → Stale num (d.view (2 + s))
def BookS.logged (B : BookS) : Prop := LogQ B.gen B.size B.n B.pl B.num B.last B.used B.news B.disk
theorem BookS.logged_of {B : BookS} {gen : Int} {size n pl : Nat} {num : Int} {last : List Int} {used : Nat} {news : PgF} {d : DiskS} (h : LogQ gen size n pl num last used news d)
    (h1 : B.gen = gen) (h2 : B.size = size) (h3 : B.n = n) (h4 : B.pl = pl) (h5 : B.num = num) (h6 : B.last = last) (h7 : B.used = used) (h8 : B.news = news) (h9 : B.disk = d) : B.logged := by
  subst h1 h2 h3 h4 h5 h6 h7 h8 h9; exact h
theorem BookS.logged_same {B C : BookS} (h : B.logged) (h1 : C.gen = B.gen) (h2 : C.size = B.size) (h3 : C.n = B.n) (h4 : C.pl = B.pl) (h5 : C.num = B.num) (h6 : C.last = B.last) (h7 : C.used = B.used) (h8 : C.news = B.news) (hs : 0 < B.size) (hv : ∀ i, i < 2 + B.size → C.disk.view i = B.disk.view i) : C.logged := by
  obtain ⟨t, LL, a1, a2, a3, a4, a5, a6, a7⟩ := h
  refine ⟨t, LL, by rw [h1]; exact a1, by rw [hv 0 (by omega), hv 1 (by omega)]; exact a2, by rw [h2]; exact a3, a4, ?_, by rw [h8]; exact a6, fun s hs => by rw [h2] at hs; rw [h5, hv _ (by omega)]; exact a7 s hs⟩
  rw [h2, h3, h4, h5, h6, h7]
  refine Recs.congr LL _ _ a5 (fun j hj => hv _ ?_)
  have := Nat.mod_lt (t.pl + j) hs
  show 2 + (t.pl + j) % B.size < _
  omega
theorem BookS.logged_shut {B : BookS} (h : B.logged) : B.shut.logged := h
theorem newB_logged (size n : Nat) (d : DiskS) (hs : 0 < size) (hz : ∀ i, i < 2 + size → d.view i = zer 64) : (newB size n d).logged :=
  ⟨tit0, [], rfl, .inl ⟨rfl, hz 0 (by omega), hz 1 (by omega)⟩, hs, ⟨by decide, rfl, zer_u8 32⟩, rfl, rfl, fun s hs => by
    have hs : s < size := hs
    show Stale 0 (d.view (2 + s))
    rw [hz _ (by omega)]; exact Stale.zero 0⟩
theorem BookS.homed_low {B : BookS} (h : B.ok) (i : Nat) (hi : i < 2 + B.size) : B.homed.disk.view i = if i = ((B.gen + 1) % 2).toNat then Wz5 (B.gen + 1) B.num B.pl B.lastH else B.disk.view i := by
  have hroom := h.room
  have hn := h.n
  have hfl : (Qz3 B.disk.firm B.disk.cache).length = B.disk.firm.length := by first | exact Kz2 _ _
  have hfl2 : (Qz3 (Qz3 B.disk.firm B.disk.cache) (newsC B)).length = B.disk.firm.length := by rw [← hfl]; first | exact Kz2 _ _
  show ((Qz3 (Qz3 B.disk.firm B.disk.cache) (newsC B)).set ((B.gen + 1) % 2).toNat (Wz5 (B.gen + 1) B.num B.pl B.lastH)).getD i [] = _
  by_cases e : i = ((B.gen + 1) % 2).toNat
  · rw [if_pos e, e]
    simp [List.getD, List.getElem?_set_self (show ((B.gen + 1) % 2).toNat < _ by rw [hfl2]; omega)]
  · rw [if_neg e]
    have e1 : ((Qz3 (Qz3 B.disk.firm B.disk.cache) (newsC B)).set ((B.gen + 1) % 2).toNat (Wz5 (B.gen + 1) B.num B.pl B.lastH)).getD i [] = (Qz3 (Qz3 B.disk.firm B.disk.cache) (newsC B)).getD i [] := by
      simp [List.getD, List.getElem?_set_ne (show ((B.gen + 1) % 2).toNat ≠ i by omega)]
    rw [e1, Vzc _ _ (by rw [hfl]; omega) _ _ rfl]
    have hno : ∀ x ∈ newsC B, x.1 ≠ i := fun x hx e => by
      unfold newsC at hx
      obtain ⟨j, hj, rfl⟩ := List.mem_map.1 hx
      simp only at e; omega
    have := DiskS.view_append (Qz3 B.disk.firm B.disk.cache) i (newsC B) [] hno
    rw [List.nil_append] at this
    rw [this]
    show (Qz3 B.disk.firm B.disk.cache).getD i [] = _
    rw [Vzc _ _ (by omega) _ _ rfl]
theorem BookS.logged_homed {B : BookS} (h : B.ok) (hg : B.gen < 4611686018427387903) (hl : B.logged) : B.homed.logged := by
  obtain ⟨t, LL, a1, a2, a3, a4, a5, a6, a7⟩ := hl
  have hs := h.size
  have hpl := h.pl
  have hnum := h.num
  have hlast := BookS.lastH_ok h
  have hB : TitB B.num B.lastH := ⟨⟨hnum.1, by omega⟩, hlast.1, hlast.2⟩
  obtain ⟨dd, hdd⟩ : ∃ dd, B.homed.disk = dd := ⟨_, rfl⟩
  have hv : ∀ i, i < 2 + B.size → dd.view i = if i = ((B.gen + 1) % 2).toNat then Wz5 (B.gen + 1) B.num B.pl B.lastH else B.disk.view i := fun i hi => by
    have h1 := BookS.homed_low h i hi
    rw [hdd] at h1
    exact h1
  have key : LogQ (B.gen + 1) B.size B.n B.pl B.num B.lastH 0 (fun _ => none) dd := by
    clear hdd
    generalize B.lastH = lh at hB hv ⊢
    show ∃ (t : TitQ) (LL : List (List (Nat × List Int))), t.gen = B.gen + 1 ∧ Tits (dd.view 0) (dd.view 1) t ∧ t.pl < B.size ∧ TitB t.num t.last ∧
    Recs (fun s => dd.view (2 + s)) B.size B.n ⟨t.pl, t.num, t.last, 0⟩ LL ⟨B.pl, B.num, lh, 0⟩ ∧ (fun _ => none) = Jzg LL ∧ ∀ s, s < B.size → Stale B.num (dd.view (2 + s))
    refine ⟨⟨B.gen + 1, B.pl, B.num, lh⟩, [], rfl, ?_, hpl, hB, Recs.nil _ _ rfl, rfl, fun s hs' => ?_⟩
    · refine Tits.next a2 (by rw [a1]; omega) (by show B.gen + 1 = t.gen + 1; rw [a1]) hB (by show B.pl ≤ _; omega) _ _ ?_ ?_
      · rw [hv 0 (by omega)]
        show _ = if (B.gen + 1) % 2 = 0 then _ else _
        by_cases e : (B.gen + 1) % 2 = 0
        · rw [if_pos e, if_pos (by rw [e]; rfl)]
        · rw [if_neg e, if_neg (by omega)]
      · rw [hv 1 (by omega)]
        show _ = if (B.gen + 1) % 2 = 0 then _ else _
        by_cases e : (B.gen + 1) % 2 = 0
        · rw [if_pos e, if_neg (by rw [e]; decide)]
        · rw [if_neg e, if_pos (by omega)]
    · rw [hv _ (by omega), if_neg (by omega)]
      exact a7 s hs'
  exact BookS.logged_of key rfl rfl rfl rfl rfl (by simp only [BookS.homed]) rfl rfl hdd
theorem BookS.logged_added {B : BookS} (h : B.ok) (hl : B.logged) (L : List (Nat × List Int)) (hL : ChsOk B.n L) (hu : B.used + recZ L.length ≤ B.size) (h256 : ∀ x ∈ L, x.1 < 256 ∧ Tame x.2) : (B.added L).logged := by
  obtain ⟨t, LL, a1, a2, a3, a4, a5, a6, a7⟩ := hl
  have hs := h.size
  have hnum := h.num
  have hrl := recZ_len B.num B.last L
  have hpl : B.pl = (t.pl + B.used) % B.size := Recs.place LL _ _ a3 a5
  have hin : ∀ i p, (recP B.num B.last L)[i]? = some p → (DiskS.mk B.disk.firm (B.disk.cache ++ recW 2 B.size B.pl (recP B.num B.last L))).view (2 + (B.pl + i) % B.size) = p := fun i p hi => recW_view _ _ _ _ _ (by omega) i p hi
  have hout : ∀ i, (∀ j, j < recZ L.length → i ≠ 2 + (B.pl + j) % B.size) → (DiskS.mk B.disk.firm (B.disk.cache ++ recW 2 B.size B.pl (recP B.num B.last L))).view i = B.disk.view i := fun i hi => recW_other _ _ _ _ _ i (fun j hj => hi j (by omega))
  have hpm : ∀ j, (B.pl + j) % B.size = (t.pl + (B.used + j)) % B.size := fun j => by rw [hpl, Nat.mod_add_mod, Nat.add_assoc]
  have key : LogQ B.gen B.size B.n ((B.pl + recZ L.length) % B.size) (B.num + 1) (recS B.num B.last L) (B.used + recZ L.length) (foldP L B.news) (DiskS.mk B.disk.firm (B.disk.cache ++ recW 2 B.size B.pl (recP B.num B.last L))) := by
    generalize (DiskS.mk B.disk.firm (B.disk.cache ++ recW 2 B.size B.pl (recP B.num B.last L))) = dd at hin hout ⊢
    show ∃ (t : TitQ) (LL : List (List (Nat × List Int))), t.gen = B.gen ∧ Tits (dd.view 0) (dd.view 1) t ∧ t.pl < B.size ∧ TitB t.num t.last ∧
      Recs (fun s => dd.view (2 + s)) B.size B.n ⟨t.pl, t.num, t.last, 0⟩ LL (RgT.next B.size ⟨B.pl, B.num, B.last, B.used⟩ L) ∧ foldP L B.news = Jzg LL ∧ ∀ s, s < B.size → Stale (B.num + 1) (dd.view (2 + s))
    refine ⟨t, LL ++ [L], a1, ?_, a3, a4, ?_, ?_, fun s hs' => ?_⟩
    · rw [hout 0 (fun j _ => by omega), hout 1 (fun j _ => by omega)]; exact a2
    · refine Recs.snoc L LL _ _ (Recs.congr LL _ _ a5 (fun j hj => hout _ (fun k hk => ?_))) hL hu hin
      have hj : j < B.used := by have : j < B.used - 0 := hj; omega
      rw [hpm]
      have := mod_ne (a := t.pl + j) (b := t.pl + (B.used + k)) (n := B.size) (by omega) (by omega)
      show 2 + (t.pl + j) % B.size ≠ _
      omega
    · unfold Jzg
      rw [List.foldl_append, a6]; rfl
    · by_cases hx : ∃ j, j < recZ L.length ∧ 2 + s = 2 + (B.pl + j) % B.size
      · obtain ⟨j, hj, hje⟩ := hx
        have hlt : j < (recP B.num B.last L).length := by omega
        rw [hje, hin j _ (List.getElem?_eq_getElem hlt)]
        have hmem := List.getElem_mem hlt
        have hmem : (recP B.num B.last L)[j] ∈ recH B.num B.last L :: recQ L := by rw [← recP_eq]; exact hmem
        rcases List.mem_cons.1 hmem with e | hq
        · rw [e]
          exact Stale.head _ _ ⟨hnum.1, by omega⟩
        · generalize (recP B.num B.last L)[j] = p at hq
          unfold recQ at hq
          rcases List.mem_append.1 hq with hq | hq
          · unfold idxPs at hq
            obtain ⟨k, _, rfl⟩ := List.mem_map.1 hq
            exact Stale.idx _ _ _ _ (by omega) (fun x hx => (h256 x hx).1)
          · obtain ⟨y, hy, rfl⟩ := List.mem_map.1 hq
            exact (h256 y hy).2.stale _
      · rw [hout _ (fun j hj e => hx ⟨j, hj, e⟩)]
        exact (a7 s hs').mono (by omega)
  exact BookS.logged_of key rfl rfl rfl rfl rfl (by simp only [BookS.added, BookS.ringed]) rfl rfl (by simp only [BookS.added, BookS.ringed])
def BookS.synced (B : BookS) : BookS := { B with disk := ⟨Qz3 B.disk.firm B.disk.cache, []⟩ }
theorem BookS.synced_view {B : BookS} (i : Nat) (hi : i < B.disk.firm.length) : B.synced.disk.view i = B.disk.view i := by
  show (Qz3 B.disk.firm B.disk.cache).getD i [] = _
  rw [Vzc _ _ hi _ _ rfl]
theorem BookS.logged_synced {B : BookS} (h : B.ok) (hl : B.logged) : B.synced.logged := by
  have := h.size; have := h.room; have := h.n
  exact BookS.logged_same hl rfl rfl rfl rfl rfl rfl rfl rfl (by omega) (fun i hi => BookS.synced_view i (by omega))
theorem BookS.synced_base {B : BookS} (h : B.ok) (i : Nat) (hi : i < B.n) : B.synced.base i = B.base i := by
  have := h.room
  unfold BookS.base
  show (match B.news i with
    | some p => p
    | none => B.synced.disk.view (2 + B.size + i)) = _
  rw [BookS.synced_view _ (by omega)]
  rfl
theorem openL_ok {f : PgF} {n : Nat} (hf : PgMap f n) (h1 : 1 ≤ (keysF f n).length) (h2 : (keysF f n).length ≤ 60) : ChsOk n (openL f n) :=
  ⟨by rw [Xzb]; exact ⟨h1, h2⟩, fun x hx => ⟨(Jzd hf hx).1, (Jzd hf hx).2.1⟩⟩
theorem BookS.logged_done {B : BookS} (h : B.ok) (hg : B.gen < 4611686018427387903) (hl : B.logged) (hc : B.cnt ≤ 60) (ht : ∀ i p, B.f i = some p → i < 256 ∧ Tame p) : B.done.logged := by
  have hso := BookS.shut_ok h
  have hsz := h.size
  unfold BookS.done
  have hL : B.cnt ≠ 0 → ChsOk B.n (openL B.f B.n) := fun hc0 => openL_ok (BookS.f_map h) (by unfold BookS.cnt at hc0; omega) (by unfold BookS.cnt at hc; exact hc)
  have h256 : ∀ x ∈ openL B.f B.n, x.1 < 256 ∧ Tame x.2 := fun x hx => by
    have := Jzd (BookS.f_map h) hx
    exact ht _ _ this.2.2
  have hz : recZ (openL B.f B.n).length = recZ B.cnt := by rw [Xzb]; rfl
  have hcz : recZ B.cnt ≤ 80 := by unfold recZ; omega
  split
  · exact BookS.logged_shut hl
  · rename_i hc0
    split
    · rename_i hf
      have hu := h.used
      exact BookS.logged_added hso (BookS.logged_shut hl) _ (hL hc0) (by rw [hz]; show B.used + _ ≤ B.size; omega) h256
    · exact BookS.logged_added (BookS.homed_ok hso hg) (BookS.logged_homed hso hg (BookS.logged_shut hl)) _ (hL hc0) (by rw [hz]; show 0 + _ ≤ B.size; omega) h256
open Go.RowKit Go.Maps
set_option maxRecDepth 100000 in
set_option maxHeartbeats 1000000 in
theorem commit_none (bb : Nat) (N : Nat → Prop) (B : BookS) (ho : B.opn = none) (w : World) (h : BookI w bb N B) :
    Calls Tryz.prog 17 #[.pointer (some ⟨bb, 0, none⟩)] w fun e w' => e = .returned .nilIface ∧ BookI w' bb N B.shut ∧ Keeps N w w' := by
  obtain ⟨db, rb, nb, ov, hX⟩ := h
  have hov : ov = .map none := by
    have := hX.opn
    rw [ho] at this
    exact this
  subst hov
  have HX := hZ hX
  have hbb := Zz0 hX.cells
  obtain ⟨z0, z1, z2, z3, z4, z5, z6, z7, f4, f6⟩ := Xz1 hX.cells
  clear hX ho
  go_enter Tryz.func17, Tryz.ntmps17
  go_wp2_with (at_range; refine wpList_range_nil _ rfl _ 142 rfl 3 37 Tryz.underlying142 rfl ?_; go_frame)
  generalize hrr : (w.alloc (.cells #[.slice none 0 0] 154)).heap.size = r
  have hr : w.heap.size < r := by rw [← hrr]; simp
  refine Kz0 (fun wx => Hid (wx.heap[w.heap.size]? = some (.cells #[.slice none 0 0] 154) ∧ (∃ x s y, wx.heap[r]? = some (.mapIter none x s y)) ∧ Below w.heap.size w wx)) (hZ ⟨(heap_alloc_old _ _ (by simp)).trans (heap_alloc_new w _), ⟨0, #[], 0, by rw [← hrr]; exact heap_alloc_new _ _⟩, (bZ).alloc (by simp) _⟩) ?_
  clear z0 z1 z2 z3 z4 z5 z6 z7 f4 f6 hrr
  generalize hbs : w.heap.size = Bs
  intro w1 H1
  go_loopw [] (fun wr => wr = w1) (fun _ => 0)
  case atStart => rfl
  case round =>
    obtain rfl := hrel
    obtain ⟨c0, g0⟩ := blk1 H1.out.1
    go_wp2_with (at_next; refine wpList_next_nil _ rfl _ rfl r rfl H1.out.2.1 ?_; go_frame)
    have hSO := sort_few 0 0 0 none 0 (by decide) wr #[.pointer (some ⟨Bs, 0, none⟩)]
    go_wp2_with fail
    refine hSO.mono ?_
    clear hSO
    rintro e w2 ⟨rfl, os, rfl⟩
    try dsimp only
    have hbg : Below wr.heap.size wr (Go.Sort.grow wr os) := (keeps_grow (fun _ => True) wr os).below (Nat.le_refl _) (fun _ _ => trivial)
    have hbw : Below w.heap.size w (Go.Sort.grow wr os) := by
      have h1 := H1.out.2.2
      rw [← hbs] at h1
      exact h1.trans (hbg.mono h1.size)
    have H2 : Hid (BookX (Go.Sort.grow wr os) bb N B db rb nb (.map none) ∧ (Go.Sort.grow wr os).heap[Bs]? = some (.cells #[.slice none 0 0] 154) ∧ Keeps N w (Go.Sort.grow wr os)) := hZ ⟨HX.out.keep hbw (fun i hi => ⟨Nat.lt_of_lt_of_le (HX.out.N_lt i hi) hbw.size, .inl hi⟩), (hbg.block _ (Zz0 H1.out.1)).trans H1.out.1, Keeps.of_below hbw⟩
    clear hbg hbw
    generalize Go.Sort.grow wr os = w2 at H2 ⊢
    clear H1 c0 g0
    obtain ⟨c0, g0⟩ := blk1 H2.out.2.1
    obtain ⟨z0, z1, z2, z3, z4, z5, z6, z7, f4, f6⟩ := Xz1 H2.out.1.cells
    have hne : bb ≠ Bs := by omega
    go_wp2_with fail
    go_ret
    exact ⟨rfl, ⟨db, rb, nb, _, H2.out.1.closed⟩, H2.out.2.2.trans (Keeps.set _ _ _ _ H2.out.1.nots.1)⟩
open Go.RowKit Go.Maps
theorem ch_places : ∃ (it : TypeInfo) (z : Value) (fields : Array Field), Tryz.prog.info? 156 = some it ∧ Tryz.prog.underlying 156 = some (.struct fields) ∧ it.zero = some z ∧ fields.toList.mapM (fun f => (Tryz.prog.info? f.type).map fun i => (f.offset, i.size)) = some [(0, 1), (1, 64)] ∧ z.cells.size = 65 := by
  obtain ⟨it, h1, h2, h3, h4⟩ := info_parts info_ch
  refine ⟨it, _, _, h1, Tryz.underlying156, h2, by kernel_rfl, by kernel_rfl⟩
theorem built_ch (i : Int) (p : List Int) (hp : p.length = 64) : Tryz.prog.built 156 [(0, .int .i64 i), (1, .agg (v8a p))] = some (.mk (.int .i64 i :: v8 p)) := by
  obtain ⟨it, z, fields, h1, h2, h3, h4, h5⟩ := ch_places
  rw [Jzb h1 h2 h3 h4]
  generalize z.cells = zc at h5 ⊢
  have e0 : (Value.int .i64 i).cells = #[.int .i64 i] := rfl
  have e1 : (Value.agg (v8a p)).cells = v8a p := rfl
  have e2 : (v8a p).size = 64 := by simp [v8a, v8, hp]
  rw [Qz7 (off := 0) (by rw [e0]; rfl) (by rw [e0, h5]; show 0 + 1 ≤ 65; decide), Qz7 (off := 1) (by rw [e1, e2]; rfl) (by rw [e0, e1, e2]; simp; omega)]
  rw [e0, e1, e2]
  simp only [Instr.fill, Option.some.injEq]
  apply Array.ext'
  have hz : zc.toList.length = 65 := by simpa using h5
  simp [v8a]
  omega
def metL (f : PgF) (ks : List Int) : List (Nat × List Int) := ks.map fun x => (x.toNat, pgD (f x.toNat))
theorem metL_snoc (f : PgF) (ks : List Int) (i : Nat) (p : List Int) (h : f i = some p) : metL f (ks ++ [(i : Int)]) = metL f ks ++ [(i, p)] := by
  unfold metL
  rw [List.map_append]
  simp [h, pgD]
theorem metL_perm {f : PgF} {n : Nat} {left : Lit → Bool} {ks : List Int} (hf : PgMap f n) (hm : Met .i64 (pgL f) left ks) (hl : ∀ kl, left kl = false) (hw : ∀ x ∈ ks, (Lit.int .i64 x).wf = true) (hn : n ≤ 2048) : (openL f n).Perm (metL f ks) := by
  have h := news_met hf hm hl hw hn
  have hp := List.mergeSort_perm ks (fun x y => decide (x ≤ y))
  rw [h] at hp
  have := hp.map (fun x : Int => (x.toNat, pgD (f x.toNat)))
  rw [List.map_map] at this
  exact this
theorem pgL_inv {f : PgF} {x : Int} {v : Value} (h : pgL f (.int .i64 x) = some v) : ∃ (i : Nat) (p : List Int), x = i ∧ f i = some p ∧ v = .agg (v8a p) := by
  unfold pgL at h
  dsimp only at h
  split at h
  · rename_i h0
    cases hq : f x.toNat with
    | none => rw [hq] at h; cases h
    | some p =>
      rw [hq] at h
      simp only [Option.map_some, Option.some.injEq] at h
      exact ⟨x.toNat, p, by omega, hq, h.symm⟩
  · cases h
theorem flatC_one (L : List (Nat × List Int)) (x : Nat × List Int) : flatC (L ++ [x]) = flatC L ++ (.int .i64 (x.1 : Int) :: v8 x.2) := flatC_snoc L x
def CmX (w : World) (ob r Bs C : Nat) (f : PgF) (left : Lit → Bool) (cnt : Nat) (lv : Value) (L : List (Nat × List Int)) (wx : World) : Prop :=
  MapR Tryz.prog 3 wx ob r C (pgL f) left cnt ∧ ChOwn wx r lv L ∧ wx.heap[Bs]? = some (.cells #[lv] 154) ∧ Below Bs w wx
theorem CmX.below {w wx wy : World} {ob r Bs C : Nat} {f : PgF} {left : Lit → Bool} {cnt : Nat} {lv : Value} {L : List (Nat × List Int)} (h : CmX w ob r Bs C f left cnt lv L wx) (hob : ob < Bs) (hb : Below wx.heap.size wx wy) : CmX w ob r Bs C f left cnt lv L wy := by
  have hbs := Zz0 h.2.2.1
  exact ⟨h.1.kept (hb.block _ (by omega)) (hb.block _ h.1.lt), Vz4 h.2.1 hb, (hb.block _ hbs).trans h.2.2.1, h.2.2.2.trans (hb.mono (Nat.le_of_lt hbs))⟩
theorem ChRow.same {w w' : World} {g : Nat} {L : List (Nat × List Int)} (h : ChRow w g L) (he : w'.heap[g]? = w.heap[g]?) : ChRow w' g L := fun t ht j v hv => by
  have := h t ht j v hv
  unfold World.cell? at this ⊢
  rw [he]; exact this
def CdX (w : World) (bb : Nat) (N : Nat → Prop) (B : BookS) (db rb nb g Bs cu : Nat) (S : List (Nat × List Int)) (wx : World) : Prop :=
  BookX wx bb (fun k => N k ∨ k = g ∨ k = Bs) B db rb nb (.map none) ∧ (ChRow wx g S ∧ g < wx.heap.size) ∧ wx.heap[Bs]? = some (.cells #[.slice (some ⟨g, 0, none⟩) S.length cu] 154) ∧ Keeps N w wx
theorem CdX.below {w wx wy : World} {bb : Nat} {N : Nat → Prop} {B : BookS} {db rb nb g Bs cu : Nat} {S : List (Nat × List Int)} (h : CdX w bb N B db rb nb g Bs cu S wx) (hb : Below wx.heap.size wx wy) : CdX w bb N B db rb nb g Bs cu S wy :=
  ⟨h.1.keep hb (fun k hk => ⟨Nat.lt_of_lt_of_le (h.1.N_lt k hk) hb.size, .inl hk⟩), ⟨h.2.1.1.same (hb.block _ h.2.1.2), Nat.lt_of_lt_of_le h.2.1.2 hb.size⟩, (hb.block _ (Zz0 h.2.2.1)).trans h.2.2.1, h.2.2.2.trans (Keeps.of_below hb)⟩
def BcS (bb Bs : Nat) (bc : Array Value) (sv : Value) (wx : World) : Prop := wx.heap[bb]? = some (.cells bc 146) ∧ wx.heap[Bs]? = some (.cells #[sv] 154)
set_option maxRecDepth 100000 in
set_option maxHeartbeats 4000000 in
theorem commit_some (bb : Nat) (N : Nat → Prop) (B : BookS) (f : PgF) (ho : B.opn = some f) (hc : (keysF f B.n).length ≤ 60) (hcl : B.disk.cache.length ≤ 1000000) (hg : B.gen < 4611686018427387903) (hnm : B.num < 4611686018427387903) (w : World) (h : BookI w bb N B) :
    Calls Tryz.prog 17 #[.pointer (some ⟨bb, 0, none⟩)] w fun e w' => e = .returned .nilIface ∧ BookI w' bb N B.done ∧ Keeps N w w' := by
  obtain ⟨db, rb, nb, ov, hX⟩ := h
  obtain ⟨ob, rfl, hm⟩ : ∃ ob, ov = .map (some ob) ∧ MapIs Tryz.prog 3 w ob (keysF f B.n).length (pgL f) := by
    have := hX.opn
    rw [ho] at this
    exact this
  obtain ⟨BD, hBD⟩ : ∃ BD, B.done = BD := ⟨_, rfl⟩
  rw [hBD]
  have HBD := hZ hBD
  have HX := hZ hX
  have HOP := hZ ho
  have HBF : Hid (B.f = f) := hZ (by unfold BookS.f; rw [ho]; rfl)
  have HFM : Hid (PgMap f B.n) := hZ (hX.ok.opn f ho)
  have HLIM := hZ (And.intro hcl (And.intro hg hnm))
  have hn2 := hX.ok.n.2
  have hbb := Zz0 hX.cells
  have hob := hm.lt
  have hm1 : ∀ o : Obj, MapIs Tryz.prog 3 (w.alloc o) ob (keysF f B.n).length (pgL f) := fun o => (Keeps.alloc (fun _ => True) w o).map trivial hm
  obtain ⟨z0, z1, z2, z3, z4, z5, z6, z7, f4, f6⟩ := Xz1 hX.cells
  clear hX ho hBD hcl hg hnm
  go_enter Tryz.func17, Tryz.ntmps17
  go_wp2_with (at_range; refine wpList_range_is _ rfl _ 142 rfl 3 37 (int_keyed Tryz.underlying3) Tryz.underlying142 ob _ (pgL f) rfl (hm1 _) ?_; intro w2 left0 hr0 hl0 hb2; go_frame)
  generalize hrr : (w.alloc (.cells #[.slice none 0 0] 154)).heap.size = r at hr0 hb2 ⊢
  have hr : w.heap.size < r := by rw [← hrr]; simp
  have HB2 : Hid (Below w.heap.size w w2 ∧ w2.heap[w.heap.size]? = some (.cells #[.slice none 0 0] 154)) := hZ (by
    rw [← hrr] at hb2
    exact ⟨(bZ).trans (hb2.mono (by simp)), (hb2.block _ (by simp)).trans (heap_alloc_new w _)⟩)
  have HR0 := hZ hr0
  have HL0 := hZ hl0
  clear hr0 hl0 hb2 hrr z0 z1 z2 z3 z4 z5 z6 z7 f4 f6 hm1 hm
  obtain ⟨ip, hip, hpz0, hpz1, hpz2⟩ := info_parts info_ch
  have HIP := hZ (And.intro hip (And.intro hpz0 (And.intro hpz1 hpz2)))
  clear hip hpz0 hpz1 hpz2
  generalize hbs : w.heap.size = Bs at hr HB2 hbb hob ⊢
  have HBS := hZ hbs
  clear hbs
  go_loopw [] (fun wr => ∃ (ks : List Int) (left : Lit → Bool) (cnt : Nat) (lv : Value), Hid (MapR Tryz.prog 3 wr ob r (keysF f B.n).length (pgL f) left cnt) ∧ Hid (Met .i64 (pgL f) left ks) ∧ Hid (∀ x ∈ ks, (Lit.int .i64 x).wf = true) ∧ Hid (ChOwn wr r lv (metL f ks)) ∧ Hid (wr.heap[Bs]? = some (.cells #[lv] 154)) ∧ ks.length + cnt ≤ 60 ∧ Hid (Below Bs w wr)) (fun wr => wr.rangeLeft ob r)
  case atStart => exact ⟨[], left0, _, _, HR0, hZ (Met.start HL0.out (fun x hx => trivial)), hZ (fun x hx => by cases hx), hZ (World.ownsRow_nil _ _ _ _), hZ HB2.out.2, by simpa using hc, hZ HB2.out.1⟩
  case round =>
    clear HB2 HR0 HL0
    obtain ⟨ks, left, cnt, lv, HR, HM, HW, HO, HBX, hkc, HB⟩ := hrel
    have hml : (metL f ks).length = ks.length := by simp [metL]
    obtain ⟨au, cu, rfl⟩ := Kz3 HO.out
    obtain ⟨mi, si, se, c0i, hit⟩ := HR.out.iter
    have hlr := HR.out.lt
    have hobk : ∀ k, (Value.slice au (metL f ks).length cu).ownBlock = some k → r < k := fun k hk => by
      have h1 := (World.ownsRow.lt HO.out k hk).1
      have h2 : k ≠ r := fun e => by
        subst e
        rcases HO.out.2 with ⟨hv, _⟩ | ⟨g, c', cur, hv, _, hg, _⟩
        · rw [hv] at hk; simp [Value.ownBlock] at hk
        · rw [hv] at hk; simp only [Value.ownBlock, Option.some.injEq] at hk; subst hk; rw [hit] at hg; cases hg
      omega
    have HOB := hZ hobk
    have HML := hZ hml
    clear hobk hit hml
    obtain ⟨c0, g0⟩ := blk1 HBX.out
    go_wp2_with (at_next; refine wpList_next_is _ rfl _ rfl 3 .i64 (int_keyed Tryz.underlying3) Tryz.underlying3 ob r _ (pgL f) left cnt rfl HR.out ?done ?more)
    case more =>
      clear c0 g0
      intro x v w3 cnt3 hkey hlx hfx hr3 hlt hg3 hs3 hen
      obtain ⟨i, p, rfl, hfi, rfl⟩ := pgL_inv hfx
      have hp64 : p.length = 64 := (HFM.out i p hfi).2.1
      have HR3 := hZ hr3
      have HG3 := hZ hg3
      have HS3 : Hid (w3.heap.size = wr.heap.size) := hZ hs3
      have HKX : Hid (keyOf Tryz.prog 3 (.int .i64 (i : Int)) = some (.int .i64 (i : Int)) ∧ left (.int .i64 (i : Int)) = true ∧ pgL f (.int .i64 (i : Int)) = some (.agg (v8a p))) := hZ ⟨hkey, hlx, hfx⟩
      have HSN : Hid (metL f (ks ++ [(i : Int)]) = metL f ks ++ [(i, p)]) := hZ (metL_snoc f ks i p hfi)
      clear hr3 hg3 hs3 hkey hlx hfx hfi
      repeat ((fail_if_success (with_reducible refine Kz1 30 rfl ?_)); (first | (refine Wz2 rfl (.tmp 5) (.tmp 29) rfl w3.heap.size p (zer 64) rfl rfl (heap_alloc_new w3 _) hp64 rfl ?_) | go_values | go_skip | go_guarded | go_step | go_upon))
      have hX3 : CmX w ob r Bs (keysF f B.n).length f (fun z => left z && !z.sameKey (.int .i64 (i : Int))) cnt3 (.slice au (metL f ks).length cu) (metL f ks) w3 := by
        have hbs := Zz0 HBX.out
        refine ⟨HR3.out, Xz5 HO.out (fun k hk => HG3.out.block k (World.ownsRow.lt HO.out k hk).2 (fun e => by have := HOB.out k hk; simp at e; omega)), (HG3.out.block Bs hbs (fun e => by simp at e; omega)).trans HBX.out, HB.out.grown HG3.out (Nat.le_of_lt hbs) (fun k hk => by simp at hk; omega)⟩
      have hal : ∀ o : Obj, Below w3.heap.size w3 ((w3.alloc o).setRow w3.heap.size (v8a p)) := fun o => below_setRow (bZ) (Nat.le_refl _) _
      refine Xz0 (fun wx => Hid (wx.heap[w3.heap.size]? = some (.cells (v8a p) 37) ∧ CmX w ob r Bs (keysF f B.n).length f (fun z => left z && !z.sameKey (.int .i64 (i : Int))) cnt3 (.slice au (metL f ks).length cu) (metL f ks) wx)) (hZ ⟨setRow_heap _ _ _ _ _ (0, 0) (heap_alloc_new w3 _), hX3.below hob (hal _)⟩) ?_
      clear hX3 hal hen
      generalize w3.heap.size = b5
      intro w5 H5
      obtain ⟨c0, g0⟩ := blk1 H5.out.2.2.2.1
      have hcl : (Value.int .i64 (i : Int) :: v8 p).length = 65 := by rw [List.length_cons, Wz0, hp64]
      have hco : ∀ u ∈ (Value.int .i64 (i : Int) :: v8 p), u.oneCell' = true := fun u hu => by
        rcases List.mem_cons.1 hu with rfl | hu
        · rfl
        · exact Kz7 p u hu
      have HCL := hZ (And.intro hcl hco)
      clear hcl hco
      repeat ((fail_if_success (with_reducible refine Kz1 32 rfl ?_)); (first | go_values | go_skip | go_guarded | go_step | go_upon))
      refine Wz3 rfl (.tmp 5) rfl b5 p rfl H5.out.1 hp64 ?_
      simp only [Act.put, qs0, qs1, qs2]
      refine Qz4 rfl 156 _ rfl (.mk (.int .i64 (i : Int) :: v8 p)) (by simp only [List.map_toArray, List.map_cons, List.map_nil]; exact built_ch _ p hp64) ?_
      simp only [Act.put, qs0, qs1, qs2]
      refine Kz5 rfl 154 156 (.tmp 33) rfl ip _ Tryz.underlying154 HIP.out.1 HIP.out.2.1 65 HIP.out.2.2.1 (by decide) (by decide) (.agg (.mk (.int .i64 (i : Int) :: v8 p))) rfl (.mk (.int .i64 (i : Int) :: v8 p)) rfl HCL.out.1 ?_
      simp only [Act.put, qs0, qs1, qs2]
      have hs5 : r ≤ w5.heap.size := Nat.le_of_lt H5.out.2.1.lt
      refine Jz2 rfl (.tmp 30) (.tmp 34) 154 rfl r 156 ip _ 65 72 Tryz.underlying154 HIP.out.1 HIP.out.2.1 HIP.out.2.2.1 HIP.out.2.2.2 rfl (by decide) (.slice au (metL f ks).length cu) (metL f ks).length (flatC (metL f ks)) rfl ?c0 (.slice (some ⟨w5.heap.size, 0, none⟩) 1 1) 1 (.int .i64 (i : Int) :: v8 p) rfl (Xz9 w5 (.int .i64 (i : Int) :: v8 p) 156 65 HCL.out.1 HCL.out.2) ?c1 ?c2 ?c3 ?_
      case c0 => exact Vz4 H5.out.2.2.1 (bZ)
      case c1 => rw [HML.out]; unfold maxLen; omega
      case c2 => rw [HML.out]; omega
      case c3 => simp; omega
      intro v4 w4 ho4 hg4
      have hbs5 := Zz0 H5.out.2.2.2.1
      have hal : ∀ o : Obj, Below w5.heap.size w5 (w5.alloc o) := fun o => bZ
      have hnn : ∀ k, k ≤ r → w4.heap[k]? = w5.heap[k]? := fun k hk => by
        have h1 : k < w5.heap.size := by have := H5.out.2.1.lt; omega
        rw [hg4.block k (by simp; omega) (fun e => by have := HOB.out k e.symm; omega)]
        exact heap_alloc_old _ _ h1
      have hX4 : MapR Tryz.prog 3 w4 ob r (keysF f B.n).length (pgL f) (fun z => left z && !z.sameKey (.int .i64 (i : Int))) cnt3 ∧ ChOwn w4 r v4 (metL f (ks ++ [(i : Int)])) ∧ w4.heap[Bs]? = some (.cells #[.slice au (metL f ks).length cu] 154) ∧ Below Bs w w4 := by
        refine ⟨H5.out.2.1.kept (hnn _ (by omega)) (hnn _ (Nat.le_refl _)), ?_, (hnn _ (by omega)).trans H5.out.2.2.2.1, ?_⟩
        · unfold ChOwn
          rw [HSN.out, flatC_one, List.length_append]
          exact ho4
        · refine H5.out.2.2.2.2.trans (Keeps.below (N := fun k => k < Bs) (a := w5) (b := w4) ?_ (Nat.le_of_lt hbs5) (fun i hi => hi))
          exact (Keeps.of_below (hal _)).trans (Keeps.of_grown hg4 (fun k hk => by have := HOB.out k hk; omega))
      have HX4 := hZ hX4
      clear hX4 hnn hal ho4 hg4 H5 c0 g0
      obtain ⟨c0, g0⟩ := blk1 HX4.out.2.2.1
      obtain ⟨a4, c4, rfl⟩ := Kz3 HX4.out.2.1
      go_wp2_with fail
      have hst : ∀ k, k ≠ Bs → (w4.setCell ⟨Bs, 0, none⟩ (.slice a4 (metL f (ks ++ [(i : Int)])).length c4)).heap[k]? = w4.heap[k]? := fun k hk => Zz1 (fun e => hk e.symm) rfl
      refine ⟨⟨ks ++ [(i : Int)], _, cnt3, _, hZ (HX4.out.1.kept (hst _ (by omega)) (hst _ (by omega))), hZ (HM.out.step (key_wf HKX.out.1) HKX.out.2.1 HKX.out.2.2 HW.out), hZ (fun y hy => ?_), hZ (Xz5 HX4.out.2.1 (fun k hk => hst k (by have := (World.ownsRow.lt HX4.out.2.1 k hk).1; omega))), hZ (Xz3 HX4.out.2.2.1 _), by simp; omega, hZ (HX4.out.2.2.2.setCell (Nat.le_refl _) _)⟩, ?_⟩
      · rcases List.mem_append.1 hy with hy | hy
        · exact HW.out y hy
        · rw [List.mem_singleton.1 hy]; exact key_wf HKX.out.1
      · rw [(HX4.out.1.kept (hst _ (by omega)) (hst _ (by omega))).left_eq, HR.out.left_eq]; exact hlt
    case done =>
      intro hld
      have HPM : Hid ((openL f B.n).Perm (metL f ks)) := hZ (metL_perm HFM.out HM.out hld HW.out hn2)
      have HLN : Hid ((metL f ks).length = (openL f B.n).length) := hZ HPM.out.length_eq.symm
      have hol : (openL f B.n).length ≤ 60 := by rw [Xzb]; exact hc
      have HML64 : Hid (∀ x ∈ metL f ks, x.2.length = 64) := hZ (fun x hx => (Jzd HFM.out (HPM.out.mem_iff.2 hx)).2.1.1)
      have hlen0 : (metL f ks).length ≤ 60 := by rw [HLN.out]; exact hol
      by_cases hz : (metL f ks).length = 0
      · have hSO := sort_few 0 cu 0 au (metL f ks).length (by omega) wr #[.pointer (some ⟨Bs, 0, none⟩)]
        have hkz : (keysF f B.n).length = 0 := by rw [← Xzb, ← HLN.out]; exact hz
        have HZ : Hid (BD = B.shut) := hZ (by rw [← HBD.out]; exact if_pos (by unfold BookS.cnt; rw [HBF.out]; exact hkz))
        rw [hz] at hSO HBX c0
        clear hkz hz hlen0 hol
        have HC := hZ hc
        clear hc
        go_wp2_with fail
        refine hSO.mono ?_
        clear hSO
        rintro e w2 ⟨rfl, os, rfl⟩
        try dsimp only
        have hbg : Below wr.heap.size wr (Go.Sort.grow wr os) := (keeps_grow (fun _ => True) wr os).below (Nat.le_refl _) (fun _ _ => trivial)
        have hbw : Below w.heap.size w (Go.Sort.grow wr os) := by
          have h1 := HB.out
          rw [← HBS.out] at h1
          exact h1.trans (hbg.mono h1.size)
        have H2 : Hid (BookX (Go.Sort.grow wr os) bb N B db rb nb (.map (some ob)) ∧ (Go.Sort.grow wr os).heap[Bs]? = some (.cells #[.slice au 0 cu] 154) ∧ Keeps N w (Go.Sort.grow wr os)) := hZ ⟨HX.out.keep hbw (fun i hi => ⟨Nat.lt_of_lt_of_le (HX.out.N_lt i hi) hbw.size, .inl hi⟩), (hbg.block _ (Zz0 HBX.out)).trans HBX.out, Keeps.of_below hbw⟩
        clear hbg hbw
        generalize Go.Sort.grow wr os = w2 at H2 ⊢
        clear c0 g0
        obtain ⟨c0, g0⟩ := blk1 H2.out.2.1
        obtain ⟨z0, z1, z2, z3, z4, z5, z6, z7, f4, f6⟩ := Xz1 H2.out.1.cells
        have hne : bb ≠ Bs := by omega
        go_wp2_with fail
        go_ret
        rw [HZ.out]
        exact ⟨rfl, ⟨db, rb, nb, _, H2.out.1.closed⟩, H2.out.2.2.trans (Keeps.set _ _ _ _ H2.out.1.nots.1)⟩
      · obtain ⟨g, rfl⟩ : ∃ g, au = some ⟨g, 0, none⟩ := by
          rcases HO.out.2 with ⟨hv, hn⟩ | ⟨g, c, cur, hv, _⟩
          · omega
          · simp only [Value.slice.injEq] at hv; exact ⟨g, hv.1⟩
        have hgr : r < g := HOB.out g rfl
        have hSO := sort_some r g cu Bs (metL f ks) (openL f B.n) HPM.out (openL_sorted f B.n) HML64.out ⟨by omega, by omega⟩ wr HO.out c0 (Zz0 HBX.out) (by omega)
        rw [HLN.out] at hSO hz HBX c0
        have HC := hZ hc
        have hl1 : (1 : Int) ≤ (openL f B.n).length := by omega
        have hl60 : ((openL f B.n).length : Int) ≤ 60 := by omega
        have HOL := hZ (And.intro (show 1 ≤ (openL f B.n).length by omega) hol)
        clear hc hz hlen0 hol
        generalize hS : openL f B.n = S at hSO HBX c0 hl1 hl60 HOL
        have HSE := hZ hS
        clear hS
        go_wp2_with fail
        refine hSO.mono ?_
        clear hSO
        rintro e w2 ⟨rfl, hrow, hk2⟩
        try dsimp only
        have hb2 : Below Bs wr w2 := hk2.below (by have := Zz0 HBX.out; omega) (fun i hi => by omega)
        have hbw : Below w.heap.size w w2 := by
          have h1 := HB.out.trans hb2
          rw [← HBS.out] at h1
          exact h1
        have hgl : g < w2.heap.size := Nat.lt_of_lt_of_le (World.ownsRow.lt HO.out g rfl).2 hk2.size
        have H2 : Hid (BookX w2 bb (fun k => N k ∨ k = g ∨ k = Bs) B db rb nb (.map (some ob)) ∧ ChRow w2 g S ∧ w2.heap[Bs]? = some (.cells #[.slice (some ⟨g, 0, none⟩) S.length cu] 154) ∧ Keeps N w w2 ∧ g < w2.heap.size) := hZ (by
          have hB := hk2.blk (show Bs ≠ g by omega) HBX.out
          refine ⟨HX.out.keep hbw (fun i hi => ?_), hrow, hB, Keeps.of_below hbw, hgl⟩
          rcases hi with hi | rfl | rfl
          · exact ⟨Nat.lt_of_lt_of_le (HX.out.N_lt i hi) hbw.size, .inl hi⟩
          · exact ⟨hgl, .inr (by have := HBS.out; omega)⟩
          · exact ⟨Zz0 hB, .inr (by have := HBS.out; omega)⟩)
        have HSO : Hid (∀ x ∈ S, x.1 ≤ 10000 ∧ PgOk x.2) := hZ (fun x hx => by
          rw [← HSE.out] at hx
          have := Jzd HFM.out hx
          exact ⟨by have h1 := this.1; omega, this.2.1⟩)
        have HSN : Hid (∀ x ∈ S, x.1 < B.n) := hZ (fun x hx => by
          rw [← HSE.out] at hx
          exact (Jzd HFM.out hx).1)
        have HCN : Hid (B.cnt = S.length) := hZ (by unfold BookS.cnt; rw [HBF.out, ← Xzb, HSE.out])
        clear hb2 hbw hgl hrow hk2 HB HO HBX HR HM HW HOB HML HPM HLN HML64 c0 g0 hlr hgr
        obtain ⟨c0, g0⟩ := blk1 H2.out.2.2.1
        obtain ⟨z0, z1, z2, z3, z4, z5, z6, z7, f4, f6⟩ := Xz1 H2.out.1.cells
        have hne : bb ≠ Bs := by omega
        have d0 : ((S.length : Int) == 0) = false := by rw [beq_eq_false_iff_ne]; omega
        go_wp2_with fail
        have hbg : bb ≠ g := fun e => H2.out.1.nots.1 (.inr (.inl e))
        refine Kz0 (fun wx => Hid (CdX w bb N B.shut db rb nb g Bs cu S wx)) (hZ ⟨H2.out.1.closed, ⟨H2.out.2.1.same (Zz1 hbg rfl), by simpa using H2.out.2.2.2.2⟩, Zz1 hne H2.out.2.2.1, H2.out.2.2.2.1.trans (Keeps.set _ _ _ _ (fun hn => H2.out.1.nots.1 (.inl hn)))⟩) ?_
        clear H2 c0 g0 z0 z1 z2 z3 z4 z5 z6 z7 f4 f6 hbg d0
        intro w3 H3
        try simp only [Act.put]
        have hok := H3.out.1.ok
        have HOK0 := hZ hok
        have HF := hZ (fun wx (hr : wx.heap[rb]? = some (.cells (ringC db 2 B.size B.pl B.num B.last B.used) 252)) => fits_any rb db 2 B.size B.pl B.used S.length B.num B.last wx HOK0.out.last.1 HOK0.out.used HOK0.out.size.2 HOL.out hr)
        clear hok
        obtain ⟨fb, hfb⟩ : ∃ fb, decide (1 + ((S.length : Int) + 15) / 16 + S.length ≤ (B.size : Int) - B.used) = fb := ⟨_, rfl⟩
        rw [hfb] at HF
        have HFB := hZ hfb
        clear hfb
        have r1 : ∀ q : SatW (BcS bb Bs (bookC db rb B.shut nb (.map none)) (.slice (some ⟨g, 0, none⟩) S.length cu)), q.w.cell? ⟨bb, 1, none⟩ = some (.pointer (some ⟨rb, 0, none⟩)) := fun q => (Xz1 q.h.1).2.1
        have rs : ∀ q : SatW (BcS bb Bs (bookC db rb B.shut nb (.map none)) (.slice (some ⟨g, 0, none⟩) S.length cu)), q.w.cell? ⟨Bs, 0, none⟩ = some (.slice (some ⟨g, 0, none⟩) S.length cu) := fun q => (blk1 q.h.2).1
        have hne : Nonempty (SatW (BcS bb Bs (bookC db rb B.shut nb (.map none)) (.slice (some ⟨g, 0, none⟩) S.length cu))) := ⟨⟨_, (show BcS bb Bs (bookC db rb B.shut nb (.map none)) (.slice (some ⟨g, 0, none⟩) S.length cu) w3.drew from ⟨H3.out.1.cells, H3.out.2.2.1⟩)⟩⟩
        refine Vz0 [(0, true), (1, true), (2, true), (3, true), (4, true), (5, true), (6, false), (7, true)] 7 (fun w' => ∃ p : SatW (BcS bb Bs (bookC db rb B.shut nb (.map none)) (.slice (some ⟨g, 0, none⟩) S.length cu)), w' = p.w) (by kernel_rfl) (by kernel_rfl) (fun _ _ d _ _ h => by cases d <;> exact h) (Jz3 (show BcS bb Bs (bookC db rb B.shut nb (.map none)) (.slice (some ⟨g, 0, none⟩) S.length cu) w3.drew from ⟨H3.out.1.cells, H3.out.2.2.1⟩)) ?_
        (repeat (with_reducible refine mix_q ?_; simp only [qd1, qd0, qt1, qt0]; go_big_quiet_step (fail); with_reducible refine wpQuiet_nil ?_))
        with_reducible refine mix_a ?_; simp only [qd1, qd0, qt1, qt0]
        have hF := HF.out w3.drew H3.out.1.ring
        go_wp2_with fail
        refine hF.mono ?_
        clear hF HF
        rintro e w4 ⟨rfl, hb4⟩
        have H4 := hZ (H3.out.below ((Below.refl _ _).drew.trans hb4))
        clear hb4 H3
        try dsimp only
        go_wp2_with fail
        try with_reducible refine wpList_nil ?_
        with_reducible refine Qz0 ?_
        refine ⟨fun _ => Jz3 (F := BcS bb Bs (bookC db rb B.shut nb (.map none)) (.slice (some ⟨g, 0, none⟩) S.length cu)) ⟨H4.out.1.cells, H4.out.2.2.1⟩, ?_⟩
        (repeat (with_reducible refine mix_q ?_; simp only [qd1, qd0, qt1, qt0]; go_big_quiet_step (fail); with_reducible refine wpQuiet_nil ?_))
        with_reducible refine Wz1 ?_
        clear r1 rs
        cases fb
        · try simp only [Bool.not_false]
          have hB4 : BookI w4 bb (fun k => N k ∨ k = g ∨ k = Bs) B.shut := ⟨db, rb, nb, _, H4.out.1⟩
          have hH := home_any bb (fun k => N k ∨ k = g ∨ k = Bs) B.shut HLIM.out.2.1 w4 hB4
          clear hB4
          go_wp2_with fail
          refine hH.mono ?_
          clear hH
          rintro e w5 ⟨rfl, ⟨db, rb, nb, ov', hX5⟩, hk5⟩
          have hov : ov' = .map none := hX5.opn
          subst hov
          have H5 : Hid (CdX w bb N B.shut.homed db rb nb g Bs cu S w5) := hZ ⟨hX5, ⟨H4.out.2.1.1.same (hk5.block g H4.out.2.1.2 (.inr (.inl rfl))), Nat.lt_of_lt_of_le H4.out.2.1.2 hk5.size⟩, hk5.blk (.inr (.inr rfl)) H4.out.2.2.1, H4.out.2.2.2.trans (hk5.mono (fun k _ hk => .inl hk))⟩
          clear hX5 hk5 H4
          try dsimp only
          have HFI : Hid (recZ S.length + B.shut.homed.used ≤ B.shut.homed.size) := hZ (by
            have h1 := HOL.out
            have h2 := HOK0.out.size
            show recZ S.length + 0 ≤ B.size
            have h3 : B.shut.size = B.size := rfl
            unfold recZ
            omega)
          have HLM : Hid (B.shut.homed.disk.cache.length ≤ 8000000 ∧ B.shut.homed.num < 4611686018427387903) := hZ ⟨by show ([] : List (Nat × List Int)).length ≤ _; simp, HLIM.out.2.2⟩
          have HDN : Hid (BD = B.shut.homed.added S) := hZ (by
            rw [← HBD.out]
            have h1 : ¬ B.cnt = 0 := by rw [HCN.out]; have := HOL.out; omega
            have h2 : ¬ recZ B.cnt ≤ B.size - B.used := by
              rw [HCN.out]
              have h3 := of_decide_eq_false HFB.out
              unfold recZ
              have h4 := HOK0.out.used
              omega
            unfold BookS.done
            rw [if_neg h1, if_neg h2, HBF.out, HSE.out])
          have HOK0' := HOK0
          clear HOK0 HFB
          go_wp2_with fail
          have HOK := hZ H5.out.1.ok
          have hsz1 := H5.out.1.ok.size
          have hlg := Zz0 H5.out.2.2.1
          have HADD := hZ (fun wx (hr : wx.heap[rb]? = some (.cells (ringC db 2 (B.shut.homed).size (B.shut.homed).pl (B.shut.homed).num (B.shut.homed).last (B.shut.homed).used) 252)) (hd : DiskI wx db (fun k => (N k ∨ k = g ∨ k = Bs) ∨ k = bb ∨ k = rb ∨ k = nb ∨ ovB (.map none) k) (B.shut.homed).disk) (hgl : g < wx.heap.size) (hrow : ChRow wx g S) =>
            add_any rb db 2 (B.shut.homed).size (B.shut.homed).pl (B.shut.homed).used (B.shut.homed).num (B.shut.homed).last (fun k => (N k ∨ k = g ∨ k = Bs) ∨ k = bb ∨ k = rb ∨ k = nb ∨ ovB (.map none) k) (B.shut.homed).disk g cu S wx HOK.out.last hr HOK.out.size (by decide) (by have := HOK.out.room; omega) HOK.out.pl HOK.out.num HOK.out.used HOL.out HSO.out (by have := HFI.out; unfold recZ at this; omega) hgl hrow HLM.out.1 hd (.inr (.inr (.inl rfl))))
          obtain ⟨ringed, hringed⟩ : ∃ x, BookS.ringed (B.shut.homed) S = x := ⟨_, rfl⟩
          have HRE := hZ hringed
          clear hringed hsz1
          have r1 : ∀ q : SatW (BcS bb Bs (bookC db rb (B.shut.homed) nb (.map none)) (.slice (some ⟨g, 0, none⟩) S.length cu)), q.w.cell? ⟨bb, 1, none⟩ = some (.pointer (some ⟨rb, 0, none⟩)) := fun q => (Xz1 q.h.1).2.1
          have rs : ∀ q : SatW (BcS bb Bs (bookC db rb (B.shut.homed) nb (.map none)) (.slice (some ⟨g, 0, none⟩) S.length cu)), q.w.cell? ⟨Bs, 0, none⟩ = some (.slice (some ⟨g, 0, none⟩) S.length cu) := fun q => (blk1 q.h.2).1
          have hne : Nonempty (SatW (BcS bb Bs (bookC db rb (B.shut.homed) nb (.map none)) (.slice (some ⟨g, 0, none⟩) S.length cu))) := ⟨⟨_, (show BcS bb Bs (bookC db rb (B.shut.homed) nb (.map none)) (.slice (some ⟨g, 0, none⟩) S.length cu) (w5).drew from ⟨H5.out.1.cells, H5.out.2.2.1⟩)⟩⟩
          refine Vz0 [(0, true), (1, true), (2, true), (3, true), (4, true), (5, false), (6, true)] 6 (fun w' => ∃ p : SatW (BcS bb Bs (bookC db rb (B.shut.homed) nb (.map none)) (.slice (some ⟨g, 0, none⟩) S.length cu)), w' = p.w) (by kernel_rfl) (by kernel_rfl) (fun _ _ d _ _ h => by cases d <;> exact h) (Jz3 (show BcS bb Bs (bookC db rb (B.shut.homed) nb (.map none)) (.slice (some ⟨g, 0, none⟩) S.length cu) (w5).drew from ⟨H5.out.1.cells, H5.out.2.2.1⟩)) ?_
          (repeat (with_reducible refine mix_q ?_; simp only [qd1, qd0, qt1, qt0]; go_big_quiet_step (fail); with_reducible refine wpQuiet_nil ?_))
          with_reducible refine mix_a ?_; simp only [qd1, qd0, qt1, qt0]
          have hA := HADD.out (w5).drew H5.out.1.ring (H5.out.1.disk.below (Below.refl _ _).drew) (H5.out.2.1.2) (H5.out.2.1.1.below H5.out.2.1.2 (Below.refl _ _).drew)
          go_wp2_with fail
          refine hA.mono ?_
          clear hA HADD
          rintro e w8 ⟨rfl, hrg, hdk, hkp⟩
          have H8 : Hid (CdX w bb N ringed db rb nb g Bs cu S w8) := hZ (by
            rw [← HRE.out]
            have hkp' : Keeps (fun k => ((N k ∨ k = g ∨ k = Bs) ∨ k = bb ∨ k = rb ∨ k = nb ∨ ovB (.map none) k) ∧ k ≠ rb) (w5) w8 := (Keeps.drew _ _).trans hkp
            have hgr : g ≠ rb := fun e => H5.out.1.nots.2.1 (.inr (.inl e.symm))
            have hbr : Bs ≠ rb := fun e => H5.out.1.nots.2.1 (.inr (.inr e.symm))
            have hNr : ∀ k, N k → k ≠ rb := fun k hk e => H5.out.1.nots.2.1 (.inl (e ▸ hk))
            have hLm := HLM.out
            have hfi := HFI.out
            have hsm := recS_ok (num := (B.shut.homed).num) HOK.out.last (fun x hx => (HSO.out x hx).2) HOL.out.2
            refine ⟨H5.out.1.ringed _ _ _ _ ⟨(B.shut.homed).disk.firm, (B.shut.homed).disk.cache ++ recW 2 (B.shut.homed).size (B.shut.homed).pl (recP (B.shut.homed).num (B.shut.homed).last S)⟩ (Nat.mod_lt _ (by have := HOK.out.size; omega)) ⟨by have := HOK.out.num; omega, by omega⟩ hsm (by omega) rfl hkp' hrg hdk, ⟨H5.out.2.1.1.same (hkp'.block g H5.out.2.1.2 ⟨.inl (.inr (.inl rfl)), hgr⟩), Nat.lt_of_lt_of_le H5.out.2.1.2 hkp'.size⟩, hkp'.blk ⟨.inl (.inr (.inr rfl)), hbr⟩ H5.out.2.2.1, H5.out.2.2.2.trans (hkp'.mono (fun k _ hk => ⟨.inl (.inl hk), hNr k hk⟩))⟩)
          clear hrg hdk hkp H5
          try dsimp only
          go_wp2_with fail
          try with_reducible refine wpList_nil ?_
          with_reducible refine Qz0 ?_
          have hcr : bookC db rb ringed nb (.map none) = bookC db rb (B.shut.homed) nb (.map none) := by rw [← HRE.out]; rfl
          refine ⟨fun _ => Jz3 (F := BcS bb Bs (bookC db rb (B.shut.homed) nb (.map none)) (.slice (some ⟨g, 0, none⟩) S.length cu)) ⟨by rw [← hcr]; exact H8.out.1.cells, H8.out.2.2.1⟩, ?_⟩
          (repeat (with_reducible refine mix_q ?_; simp only [qd1, qd0, qt1, qt0]; go_big_quiet_step (fail); with_reducible refine wpQuiet_nil ?_))
          with_reducible refine Wz1 ?_
          clear hcr r1 rs
          obtain ⟨c0, g0⟩ := blk1 H8.out.2.2.1
          go_wp2_with fail
          clear c0 g0
          have HNW : Hid (∀ g', ({ ringed with news := g' } : BookS) = { BookS.ringed (B.shut.homed) S with news := g' }) := hZ (fun g' => by rw [HRE.out])
          have HN2 : Hid (ringed.n = (B.shut.homed).n) := hZ (by rw [← HRE.out]; rfl)
          have HBN : Hid (BD = { ringed with news := foldP S ringed.news }) := hZ (by rw [HDN.out, ← HRE.out]; rfl)
          clear HOK HNW
          go_loopw [74] (fun jv wr => ∃ j : Nat, jv = .int .i64 (j : Int) ∧ j ≤ S.length ∧ Hid (CdX w bb N { ringed with news := foldP (S.take j) ringed.news } db rb nb g Bs cu S wr)) (fun jv _ => S.length - (intOf jv).toNat)
          case atStart => exact ⟨0, rfl, by omega, H8⟩
          case round =>
            clear H8
            obtain ⟨j, rfl, hj, HJ⟩ := hrel
            by_cases hlt : j < S.length
            · have hj0 : (0 : Int) ≤ j := by omega
              have hj1 : (j : Int) < S.length := by omega
              have HRG := hZ (HJ.out.2.1.1 j hlt)
              have HXO := hZ (HSO.out S[j] (List.getElem_mem hlt))
              have HYtajmcplanlibnaaGreatDoor := hZ (HSN.out S[j] (List.getElem_mem hlt))
              have HTK : Hid (foldP (S.take (j + 1)) ringed.news = putF (foldP (S.take j) ringed.news) S[j].1 S[j].2) := hZ (by rw [List.take_succ_eq_append_getElem hlt, foldP_snoc])
              generalize S[j] = x at HRG HXO HTK HYtajmcplanlibnaaGreatDoor
              obtain ⟨at_, pg⟩ := x
              dsimp only at HRG HXO HTK HYtajmcplanlibnaaGreatDoor
              have hsz : (Array.mk (Value.int .i64 (at_ : Int) :: v8 pg)).size = 65 := by simp [v8, HXO.out.2.1]
              have HLN : Hid ((Value.int .i64 (at_ : Int) :: v8 pg).length = 65) := hZ (by simp [v8, HXO.out.2.1])
              have HI65 : Hid ((Tryz.prog.info? 156).map (·.size) = some 65) := hZ (by kernel_rfl)
              have HAL : (Array.mk (Value.int .i64 (at_ : Int) :: v8 pg)).all (·.oneCell') = true := all_oneCell_toArray (fun v hv => by
                rcases List.mem_cons.1 hv with rfl | hv
                · rfl
                · exact Kz7 pg v hv)
              repeat ((fail_if_success (with_reducible refine Kz1 78 rfl ?_)); (first | (first | (refine wpList_load_mid rfl 156 (.tmp 76) rfl g (j * 65) rfl (.int .i64 (at_ : Int) :: v8 pg) _ HRG.out Tryz.underlying156 rfl (by rw [HLN.out]; exact HI65.out) ?_) | (refine wpList_store_row rfl 156 (.tmp 9) (.tmp 77) rfl wr.heap.size (.mk (.int .i64 (at_ : Int) :: v8 pg)) rfl rfl 156 (.mk (.int .i64 0 :: v8 (zer 64))) (by rw [zcCh]; exact heap_alloc_new wr _) (by rw [hsz]; exact HI65.out) (by rw [hsz]; simp [v8, zer]) HAL ?_)) | go_values | go_skip | go_guarded | go_step | go_upon))
              have hal : ∀ o : Obj, Below wr.heap.size wr ((wr.alloc o).setRow wr.heap.size (.mk (.int .i64 (at_ : Int) :: v8 pg))) := fun o => below_setRow (bZ) (Nat.le_refl _) _
              refine Kz0 (fun wx => Hid (wx.heap[wr.heap.size]? = some (.cells (.mk (.int .i64 (at_ : Int) :: v8 pg)) 156) ∧ CdX w bb N { ringed with news := foldP (S.take j) ringed.news } db rb nb g Bs cu S wx)) (hZ ⟨setRow_heap _ _ _ _ _ (0, 0) (heap_alloc_new wr _), HJ.out.below (hal _)⟩) ?_
              clear hal HJ HRG HAL hsz
              generalize wr.heap.size = cb
              intro w9 H9
              simp only [Act.put]
              obtain ⟨z0, z1, z2, z3, z4, z5, z6, z7, _⟩ := Xz1 H9.out.2.1.cells
              have k5 := cell_regrown z5
              have kb := cell_regrown (box_at H9.out.1)
              have HM := hZ H9.out.2.1.news
              have hkl : (keysF (foldP (S.take j) ringed.news) ringed.n).length ≤ 2048 := Nat.le_trans (Xzh _ _) (by rw [HN2.out]; exact hn2)
              refine Vz0 [(0, true), (1, true), (2, true), (3, true), (4, true), (5, true), (6, true), (7, true), (8, false)] 8 (fun w' => ∃ p : Regrown, w' = Go.Sort.grow (redrawn w9 p.d) p.os) (by kernel_rfl) (by kernel_rfl) (fun _ _ d _ _ h => by cases d <;> exact h) (Vz2 _) ?_
              (repeat (with_reducible refine mix_q ?_; simp only [qd1, qd0, qt1, qt0]; go_big_quiet_step (fail); with_reducible refine wpQuiet_nil ?_))
              with_reducible refine mix_q ?_
              simp only [qd1, qd0, qt1, qt0]
              go_big_quiet_want
              refine Jz1 37 (.tmp 84) rfl cb 1 rfl (v8 pg) _ (fun w' hw' => box_page (Wz4 H9.out.1 w' hw')) Tryz.underlying37 rfl (Jzh HXO.out.2.1) ?_
              simp only [Act.put, qs0, qs1, qs2]
              go_big_quiet_on
              with_reducible refine wpQuiet_nil ?_
              with_reducible refine mix_a ?_; simp only [qd1, qd0, qt1, qt0]
              go_wp2_with (at_mapUpdate; refine Zz7 _ rfl _ _ _ 142 rfl 3 37 (int_keyed Tryz.underlying3) Tryz.underlying142 nb (keysF (foldP (S.take j) ringed.news) ringed.n).length (pgL (foldP (S.take j) ringed.news)) rfl (HM.out.drew) ?hc (.int .i64 (at_ : Int)) (.agg (v8a pg)) (.int .i64 (at_ : Int)) rfl rfl ?hk ?_)
              case hc => unfold maxLen; omega
              case hk => exact Kzb _ (by have := HXO.out.1; omega)
              intro w10 hm ht
              rw [pgL_put] at hm
              have HM10 : Hid (MapIs Tryz.prog 3 w10 nb (keysF (putF (foldP (S.take j) ringed.news) at_ pg) ringed.n).length (pgL (putF (foldP (S.take j) ringed.news) at_ pg))) := hZ (by
                rw [Vzd _ _ _ _ (by rw [HN2.out]; exact HYtajmcplanlibnaaGreatDoor.out)]
                unfold cntIf at hm
                rw [pgL_at] at hm
                cases hq : foldP (S.take j) ringed.news at_ <;> simpa [hq] using hm)
              have HT10 : Hid (Keeps (fun k => k ≠ nb) w9 w10) := hZ ((Keeps.drew _ w9).trans (Keeps.of_turned ht (by simp)))
              clear hm ht HM k5 kb z0 z1 z2 z3 z4 z5 z6 z7
              try with_reducible refine wpList_nil ?_
              with_reducible refine Qz0 ?_
              try with_reducible refine Wz1 ?_
              go_wp2_with fail
              refine ⟨⟨j + 1, by push_cast; rfl, by omega, hZ ?_⟩, by simp [intOf]; omega⟩
              have hng : g ≠ nb := fun e => H9.out.2.1.nots.2.2.1 (.inr (.inl e.symm))
              have hnb : Bs ≠ nb := fun e => H9.out.2.1.nots.2.2.1 (.inr (.inr e.symm))
              have hNn : ∀ k, N k → k ≠ nb := fun k hk e => H9.out.2.1.nots.2.2.1 (.inl (e ▸ hk))
              have hx := H9.out.2.1.newsed (putF (foldP (S.take j) ringed.news) at_ pg) (PgMap.put H9.out.2.1.ok.news (by rw [HN2.out]; exact HYtajmcplanlibnaaGreatDoor.out) HXO.out.2) HT10.out HM10.out
              rw [HTK.out]
              exact ⟨hx, ⟨H9.out.2.2.1.1.same (HT10.out.block g H9.out.2.2.1.2 hng), Nat.lt_of_lt_of_le H9.out.2.2.1.2 HT10.out.size⟩, HT10.out.blk hnb H9.out.2.2.2.1, H9.out.2.2.2.2.trans (HT10.out.mono (fun k _ hk => hNn k hk))⟩
            · have hjl : j = S.length := by omega
              have hj1 : ¬ ((j : Int) < S.length) := by omega
              have HJF : Hid (BookX wr bb (fun k => N k ∨ k = g ∨ k = Bs) BD db rb nb (.map none) ∧ Keeps N w wr) := hZ (by
                have h := HJ.out
                rw [hjl, List.take_length, ← HBN.out] at h
                exact ⟨h.1, h.2.2.2⟩)
              clear HJ hjl
              go_wp2_with fail
              go_ret
              exact ⟨rfl, ⟨db, rb, nb, _, HJF.out.1.drop (fun k hk => .inl hk)⟩, HJF.out.2⟩
        · try simp only [Bool.not_true]
          have HFI : Hid (recZ S.length + B.shut.used ≤ B.shut.size) := hZ (by
            have h3 := of_decide_eq_true HFB.out
            show recZ S.length + B.used ≤ B.size
            unfold recZ
            have h4 := HOK0.out.used
            have h5 : B.shut.used = B.used := rfl
            have h6 : B.shut.size = B.size := rfl
            omega)
          have HLM : Hid (B.shut.disk.cache.length ≤ 8000000 ∧ B.shut.num < 4611686018427387903) := hZ ⟨Nat.le_trans HLIM.out.1 (by decide), HLIM.out.2.2⟩
          have HDN : Hid (BD = B.shut.added S) := hZ (by
            rw [← HBD.out]
            have h1 : ¬ B.cnt = 0 := by rw [HCN.out]; have := HOL.out; omega
            have h2 : recZ B.cnt ≤ B.size - B.used := by
              rw [HCN.out]
              have h3 := of_decide_eq_true HFB.out
              unfold recZ
              have h4 := HOK0.out.used
              omega
            unfold BookS.done
            rw [if_neg h1, if_pos h2, HBF.out, HSE.out])
          clear HOK0 HFB
          go_wp2_with fail
          have HOK := hZ H4.out.1.ok
          have hsz1 := H4.out.1.ok.size
          have hlg := Zz0 H4.out.2.2.1
          have HADD := hZ (fun wx (hr : wx.heap[rb]? = some (.cells (ringC db 2 (B.shut).size (B.shut).pl (B.shut).num (B.shut).last (B.shut).used) 252)) (hd : DiskI wx db (fun k => (N k ∨ k = g ∨ k = Bs) ∨ k = bb ∨ k = rb ∨ k = nb ∨ ovB (.map none) k) (B.shut).disk) (hgl : g < wx.heap.size) (hrow : ChRow wx g S) =>
            add_any rb db 2 (B.shut).size (B.shut).pl (B.shut).used (B.shut).num (B.shut).last (fun k => (N k ∨ k = g ∨ k = Bs) ∨ k = bb ∨ k = rb ∨ k = nb ∨ ovB (.map none) k) (B.shut).disk g cu S wx HOK.out.last hr HOK.out.size (by decide) (by have := HOK.out.room; omega) HOK.out.pl HOK.out.num HOK.out.used HOL.out HSO.out (by have := HFI.out; unfold recZ at this; omega) hgl hrow HLM.out.1 hd (.inr (.inr (.inl rfl))))
          obtain ⟨ringed, hringed⟩ : ∃ x, BookS.ringed (B.shut) S = x := ⟨_, rfl⟩
          have HRE := hZ hringed
          clear hringed hsz1
          have r1 : ∀ q : SatW (BcS bb Bs (bookC db rb (B.shut) nb (.map none)) (.slice (some ⟨g, 0, none⟩) S.length cu)), q.w.cell? ⟨bb, 1, none⟩ = some (.pointer (some ⟨rb, 0, none⟩)) := fun q => (Xz1 q.h.1).2.1
          have rs : ∀ q : SatW (BcS bb Bs (bookC db rb (B.shut) nb (.map none)) (.slice (some ⟨g, 0, none⟩) S.length cu)), q.w.cell? ⟨Bs, 0, none⟩ = some (.slice (some ⟨g, 0, none⟩) S.length cu) := fun q => (blk1 q.h.2).1
          have hne : Nonempty (SatW (BcS bb Bs (bookC db rb (B.shut) nb (.map none)) (.slice (some ⟨g, 0, none⟩) S.length cu))) := ⟨⟨_, (show BcS bb Bs (bookC db rb (B.shut) nb (.map none)) (.slice (some ⟨g, 0, none⟩) S.length cu) (w4).drew from ⟨H4.out.1.cells, H4.out.2.2.1⟩)⟩⟩
          refine Vz0 [(0, true), (1, true), (2, true), (3, true), (4, true), (5, false), (6, true)] 6 (fun w' => ∃ p : SatW (BcS bb Bs (bookC db rb (B.shut) nb (.map none)) (.slice (some ⟨g, 0, none⟩) S.length cu)), w' = p.w) (by kernel_rfl) (by kernel_rfl) (fun _ _ d _ _ h => by cases d <;> exact h) (Jz3 (show BcS bb Bs (bookC db rb (B.shut) nb (.map none)) (.slice (some ⟨g, 0, none⟩) S.length cu) (w4).drew from ⟨H4.out.1.cells, H4.out.2.2.1⟩)) ?_
          (repeat (with_reducible refine mix_q ?_; simp only [qd1, qd0, qt1, qt0]; go_big_quiet_step (fail); with_reducible refine wpQuiet_nil ?_))
          with_reducible refine mix_a ?_; simp only [qd1, qd0, qt1, qt0]
          have hA := HADD.out (w4).drew H4.out.1.ring (H4.out.1.disk.below (Below.refl _ _).drew) (H4.out.2.1.2) (H4.out.2.1.1.below H4.out.2.1.2 (Below.refl _ _).drew)
          go_wp2_with fail
          refine hA.mono ?_
          clear hA HADD
          rintro e w8 ⟨rfl, hrg, hdk, hkp⟩
          have H8 : Hid (CdX w bb N ringed db rb nb g Bs cu S w8) := hZ (by
            rw [← HRE.out]
            have hkp' : Keeps (fun k => ((N k ∨ k = g ∨ k = Bs) ∨ k = bb ∨ k = rb ∨ k = nb ∨ ovB (.map none) k) ∧ k ≠ rb) (w4) w8 := (Keeps.drew _ _).trans hkp
            have hgr : g ≠ rb := fun e => H4.out.1.nots.2.1 (.inr (.inl e.symm))
            have hbr : Bs ≠ rb := fun e => H4.out.1.nots.2.1 (.inr (.inr e.symm))
            have hNr : ∀ k, N k → k ≠ rb := fun k hk e => H4.out.1.nots.2.1 (.inl (e ▸ hk))
            have hLm := HLM.out
            have hfi := HFI.out
            have hsm := recS_ok (num := (B.shut).num) HOK.out.last (fun x hx => (HSO.out x hx).2) HOL.out.2
            refine ⟨H4.out.1.ringed _ _ _ _ ⟨(B.shut).disk.firm, (B.shut).disk.cache ++ recW 2 (B.shut).size (B.shut).pl (recP (B.shut).num (B.shut).last S)⟩ (Nat.mod_lt _ (by have := HOK.out.size; omega)) ⟨by have := HOK.out.num; omega, by omega⟩ hsm (by omega) rfl hkp' hrg hdk, ⟨H4.out.2.1.1.same (hkp'.block g H4.out.2.1.2 ⟨.inl (.inr (.inl rfl)), hgr⟩), Nat.lt_of_lt_of_le H4.out.2.1.2 hkp'.size⟩, hkp'.blk ⟨.inl (.inr (.inr rfl)), hbr⟩ H4.out.2.2.1, H4.out.2.2.2.trans (hkp'.mono (fun k _ hk => ⟨.inl (.inl hk), hNr k hk⟩))⟩)
          clear hrg hdk hkp H4
          try dsimp only
          go_wp2_with fail
          try with_reducible refine wpList_nil ?_
          with_reducible refine Qz0 ?_
          have hcr : bookC db rb ringed nb (.map none) = bookC db rb (B.shut) nb (.map none) := by rw [← HRE.out]; rfl
          refine ⟨fun _ => Jz3 (F := BcS bb Bs (bookC db rb (B.shut) nb (.map none)) (.slice (some ⟨g, 0, none⟩) S.length cu)) ⟨by rw [← hcr]; exact H8.out.1.cells, H8.out.2.2.1⟩, ?_⟩
          (repeat (with_reducible refine mix_q ?_; simp only [qd1, qd0, qt1, qt0]; go_big_quiet_step (fail); with_reducible refine wpQuiet_nil ?_))
          with_reducible refine Wz1 ?_
          clear hcr r1 rs
          obtain ⟨c0, g0⟩ := blk1 H8.out.2.2.1
          go_wp2_with fail
          clear c0 g0
          have HNW : Hid (∀ g', ({ ringed with news := g' } : BookS) = { BookS.ringed (B.shut) S with news := g' }) := hZ (fun g' => by rw [HRE.out])
          have HN2 : Hid (ringed.n = (B.shut).n) := hZ (by rw [← HRE.out]; rfl)
          have HBN : Hid (BD = { ringed with news := foldP S ringed.news }) := hZ (by rw [HDN.out, ← HRE.out]; rfl)
          clear HOK HNW
          go_loopw [74] (fun jv wr => ∃ j : Nat, jv = .int .i64 (j : Int) ∧ j ≤ S.length ∧ Hid (CdX w bb N { ringed with news := foldP (S.take j) ringed.news } db rb nb g Bs cu S wr)) (fun jv _ => S.length - (intOf jv).toNat)
          case atStart => exact ⟨0, rfl, by omega, H8⟩
          case round =>
            clear H8
            obtain ⟨j, rfl, hj, HJ⟩ := hrel
            by_cases hlt : j < S.length
            · have hj0 : (0 : Int) ≤ j := by omega
              have hj1 : (j : Int) < S.length := by omega
              have HRG := hZ (HJ.out.2.1.1 j hlt)
              have HXO := hZ (HSO.out S[j] (List.getElem_mem hlt))
              have HYtajmcplanlibnaaGreatDoor := hZ (HSN.out S[j] (List.getElem_mem hlt))
              have HTK : Hid (foldP (S.take (j + 1)) ringed.news = putF (foldP (S.take j) ringed.news) S[j].1 S[j].2) := hZ (by rw [List.take_succ_eq_append_getElem hlt, foldP_snoc])
              generalize S[j] = x at HRG HXO HTK HYtajmcplanlibnaaGreatDoor
              obtain ⟨at_, pg⟩ := x
              dsimp only at HRG HXO HTK HYtajmcplanlibnaaGreatDoor
              have hsz : (Array.mk (Value.int .i64 (at_ : Int) :: v8 pg)).size = 65 := by simp [v8, HXO.out.2.1]
              have HLN : Hid ((Value.int .i64 (at_ : Int) :: v8 pg).length = 65) := hZ (by simp [v8, HXO.out.2.1])
              have HI65 : Hid ((Tryz.prog.info? 156).map (·.size) = some 65) := hZ (by kernel_rfl)
              have HAL : (Array.mk (Value.int .i64 (at_ : Int) :: v8 pg)).all (·.oneCell') = true := all_oneCell_toArray (fun v hv => by
                rcases List.mem_cons.1 hv with rfl | hv
                · rfl
                · exact Kz7 pg v hv)
              repeat ((fail_if_success (with_reducible refine Kz1 78 rfl ?_)); (first | (first | (refine wpList_load_mid rfl 156 (.tmp 76) rfl g (j * 65) rfl (.int .i64 (at_ : Int) :: v8 pg) _ HRG.out Tryz.underlying156 rfl (by rw [HLN.out]; exact HI65.out) ?_) | (refine wpList_store_row rfl 156 (.tmp 9) (.tmp 77) rfl wr.heap.size (.mk (.int .i64 (at_ : Int) :: v8 pg)) rfl rfl 156 (.mk (.int .i64 0 :: v8 (zer 64))) (by rw [zcCh]; exact heap_alloc_new wr _) (by rw [hsz]; exact HI65.out) (by rw [hsz]; simp [v8, zer]) HAL ?_)) | go_values | go_skip | go_guarded | go_step | go_upon))
              have hal : ∀ o : Obj, Below wr.heap.size wr ((wr.alloc o).setRow wr.heap.size (.mk (.int .i64 (at_ : Int) :: v8 pg))) := fun o => below_setRow (bZ) (Nat.le_refl _) _
              refine Kz0 (fun wx => Hid (wx.heap[wr.heap.size]? = some (.cells (.mk (.int .i64 (at_ : Int) :: v8 pg)) 156) ∧ CdX w bb N { ringed with news := foldP (S.take j) ringed.news } db rb nb g Bs cu S wx)) (hZ ⟨setRow_heap _ _ _ _ _ (0, 0) (heap_alloc_new wr _), HJ.out.below (hal _)⟩) ?_
              clear hal HJ HRG HAL hsz
              generalize wr.heap.size = cb
              intro w9 H9
              simp only [Act.put]
              obtain ⟨z0, z1, z2, z3, z4, z5, z6, z7, _⟩ := Xz1 H9.out.2.1.cells
              have k5 := cell_regrown z5
              have kb := cell_regrown (box_at H9.out.1)
              have HM := hZ H9.out.2.1.news
              have hkl : (keysF (foldP (S.take j) ringed.news) ringed.n).length ≤ 2048 := Nat.le_trans (Xzh _ _) (by rw [HN2.out]; exact hn2)
              refine Vz0 [(0, true), (1, true), (2, true), (3, true), (4, true), (5, true), (6, true), (7, true), (8, false)] 8 (fun w' => ∃ p : Regrown, w' = Go.Sort.grow (redrawn w9 p.d) p.os) (by kernel_rfl) (by kernel_rfl) (fun _ _ d _ _ h => by cases d <;> exact h) (Vz2 _) ?_
              (repeat (with_reducible refine mix_q ?_; simp only [qd1, qd0, qt1, qt0]; go_big_quiet_step (fail); with_reducible refine wpQuiet_nil ?_))
              with_reducible refine mix_q ?_
              simp only [qd1, qd0, qt1, qt0]
              go_big_quiet_want
              refine Jz1 37 (.tmp 84) rfl cb 1 rfl (v8 pg) _ (fun w' hw' => box_page (Wz4 H9.out.1 w' hw')) Tryz.underlying37 rfl (Jzh HXO.out.2.1) ?_
              simp only [Act.put, qs0, qs1, qs2]
              go_big_quiet_on
              with_reducible refine wpQuiet_nil ?_
              with_reducible refine mix_a ?_; simp only [qd1, qd0, qt1, qt0]
              go_wp2_with (at_mapUpdate; refine Zz7 _ rfl _ _ _ 142 rfl 3 37 (int_keyed Tryz.underlying3) Tryz.underlying142 nb (keysF (foldP (S.take j) ringed.news) ringed.n).length (pgL (foldP (S.take j) ringed.news)) rfl (HM.out.drew) ?hc (.int .i64 (at_ : Int)) (.agg (v8a pg)) (.int .i64 (at_ : Int)) rfl rfl ?hk ?_)
              case hc => unfold maxLen; omega
              case hk => exact Kzb _ (by have := HXO.out.1; omega)
              intro w10 hm ht
              rw [pgL_put] at hm
              have HM10 : Hid (MapIs Tryz.prog 3 w10 nb (keysF (putF (foldP (S.take j) ringed.news) at_ pg) ringed.n).length (pgL (putF (foldP (S.take j) ringed.news) at_ pg))) := hZ (by
                rw [Vzd _ _ _ _ (by rw [HN2.out]; exact HYtajmcplanlibnaaGreatDoor.out)]
                unfold cntIf at hm
                rw [pgL_at] at hm
                cases hq : foldP (S.take j) ringed.news at_ <;> simpa [hq] using hm)
              have HT10 : Hid (Keeps (fun k => k ≠ nb) w9 w10) := hZ ((Keeps.drew _ w9).trans (Keeps.of_turned ht (by simp)))
              clear hm ht HM k5 kb z0 z1 z2 z3 z4 z5 z6 z7
              try with_reducible refine wpList_nil ?_
              with_reducible refine Qz0 ?_
              try with_reducible refine Wz1 ?_
              go_wp2_with fail
              refine ⟨⟨j + 1, by push_cast; rfl, by omega, hZ ?_⟩, by simp [intOf]; omega⟩
              have hng : g ≠ nb := fun e => H9.out.2.1.nots.2.2.1 (.inr (.inl e.symm))
              have hnb : Bs ≠ nb := fun e => H9.out.2.1.nots.2.2.1 (.inr (.inr e.symm))
              have hNn : ∀ k, N k → k ≠ nb := fun k hk e => H9.out.2.1.nots.2.2.1 (.inl (e ▸ hk))
              have hx := H9.out.2.1.newsed (putF (foldP (S.take j) ringed.news) at_ pg) (PgMap.put H9.out.2.1.ok.news (by rw [HN2.out]; exact HYtajmcplanlibnaaGreatDoor.out) HXO.out.2) HT10.out HM10.out
              rw [HTK.out]
              exact ⟨hx, ⟨H9.out.2.2.1.1.same (HT10.out.block g H9.out.2.2.1.2 hng), Nat.lt_of_lt_of_le H9.out.2.2.1.2 HT10.out.size⟩, HT10.out.blk hnb H9.out.2.2.2.1, H9.out.2.2.2.2.trans (HT10.out.mono (fun k _ hk => hNn k hk))⟩
            · have hjl : j = S.length := by omega
              have hj1 : ¬ ((j : Int) < S.length) := by omega
              have HJF : Hid (BookX wr bb (fun k => N k ∨ k = g ∨ k = Bs) BD db rb nb (.map none) ∧ Keeps N w wr) := hZ (by
                have h := HJ.out
                rw [hjl, List.take_length, ← HBN.out] at h
                exact ⟨h.1, h.2.2.2⟩)
              clear HJ hjl
              go_wp2_with fail
              go_ret
              exact ⟨rfl, ⟨db, rb, nb, _, HJF.out.1.drop (fun k hk => .inl hk)⟩, HJF.out.2⟩
open Go.RowKit Go.Maps
structure BookS.lim (B : BookS) (k : Nat) : Prop where
  cache : B.disk.cache.length ≤ 80 * k
  gen : B.gen ≤ k + 2
  num : B.num ≤ k
theorem BookS.lim.same {B B' : BookS} {k : Nat} (h : B.lim k) (hs : B'.shut = B.shut) : B'.lim k := by
  obtain ⟨_, h2, h3, h4, _⟩ := BookS.shut_same hs
  exact ⟨by rw [h4]; exact h.cache, by rw [h2]; exact h.gen, by rw [h3]; exact h.num⟩
theorem BookS.lim.mono {B : BookS} {k m : Nat} (h : B.lim k) (hk : k ≤ m) : B.lim m := ⟨by have := h.cache; omega, by have := h.gen; omega, by have := h.num; omega⟩
theorem BookS.lim.done {B : BookS} {k : Nat} (h : B.lim k) (hc : B.cnt ≤ 60) : B.done.lim (k + 1) := by
  have h1 := BookS.done_cache B hc
  have h2 := (BookS.done_gen B).2
  have h3 := (BookS.done_num B).2
  exact ⟨by have := h.cache; omega, by have := h.gen; push_cast; omega, by have := h.num; push_cast; omega⟩
theorem commit_any (bb : Nat) (N : Nat → Prop) (B : BookS) (k : Nat) (hl : B.lim k) (hk : k ≤ 10000) (hc : B.cnt ≤ 60) (w : World) (h : BookI w bb N B) :
    Calls Tryz.prog 17 #[.pointer (some ⟨bb, 0, none⟩)] w fun e w' => e = .returned .nilIface ∧ BookI w' bb N B.done ∧ Keeps N w w' := by
  have h1 := hl.cache
  have h2 := hl.gen
  have h3 := hl.num
  cases ho : B.opn with
  | none =>
    have e : B.done = B.shut := if_pos (by unfold BookS.cnt BookS.f; rw [ho]; show (keysF (fun _ => none) _).length = 0; rw [Zzj]; rfl)
    rw [e]
    exact commit_none bb N B ho w h
  | some f =>
    have hf : B.f = f := by unfold BookS.f; rw [ho]; rfl
    refine commit_some bb N B f ho (by unfold BookS.cnt at hc; rw [hf] at hc; exact hc) (by omega) (by omega) (by omega) w h
theorem BookS.done_view_lim {B : BookS} {k : Nat} (h : B.ok) (hl : B.lim k) (hk : k ≤ 10000) (i : Nat) (hi : i < B.n) : B.done.view i = B.view i :=
  BookS.done_view h (BookS.homed_ok (BookS.shut_ok h) (by have := hl.gen; show B.gen < _; omega)) i hi
theorem BookS.done_base_lim {B : BookS} {k : Nat} (h : B.ok) (hl : B.lim k) (hk : k ≤ 10000) (i : Nat) (hi : i < B.n) : B.done.base i = B.view i :=
  BookS.done_base h (BookS.homed_ok (BookS.shut_ok h) (by have := hl.gen; show B.gen < _; omega)) i hi
end Go.Proofs.YtajmcplanlibnaaGreatDoor
