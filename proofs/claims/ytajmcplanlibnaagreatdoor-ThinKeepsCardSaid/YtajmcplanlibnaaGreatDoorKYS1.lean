/- The shelf's contracts of sort.Ints at this dump, in plain words (written by the kit's lay-shelf.mjs and lay-plain.mjs). sort.Ints of a slice of one's own. -/
import Derived.Shelf.Sort.Plain
import Derived.Shelf.Slices.In.SortNone2
import Derived.Test.YtajmcplanlibnaaGreatDoorProg
import Derived.Test.YtajmcplanlibnaaGreatDoorKYLib
import Derived.Sort.OwnSortedInts
set_option linter.unusedSimpArgs false
set_option linter.unusedVariables false
set_option linter.unnecessarySimpa false
namespace Go.Proofs
open Go.Shelf
def Tryz.lays191_ren : Go.Shelf.Ren := ⟨fun | 191 => 142 | 189 => 191 | 125 => 152 | 257 => 222 | 128 => 202 | 129 => 203 | 294 => 235 | 295 => 236 | 296 => 237 | 297 => 238 | 298 => 239 | 299 => 240 | 216 => 241 | 300 => 242 | 301 => 243 | 328 => 245 | 329 => 246 | 330 => 247 | 331 => 248 | 332 => 249 | 215 => 250 | 343 => 251 | n => n, fun | 28 => 33 | 0 => 0 | 3 => 3 | 46 => 191 | 51 => 107 | 53 => 144 | 4 => 4 | 183 => 353 | 182 => 352 | 131 => 181 | 5 => 5 | 9 => 9 | 218 => 362 | 222 => 346 | 228 => 365 | 229 => 130 | n => n, fun | n => n⟩
theorem Tryz.lays191 : Go.Proofs.Lays.n191 Tryz.prog Tryz.lays191_ren := {
  mixed := by kernel_rfl
  f125 := Tryz.func152.trans (congrArg some (by kernel_rfl))
  f128 := Tryz.func202.trans (congrArg some (by kernel_rfl))
  f129 := Tryz.func203.trans (congrArg some (by kernel_rfl))
  f189 := Tryz.func191.trans (congrArg some (by kernel_rfl))
  f191 := Tryz.func142.trans (congrArg some (by kernel_rfl))
  f215 := Tryz.func250.trans (congrArg some (by kernel_rfl))
  f216 := Tryz.func241.trans (congrArg some (by kernel_rfl))
  f257 := Tryz.func222.trans (congrArg some (by kernel_rfl))
  f294 := Tryz.func235.trans (congrArg some (by kernel_rfl))
  f295 := Tryz.func236.trans (congrArg some (by kernel_rfl))
  f296 := Tryz.func237.trans (congrArg some (by kernel_rfl))
  f297 := Tryz.func238.trans (congrArg some (by kernel_rfl))
  f298 := Tryz.func239.trans (congrArg some (by kernel_rfl))
  f299 := Tryz.func240.trans (congrArg some (by kernel_rfl))
  f300 := Tryz.func242.trans (congrArg some (by kernel_rfl))
  f301 := Tryz.func243.trans (congrArg some (by kernel_rfl))
  f328 := Tryz.func245.trans (congrArg some (by kernel_rfl))
  f329 := Tryz.func246.trans (congrArg some (by kernel_rfl))
  f330 := Tryz.func247.trans (congrArg some (by kernel_rfl))
  f331 := Tryz.func248.trans (congrArg some (by kernel_rfl))
  f332 := Tryz.func249.trans (congrArg some (by kernel_rfl))
  f343 := Tryz.func251.trans (congrArg some (by kernel_rfl))
  t0 := Tryz.underlying0
  a0 := Tryz.isAgg0
  z0 := Tryz.sizeOf0
  v0 := Tryz.zeroValue0
  t3 := Tryz.underlying3
  a3 := Tryz.isAgg3
  z3 := Tryz.sizeOf3
  v3 := Tryz.zeroValue3
  t4 := Tryz.underlying4
  a4 := Tryz.isAgg4
  z4 := Tryz.sizeOf4
  v4 := Tryz.zeroValue4
  t5 := Tryz.underlying5
  a5 := Tryz.isAgg5
  z5 := Tryz.sizeOf5
  v5 := Tryz.zeroValue5
  t9 := Tryz.underlying9
  a9 := Tryz.isAgg9
  z9 := Tryz.sizeOf9
  v9 := Tryz.zeroValue9
  t28 := Tryz.underlying33
  a28 := Tryz.isAgg33
  z28 := Tryz.sizeOf33
  v28 := Tryz.zeroValue33
  t46 := Tryz.underlying191
  a46 := Tryz.isAgg191
  z46 := Tryz.sizeOf191
  v46 := Tryz.zeroValue191
  t51 := Tryz.underlying107
  a51 := Tryz.isAgg107
  z51 := Tryz.sizeOf107
  v51 := Tryz.zeroValue107
  t53 := Tryz.underlying144
  a53 := Tryz.isAgg144
  z53 := Tryz.sizeOf144
  v53 := Tryz.zeroValue144
  t131 := Tryz.underlying181
  a131 := Tryz.isAgg181
  z131 := Tryz.sizeOf181
  v131 := Tryz.zeroValue181
  t182 := Tryz.underlying352
  a182 := Tryz.isAgg352
  z182 := Tryz.sizeOf352
  v182 := Tryz.zeroValue352
  t183 := Tryz.underlying353
  a183 := Tryz.isAgg353
  z183 := Tryz.sizeOf353
  v183 := Tryz.zeroValue353
  t218 := Tryz.underlying362
  a218 := Tryz.isAgg362
  z218 := Tryz.sizeOf362
  v218 := Tryz.zeroValue362
  t222 := Tryz.underlying346
  a222 := Tryz.isAgg346
  z222 := Tryz.sizeOf346
  v222 := Tryz.zeroValue346
  t228 := Tryz.underlying365
  a228 := Tryz.isAgg365
  z228 := Tryz.sizeOf365
  v228 := Tryz.zeroValue365
  t229 := Tryz.underlying130
  a229 := Tryz.isAgg130
  z229 := Tryz.sizeOf130
  v229 := Tryz.zeroValue130 }
open Go.Sort Go.RowKit in
theorem Tryz.sort_Ints (blk off cap : Nat) (zs : List Int) (w : World) (hH : Holds (Value.int .i64) w blk off zs.toArray) (hblk : blk < w.heap.size) (hsz : zs.length < 4611686018427387904) :
    Calls Tryz.prog 142 #[.slice (some ⟨blk, off, none⟩) zs.length cap] w fun e w' =>
      e = .returned (.tuple #[]) ∧ ∃ n os, w' = grow (putRow (Value.int .i64) (Sort.ahead w n) blk off (zs.mergeSort fun x y => decide (x ≤ y)).toArray) os := Any.sort_Ints Tryz.lays191 blk off cap zs w hH hblk hsz
theorem Tryz.sort_Ints_none (p : Option Addr) (cap : Nat) (w : World) :
    Calls Tryz.prog 142 #[.slice p 0 cap] w fun e w' => e = .returned (.tuple #[]) ∧ w' = w := Any.sort_Ints_none Tryz.lays191 p cap w
end Go.Proofs
namespace Go.Proofs.YtajmcplanlibnaaGreatDoor
open Go Go.Sort Go.Proofs Go.ChangeShapes Go.WideShapes Go.RowKit
theorem sortInts_own (v : Value) (l : List Int) (w : World) (h : w.ownsRow 0 3 1 v l.length (l.map (Value.int .i64))) (hl : l.length ≤ 1000000000) :
    Calls Tryz.prog 142 #[v] w fun e w' => e = .returned (.tuple #[]) ∧ w'.ownsRow 0 3 1 v l.length ((l.mergeSort fun x y => decide (x ≤ y)).map (Value.int .i64)) ∧ w.grownBy w' v.ownBlock := by
  have hlen : (l.mergeSort fun x y => decide (x ≤ y)).length = l.length := List.length_mergeSort _
  rcases h.2 with ⟨rfl, h0⟩ | ⟨g, cap, cur, rfl, hbase, hb, h1, h2, h3, h4⟩
  · have : l = [] := List.eq_nil_of_length_eq_zero h0
    subst this
    refine (Tryz.sort_Ints_none none 0 w).mono ?_
    rintro e w' ⟨rfl, rfl⟩
    exact ⟨rfl, by simpa using h, ⟨rfl, rfl, rfl, Nat.le_refl _, fun _ _ _ => rfl⟩⟩
  · have hH := holds_of_blockI (ss := l) hb (by simpa using h4)
    refine (Tryz.sort_Ints g 0 cap l w hH (Array.getElem?_eq_some_iff.1 hb).1 (by omega)).mono ?_
    rintro e w' ⟨rfl, nn, os, rfl⟩
    exact ⟨rfl, ownsRow_sortedI hlen hbase hb h1 h2 h3, grownBy_sortedI _⟩
end Go.Proofs.YtajmcplanlibnaaGreatDoor
