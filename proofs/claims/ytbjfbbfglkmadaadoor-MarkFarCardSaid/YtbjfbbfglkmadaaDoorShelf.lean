/-
 DERIVED: THE SHELF's CONTRACTS AT THIS DUMP, IN PLAIN WORDS (tools/lay-plain.mjs out of 'TrydSh.lean', which tools/lay-shelf.mjs wrote): THE SAME DECLARATIONS UNDER THE SAME NAMES: 'import', 'namespace', 'open', 'def', 'theorem' AND NOTHING ELSE: no command of the shelf's: FOR A HAND-IN. Each laying: the table of numbers ('.._ren') and one theorem, a field a fact of the dump's own or the kernel's comparison; each contract: ONE APPLICATION.
-/
import Derived.Shelf.Sort.Plain
import Derived.Shelf.Slices.In.SortNone
import Derived.Test.YtbjfbbfglkmadaaDoorProg
namespace Go.Proofs
open Go.Shelf
def Tryd.lays189_ren : Go.Shelf.Ren := ⟨fun | 189 => 74 | 125 => 92 | 257 => 91 | 128 => 107 | 129 => 108 | 294 => 98 | 295 => 99 | 296 => 100 | 297 => 101 | 298 => 102 | 299 => 103 | 216 => 104 | 300 => 105 | 301 => 106 | 328 => 109 | 329 => 110 | 330 => 111 | 331 => 112 | 332 => 113 | 215 => 114 | 343 => 115 | n => n, fun | 28 => 25 | 3 => 3 | 46 => 113 | 0 => 0 | 51 => 127 | 53 => 129 | 4 => 4 | 183 => 120 | 182 => 119 | 131 => 68 | 5 => 5 | 9 => 9 | 218 => 130 | 222 => 134 | 228 => 136 | 229 => 137 | n => n, fun | n => n⟩
theorem Tryd.lays189 : Go.Proofs.Lays.n189 Tryd.prog Tryd.lays189_ren := {
 mixed := by kernel_rfl
 f125 := Tryd.func92.trans (congrArg some (by kernel_rfl))
 f128 := Tryd.func107.trans (congrArg some (by kernel_rfl))
 f129 := Tryd.func108.trans (congrArg some (by kernel_rfl))
 f189 := Tryd.func74.trans (congrArg some (by kernel_rfl))
 f215 := Tryd.func114.trans (congrArg some (by kernel_rfl))
 f216 := Tryd.func104.trans (congrArg some (by kernel_rfl))
 f257 := Tryd.func91.trans (congrArg some (by kernel_rfl))
 f294 := Tryd.func98.trans (congrArg some (by kernel_rfl))
 f295 := Tryd.func99.trans (congrArg some (by kernel_rfl))
 f296 := Tryd.func100.trans (congrArg some (by kernel_rfl))
 f297 := Tryd.func101.trans (congrArg some (by kernel_rfl))
 f298 := Tryd.func102.trans (congrArg some (by kernel_rfl))
 f299 := Tryd.func103.trans (congrArg some (by kernel_rfl))
 f300 := Tryd.func105.trans (congrArg some (by kernel_rfl))
 f301 := Tryd.func106.trans (congrArg some (by kernel_rfl))
 f328 := Tryd.func109.trans (congrArg some (by kernel_rfl))
 f329 := Tryd.func110.trans (congrArg some (by kernel_rfl))
 f330 := Tryd.func111.trans (congrArg some (by kernel_rfl))
 f331 := Tryd.func112.trans (congrArg some (by kernel_rfl))
 f332 := Tryd.func113.trans (congrArg some (by kernel_rfl))
 f343 := Tryd.func115.trans (congrArg some (by kernel_rfl))
 t0 := Tryd.underlying0
 a0 := Tryd.isAgg0
 z0 := Tryd.sizeOf0
 v0 := Tryd.zeroValue0
 t3 := Tryd.underlying3
 a3 := Tryd.isAgg3
 z3 := Tryd.sizeOf3
 v3 := Tryd.zeroValue3
 t4 := Tryd.underlying4
 a4 := Tryd.isAgg4
 z4 := Tryd.sizeOf4
 v4 := Tryd.zeroValue4
 t5 := Tryd.underlying5
 a5 := Tryd.isAgg5
 z5 := Tryd.sizeOf5
 v5 := Tryd.zeroValue5
 t9 := Tryd.underlying9
 a9 := Tryd.isAgg9
 z9 := Tryd.sizeOf9
 v9 := Tryd.zeroValue9
 t28 := Tryd.underlying25
 a28 := Tryd.isAgg25
 z28 := Tryd.sizeOf25
 v28 := Tryd.zeroValue25
 t46 := Tryd.underlying113
 a46 := Tryd.isAgg113
 z46 := Tryd.sizeOf113
 v46 := Tryd.zeroValue113
 t51 := Tryd.underlying127
 a51 := Tryd.isAgg127
 z51 := Tryd.sizeOf127
 v51 := Tryd.zeroValue127
 t53 := Tryd.underlying129
 a53 := Tryd.isAgg129
 z53 := Tryd.sizeOf129
 v53 := Tryd.zeroValue129
 t131 := Tryd.underlying68
 a131 := Tryd.isAgg68
 z131 := Tryd.sizeOf68
 v131 := Tryd.zeroValue68
 t182 := Tryd.underlying119
 a182 := Tryd.isAgg119
 z182 := Tryd.sizeOf119
 v182 := Tryd.zeroValue119
 t183 := Tryd.underlying120
 a183 := Tryd.isAgg120
 z183 := Tryd.sizeOf120
 v183 := Tryd.zeroValue120
 t218 := Tryd.underlying130
 a218 := Tryd.isAgg130
 z218 := Tryd.sizeOf130
 v218 := Tryd.zeroValue130
 t222 := Tryd.underlying134
 a222 := Tryd.isAgg134
 z222 := Tryd.sizeOf134
 v222 := Tryd.zeroValue134
 t228 := Tryd.underlying136
 a228 := Tryd.isAgg136
 z228 := Tryd.sizeOf136
 v228 := Tryd.zeroValue136
 t229 := Tryd.underlying137
 a229 := Tryd.isAgg137
 z229 := Tryd.sizeOf137
 v229 := Tryd.zeroValue137 }
open Go.Sort Go.RowKit in
theorem Tryd.slices_Sort_int (blk off cap : Nat) (zs : List Int) (w : World) (hH : Holds (Value.int .i64) w blk off zs.toArray) (hblk : blk < w.heap.size) (hsz : zs.length < 4611686018427387904) :
  Calls Tryd.prog 74 #[.slice (some ⟨blk, off, none⟩) zs.length cap] w fun e w' =>
   e = .returned (.tuple #[]) ∧ ∃ n os, w' = grow (putRow (Value.int .i64) (Sort.ahead w n) blk off (zs.mergeSort fun x y => decide (x ≤ y)).toArray) os := Any.slices_Sort_int Tryd.lays189 blk off cap zs w hH hblk hsz
open Go.RowKit Go.Sort in
/-- .. and plain. (LAID: no walk: one application.) -/
theorem Tryd.slices_Sort_int_none (p : Option Addr) (cap : Nat) (w : World) :
  Calls Tryd.prog 74 #[.slice p 0 cap] w fun e w' => e = .returned (.tuple #[]) ∧ w' = w := Any.slices_Sort_int_none Tryd.lays189 p cap w
end Go.Proofs
