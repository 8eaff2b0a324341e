/-
  DERIVED: THE SHELF's CONTRACTS AT THIS DUMP, IN PLAIN WORDS (tools/lay-plain.mjs out of 'YtbflihggpacblaaGreatDoorShelf.lean', which tools/lay-shelf.mjs wrote): THE SAME DECLARATIONS UNDER THE SAME NAMES: 'import', 'namespace', 'open', 'def', 'theorem' AND NOTHING ELSE: no command of the shelf's: FOR A HAND-IN. Each laying: the table of numbers ('.._ren') and one theorem, a field a fact of the dump's own or the kernel's comparison; each contract: ONE APPLICATION.
-/
import Derived.Shelf.Strings.Repeat
import Derived.Shelf.Strings.Search1
import Derived.Ground.NamesProg
import Derived.Test.YtbflihggpacblaaGreatDoorProg
namespace Go.Proofs
open Go.Shelf
def Tryz.lays105_ren : Go.Shelf.Ren := ⟨fun | 105 => 355 | 212 => 418 | 99 => 125 | 165 => 296 | 166 => 297 | 170 => 419 | 169 => 299 | 263 => 472 | 264 => 473 | 206 => 216 | 240 => 378 | 241 => 379 | 276 => 441 | 277 => 442 | n => n, fun | 9 => 9 | 3 => 3 | 4 => 4 | 20 => 20 | 0 => 0 | 46 => 263 | 109 => 335 | 5 => 5 | 72 => 271 | 76 => 275 | 51 => 348 | 146 => 371 | 53 => 373 | 148 => 374 | 70 => 269 | 37 => 119 | 75 => 274 | 127 => 326 | 164 => 354 | 80 => 102 | n => n, fun | n => n⟩
theorem Tryz.lays105 : Go.Proofs.Lays.n105 Tryz.prog Tryz.lays105_ren := {
  mixed := by kernel_rfl
  f99 := Tryz.func125.trans (congrArg some (by kernel_rfl))
  f105 := Tryz.func355.trans (congrArg some (by kernel_rfl))
  f165 := Tryz.func296.trans (congrArg some (by kernel_rfl))
  f166 := Tryz.func297.trans (congrArg some (by kernel_rfl))
  f169 := Tryz.func299.trans (congrArg some (by kernel_rfl))
  f170 := Tryz.func419.trans (congrArg some (by kernel_rfl))
  f206 := Tryz.func216.trans (congrArg some (by kernel_rfl))
  f212 := Tryz.func418.trans (congrArg some (by kernel_rfl))
  f240 := Tryz.func378.trans (congrArg some (by kernel_rfl))
  f241 := Tryz.func379.trans (congrArg some (by kernel_rfl))
  f263 := Tryz.func472.trans (congrArg some (by kernel_rfl))
  f264 := Tryz.func473.trans (congrArg some (by kernel_rfl))
  f276 := Tryz.func441.trans (congrArg some (by kernel_rfl))
  f277 := Tryz.func442.trans (congrArg some (by kernel_rfl))
  t0 := Tryz.underlying0
  a0 := Tryz.isAgg0
  z0 := Tryz.sizeOf0
  v0 := Tryz.zeroValue0
  t3 := Tryz.underlying3
  a3 := Tryz.isAgg3
  z3 := Tryz.sizeOf3
  v3 := Tryz.zeroValue3
  t4 := Tryz.underlying4
  a4 := Tryz.isAgg4
  z4 := Tryz.sizeOf4
  v4 := Tryz.zeroValue4
  t5 := Tryz.underlying5
  a5 := Tryz.isAgg5
  z5 := Tryz.sizeOf5
  v5 := Tryz.zeroValue5
  t9 := Tryz.underlying9
  a9 := Tryz.isAgg9
  z9 := Tryz.sizeOf9
  v9 := Tryz.zeroValue9
  t20 := Tryz.underlying20
  a20 := Tryz.isAgg20
  z20 := Tryz.sizeOf20
  v20 := Tryz.zeroValue20
  t37 := Tryz.underlying119
  a37 := Tryz.isAgg119
  z37 := Tryz.sizeOf119
  v37 := Tryz.zeroValue119
  t46 := Tryz.underlying263
  a46 := Tryz.isAgg263
  z46 := Tryz.sizeOf263
  v46 := Tryz.zeroValue263
  t51 := Tryz.underlying348
  a51 := Tryz.isAgg348
  z51 := Tryz.sizeOf348
  v51 := Tryz.zeroValue348
  t53 := Tryz.underlying373
  a53 := Tryz.isAgg373
  z53 := Tryz.sizeOf373
  v53 := Tryz.zeroValue373
  t70 := Tryz.underlying269
  a70 := Tryz.isAgg269
  z70 := Tryz.sizeOf269
  v70 := Tryz.zeroValue269
  t72 := Tryz.underlying271
  a72 := Tryz.isAgg271
  z72 := Tryz.sizeOf271
  v72 := Tryz.zeroValue271
  t75 := Tryz.underlying274
  a75 := Tryz.isAgg274
  z75 := Tryz.sizeOf274
  v75 := Tryz.zeroValue274
  t76 := Tryz.underlying275
  a76 := Tryz.isAgg275
  z76 := Tryz.sizeOf275
  v76 := Tryz.zeroValue275
  t109 := Tryz.underlying335
  a109 := Tryz.isAgg335
  z109 := Tryz.sizeOf335
  v109 := Tryz.zeroValue335
  t127 := Tryz.underlying326
  a127 := Tryz.isAgg326
  z127 := Tryz.sizeOf326
  v127 := Tryz.zeroValue326
  t146 := Tryz.underlying371
  a146 := Tryz.isAgg371
  z146 := Tryz.sizeOf371
  v146 := Tryz.zeroValue371
  t148 := Tryz.underlying374
  a148 := Tryz.isAgg374
  z148 := Tryz.sizeOf374
  v148 := Tryz.zeroValue374
  t164 := Tryz.underlying354
  a164 := Tryz.isAgg354
  z164 := Tryz.sizeOf354
  v164 := Tryz.zeroValue354 }
def Tryz.lays217_ren : Go.Shelf.Ren := ⟨fun | 217 => 294 | 266 => 375 | n => n, fun | 9 => 9 | 5 => 5 | 3 => 3 | n => n, fun | n => n⟩
theorem Tryz.lays217 : Go.Proofs.Lays.n217 Tryz.prog Tryz.lays217_ren := {
  mixed := by kernel_rfl
  f217 := Tryz.func294.trans (congrArg some (by kernel_rfl))
  f266 := Tryz.func375.trans (congrArg some (by kernel_rfl))
  t3 := Tryz.underlying3
  a3 := Tryz.isAgg3
  z3 := Tryz.sizeOf3
  v3 := Tryz.zeroValue3
  t5 := Tryz.underlying5
  a5 := Tryz.isAgg5
  z5 := Tryz.sizeOf5
  v5 := Tryz.zeroValue5
  t9 := Tryz.underlying9
  a9 := Tryz.isAgg9
  z9 := Tryz.sizeOf9
  v9 := Tryz.zeroValue9 }
end Go.Proofs
