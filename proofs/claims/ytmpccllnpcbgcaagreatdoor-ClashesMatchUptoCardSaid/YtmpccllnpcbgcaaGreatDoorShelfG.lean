/-
  DERIVED: THE SHELF's CONTRACTS AT THIS DUMP, IN PLAIN WORDS (tools/lay-plain.mjs out of 'YtmpccllnpcbgcaaGreatDoorShelfGSoft.lean', which tools/lay-shelf.mjs wrote): THE SAME DECLARATIONS UNDER THE SAME NAMES: 'import', 'namespace', 'open', 'def', 'theorem' AND NOTHING ELSE: no command of the shelf's: FOR A HAND-IN. Each laying: the table of numbers ('.._ren') and one theorem, a field a fact of the dump's own or the kernel's comparison; each contract: ONE APPLICATION.
-/
import Derived.Ground.SlsfProg
import Derived.Shelf.SlGeneric
import Derived.Shelf.SlLaysF0
import Derived.Test.YtmpccllnpcbgcaaGreatDoorProg
namespace Go.Proofs
open Go.Shelf
def Tryz.sortItm_ren : Go.Shelf.Ren := ⟨fun | 6 => 138 | 15 => 232 | 14 => 231 | 28 => 283 | 29 => 284 | 20 => 275 | 21 => 276 | 22 => 277 | 23 => 278 | 24 => 279 | 25 => 280 | 26 => 281 | 27 => 282 | 46 => 313 | 47 => 314 | 48 => 315 | 49 => 316 | 50 => 317 | 57 => 330 | n => n, fun | 22 => 79 | 24 => 104 | 25 => 216 | 3 => 3 | 39 => 284 | 0 => 0 | 53 => 328 | 55 => 330 | 4 => 4 | 46 => 322 | 45 => 321 | 50 => 143 | 5 => 5 | 9 => 9 | 66 => 354 | 70 => 358 | 76 => 371 | 77 => 372 | n => n, fun | n => n⟩
theorem Tryz.sortItm : Go.Proofs.SlLaysF0.n6 Tryz.prog Tryz.sortItm_ren := {
  mixed := by kernel_rfl
  f6 := ⟨Tryz.f138.name, by decide, Tryz.func138.trans (congrArg some (by kernel_rfl))⟩
  f14 := ⟨Tryz.f231.name, by decide, Tryz.func231.trans (congrArg some (by kernel_rfl))⟩
  f15 := Tryz.func232.trans (congrArg some (by kernel_rfl))
  f20 := ⟨Tryz.f275.name, by decide, Tryz.func275.trans (congrArg some (by kernel_rfl))⟩
  f21 := ⟨Tryz.f276.name, by decide, Tryz.func276.trans (congrArg some (by kernel_rfl))⟩
  f22 := ⟨Tryz.f277.name, by decide, Tryz.func277.trans (congrArg some (by kernel_rfl))⟩
  f23 := ⟨Tryz.f278.name, by decide, Tryz.func278.trans (congrArg some (by kernel_rfl))⟩
  f24 := ⟨Tryz.f279.name, by decide, Tryz.func279.trans (congrArg some (by kernel_rfl))⟩
  f25 := ⟨Tryz.f280.name, by decide, Tryz.func280.trans (congrArg some (by kernel_rfl))⟩
  f26 := ⟨Tryz.f281.name, by decide, Tryz.func281.trans (congrArg some (by kernel_rfl))⟩
  f27 := ⟨Tryz.f282.name, by decide, Tryz.func282.trans (congrArg some (by kernel_rfl))⟩
  f28 := Tryz.func283.trans (congrArg some (by kernel_rfl))
  f29 := Tryz.func284.trans (congrArg some (by kernel_rfl))
  f46 := ⟨Tryz.f313.name, by decide, Tryz.func313.trans (congrArg some (by kernel_rfl))⟩
  f47 := Tryz.func314.trans (congrArg some (by kernel_rfl))
  f48 := Tryz.func315.trans (congrArg some (by kernel_rfl))
  f49 := ⟨Tryz.f316.name, by decide, Tryz.func316.trans (congrArg some (by kernel_rfl))⟩
  f50 := ⟨Tryz.f317.name, by decide, Tryz.func317.trans (congrArg some (by kernel_rfl))⟩
  f57 := ⟨Tryz.f330.name, by decide, Tryz.func330.trans (congrArg some (by kernel_rfl))⟩
  t0 := Tryz.underlying0
  a0 := Tryz.isAgg0
  z0 := Tryz.sizeOf0
  v0 := Tryz.zeroValue0
  t3 := Tryz.underlying3
  a3 := Tryz.isAgg3
  z3 := Tryz.sizeOf3
  v3 := Tryz.zeroValue3
  t4 := Tryz.underlying4
  a4 := Tryz.isAgg4
  z4 := Tryz.sizeOf4
  v4 := Tryz.zeroValue4
  t5 := Tryz.underlying5
  a5 := Tryz.isAgg5
  z5 := Tryz.sizeOf5
  v5 := Tryz.zeroValue5
  t9 := Tryz.underlying9
  a9 := Tryz.isAgg9
  z9 := Tryz.sizeOf9
  v9 := Tryz.zeroValue9
  t22 := Tryz.underlying79
  a22 := Tryz.isAgg79
  z22 := Tryz.sizeOf79
  v22 := Tryz.zeroValue79
  t25 := Tryz.underlying216
  a25 := Tryz.isAgg216
  z25 := Tryz.sizeOf216
  v25 := Tryz.zeroValue216
  t39 := Tryz.underlying284
  a39 := Tryz.isAgg284
  z39 := Tryz.sizeOf284
  v39 := Tryz.zeroValue284
  t45 := Tryz.underlying321
  a45 := Tryz.isAgg321
  z45 := Tryz.sizeOf321
  v45 := Tryz.zeroValue321
  t46 := Tryz.underlying322
  a46 := Tryz.isAgg322
  z46 := Tryz.sizeOf322
  v46 := Tryz.zeroValue322
  t50 := Tryz.underlying143
  a50 := Tryz.isAgg143
  z50 := Tryz.sizeOf143
  v50 := Tryz.zeroValue143
  t53 := Tryz.underlying328
  a53 := Tryz.isAgg328
  z53 := Tryz.sizeOf328
  v53 := Tryz.zeroValue328
  t55 := Tryz.underlying330
  a55 := Tryz.isAgg330
  z55 := Tryz.sizeOf330
  v55 := Tryz.zeroValue330
  t66 := Tryz.underlying354
  a66 := Tryz.isAgg354
  z66 := Tryz.sizeOf354
  v66 := Tryz.zeroValue354
  t70 := Tryz.underlying358
  a70 := Tryz.isAgg358
  z70 := Tryz.sizeOf358
  v70 := Tryz.zeroValue358
  t76 := Tryz.underlying371
  a76 := Tryz.isAgg371
  z76 := Tryz.sizeOf371
  v76 := Tryz.zeroValue371
  t77 := Tryz.underlying372
  a77 := Tryz.isAgg372
  z77 := Tryz.sizeOf372
  v77 := Tryz.zeroValue372 }
end Go.Proofs
