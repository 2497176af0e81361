/-
  DERIVED: THE SHELF's CONTRACTS AT THIS DUMP, IN PLAIN WORDS (tools/lay-plain.mjs out of 'TryzShelf.lean', which tools/lay-shelf.mjs wrote): THE SAME DECLARATIONS UNDER THE SAME NAMES: 'import', 'namespace', 'open', 'def', 'theorem' AND NOTHING ELSE: no command of the shelf's: FOR A HAND-IN. Each laying: the table of numbers ('.._ren') and one theorem, a field a fact of the dump's own or the kernel's comparison; each contract: ONE APPLICATION.
-/
import Derived.Shelf.SlSortCmp.WholeK
import Derived.Ground.SlsfProg
import Derived.Test.YtdkimcnlhmhpgaaGreatProg
namespace Go.Proofs
open Go.Shelf
def Tryz.sortRun_ren : Go.Shelf.Ren := ⟨fun | 6 => 184 | 15 => 240 | 14 => 239 | 28 => 279 | 29 => 280 | 20 => 271 | 21 => 272 | 22 => 273 | 23 => 274 | 24 => 275 | 25 => 276 | 26 => 277 | 27 => 278 | 46 => 294 | 47 => 295 | 48 => 296 | 49 => 297 | 50 => 298 | 57 => 302 | n => n, fun | 22 => 56 | 24 => 128 | 25 => 246 | 3 => 3 | 39 => 147 | 0 => 0 | 53 => 32 | 55 => 55 | 4 => 4 | 46 => 313 | 45 => 312 | 50 => 276 | 5 => 5 | 9 => 9 | 66 => 326 | 70 => 329 | 76 => 331 | 77 => 332 | n => n, fun | n => n⟩
theorem Tryz.sortRun : Go.Proofs.SlLaysF0.n6 Tryz.prog Tryz.sortRun_ren := {
  mixed := by kernel_rfl
  f6 := ⟨Tryz.f184.name, by decide, Tryz.func184.trans (congrArg some (by kernel_rfl))⟩
  f14 := ⟨Tryz.f239.name, by decide, Tryz.func239.trans (congrArg some (by kernel_rfl))⟩
  f15 := Tryz.func240.trans (congrArg some (by kernel_rfl))
  f20 := ⟨Tryz.f271.name, by decide, Tryz.func271.trans (congrArg some (by kernel_rfl))⟩
  f21 := ⟨Tryz.f272.name, by decide, Tryz.func272.trans (congrArg some (by kernel_rfl))⟩
  f22 := ⟨Tryz.f273.name, by decide, Tryz.func273.trans (congrArg some (by kernel_rfl))⟩
  f23 := ⟨Tryz.f274.name, by decide, Tryz.func274.trans (congrArg some (by kernel_rfl))⟩
  f24 := ⟨Tryz.f275.name, by decide, Tryz.func275.trans (congrArg some (by kernel_rfl))⟩
  f25 := ⟨Tryz.f276.name, by decide, Tryz.func276.trans (congrArg some (by kernel_rfl))⟩
  f26 := ⟨Tryz.f277.name, by decide, Tryz.func277.trans (congrArg some (by kernel_rfl))⟩
  f27 := ⟨Tryz.f278.name, by decide, Tryz.func278.trans (congrArg some (by kernel_rfl))⟩
  f28 := Tryz.func279.trans (congrArg some (by kernel_rfl))
  f29 := Tryz.func280.trans (congrArg some (by kernel_rfl))
  f46 := ⟨Tryz.f294.name, by decide, Tryz.func294.trans (congrArg some (by kernel_rfl))⟩
  f47 := Tryz.func295.trans (congrArg some (by kernel_rfl))
  f48 := Tryz.func296.trans (congrArg some (by kernel_rfl))
  f49 := ⟨Tryz.f297.name, by decide, Tryz.func297.trans (congrArg some (by kernel_rfl))⟩
  f50 := ⟨Tryz.f298.name, by decide, Tryz.func298.trans (congrArg some (by kernel_rfl))⟩
  f57 := ⟨Tryz.f302.name, by decide, Tryz.func302.trans (congrArg some (by kernel_rfl))⟩
  t0 := Tryz.underlying0
  a0 := Tryz.isAgg0
  z0 := Tryz.sizeOf0
  v0 := Tryz.zeroValue0
  t3 := Tryz.underlying3
  a3 := Tryz.isAgg3
  z3 := Tryz.sizeOf3
  v3 := Tryz.zeroValue3
  t4 := Tryz.underlying4
  a4 := Tryz.isAgg4
  z4 := Tryz.sizeOf4
  v4 := Tryz.zeroValue4
  t5 := Tryz.underlying5
  a5 := Tryz.isAgg5
  z5 := Tryz.sizeOf5
  v5 := Tryz.zeroValue5
  t9 := Tryz.underlying9
  a9 := Tryz.isAgg9
  z9 := Tryz.sizeOf9
  v9 := Tryz.zeroValue9
  t22 := Tryz.underlying56
  a22 := Tryz.isAgg56
  z22 := Tryz.sizeOf56
  v22 := Tryz.zeroValue56
  t25 := Tryz.underlying246
  a25 := Tryz.isAgg246
  z25 := Tryz.sizeOf246
  v25 := Tryz.zeroValue246
  t39 := Tryz.underlying147
  a39 := Tryz.isAgg147
  z39 := Tryz.sizeOf147
  v39 := Tryz.zeroValue147
  t45 := Tryz.underlying312
  a45 := Tryz.isAgg312
  z45 := Tryz.sizeOf312
  v45 := Tryz.zeroValue312
  t46 := Tryz.underlying313
  a46 := Tryz.isAgg313
  z46 := Tryz.sizeOf313
  v46 := Tryz.zeroValue313
  t50 := Tryz.underlying276
  a50 := Tryz.isAgg276
  z50 := Tryz.sizeOf276
  v50 := Tryz.zeroValue276
  t53 := Tryz.underlying32
  a53 := Tryz.isAgg32
  z53 := Tryz.sizeOf32
  v53 := Tryz.zeroValue32
  t55 := Tryz.underlying55
  a55 := Tryz.isAgg55
  z55 := Tryz.sizeOf55
  v55 := Tryz.zeroValue55
  t66 := Tryz.underlying326
  a66 := Tryz.isAgg326
  z66 := Tryz.sizeOf326
  v66 := Tryz.zeroValue326
  t70 := Tryz.underlying329
  a70 := Tryz.isAgg329
  z70 := Tryz.sizeOf329
  v70 := Tryz.zeroValue329
  t76 := Tryz.underlying331
  a76 := Tryz.isAgg331
  z76 := Tryz.sizeOf331
  v76 := Tryz.zeroValue331
  t77 := Tryz.underlying332
  a77 := Tryz.isAgg332
  z77 := Tryz.sizeOf332
  v77 := Tryz.zeroValue332 }
end Go.Proofs
