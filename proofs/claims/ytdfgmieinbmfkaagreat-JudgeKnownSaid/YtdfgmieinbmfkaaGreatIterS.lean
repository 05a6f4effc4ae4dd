/-
  DERIVED: THE SHELF's CONTRACTS AT THIS DUMP, IN PLAIN WORDS (tools/lay-plain.mjs out of 'TryzIterS.lean', which tools/lay-shelf.mjs wrote): THE SAME DECLARATIONS UNDER THE SAME NAMES: 'import', 'namespace', 'open', 'def', 'theorem' AND NOTHING ELSE: no command of the shelf's: FOR A HAND-IN. Each laying: the table of numbers ('.._ren') and one theorem, a field a fact of the dump's own or the kernel's comparison; each contract: ONE APPLICATION.
-/
import Derived.Shelf.SlIter.Nil
import Derived.Shelf.SlMaps.Clone
import Derived.Ground.GgzProg
import Derived.Ground.SlmcProg
import Derived.Test.YtdfgmieinbmfkaaGreatProg
namespace Go.Proofs
open Go.Shelf
def Tryz.keysB_ren : Go.Shelf.Ren := ⟨fun | 7 => 212 | 10 => 331 | n => n, fun | 23 => 160 | 26 => 9 | 3 => 9 | 28 => 295 | 0 => 0 | 27 => 294 | 33 => 249 | 4 => 4 | n => n, fun | n => n⟩
theorem Tryz.keysB : Go.Proofs.SlLaysZ.n7 Tryz.prog Tryz.keysB_ren := {
  mixed := by kernel_rfl
  f7 := ⟨Tryz.f212.name, by decide, Tryz.func212.trans (congrArg some (by kernel_rfl))⟩
  f10 := ⟨Tryz.f331.name, by decide, Tryz.func331.trans (congrArg some (by kernel_rfl))⟩
  t0 := Tryz.underlying0
  a0 := Tryz.isAgg0
  z0 := Tryz.sizeOf0
  v0 := Tryz.zeroValue0
  t4 := Tryz.underlying4
  a4 := Tryz.isAgg4
  z4 := Tryz.sizeOf4
  v4 := Tryz.zeroValue4
  t23 := Tryz.underlying160
  a23 := Tryz.isAgg160
  z23 := Tryz.sizeOf160
  v23 := Tryz.zeroValue160
  t26 := Tryz.underlying9
  a26 := Tryz.isAgg9
  z26 := Tryz.sizeOf9
  v26 := Tryz.zeroValue9
  t27 := Tryz.underlying294
  a27 := Tryz.isAgg294
  z27 := Tryz.sizeOf294
  v27 := Tryz.zeroValue294
  t28 := Tryz.underlying295
  a28 := Tryz.isAgg295
  z28 := Tryz.sizeOf295
  v28 := Tryz.zeroValue295
  t33 := Tryz.underlying249
  a33 := Tryz.isAgg249
  z33 := Tryz.sizeOf249
  v33 := Tryz.zeroValue249 }
def Tryz.sortedB_ren : Go.Shelf.Ren := ⟨fun | 6 => 211 | 8 => 329 | 9 => 330 | 11 => 409 | 13 => 411 | 12 => 410 | 23 => 482 | 24 => 375 | 14 => 473 | 15 => 474 | 16 => 475 | 17 => 476 | 18 => 477 | 19 => 478 | 20 => 479 | 21 => 480 | 22 => 481 | 25 => 518 | 26 => 519 | 27 => 520 | 28 => 521 | 29 => 522 | 30 => 523 | 31 => 544 | n => n, fun | 26 => 9 | 28 => 295 | 24 => 50 | 0 => 0 | 3 => 3 | 37 => 306 | 48 => 121 | 50 => 127 | 4 => 4 | 40 => 573 | 39 => 572 | 45 => 99 | 5 => 5 | 9 => 9 | 51 => 597 | 55 => 536 | 57 => 613 | 58 => 57 | 33 => 249 | n => n, fun | n => n⟩
theorem Tryz.sortedB : Go.Proofs.SlLaysZ.n6 Tryz.prog Tryz.sortedB_ren := {
  mixed := by kernel_rfl
  f6 := ⟨Tryz.f211.name, by decide, Tryz.func211.trans (congrArg some (by kernel_rfl))⟩
  f8 := ⟨Tryz.f329.name, by decide, Tryz.func329.trans (congrArg some (by kernel_rfl))⟩
  f11 := ⟨Tryz.f409.name, by decide, Tryz.func409.trans (congrArg some (by kernel_rfl))⟩
  t0 := Tryz.underlying0
  a0 := Tryz.isAgg0
  z0 := Tryz.sizeOf0
  v0 := Tryz.zeroValue0
  t24 := Tryz.underlying50
  a24 := Tryz.isAgg50
  z24 := Tryz.sizeOf50
  v24 := Tryz.zeroValue50
  t26 := Tryz.underlying9
  a26 := Tryz.isAgg9
  z26 := Tryz.sizeOf9
  v26 := Tryz.zeroValue9
  t28 := Tryz.underlying295
  a28 := Tryz.isAgg295
  z28 := Tryz.sizeOf295
  v28 := Tryz.zeroValue295
  i26 := by kernel_rfl }
def Tryz.cloneB_ren : Go.Shelf.Ren := ⟨fun | 5 => 297 | 7 => 381 | n => n, fun | 23 => 160 | 25 => 9 | 3 => 9 | 4 => 4 | 20 => 20 | n => n, fun | n => n⟩
theorem Tryz.cloneB : Go.Proofs.SlLaysW.n5 Tryz.prog Tryz.cloneB_ren := {
  mixed := by kernel_rfl
  f5 := ⟨Tryz.f297.name, by decide, Tryz.func297.trans (congrArg some (by kernel_rfl))⟩
  f7 := Tryz.func381.trans (congrArg some (by kernel_rfl))
  t4 := Tryz.underlying4
  a4 := Tryz.isAgg4
  z4 := Tryz.sizeOf4
  v4 := Tryz.zeroValue4
  t20 := Tryz.underlying20
  a20 := Tryz.isAgg20
  z20 := Tryz.sizeOf20
  v20 := Tryz.zeroValue20
  t23 := Tryz.underlying160
  a23 := Tryz.isAgg160
  z23 := Tryz.sizeOf160
  v23 := Tryz.zeroValue160 }
end Go.Proofs
