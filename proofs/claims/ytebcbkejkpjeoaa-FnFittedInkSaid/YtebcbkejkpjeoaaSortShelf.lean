/-
  DERIVED: THE SHELF's CONTRACTS AT THIS DUMP, IN PLAIN WORDS (tools/lay-plain.mjs out of 'TrySortRaw.lean', which tools/lay-shelf.mjs wrote): THE SAME DECLARATIONS UNDER THE SAME NAMES: 'import', 'namespace', 'open', 'def', 'theorem' AND NOTHING ELSE: no command of the shelf's: FOR A HAND-IN. Each laying: the table of numbers ('.._ren') and one theorem, a field a fact of the dump's own or the kernel's comparison; each contract: ONE APPLICATION.
-/
import Derived.Shelf.SortG.Plain
import Derived.Shelf.SortG.SortNone
import Derived.Ground.SlgnProg
import Derived.Test.YtebcbkejkpjeoaaProg
namespace Go.Proofs
open Go.Shelf
def Try.laysSort_ren : Go.Shelf.Ren := ⟨fun | 53 => 193 | 64 => 209 | 63 => 208 | 78 => 226 | 79 => 227 | 70 => 217 | 71 => 218 | 72 => 219 | 73 => 220 | 74 => 221 | 75 => 222 | 59 => 223 | 76 => 224 | 77 => 225 | 88 => 235 | 89 => 236 | 90 => 237 | 91 => 238 | 92 => 239 | 68 => 189 | 96 => 242 | n => n, fun | 22 => 45 | 23 => 2 | 3 => 3 | 51 => 105 | 0 => 0 | 67 => 236 | 69 => 35 | 4 => 4 | 61 => 228 | 60 => 227 | 44 => 233 | 5 => 5 | 9 => 9 | 75 => 240 | 79 => 244 | 83 => 248 | 84 => 249 | n => n, fun | n => n⟩
theorem Try.laysSort : Go.Proofs.SlLaysN.n53 Try.prog Try.laysSort_ren := {
  mixed := by kernel_rfl
  f53 := ⟨Try.f193.name, by decide, Try.func193.trans (congrArg some (by kernel_rfl))⟩
  f59 := ⟨Try.f223.name, by decide, Try.func223.trans (congrArg some (by kernel_rfl))⟩
  f63 := ⟨Try.f208.name, by decide, Try.func208.trans (congrArg some (by kernel_rfl))⟩
  f64 := Try.func209.trans (congrArg some (by kernel_rfl))
  f68 := ⟨Try.f189.name, by decide, Try.func189.trans (congrArg some (by kernel_rfl))⟩
  f70 := ⟨Try.f217.name, by decide, Try.func217.trans (congrArg some (by kernel_rfl))⟩
  f71 := ⟨Try.f218.name, by decide, Try.func218.trans (congrArg some (by kernel_rfl))⟩
  f72 := ⟨Try.f219.name, by decide, Try.func219.trans (congrArg some (by kernel_rfl))⟩
  f73 := ⟨Try.f220.name, by decide, Try.func220.trans (congrArg some (by kernel_rfl))⟩
  f74 := ⟨Try.f221.name, by decide, Try.func221.trans (congrArg some (by kernel_rfl))⟩
  f75 := ⟨Try.f222.name, by decide, Try.func222.trans (congrArg some (by kernel_rfl))⟩
  f76 := ⟨Try.f224.name, by decide, Try.func224.trans (congrArg some (by kernel_rfl))⟩
  f77 := ⟨Try.f225.name, by decide, Try.func225.trans (congrArg some (by kernel_rfl))⟩
  f78 := Try.func226.trans (congrArg some (by kernel_rfl))
  f79 := Try.func227.trans (congrArg some (by kernel_rfl))
  f88 := ⟨Try.f235.name, by decide, Try.func235.trans (congrArg some (by kernel_rfl))⟩
  f89 := Try.func236.trans (congrArg some (by kernel_rfl))
  f90 := Try.func237.trans (congrArg some (by kernel_rfl))
  f91 := ⟨Try.f238.name, by decide, Try.func238.trans (congrArg some (by kernel_rfl))⟩
  f92 := ⟨Try.f239.name, by decide, Try.func239.trans (congrArg some (by kernel_rfl))⟩
  f96 := ⟨Try.f242.name, by decide, Try.func242.trans (congrArg some (by kernel_rfl))⟩
  t0 := Try.underlying0
  a0 := Try.isAgg0
  z0 := Try.sizeOf0
  v0 := Try.zeroValue0
  t3 := Try.underlying3
  a3 := Try.isAgg3
  z3 := Try.sizeOf3
  v3 := Try.zeroValue3
  t4 := Try.underlying4
  a4 := Try.isAgg4
  z4 := Try.sizeOf4
  v4 := Try.zeroValue4
  t5 := Try.underlying5
  a5 := Try.isAgg5
  z5 := Try.sizeOf5
  v5 := Try.zeroValue5
  t9 := Try.underlying9
  a9 := Try.isAgg9
  z9 := Try.sizeOf9
  v9 := Try.zeroValue9
  t22 := Try.underlying45
  a22 := Try.isAgg45
  z22 := Try.sizeOf45
  v22 := Try.zeroValue45
  t23 := Try.underlying2
  a23 := Try.isAgg2
  z23 := Try.sizeOf2
  v23 := Try.zeroValue2
  t44 := Try.underlying233
  a44 := Try.isAgg233
  z44 := Try.sizeOf233
  v44 := Try.zeroValue233
  t51 := Try.underlying105
  a51 := Try.isAgg105
  z51 := Try.sizeOf105
  v51 := Try.zeroValue105
  t60 := Try.underlying227
  a60 := Try.isAgg227
  z60 := Try.sizeOf227
  v60 := Try.zeroValue227
  t61 := Try.underlying228
  a61 := Try.isAgg228
  z61 := Try.sizeOf228
  v61 := Try.zeroValue228
  t67 := Try.underlying236
  a67 := Try.isAgg236
  z67 := Try.sizeOf236
  v67 := Try.zeroValue236
  t69 := Try.underlying35
  a69 := Try.isAgg35
  z69 := Try.sizeOf35
  v69 := Try.zeroValue35
  t75 := Try.underlying240
  a75 := Try.isAgg240
  z75 := Try.sizeOf240
  v75 := Try.zeroValue240
  t79 := Try.underlying244
  a79 := Try.isAgg244
  z79 := Try.sizeOf244
  v79 := Try.zeroValue244
  t83 := Try.underlying248
  a83 := Try.isAgg248
  z83 := Try.sizeOf248
  v83 := Try.zeroValue248
  t84 := Try.underlying249
  a84 := Try.isAgg249
  z84 := Try.sizeOf249
  v84 := Try.zeroValue249 }
end Go.Proofs
