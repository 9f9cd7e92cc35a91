/-
  DERIVED: THE SHELF's CONTRACTS AT THIS DUMP, IN PLAIN WORDS (tools/lay-plain.mjs out of 'TrySortRaw.lean', which tools/lay-shelf.mjs wrote): THE SAME DECLARATIONS UNDER THE SAME NAMES: 'import', 'namespace', 'open', 'def', 'theorem' AND NOTHING ELSE: no command of the shelf's: FOR A HAND-IN. Each laying: the table of numbers ('.._ren') and one theorem, a field a fact of the dump's own or the kernel's comparison; each contract: ONE APPLICATION.
-/
import Derived.Shelf.SortG.Plain
import Derived.Shelf.SortG.SortNone
import Derived.Ground.SlgnProg
import Derived.Test.YtoifonocjfhinaaProg
namespace Go.Proofs
open Go.Shelf
def Try.laysSort_ren : Go.Shelf.Ren := ⟨fun | 53 => 76 | 64 => 137 | 63 => 136 | 78 => 184 | 79 => 185 | 70 => 175 | 71 => 176 | 72 => 177 | 73 => 178 | 74 => 179 | 75 => 180 | 59 => 181 | 76 => 182 | 77 => 183 | 88 => 200 | 89 => 201 | 90 => 202 | 91 => 203 | 92 => 204 | 68 => 116 | 96 => 216 | n => n, fun | 22 => 32 | 23 => 2 | 3 => 3 | 51 => 141 | 0 => 0 | 67 => 218 | 69 => 80 | 4 => 4 | 61 => 211 | 60 => 210 | 44 => 123 | 5 => 5 | 9 => 9 | 75 => 228 | 79 => 232 | 83 => 240 | 84 => 241 | n => n, fun | n => n⟩
theorem Try.laysSort : Go.Proofs.SlLaysN.n53 Try.prog Try.laysSort_ren := {
  mixed := by kernel_rfl
  f53 := ⟨Try.f76.name, by decide, Try.func76.trans (congrArg some (by kernel_rfl))⟩
  f59 := ⟨Try.f181.name, by decide, Try.func181.trans (congrArg some (by kernel_rfl))⟩
  f63 := ⟨Try.f136.name, by decide, Try.func136.trans (congrArg some (by kernel_rfl))⟩
  f64 := Try.func137.trans (congrArg some (by kernel_rfl))
  f68 := ⟨Try.f116.name, by decide, Try.func116.trans (congrArg some (by kernel_rfl))⟩
  f70 := ⟨Try.f175.name, by decide, Try.func175.trans (congrArg some (by kernel_rfl))⟩
  f71 := ⟨Try.f176.name, by decide, Try.func176.trans (congrArg some (by kernel_rfl))⟩
  f72 := ⟨Try.f177.name, by decide, Try.func177.trans (congrArg some (by kernel_rfl))⟩
  f73 := ⟨Try.f178.name, by decide, Try.func178.trans (congrArg some (by kernel_rfl))⟩
  f74 := ⟨Try.f179.name, by decide, Try.func179.trans (congrArg some (by kernel_rfl))⟩
  f75 := ⟨Try.f180.name, by decide, Try.func180.trans (congrArg some (by kernel_rfl))⟩
  f76 := ⟨Try.f182.name, by decide, Try.func182.trans (congrArg some (by kernel_rfl))⟩
  f77 := ⟨Try.f183.name, by decide, Try.func183.trans (congrArg some (by kernel_rfl))⟩
  f78 := Try.func184.trans (congrArg some (by kernel_rfl))
  f79 := Try.func185.trans (congrArg some (by kernel_rfl))
  f88 := ⟨Try.f200.name, by decide, Try.func200.trans (congrArg some (by kernel_rfl))⟩
  f89 := Try.func201.trans (congrArg some (by kernel_rfl))
  f90 := Try.func202.trans (congrArg some (by kernel_rfl))
  f91 := ⟨Try.f203.name, by decide, Try.func203.trans (congrArg some (by kernel_rfl))⟩
  f92 := ⟨Try.f204.name, by decide, Try.func204.trans (congrArg some (by kernel_rfl))⟩
  f96 := ⟨Try.f216.name, by decide, Try.func216.trans (congrArg some (by kernel_rfl))⟩
  t0 := Try.underlying0
  a0 := Try.isAgg0
  z0 := Try.sizeOf0
  v0 := Try.zeroValue0
  t3 := Try.underlying3
  a3 := Try.isAgg3
  z3 := Try.sizeOf3
  v3 := Try.zeroValue3
  t4 := Try.underlying4
  a4 := Try.isAgg4
  z4 := Try.sizeOf4
  v4 := Try.zeroValue4
  t5 := Try.underlying5
  a5 := Try.isAgg5
  z5 := Try.sizeOf5
  v5 := Try.zeroValue5
  t9 := Try.underlying9
  a9 := Try.isAgg9
  z9 := Try.sizeOf9
  v9 := Try.zeroValue9
  t22 := Try.underlying32
  a22 := Try.isAgg32
  z22 := Try.sizeOf32
  v22 := Try.zeroValue32
  t23 := Try.underlying2
  a23 := Try.isAgg2
  z23 := Try.sizeOf2
  v23 := Try.zeroValue2
  t44 := Try.underlying123
  a44 := Try.isAgg123
  z44 := Try.sizeOf123
  v44 := Try.zeroValue123
  t51 := Try.underlying141
  a51 := Try.isAgg141
  z51 := Try.sizeOf141
  v51 := Try.zeroValue141
  t60 := Try.underlying210
  a60 := Try.isAgg210
  z60 := Try.sizeOf210
  v60 := Try.zeroValue210
  t61 := Try.underlying211
  a61 := Try.isAgg211
  z61 := Try.sizeOf211
  v61 := Try.zeroValue211
  t67 := Try.underlying218
  a67 := Try.isAgg218
  z67 := Try.sizeOf218
  v67 := Try.zeroValue218
  t69 := Try.underlying80
  a69 := Try.isAgg80
  z69 := Try.sizeOf80
  v69 := Try.zeroValue80
  t75 := Try.underlying228
  a75 := Try.isAgg228
  z75 := Try.sizeOf228
  v75 := Try.zeroValue228
  t79 := Try.underlying232
  a79 := Try.isAgg232
  z79 := Try.sizeOf232
  v79 := Try.zeroValue232
  t83 := Try.underlying240
  a83 := Try.isAgg240
  z83 := Try.sizeOf240
  v83 := Try.zeroValue240
  t84 := Try.underlying241
  a84 := Try.isAgg241
  z84 := Try.sizeOf241
  v84 := Try.zeroValue241 }
end Go.Proofs
