/-
  DERIVED: THE SHELF's CONTRACTS AT THIS DUMP, IN PLAIN WORDS (tools/lay-plain.mjs out of 'TrySortRaw.lean', which tools/lay-shelf.mjs wrote): THE SAME DECLARATIONS UNDER THE SAME NAMES: 'import', 'namespace', 'open', 'def', 'theorem' AND NOTHING ELSE: no command of the shelf's: FOR A HAND-IN. Each laying: the table of numbers ('.._ren') and one theorem, a field a fact of the dump's own or the kernel's comparison; each contract: ONE APPLICATION.
-/
import Derived.Shelf.SortG.Plain
import Derived.Shelf.SortG.SortNone
import Derived.Ground.SlgnProg
import Derived.Test.YtglpfinmioppcaaProg
namespace Go.Proofs
open Go.Shelf
def Try.laysSort_ren : Go.Shelf.Ren := ⟨fun | 53 => 43 | 64 => 55 | 63 => 54 | 78 => 70 | 79 => 71 | 70 => 61 | 71 => 62 | 72 => 63 | 73 => 64 | 74 => 65 | 75 => 66 | 59 => 67 | 76 => 68 | 77 => 69 | 88 => 72 | 89 => 73 | 90 => 74 | 91 => 75 | 92 => 76 | 68 => 77 | 96 => 78 | n => n, fun | 22 => 28 | 23 => 2 | 3 => 3 | 51 => 92 | 0 => 0 | 67 => 105 | 69 => 66 | 4 => 4 | 61 => 97 | 60 => 96 | 44 => 102 | 5 => 5 | 9 => 9 | 75 => 107 | 79 => 111 | 83 => 113 | 84 => 114 | n => n, fun | n => n⟩
theorem Try.laysSort : Go.Proofs.SlLaysN.n53 Try.prog Try.laysSort_ren := {
  mixed := by kernel_rfl
  f53 := ⟨Try.f43.name, by decide, Try.func43.trans (congrArg some (by kernel_rfl))⟩
  f59 := ⟨Try.f67.name, by decide, Try.func67.trans (congrArg some (by kernel_rfl))⟩
  f63 := ⟨Try.f54.name, by decide, Try.func54.trans (congrArg some (by kernel_rfl))⟩
  f64 := Try.func55.trans (congrArg some (by kernel_rfl))
  f68 := ⟨Try.f77.name, by decide, Try.func77.trans (congrArg some (by kernel_rfl))⟩
  f70 := ⟨Try.f61.name, by decide, Try.func61.trans (congrArg some (by kernel_rfl))⟩
  f71 := ⟨Try.f62.name, by decide, Try.func62.trans (congrArg some (by kernel_rfl))⟩
  f72 := ⟨Try.f63.name, by decide, Try.func63.trans (congrArg some (by kernel_rfl))⟩
  f73 := ⟨Try.f64.name, by decide, Try.func64.trans (congrArg some (by kernel_rfl))⟩
  f74 := ⟨Try.f65.name, by decide, Try.func65.trans (congrArg some (by kernel_rfl))⟩
  f75 := ⟨Try.f66.name, by decide, Try.func66.trans (congrArg some (by kernel_rfl))⟩
  f76 := ⟨Try.f68.name, by decide, Try.func68.trans (congrArg some (by kernel_rfl))⟩
  f77 := ⟨Try.f69.name, by decide, Try.func69.trans (congrArg some (by kernel_rfl))⟩
  f78 := Try.func70.trans (congrArg some (by kernel_rfl))
  f79 := Try.func71.trans (congrArg some (by kernel_rfl))
  f88 := ⟨Try.f72.name, by decide, Try.func72.trans (congrArg some (by kernel_rfl))⟩
  f89 := Try.func73.trans (congrArg some (by kernel_rfl))
  f90 := Try.func74.trans (congrArg some (by kernel_rfl))
  f91 := ⟨Try.f75.name, by decide, Try.func75.trans (congrArg some (by kernel_rfl))⟩
  f92 := ⟨Try.f76.name, by decide, Try.func76.trans (congrArg some (by kernel_rfl))⟩
  f96 := ⟨Try.f78.name, by decide, Try.func78.trans (congrArg some (by kernel_rfl))⟩
  t0 := Try.underlying0
  a0 := Try.isAgg0
  z0 := Try.sizeOf0
  v0 := Try.zeroValue0
  t3 := Try.underlying3
  a3 := Try.isAgg3
  z3 := Try.sizeOf3
  v3 := Try.zeroValue3
  t4 := Try.underlying4
  a4 := Try.isAgg4
  z4 := Try.sizeOf4
  v4 := Try.zeroValue4
  t5 := Try.underlying5
  a5 := Try.isAgg5
  z5 := Try.sizeOf5
  v5 := Try.zeroValue5
  t9 := Try.underlying9
  a9 := Try.isAgg9
  z9 := Try.sizeOf9
  v9 := Try.zeroValue9
  t22 := Try.underlying28
  a22 := Try.isAgg28
  z22 := Try.sizeOf28
  v22 := Try.zeroValue28
  t23 := Try.underlying2
  a23 := Try.isAgg2
  z23 := Try.sizeOf2
  v23 := Try.zeroValue2
  t44 := Try.underlying102
  a44 := Try.isAgg102
  z44 := Try.sizeOf102
  v44 := Try.zeroValue102
  t51 := Try.underlying92
  a51 := Try.isAgg92
  z51 := Try.sizeOf92
  v51 := Try.zeroValue92
  t60 := Try.underlying96
  a60 := Try.isAgg96
  z60 := Try.sizeOf96
  v60 := Try.zeroValue96
  t61 := Try.underlying97
  a61 := Try.isAgg97
  z61 := Try.sizeOf97
  v61 := Try.zeroValue97
  t67 := Try.underlying105
  a67 := Try.isAgg105
  z67 := Try.sizeOf105
  v67 := Try.zeroValue105
  t69 := Try.underlying66
  a69 := Try.isAgg66
  z69 := Try.sizeOf66
  v69 := Try.zeroValue66
  t75 := Try.underlying107
  a75 := Try.isAgg107
  z75 := Try.sizeOf107
  v75 := Try.zeroValue107
  t79 := Try.underlying111
  a79 := Try.isAgg111
  z79 := Try.sizeOf111
  v79 := Try.zeroValue111
  t83 := Try.underlying113
  a83 := Try.isAgg113
  z83 := Try.sizeOf113
  v83 := Try.zeroValue113
  t84 := Try.underlying114
  a84 := Try.isAgg114
  z84 := Try.sizeOf114
  v84 := Try.zeroValue114 }
end Go.Proofs
