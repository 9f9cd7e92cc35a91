/-
 DERIVED: THE SHELF's CONTRACTS AT THIS DUMP, IN PLAIN WORDS (tools/lay-plain.mjs out of 'TryzSortRaw.lean', which tools/lay-shelf.mjs wrote): THE SAME DECLARATIONS UNDER THE SAME NAMES: 'import', 'namespace', 'open', 'def', 'theorem' AND NOTHING ELSE: no command of the shelf's: FOR A HAND-IN. Each laying: the table of numbers ('.._ren') and one theorem, a field a fact of the dump's own or the kernel's comparison; each contract: ONE APPLICATION.
-/
import Derived.Shelf.SortG.Plain
import Derived.Shelf.SortG.SortNone
import Derived.Ground.SlgnProg
import Derived.Test.YtapmeemeciigdaaGreatProg
namespace Go.Proofs
open Go.Shelf
def Tryz.laysSort_ren : Go.Shelf.Ren := ⟨fun | 53 => 46 | 64 => 49 | 63 => 84 | 78 => 95 | 79 => 96 | 70 => 127 | 71 => 128 | 72 => 129 | 73 => 130 | 74 => 131 | 75 => 132 | 59 => 133 | 76 => 134 | 77 => 135 | 88 => 169 | 89 => 137 | 90 => 138 | 91 => 170 | 92 => 171 | 68 => 97 | 96 => 187 | n => n, fun | 22 => 109 | 23 => 2 | 3 => 3 | 51 => 115 | 0 => 0 | 67 => 165 | 69 => 79 | 4 => 4 | 61 => 158 | 60 => 157 | 44 => 162 | 5 => 5 | 9 => 9 | 75 => 194 | 79 => 198 | 83 => 217 | 84 => 218 | n => n, fun | n => n⟩
theorem Tryz.laysSort : Go.Proofs.SlLaysN.n53 Tryz.prog Tryz.laysSort_ren := {
 mixed := by kernel_rfl
 f53 := ⟨Tryz.f46.name, by decide, Tryz.func46.trans (congrArg some (by kernel_rfl))⟩
 f59 := ⟨Tryz.f133.name, by decide, Tryz.func133.trans (congrArg some (by kernel_rfl))⟩
 f63 := ⟨Tryz.f84.name, by decide, Tryz.func84.trans (congrArg some (by kernel_rfl))⟩
 f64 := Tryz.func49.trans (congrArg some (by kernel_rfl))
 f68 := ⟨Tryz.f97.name, by decide, Tryz.func97.trans (congrArg some (by kernel_rfl))⟩
 f70 := ⟨Tryz.f127.name, by decide, Tryz.func127.trans (congrArg some (by kernel_rfl))⟩
 f71 := ⟨Tryz.f128.name, by decide, Tryz.func128.trans (congrArg some (by kernel_rfl))⟩
 f72 := ⟨Tryz.f129.name, by decide, Tryz.func129.trans (congrArg some (by kernel_rfl))⟩
 f73 := ⟨Tryz.f130.name, by decide, Tryz.func130.trans (congrArg some (by kernel_rfl))⟩
 f74 := ⟨Tryz.f131.name, by decide, Tryz.func131.trans (congrArg some (by kernel_rfl))⟩
 f75 := ⟨Tryz.f132.name, by decide, Tryz.func132.trans (congrArg some (by kernel_rfl))⟩
 f76 := ⟨Tryz.f134.name, by decide, Tryz.func134.trans (congrArg some (by kernel_rfl))⟩
 f77 := ⟨Tryz.f135.name, by decide, Tryz.func135.trans (congrArg some (by kernel_rfl))⟩
 f78 := Tryz.func95.trans (congrArg some (by kernel_rfl))
 f79 := Tryz.func96.trans (congrArg some (by kernel_rfl))
 f88 := ⟨Tryz.f169.name, by decide, Tryz.func169.trans (congrArg some (by kernel_rfl))⟩
 f89 := Tryz.func137.trans (congrArg some (by kernel_rfl))
 f90 := Tryz.func138.trans (congrArg some (by kernel_rfl))
 f91 := ⟨Tryz.f170.name, by decide, Tryz.func170.trans (congrArg some (by kernel_rfl))⟩
 f92 := ⟨Tryz.f171.name, by decide, Tryz.func171.trans (congrArg some (by kernel_rfl))⟩
 f96 := ⟨Tryz.f187.name, by decide, Tryz.func187.trans (congrArg some (by kernel_rfl))⟩
 t0 := Tryz.underlying0
 a0 := Tryz.isAgg0
 z0 := Tryz.sizeOf0
 v0 := Tryz.zeroValue0
 t3 := Tryz.underlying3
 a3 := Tryz.isAgg3
 z3 := Tryz.sizeOf3
 v3 := Tryz.zeroValue3
 t4 := Tryz.underlying4
 a4 := Tryz.isAgg4
 z4 := Tryz.sizeOf4
 v4 := Tryz.zeroValue4
 t5 := Tryz.underlying5
 a5 := Tryz.isAgg5
 z5 := Tryz.sizeOf5
 v5 := Tryz.zeroValue5
 t9 := Tryz.underlying9
 a9 := Tryz.isAgg9
 z9 := Tryz.sizeOf9
 v9 := Tryz.zeroValue9
 t22 := Tryz.underlying109
 a22 := Tryz.isAgg109
 z22 := Tryz.sizeOf109
 v22 := Tryz.zeroValue109
 t23 := Tryz.underlying2
 a23 := Tryz.isAgg2
 z23 := Tryz.sizeOf2
 v23 := Tryz.zeroValue2
 t44 := Tryz.underlying162
 a44 := Tryz.isAgg162
 z44 := Tryz.sizeOf162
 v44 := Tryz.zeroValue162
 t51 := Tryz.underlying115
 a51 := Tryz.isAgg115
 z51 := Tryz.sizeOf115
 v51 := Tryz.zeroValue115
 t60 := Tryz.underlying157
 a60 := Tryz.isAgg157
 z60 := Tryz.sizeOf157
 v60 := Tryz.zeroValue157
 t61 := Tryz.underlying158
 a61 := Tryz.isAgg158
 z61 := Tryz.sizeOf158
 v61 := Tryz.zeroValue158
 t67 := Tryz.underlying165
 a67 := Tryz.isAgg165
 z67 := Tryz.sizeOf165
 v67 := Tryz.zeroValue165
 t69 := Tryz.underlying79
 a69 := Tryz.isAgg79
 z69 := Tryz.sizeOf79
 v69 := Tryz.zeroValue79
 t75 := Tryz.underlying194
 a75 := Tryz.isAgg194
 z75 := Tryz.sizeOf194
 v75 := Tryz.zeroValue194
 t79 := Tryz.underlying198
 a79 := Tryz.isAgg198
 z79 := Tryz.sizeOf198
 v79 := Tryz.zeroValue198
 t83 := Tryz.underlying217
 a83 := Tryz.isAgg217
 z83 := Tryz.sizeOf217
 v83 := Tryz.zeroValue217
 t84 := Tryz.underlying218
 a84 := Tryz.isAgg218
 z84 := Tryz.sizeOf218
 v84 := Tryz.zeroValue218 }
end Go.Proofs
