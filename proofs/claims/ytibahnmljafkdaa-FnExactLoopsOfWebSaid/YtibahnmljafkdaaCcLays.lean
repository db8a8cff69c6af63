/- The library's sort and compact of whole numbers, laid at this program: what the library's contracts ask of it. -/
import Derived.Test.YtibahnmljafkdaaProg
import Derived.KernelRfl
import Derived.Shelf.Sort.Plain
import Derived.Shelf.Slices.In.SortNone
import Derived.Shelf.Slices.CompactI
import Derived.Shelf.Slices.Empties
namespace Go.Proofs.Ytibahnmljafkdaa.P
open Go.Shelf
set_option linter.unusedVariables false
def laysSort_ren : Go.Shelf.Ren := ⟨fun | 189 => 82 | 125 => 97 | 257 => 96 | 128 => 111 | 129 => 112 | 294 => 102 | 295 => 103 | 296 => 104 | 297 => 105 | 298 => 106 | 299 => 107 | 216 => 108 | 300 => 109 | 301 => 110 | 328 => 114 | 329 => 115 | 330 => 116 | 331 => 117 | 332 => 118 | 215 => 99 | 343 => 119 | n => n, fun | 28 => 68 | 3 => 3 | 46 => 110 | 0 => 0 | 51 => 123 | 53 => 125 | 4 => 4 | 183 => 115 | 182 => 114 | 131 => 120 | 5 => 5 | 9 => 9 | 218 => 126 | 222 => 130 | 228 => 132 | 229 => 133 | n => n, fun | n => n⟩
theorem laysSort : Go.Proofs.Lays.n189 Try.prog laysSort_ren := {
 mixed := by kernel_rfl
 f125 := Try.func97.trans (congrArg some (by kernel_rfl))
 f128 := Try.func111.trans (congrArg some (by kernel_rfl))
 f129 := Try.func112.trans (congrArg some (by kernel_rfl))
 f189 := Try.func82.trans (congrArg some (by kernel_rfl))
 f215 := Try.func99.trans (congrArg some (by kernel_rfl))
 f216 := Try.func108.trans (congrArg some (by kernel_rfl))
 f257 := Try.func96.trans (congrArg some (by kernel_rfl))
 f294 := Try.func102.trans (congrArg some (by kernel_rfl))
 f295 := Try.func103.trans (congrArg some (by kernel_rfl))
 f296 := Try.func104.trans (congrArg some (by kernel_rfl))
 f297 := Try.func105.trans (congrArg some (by kernel_rfl))
 f298 := Try.func106.trans (congrArg some (by kernel_rfl))
 f299 := Try.func107.trans (congrArg some (by kernel_rfl))
 f300 := Try.func109.trans (congrArg some (by kernel_rfl))
 f301 := Try.func110.trans (congrArg some (by kernel_rfl))
 f328 := Try.func114.trans (congrArg some (by kernel_rfl))
 f329 := Try.func115.trans (congrArg some (by kernel_rfl))
 f330 := Try.func116.trans (congrArg some (by kernel_rfl))
 f331 := Try.func117.trans (congrArg some (by kernel_rfl))
 f332 := Try.func118.trans (congrArg some (by kernel_rfl))
 f343 := Try.func119.trans (congrArg some (by kernel_rfl))
 t0 := Try.underlying0
 a0 := Try.isAgg0
 z0 := Try.sizeOf0
 v0 := Try.zeroValue0
 t3 := Try.underlying3
 a3 := Try.isAgg3
 z3 := Try.sizeOf3
 v3 := Try.zeroValue3
 t4 := Try.underlying4
 a4 := Try.isAgg4
 z4 := Try.sizeOf4
 v4 := Try.zeroValue4
 t5 := Try.underlying5
 a5 := Try.isAgg5
 z5 := Try.sizeOf5
 v5 := Try.zeroValue5
 t9 := Try.underlying9
 a9 := Try.isAgg9
 z9 := Try.sizeOf9
 v9 := Try.zeroValue9
 t28 := Try.underlying68
 a28 := Try.isAgg68
 z28 := Try.sizeOf68
 v28 := Try.zeroValue68
 t46 := Try.underlying110
 a46 := Try.isAgg110
 z46 := Try.sizeOf110
 v46 := Try.zeroValue110
 t51 := Try.underlying123
 a51 := Try.isAgg123
 z51 := Try.sizeOf123
 v51 := Try.zeroValue123
 t53 := Try.underlying125
 a53 := Try.isAgg125
 z53 := Try.sizeOf125
 v53 := Try.zeroValue125
 t131 := Try.underlying120
 a131 := Try.isAgg120
 z131 := Try.sizeOf120
 v131 := Try.zeroValue120
 t182 := Try.underlying114
 a182 := Try.isAgg114
 z182 := Try.sizeOf114
 v182 := Try.zeroValue114
 t183 := Try.underlying115
 a183 := Try.isAgg115
 z183 := Try.sizeOf115
 v183 := Try.zeroValue115
 t218 := Try.underlying126
 a218 := Try.isAgg126
 z218 := Try.sizeOf126
 v218 := Try.zeroValue126
 t222 := Try.underlying130
 a222 := Try.isAgg130
 z222 := Try.sizeOf130
 v222 := Try.zeroValue130
 t228 := Try.underlying132
 a228 := Try.isAgg132
 z228 := Try.sizeOf132
 v228 := Try.zeroValue132
 t229 := Try.underlying133
 a229 := Try.isAgg133
 z229 := Try.sizeOf133
 v229 := Try.zeroValue133 }
def laysCompact_ren : Go.Shelf.Ren := ⟨fun | 20 => 83 | n => n, fun | 22 => 68 | 3 => 3 | 4 => 4 | 0 => 0 | n => n, fun | n => n⟩
theorem laysCompact : Go.Proofs.Lays2.n20 Try.prog laysCompact_ren := {
 mixed := by kernel_rfl
 f20 := Try.func83.trans (congrArg some (by kernel_rfl))
 t0 := Try.underlying0
 a0 := Try.isAgg0
 z0 := Try.sizeOf0
 v0 := Try.zeroValue0
 t3 := Try.underlying3
 a3 := Try.isAgg3
 z3 := Try.sizeOf3
 v3 := Try.zeroValue3
 t4 := Try.underlying4
 a4 := Try.isAgg4
 z4 := Try.sizeOf4
 v4 := Try.zeroValue4
 t22 := Try.underlying68
 a22 := Try.isAgg68
 z22 := Try.sizeOf68
 v22 := Try.zeroValue68
 i3 := by kernel_rfl }
end Go.Proofs.Ytibahnmljafkdaa.P
