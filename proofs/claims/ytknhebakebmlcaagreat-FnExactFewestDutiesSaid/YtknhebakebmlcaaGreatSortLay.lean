/-
 slices.Sort and slices.Compact on numbers: the shelf's contracts laid at this program, field by field. Printed by a program.
-/
import Derived.Shelf.Sort.Plain
import Derived.Shelf.Slices.CompactI
import Derived.Test.YtknhebakebmlcaaGreatProg
namespace Go.Proofs
def Tryz.sortI_ren : Go.Shelf.Ren := ⟨fun | 189 => 116 | 125 => 123 | 257 => 139 | 128 => 148 | 129 => 149 | 294 => 165 | 295 => 166 | 296 => 167 | 297 => 168 | 298 => 169 | 299 => 170 | 216 => 171 | 300 => 172 | 301 => 173 | 328 => 188 | 329 => 175 | 330 => 176 | 331 => 189 | 332 => 190 | 215 => 121 | 343 => 192 | n => n, fun | 28 => 66 | 3 => 3 | 46 => 99 | 0 => 0 | 51 => 179 | 53 => 181 | 4 => 4 | 183 => 172 | 182 => 171 | 131 => 176 | 5 => 5 | 9 => 9 | 218 => 199 | 222 => 203 | 228 => 211 | 229 => 91 | n => n, fun | n => n⟩
theorem Tryz.sortI : Go.Proofs.Lays.n189 Tryz.prog Tryz.sortI_ren where
 mixed := by kernel_rfl
 f125 := Tryz.func123.trans (congrArg some (by kernel_rfl))
 f128 := Tryz.func148.trans (congrArg some (by kernel_rfl))
 f129 := Tryz.func149.trans (congrArg some (by kernel_rfl))
 f189 := Tryz.func116.trans (congrArg some (by kernel_rfl))
 f215 := Tryz.func121.trans (congrArg some (by kernel_rfl))
 f216 := Tryz.func171.trans (congrArg some (by kernel_rfl))
 f257 := Tryz.func139.trans (congrArg some (by kernel_rfl))
 f294 := Tryz.func165.trans (congrArg some (by kernel_rfl))
 f295 := Tryz.func166.trans (congrArg some (by kernel_rfl))
 f296 := Tryz.func167.trans (congrArg some (by kernel_rfl))
 f297 := Tryz.func168.trans (congrArg some (by kernel_rfl))
 f298 := Tryz.func169.trans (congrArg some (by kernel_rfl))
 f299 := Tryz.func170.trans (congrArg some (by kernel_rfl))
 f300 := Tryz.func172.trans (congrArg some (by kernel_rfl))
 f301 := Tryz.func173.trans (congrArg some (by kernel_rfl))
 f328 := Tryz.func188.trans (congrArg some (by kernel_rfl))
 f329 := Tryz.func175.trans (congrArg some (by kernel_rfl))
 f330 := Tryz.func176.trans (congrArg some (by kernel_rfl))
 f331 := Tryz.func189.trans (congrArg some (by kernel_rfl))
 f332 := Tryz.func190.trans (congrArg some (by kernel_rfl))
 f343 := Tryz.func192.trans (congrArg some (by kernel_rfl))
 t0 := Tryz.underlying0
 a0 := Tryz.isAgg0
 z0 := Tryz.sizeOf0
 v0 := Tryz.zeroValue0
 t3 := Tryz.underlying3
 a3 := Tryz.isAgg3
 z3 := Tryz.sizeOf3
 v3 := Tryz.zeroValue3
 t4 := Tryz.underlying4
 a4 := Tryz.isAgg4
 z4 := Tryz.sizeOf4
 v4 := Tryz.zeroValue4
 t5 := Tryz.underlying5
 a5 := Tryz.isAgg5
 z5 := Tryz.sizeOf5
 v5 := Tryz.zeroValue5
 t9 := Tryz.underlying9
 a9 := Tryz.isAgg9
 z9 := Tryz.sizeOf9
 v9 := Tryz.zeroValue9
 t28 := Tryz.underlying66
 a28 := Tryz.isAgg66
 z28 := Tryz.sizeOf66
 v28 := Tryz.zeroValue66
 t46 := Tryz.underlying99
 a46 := Tryz.isAgg99
 z46 := Tryz.sizeOf99
 v46 := Tryz.zeroValue99
 t51 := Tryz.underlying179
 a51 := Tryz.isAgg179
 z51 := Tryz.sizeOf179
 v51 := Tryz.zeroValue179
 t53 := Tryz.underlying181
 a53 := Tryz.isAgg181
 z53 := Tryz.sizeOf181
 v53 := Tryz.zeroValue181
 t131 := Tryz.underlying176
 a131 := Tryz.isAgg176
 z131 := Tryz.sizeOf176
 v131 := Tryz.zeroValue176
 t182 := Tryz.underlying171
 a182 := Tryz.isAgg171
 z182 := Tryz.sizeOf171
 v182 := Tryz.zeroValue171
 t183 := Tryz.underlying172
 a183 := Tryz.isAgg172
 z183 := Tryz.sizeOf172
 v183 := Tryz.zeroValue172
 t218 := Tryz.underlying199
 a218 := Tryz.isAgg199
 z218 := Tryz.sizeOf199
 v218 := Tryz.zeroValue199
 t222 := Tryz.underlying203
 a222 := Tryz.isAgg203
 z222 := Tryz.sizeOf203
 v222 := Tryz.zeroValue203
 t228 := Tryz.underlying211
 a228 := Tryz.isAgg211
 z228 := Tryz.sizeOf211
 v228 := Tryz.zeroValue211
 t229 := Tryz.underlying91
 a229 := Tryz.isAgg91
 z229 := Tryz.sizeOf91
 v229 := Tryz.zeroValue91
def Tryz.compI_ren : Go.Shelf.Ren := ⟨fun | 20 => 117 | n => n, fun | 22 => 66 | 3 => 3 | 4 => 4 | 0 => 0 | n => n, fun | n => n⟩
theorem Tryz.compI : Go.Proofs.Lays2.n20 Tryz.prog Tryz.compI_ren where
 mixed := by kernel_rfl
 f20 := Tryz.func117.trans (congrArg some (by kernel_rfl))
 t0 := Tryz.underlying0
 a0 := Tryz.isAgg0
 z0 := Tryz.sizeOf0
 v0 := Tryz.zeroValue0
 t3 := Tryz.underlying3
 a3 := Tryz.isAgg3
 z3 := Tryz.sizeOf3
 v3 := Tryz.zeroValue3
 t4 := Tryz.underlying4
 a4 := Tryz.isAgg4
 z4 := Tryz.sizeOf4
 v4 := Tryz.zeroValue4
 t22 := Tryz.underlying66
 a22 := Tryz.isAgg66
 z22 := Tryz.sizeOf66
 v22 := Tryz.zeroValue66
 i3 := by kernel_rfl
end Go.Proofs
