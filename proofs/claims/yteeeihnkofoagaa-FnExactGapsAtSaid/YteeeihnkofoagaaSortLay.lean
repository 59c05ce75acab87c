/-
  slices.Sort and slices.Compact on numbers: the shelf's contracts laid at this program, field by field. Printed by a program.
-/
import Derived.Shelf.Sort.Plain
import Derived.Shelf.Slices.CompactI
import Derived.Test.YteeeihnkofoagaaProg
namespace Go.Proofs
def Try.sortI_ren : Go.Shelf.Ren := ⟨fun | 189 => 135 | 125 => 159 | 257 => 158 | 128 => 178 | 129 => 179 | 294 => 169 | 295 => 170 | 296 => 171 | 297 => 172 | 298 => 173 | 299 => 174 | 216 => 175 | 300 => 176 | 301 => 177 | 328 => 182 | 329 => 183 | 330 => 184 | 331 => 185 | 332 => 186 | 215 => 187 | 343 => 188 | n => n, fun | 28 => 57 | 3 => 3 | 46 => 170 | 0 => 0 | 51 => 189 | 53 => 191 | 4 => 4 | 183 => 183 | 182 => 182 | 131 => 29 | 5 => 5 | 9 => 9 | 218 => 192 | 222 => 196 | 228 => 198 | 229 => 118 | n => n, fun | n => n⟩
theorem Try.sortI : Go.Proofs.Lays.n189 Try.prog Try.sortI_ren where
  mixed := by kernel_rfl
  f125 := Try.func159.trans (congrArg some (by kernel_rfl))
  f128 := Try.func178.trans (congrArg some (by kernel_rfl))
  f129 := Try.func179.trans (congrArg some (by kernel_rfl))
  f189 := Try.func135.trans (congrArg some (by kernel_rfl))
  f215 := Try.func187.trans (congrArg some (by kernel_rfl))
  f216 := Try.func175.trans (congrArg some (by kernel_rfl))
  f257 := Try.func158.trans (congrArg some (by kernel_rfl))
  f294 := Try.func169.trans (congrArg some (by kernel_rfl))
  f295 := Try.func170.trans (congrArg some (by kernel_rfl))
  f296 := Try.func171.trans (congrArg some (by kernel_rfl))
  f297 := Try.func172.trans (congrArg some (by kernel_rfl))
  f298 := Try.func173.trans (congrArg some (by kernel_rfl))
  f299 := Try.func174.trans (congrArg some (by kernel_rfl))
  f300 := Try.func176.trans (congrArg some (by kernel_rfl))
  f301 := Try.func177.trans (congrArg some (by kernel_rfl))
  f328 := Try.func182.trans (congrArg some (by kernel_rfl))
  f329 := Try.func183.trans (congrArg some (by kernel_rfl))
  f330 := Try.func184.trans (congrArg some (by kernel_rfl))
  f331 := Try.func185.trans (congrArg some (by kernel_rfl))
  f332 := Try.func186.trans (congrArg some (by kernel_rfl))
  f343 := Try.func188.trans (congrArg some (by kernel_rfl))
  t0 := Try.underlying0
  a0 := Try.isAgg0
  z0 := Try.sizeOf0
  v0 := Try.zeroValue0
  t3 := Try.underlying3
  a3 := Try.isAgg3
  z3 := Try.sizeOf3
  v3 := Try.zeroValue3
  t4 := Try.underlying4
  a4 := Try.isAgg4
  z4 := Try.sizeOf4
  v4 := Try.zeroValue4
  t5 := Try.underlying5
  a5 := Try.isAgg5
  z5 := Try.sizeOf5
  v5 := Try.zeroValue5
  t9 := Try.underlying9
  a9 := Try.isAgg9
  z9 := Try.sizeOf9
  v9 := Try.zeroValue9
  t28 := Try.underlying57
  a28 := Try.isAgg57
  z28 := Try.sizeOf57
  v28 := Try.zeroValue57
  t46 := Try.underlying170
  a46 := Try.isAgg170
  z46 := Try.sizeOf170
  v46 := Try.zeroValue170
  t51 := Try.underlying189
  a51 := Try.isAgg189
  z51 := Try.sizeOf189
  v51 := Try.zeroValue189
  t53 := Try.underlying191
  a53 := Try.isAgg191
  z53 := Try.sizeOf191
  v53 := Try.zeroValue191
  t131 := Try.underlying29
  a131 := Try.isAgg29
  z131 := Try.sizeOf29
  v131 := Try.zeroValue29
  t182 := Try.underlying182
  a182 := Try.isAgg182
  z182 := Try.sizeOf182
  v182 := Try.zeroValue182
  t183 := Try.underlying183
  a183 := Try.isAgg183
  z183 := Try.sizeOf183
  v183 := Try.zeroValue183
  t218 := Try.underlying192
  a218 := Try.isAgg192
  z218 := Try.sizeOf192
  v218 := Try.zeroValue192
  t222 := Try.underlying196
  a222 := Try.isAgg196
  z222 := Try.sizeOf196
  v222 := Try.zeroValue196
  t228 := Try.underlying198
  a228 := Try.isAgg198
  z228 := Try.sizeOf198
  v228 := Try.zeroValue198
  t229 := Try.underlying118
  a229 := Try.isAgg118
  z229 := Try.sizeOf118
  v229 := Try.zeroValue118
def Try.compI_ren : Go.Shelf.Ren := ⟨fun | 20 => 143 | n => n, fun | 22 => 57 | 3 => 3 | 4 => 4 | 0 => 0 | n => n, fun | n => n⟩
theorem Try.compI : Go.Proofs.Lays2.n20 Try.prog Try.compI_ren where
  mixed := by kernel_rfl
  f20 := Try.func143.trans (congrArg some (by kernel_rfl))
  t0 := Try.underlying0
  a0 := Try.isAgg0
  z0 := Try.sizeOf0
  v0 := Try.zeroValue0
  t3 := Try.underlying3
  a3 := Try.isAgg3
  z3 := Try.sizeOf3
  v3 := Try.zeroValue3
  t4 := Try.underlying4
  a4 := Try.isAgg4
  z4 := Try.sizeOf4
  v4 := Try.zeroValue4
  t22 := Try.underlying57
  a22 := Try.isAgg57
  z22 := Try.sizeOf57
  v22 := Try.zeroValue57
  i3 := by kernel_rfl
end Go.Proofs
