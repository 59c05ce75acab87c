/-
  slices.Sort and slices.Compact on numbers: the shelf's contracts laid at this program, field by field. Printed by a program.
-/
import Derived.Shelf.Sort.Plain
import Derived.Shelf.Slices.CompactI
import Derived.Test.YteijofkkggifhaaProg
namespace Go.Proofs
def Try.sortI_ren : Go.Shelf.Ren := ⟨fun | 189 => 160 | 125 => 190 | 257 => 189 | 128 => 206 | 129 => 207 | 294 => 197 | 295 => 198 | 296 => 199 | 297 => 200 | 298 => 201 | 299 => 202 | 216 => 203 | 300 => 204 | 301 => 205 | 328 => 209 | 329 => 210 | 330 => 211 | 331 => 212 | 332 => 213 | 215 => 153 | 343 => 214 | n => n, fun | 28 => 80 | 3 => 3 | 46 => 185 | 0 => 0 | 51 => 242 | 53 => 244 | 4 => 4 | 183 => 236 | 182 => 235 | 131 => 93 | 5 => 5 | 9 => 9 | 218 => 245 | 222 => 249 | 228 => 251 | 229 => 146 | n => n, fun | n => n⟩
theorem Try.sortI : Go.Proofs.Lays.n189 Try.prog Try.sortI_ren where
  mixed := by kernel_rfl
  f125 := Try.func190.trans (congrArg some (by kernel_rfl))
  f128 := Try.func206.trans (congrArg some (by kernel_rfl))
  f129 := Try.func207.trans (congrArg some (by kernel_rfl))
  f189 := Try.func160.trans (congrArg some (by kernel_rfl))
  f215 := Try.func153.trans (congrArg some (by kernel_rfl))
  f216 := Try.func203.trans (congrArg some (by kernel_rfl))
  f257 := Try.func189.trans (congrArg some (by kernel_rfl))
  f294 := Try.func197.trans (congrArg some (by kernel_rfl))
  f295 := Try.func198.trans (congrArg some (by kernel_rfl))
  f296 := Try.func199.trans (congrArg some (by kernel_rfl))
  f297 := Try.func200.trans (congrArg some (by kernel_rfl))
  f298 := Try.func201.trans (congrArg some (by kernel_rfl))
  f299 := Try.func202.trans (congrArg some (by kernel_rfl))
  f300 := Try.func204.trans (congrArg some (by kernel_rfl))
  f301 := Try.func205.trans (congrArg some (by kernel_rfl))
  f328 := Try.func209.trans (congrArg some (by kernel_rfl))
  f329 := Try.func210.trans (congrArg some (by kernel_rfl))
  f330 := Try.func211.trans (congrArg some (by kernel_rfl))
  f331 := Try.func212.trans (congrArg some (by kernel_rfl))
  f332 := Try.func213.trans (congrArg some (by kernel_rfl))
  f343 := Try.func214.trans (congrArg some (by kernel_rfl))
  t0 := Try.underlying0
  a0 := Try.isAgg0
  z0 := Try.sizeOf0
  v0 := Try.zeroValue0
  t3 := Try.underlying3
  a3 := Try.isAgg3
  z3 := Try.sizeOf3
  v3 := Try.zeroValue3
  t4 := Try.underlying4
  a4 := Try.isAgg4
  z4 := Try.sizeOf4
  v4 := Try.zeroValue4
  t5 := Try.underlying5
  a5 := Try.isAgg5
  z5 := Try.sizeOf5
  v5 := Try.zeroValue5
  t9 := Try.underlying9
  a9 := Try.isAgg9
  z9 := Try.sizeOf9
  v9 := Try.zeroValue9
  t28 := Try.underlying80
  a28 := Try.isAgg80
  z28 := Try.sizeOf80
  v28 := Try.zeroValue80
  t46 := Try.underlying185
  a46 := Try.isAgg185
  z46 := Try.sizeOf185
  v46 := Try.zeroValue185
  t51 := Try.underlying242
  a51 := Try.isAgg242
  z51 := Try.sizeOf242
  v51 := Try.zeroValue242
  t53 := Try.underlying244
  a53 := Try.isAgg244
  z53 := Try.sizeOf244
  v53 := Try.zeroValue244
  t131 := Try.underlying93
  a131 := Try.isAgg93
  z131 := Try.sizeOf93
  v131 := Try.zeroValue93
  t182 := Try.underlying235
  a182 := Try.isAgg235
  z182 := Try.sizeOf235
  v182 := Try.zeroValue235
  t183 := Try.underlying236
  a183 := Try.isAgg236
  z183 := Try.sizeOf236
  v183 := Try.zeroValue236
  t218 := Try.underlying245
  a218 := Try.isAgg245
  z218 := Try.sizeOf245
  v218 := Try.zeroValue245
  t222 := Try.underlying249
  a222 := Try.isAgg249
  z222 := Try.sizeOf249
  v222 := Try.zeroValue249
  t228 := Try.underlying251
  a228 := Try.isAgg251
  z228 := Try.sizeOf251
  v228 := Try.zeroValue251
  t229 := Try.underlying146
  a229 := Try.isAgg146
  z229 := Try.sizeOf146
  v229 := Try.zeroValue146
def Try.compI_ren : Go.Shelf.Ren := ⟨fun | 20 => 168 | n => n, fun | 22 => 80 | 3 => 3 | 4 => 4 | 0 => 0 | n => n, fun | n => n⟩
theorem Try.compI : Go.Proofs.Lays2.n20 Try.prog Try.compI_ren where
  mixed := by kernel_rfl
  f20 := Try.func168.trans (congrArg some (by kernel_rfl))
  t0 := Try.underlying0
  a0 := Try.isAgg0
  z0 := Try.sizeOf0
  v0 := Try.zeroValue0
  t3 := Try.underlying3
  a3 := Try.isAgg3
  z3 := Try.sizeOf3
  v3 := Try.zeroValue3
  t4 := Try.underlying4
  a4 := Try.isAgg4
  z4 := Try.sizeOf4
  v4 := Try.zeroValue4
  t22 := Try.underlying80
  a22 := Try.isAgg80
  z22 := Try.sizeOf80
  v22 := Try.zeroValue80
  i3 := by kernel_rfl
end Go.Proofs
