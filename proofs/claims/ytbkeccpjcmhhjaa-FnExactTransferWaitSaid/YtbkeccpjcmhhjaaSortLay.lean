/-
  slices.Sort and slices.Compact on numbers: the shelf's contracts laid at this program, field by field. Printed by a program.
-/
import Derived.Shelf.Sort.Plain
import Derived.Shelf.Slices.CompactI
import Derived.Test.YtbkeccpjcmhhjaaProg
namespace Go.Proofs
def Try.sortI_ren : Go.Shelf.Ren := ⟨fun | 189 => 229 | 125 => 259 | 257 => 258 | 128 => 276 | 129 => 277 | 294 => 267 | 295 => 268 | 296 => 269 | 297 => 270 | 298 => 271 | 299 => 272 | 216 => 273 | 300 => 274 | 301 => 275 | 328 => 279 | 329 => 280 | 330 => 281 | 331 => 282 | 332 => 283 | 215 => 231 | 343 => 285 | n => n, fun | 28 => 111 | 3 => 3 | 46 => 258 | 0 => 0 | 51 => 305 | 53 => 307 | 4 => 4 | 183 => 299 | 182 => 298 | 131 => 46 | 5 => 5 | 9 => 9 | 218 => 308 | 222 => 312 | 228 => 314 | 229 => 182 | n => n, fun | n => n⟩
theorem Try.sortI : Go.Proofs.Lays.n189 Try.prog Try.sortI_ren where
  mixed := by kernel_rfl
  f125 := Try.func259.trans (congrArg some (by kernel_rfl))
  f128 := Try.func276.trans (congrArg some (by kernel_rfl))
  f129 := Try.func277.trans (congrArg some (by kernel_rfl))
  f189 := Try.func229.trans (congrArg some (by kernel_rfl))
  f215 := Try.func231.trans (congrArg some (by kernel_rfl))
  f216 := Try.func273.trans (congrArg some (by kernel_rfl))
  f257 := Try.func258.trans (congrArg some (by kernel_rfl))
  f294 := Try.func267.trans (congrArg some (by kernel_rfl))
  f295 := Try.func268.trans (congrArg some (by kernel_rfl))
  f296 := Try.func269.trans (congrArg some (by kernel_rfl))
  f297 := Try.func270.trans (congrArg some (by kernel_rfl))
  f298 := Try.func271.trans (congrArg some (by kernel_rfl))
  f299 := Try.func272.trans (congrArg some (by kernel_rfl))
  f300 := Try.func274.trans (congrArg some (by kernel_rfl))
  f301 := Try.func275.trans (congrArg some (by kernel_rfl))
  f328 := Try.func279.trans (congrArg some (by kernel_rfl))
  f329 := Try.func280.trans (congrArg some (by kernel_rfl))
  f330 := Try.func281.trans (congrArg some (by kernel_rfl))
  f331 := Try.func282.trans (congrArg some (by kernel_rfl))
  f332 := Try.func283.trans (congrArg some (by kernel_rfl))
  f343 := Try.func285.trans (congrArg some (by kernel_rfl))
  t0 := Try.underlying0
  a0 := Try.isAgg0
  z0 := Try.sizeOf0
  v0 := Try.zeroValue0
  t3 := Try.underlying3
  a3 := Try.isAgg3
  z3 := Try.sizeOf3
  v3 := Try.zeroValue3
  t4 := Try.underlying4
  a4 := Try.isAgg4
  z4 := Try.sizeOf4
  v4 := Try.zeroValue4
  t5 := Try.underlying5
  a5 := Try.isAgg5
  z5 := Try.sizeOf5
  v5 := Try.zeroValue5
  t9 := Try.underlying9
  a9 := Try.isAgg9
  z9 := Try.sizeOf9
  v9 := Try.zeroValue9
  t28 := Try.underlying111
  a28 := Try.isAgg111
  z28 := Try.sizeOf111
  v28 := Try.zeroValue111
  t46 := Try.underlying258
  a46 := Try.isAgg258
  z46 := Try.sizeOf258
  v46 := Try.zeroValue258
  t51 := Try.underlying305
  a51 := Try.isAgg305
  z51 := Try.sizeOf305
  v51 := Try.zeroValue305
  t53 := Try.underlying307
  a53 := Try.isAgg307
  z53 := Try.sizeOf307
  v53 := Try.zeroValue307
  t131 := Try.underlying46
  a131 := Try.isAgg46
  z131 := Try.sizeOf46
  v131 := Try.zeroValue46
  t182 := Try.underlying298
  a182 := Try.isAgg298
  z182 := Try.sizeOf298
  v182 := Try.zeroValue298
  t183 := Try.underlying299
  a183 := Try.isAgg299
  z183 := Try.sizeOf299
  v183 := Try.zeroValue299
  t218 := Try.underlying308
  a218 := Try.isAgg308
  z218 := Try.sizeOf308
  v218 := Try.zeroValue308
  t222 := Try.underlying312
  a222 := Try.isAgg312
  z222 := Try.sizeOf312
  v222 := Try.zeroValue312
  t228 := Try.underlying314
  a228 := Try.isAgg314
  z228 := Try.sizeOf314
  v228 := Try.zeroValue314
  t229 := Try.underlying182
  a229 := Try.isAgg182
  z229 := Try.sizeOf182
  v229 := Try.zeroValue182
def Try.compI_ren : Go.Shelf.Ren := ⟨fun | 20 => 236 | n => n, fun | 22 => 111 | 3 => 3 | 4 => 4 | 0 => 0 | n => n, fun | n => n⟩
theorem Try.compI : Go.Proofs.Lays2.n20 Try.prog Try.compI_ren where
  mixed := by kernel_rfl
  f20 := Try.func236.trans (congrArg some (by kernel_rfl))
  t0 := Try.underlying0
  a0 := Try.isAgg0
  z0 := Try.sizeOf0
  v0 := Try.zeroValue0
  t3 := Try.underlying3
  a3 := Try.isAgg3
  z3 := Try.sizeOf3
  v3 := Try.zeroValue3
  t4 := Try.underlying4
  a4 := Try.isAgg4
  z4 := Try.sizeOf4
  v4 := Try.zeroValue4
  t22 := Try.underlying111
  a22 := Try.isAgg111
  z22 := Try.sizeOf111
  v22 := Try.zeroValue111
  i3 := by kernel_rfl
end Go.Proofs
