/- The library's sort of integers, over this program. No condition. -/
import Derived.Test.YtblhppnhiaombaaGreatProg
import Derived.KernelRfl
import Derived.Shelf.Slices.In.SortNone
import Derived.Shelf.Slices.In.SortAlone
import Derived.Test.YtblhppnhiaombaaGreatT
import Derived.Test.YtblhppnhiaombaaGreatAm36
namespace Am
open Go Go.Proofs Go.Sort
set_option maxRecDepth 100000
def laysSortI_ren : Go.Shelf.Ren := ⟨fun | 189 => 109 | 125 => 201 | 257 => 200 | 128 => 258 | 129 => 259 | 294 => 249 | 295 => 250 | 296 => 251 | 297 => 252 | 298 => 253 | 299 => 254 | 216 => 255 | 300 => 256 | 301 => 257 | 328 => 274 | 329 => 275 | 330 => 276 | 331 => 277 | 332 => 278 | 215 => 279 | 343 => 307 | n => n, fun | 28 => 22 | 3 => 3 | 46 => 223 | 0 => 0 | 51 => 262 | 53 => 264 | 4 => 4 | 183 => 255 | 182 => 254 | 131 => 247 | 5 => 5 | 9 => 9 | 218 => 273 | 222 => 277 | 228 => 296 | 229 => 297 | n => n, fun n => n⟩
theorem laysSortI : Go.Proofs.Lays.n189 Tryz.prog laysSortI_ren where
  mixed := by kernel_rfl
  f125 := Tryz.func201.trans (congrArg some (by kernel_rfl))
  f128 := Tryz.func258.trans (congrArg some (by kernel_rfl))
  f129 := Tryz.func259.trans (congrArg some (by kernel_rfl))
  f189 := Tryz.func109.trans (congrArg some (by kernel_rfl))
  f215 := Tryz.func279.trans (congrArg some (by kernel_rfl))
  f216 := Tryz.func255.trans (congrArg some (by kernel_rfl))
  f257 := Tryz.func200.trans (congrArg some (by kernel_rfl))
  f294 := Tryz.func249.trans (congrArg some (by kernel_rfl))
  f295 := Tryz.func250.trans (congrArg some (by kernel_rfl))
  f296 := Tryz.func251.trans (congrArg some (by kernel_rfl))
  f297 := Tryz.func252.trans (congrArg some (by kernel_rfl))
  f298 := Tryz.func253.trans (congrArg some (by kernel_rfl))
  f299 := Tryz.func254.trans (congrArg some (by kernel_rfl))
  f300 := Tryz.func256.trans (congrArg some (by kernel_rfl))
  f301 := Tryz.func257.trans (congrArg some (by kernel_rfl))
  f328 := Tryz.func274.trans (congrArg some (by kernel_rfl))
  f329 := Tryz.func275.trans (congrArg some (by kernel_rfl))
  f330 := Tryz.func276.trans (congrArg some (by kernel_rfl))
  f331 := Tryz.func277.trans (congrArg some (by kernel_rfl))
  f332 := Tryz.func278.trans (congrArg some (by kernel_rfl))
  f343 := Tryz.func307.trans (congrArg some (by kernel_rfl))
  t0 := Tryz.underlying0
  a0 := Tryz.isAgg0
  z0 := Tryz.sizeOf0
  v0 := Tryz.zeroValue0
  t3 := Tryz.underlying3
  a3 := Tryz.isAgg3
  z3 := Tryz.sizeOf3
  v3 := Tryz.zeroValue3
  t4 := Tryz.underlying4
  a4 := Tryz.isAgg4
  z4 := Tryz.sizeOf4
  v4 := Tryz.zeroValue4
  t5 := Tryz.underlying5
  a5 := Tryz.isAgg5
  z5 := Tryz.sizeOf5
  v5 := Tryz.zeroValue5
  t9 := Tryz.underlying9
  a9 := Tryz.isAgg9
  z9 := Tryz.sizeOf9
  v9 := Tryz.zeroValue9
  t28 := Tryz.underlying22
  a28 := Tryz.isAgg22
  z28 := Tryz.sizeOf22
  v28 := Tryz.zeroValue22
  t46 := Tryz.underlying223
  a46 := Tryz.isAgg223
  z46 := Tryz.sizeOf223
  v46 := Tryz.zeroValue223
  t51 := Tryz.underlying262
  a51 := Tryz.isAgg262
  z51 := Tryz.sizeOf262
  v51 := Tryz.zeroValue262
  t53 := Tryz.underlying264
  a53 := Tryz.isAgg264
  z53 := Tryz.sizeOf264
  v53 := Tryz.zeroValue264
  t131 := Tryz.underlying247
  a131 := Tryz.isAgg247
  z131 := Tryz.sizeOf247
  v131 := Tryz.zeroValue247
  t182 := Tryz.underlying254
  a182 := Tryz.isAgg254
  z182 := Tryz.sizeOf254
  v182 := Tryz.zeroValue254
  t183 := Tryz.underlying255
  a183 := Tryz.isAgg255
  z183 := Tryz.sizeOf255
  v183 := Tryz.zeroValue255
  t218 := Tryz.underlying273
  a218 := Tryz.isAgg273
  z218 := Tryz.sizeOf273
  v218 := Tryz.zeroValue273
  t222 := Tryz.underlying277
  a222 := Tryz.isAgg277
  z222 := Tryz.sizeOf277
  v222 := Tryz.zeroValue277
  t228 := Tryz.underlying296
  a228 := Tryz.isAgg296
  z228 := Tryz.sizeOf296
  v228 := Tryz.zeroValue296
  t229 := Tryz.underlying297
  a229 := Tryz.isAgg297
  z229 := Tryz.sizeOf297
  v229 := Tryz.zeroValue297
theorem f109_ok (xs : List Int) (hx : xs.length ≤ 1073741824) : FnW Tryz.prog 109 [.v (.ow 3 1 xs.length (flat xs))] (.tup []) [.v (.ow 3 1 xs.length (flat (sortI xs)))] :=
  FnW_sortI ⟨⟨Tryz.f109, by kernel_rfl, rfl, by kernel_rfl⟩⟩ (fun p cap w => calls_of_every_depth fun D => AnyS.slices_Sort_int_none_alone laysSortI D p cap w)
    (fun blk off cap zs w hH hb hl => calls_of_every_depth fun D => AnyS.slices_Sort_int_alone laysSortI D blk off cap zs w hH hb hl) xs hx
end Am
