/- The library's sort of integers, over this program. No condition. -/
import Derived.Test.YteidfkbfocdnmaaGreatProg
import Derived.KernelRfl
import Derived.Shelf.Slices.In.SortNone
import Derived.Shelf.Slices.In.SortAlone
import Derived.Test.YteidfkbfocdnmaaGreatT
import Derived.Test.YteidfkbfocdnmaaGreatAm36
namespace Am
open Go Go.Proofs Go.Sort
set_option maxRecDepth 100000
def laysSortI_ren : Go.Shelf.Ren := ⟨fun | 189 => 176 | 125 => 273 | 257 => 294 | 128 => 363 | 129 => 364 | 294 => 378 | 295 => 379 | 296 => 380 | 297 => 381 | 298 => 382 | 299 => 383 | 216 => 384 | 300 => 385 | 301 => 386 | 328 => 428 | 329 => 412 | 330 => 413 | 331 => 429 | 332 => 430 | 215 => 374 | 343 => 443 | n => n, fun | 28 => 26 | 3 => 3 | 46 => 261 | 0 => 0 | 51 => 291 | 53 => 330 | 4 => 4 | 183 => 323 | 182 => 322 | 131 => 270 | 5 => 5 | 9 => 9 | 218 => 359 | 222 => 363 | 228 => 380 | 229 => 381 | n => n, fun n => n⟩
theorem laysSortI : Go.Proofs.Lays.n189 Tryz.prog laysSortI_ren where
  mixed := by kernel_rfl
  f125 := Tryz.func273.trans (congrArg some (by kernel_rfl))
  f128 := Tryz.func363.trans (congrArg some (by kernel_rfl))
  f129 := Tryz.func364.trans (congrArg some (by kernel_rfl))
  f189 := Tryz.func176.trans (congrArg some (by kernel_rfl))
  f215 := Tryz.func374.trans (congrArg some (by kernel_rfl))
  f216 := Tryz.func384.trans (congrArg some (by kernel_rfl))
  f257 := Tryz.func294.trans (congrArg some (by kernel_rfl))
  f294 := Tryz.func378.trans (congrArg some (by kernel_rfl))
  f295 := Tryz.func379.trans (congrArg some (by kernel_rfl))
  f296 := Tryz.func380.trans (congrArg some (by kernel_rfl))
  f297 := Tryz.func381.trans (congrArg some (by kernel_rfl))
  f298 := Tryz.func382.trans (congrArg some (by kernel_rfl))
  f299 := Tryz.func383.trans (congrArg some (by kernel_rfl))
  f300 := Tryz.func385.trans (congrArg some (by kernel_rfl))
  f301 := Tryz.func386.trans (congrArg some (by kernel_rfl))
  f328 := Tryz.func428.trans (congrArg some (by kernel_rfl))
  f329 := Tryz.func412.trans (congrArg some (by kernel_rfl))
  f330 := Tryz.func413.trans (congrArg some (by kernel_rfl))
  f331 := Tryz.func429.trans (congrArg some (by kernel_rfl))
  f332 := Tryz.func430.trans (congrArg some (by kernel_rfl))
  f343 := Tryz.func443.trans (congrArg some (by kernel_rfl))
  t0 := Tryz.underlying0
  a0 := Tryz.isAgg0
  z0 := Tryz.sizeOf0
  v0 := Tryz.zeroValue0
  t3 := Tryz.underlying3
  a3 := Tryz.isAgg3
  z3 := Tryz.sizeOf3
  v3 := Tryz.zeroValue3
  t4 := Tryz.underlying4
  a4 := Tryz.isAgg4
  z4 := Tryz.sizeOf4
  v4 := Tryz.zeroValue4
  t5 := Tryz.underlying5
  a5 := Tryz.isAgg5
  z5 := Tryz.sizeOf5
  v5 := Tryz.zeroValue5
  t9 := Tryz.underlying9
  a9 := Tryz.isAgg9
  z9 := Tryz.sizeOf9
  v9 := Tryz.zeroValue9
  t28 := Tryz.underlying26
  a28 := Tryz.isAgg26
  z28 := Tryz.sizeOf26
  v28 := Tryz.zeroValue26
  t46 := Tryz.underlying261
  a46 := Tryz.isAgg261
  z46 := Tryz.sizeOf261
  v46 := Tryz.zeroValue261
  t51 := Tryz.underlying291
  a51 := Tryz.isAgg291
  z51 := Tryz.sizeOf291
  v51 := Tryz.zeroValue291
  t53 := Tryz.underlying330
  a53 := Tryz.isAgg330
  z53 := Tryz.sizeOf330
  v53 := Tryz.zeroValue330
  t131 := Tryz.underlying270
  a131 := Tryz.isAgg270
  z131 := Tryz.sizeOf270
  v131 := Tryz.zeroValue270
  t182 := Tryz.underlying322
  a182 := Tryz.isAgg322
  z182 := Tryz.sizeOf322
  v182 := Tryz.zeroValue322
  t183 := Tryz.underlying323
  a183 := Tryz.isAgg323
  z183 := Tryz.sizeOf323
  v183 := Tryz.zeroValue323
  t218 := Tryz.underlying359
  a218 := Tryz.isAgg359
  z218 := Tryz.sizeOf359
  v218 := Tryz.zeroValue359
  t222 := Tryz.underlying363
  a222 := Tryz.isAgg363
  z222 := Tryz.sizeOf363
  v222 := Tryz.zeroValue363
  t228 := Tryz.underlying380
  a228 := Tryz.isAgg380
  z228 := Tryz.sizeOf380
  v228 := Tryz.zeroValue380
  t229 := Tryz.underlying381
  a229 := Tryz.isAgg381
  z229 := Tryz.sizeOf381
  v229 := Tryz.zeroValue381
theorem f176_ok (xs : List Int) (hx : xs.length ≤ 1073741824) : FnW Tryz.prog 176 [.v (.ow 3 1 xs.length (flat xs))] (.tup []) [.v (.ow 3 1 xs.length (flat (sortI xs)))] :=
  FnW_sortI ⟨⟨Tryz.f176, by kernel_rfl, rfl, by kernel_rfl⟩⟩ (fun p cap w => calls_of_every_depth fun D => AnyS.slices_Sort_int_none_alone laysSortI D p cap w)
    (fun blk off cap zs w hH hb hl => calls_of_every_depth fun D => AnyS.slices_Sort_int_alone laysSortI D blk off cap zs w hH hb hl) xs hx
end Am
