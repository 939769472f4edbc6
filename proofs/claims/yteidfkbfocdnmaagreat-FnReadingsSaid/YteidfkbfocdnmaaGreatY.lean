/- The library's sort and compaction of strings, over this program. No condition. -/
import Derived.Test.YteidfkbfocdnmaaGreatProg
import Derived.KernelRfl
import Derived.Shelf.Slices.In.CompactS
import Derived.Shelf.Slices.In.SortNone
import Derived.Shelf.Slices.In.SortAlone
import Derived.Test.YteidfkbfocdnmaaGreatT
import Derived.Test.YteidfkbfocdnmaaGreatAm33
namespace Am
open Go Go.Proofs Go.Sort
set_option maxRecDepth 100000
def laysSort_ren : Go.Shelf.Ren := ⟨fun | 190 => 292 | 125 => 273 | 258 => 377 | 128 => 363 | 129 => 364 | 302 => 419 | 303 => 420 | 304 => 421 | 305 => 422 | 306 => 423 | 307 => 424 | 308 => 425 | 309 => 426 | 310 => 427 | 333 => 440 | 329 => 412 | 330 => 413 | 334 => 441 | 335 => 442 | 336 => 274 | 344 => 446 | n => n, fun | 31 => 67 | 9 => 9 | 3 => 3 | 46 => 261 | 0 => 0 | 51 => 291 | 53 => 330 | 4 => 4 | 183 => 323 | 182 => 322 | 131 => 270 | 5 => 5 | 218 => 359 | 222 => 363 | 228 => 380 | 229 => 381 | n => n, fun n => n⟩
theorem laysSort : Go.Proofs.Lays.n190 Tryz.prog laysSort_ren where
  mixed := by kernel_rfl
  f125 := Tryz.func273.trans (congrArg some (by kernel_rfl))
  f128 := Tryz.func363.trans (congrArg some (by kernel_rfl))
  f129 := Tryz.func364.trans (congrArg some (by kernel_rfl))
  f190 := Tryz.func292.trans (congrArg some (by kernel_rfl))
  f258 := Tryz.func377.trans (congrArg some (by kernel_rfl))
  f302 := Tryz.func419.trans (congrArg some (by kernel_rfl))
  f303 := Tryz.func420.trans (congrArg some (by kernel_rfl))
  f304 := Tryz.func421.trans (congrArg some (by kernel_rfl))
  f305 := Tryz.func422.trans (congrArg some (by kernel_rfl))
  f306 := Tryz.func423.trans (congrArg some (by kernel_rfl))
  f307 := Tryz.func424.trans (congrArg some (by kernel_rfl))
  f308 := Tryz.func425.trans (congrArg some (by kernel_rfl))
  f309 := Tryz.func426.trans (congrArg some (by kernel_rfl))
  f310 := Tryz.func427.trans (congrArg some (by kernel_rfl))
  f329 := Tryz.func412.trans (congrArg some (by kernel_rfl))
  f330 := Tryz.func413.trans (congrArg some (by kernel_rfl))
  f333 := Tryz.func440.trans (congrArg some (by kernel_rfl))
  f334 := Tryz.func441.trans (congrArg some (by kernel_rfl))
  f335 := Tryz.func442.trans (congrArg some (by kernel_rfl))
  f336 := Tryz.func274.trans (congrArg some (by kernel_rfl))
  f344 := Tryz.func446.trans (congrArg some (by kernel_rfl))
  t0 := Tryz.underlying0
  a0 := Tryz.isAgg0
  z0 := Tryz.sizeOf0
  v0 := Tryz.zeroValue0
  t3 := Tryz.underlying3
  a3 := Tryz.isAgg3
  z3 := Tryz.sizeOf3
  v3 := Tryz.zeroValue3
  t4 := Tryz.underlying4
  a4 := Tryz.isAgg4
  z4 := Tryz.sizeOf4
  v4 := Tryz.zeroValue4
  t5 := Tryz.underlying5
  a5 := Tryz.isAgg5
  z5 := Tryz.sizeOf5
  v5 := Tryz.zeroValue5
  t9 := Tryz.underlying9
  a9 := Tryz.isAgg9
  z9 := Tryz.sizeOf9
  v9 := Tryz.zeroValue9
  t31 := Tryz.underlying67
  a31 := Tryz.isAgg67
  z31 := Tryz.sizeOf67
  v31 := Tryz.zeroValue67
  t46 := Tryz.underlying261
  a46 := Tryz.isAgg261
  z46 := Tryz.sizeOf261
  v46 := Tryz.zeroValue261
  t51 := Tryz.underlying291
  a51 := Tryz.isAgg291
  z51 := Tryz.sizeOf291
  v51 := Tryz.zeroValue291
  t53 := Tryz.underlying330
  a53 := Tryz.isAgg330
  z53 := Tryz.sizeOf330
  v53 := Tryz.zeroValue330
  t131 := Tryz.underlying270
  a131 := Tryz.isAgg270
  z131 := Tryz.sizeOf270
  v131 := Tryz.zeroValue270
  t182 := Tryz.underlying322
  a182 := Tryz.isAgg322
  z182 := Tryz.sizeOf322
  v182 := Tryz.zeroValue322
  t183 := Tryz.underlying323
  a183 := Tryz.isAgg323
  z183 := Tryz.sizeOf323
  v183 := Tryz.zeroValue323
  t218 := Tryz.underlying359
  a218 := Tryz.isAgg359
  z218 := Tryz.sizeOf359
  v218 := Tryz.zeroValue359
  t222 := Tryz.underlying363
  a222 := Tryz.isAgg363
  z222 := Tryz.sizeOf363
  v222 := Tryz.zeroValue363
  t228 := Tryz.underlying380
  a228 := Tryz.isAgg380
  z228 := Tryz.sizeOf380
  v228 := Tryz.zeroValue380
  t229 := Tryz.underlying381
  a229 := Tryz.isAgg381
  z229 := Tryz.sizeOf381
  v229 := Tryz.zeroValue381
def laysCompact_ren : Go.Shelf.Ren := ⟨fun | 194 => 293 | n => n, fun | 31 => 67 | 9 => 9 | 3 => 3 | 4 => 4 | 0 => 0 | n => n, fun n => n⟩
theorem laysCompact : Go.Proofs.Lays.n194 Tryz.prog laysCompact_ren where
  mixed := by kernel_rfl
  f194 := Tryz.func293.trans (congrArg some (by kernel_rfl))
  t0 := Tryz.underlying0
  a0 := Tryz.isAgg0
  z0 := Tryz.sizeOf0
  v0 := Tryz.zeroValue0
  t3 := Tryz.underlying3
  a3 := Tryz.isAgg3
  z3 := Tryz.sizeOf3
  v3 := Tryz.zeroValue3
  t4 := Tryz.underlying4
  a4 := Tryz.isAgg4
  z4 := Tryz.sizeOf4
  v4 := Tryz.zeroValue4
  t9 := Tryz.underlying9
  a9 := Tryz.isAgg9
  z9 := Tryz.sizeOf9
  v9 := Tryz.zeroValue9
  t31 := Tryz.underlying67
  a31 := Tryz.isAgg67
  z31 := Tryz.sizeOf67
  v31 := Tryz.zeroValue67
theorem f292_ok (xs : List ByteArray) (hx : xs.length ≤ 1073741824) : FnW Tryz.prog 292 [.v (.ow 9 1 xs.length (flat xs))] (.tup []) [.v (.ow 9 1 xs.length (flat (sortS xs)))] :=
  FnW_sort ⟨⟨Tryz.f292, by kernel_rfl, rfl, by kernel_rfl⟩⟩ (fun p cap w => calls_of_every_depth fun D => AnyS.slices_Sort_string_none_alone laysSort D p cap w)
    (fun blk off cap zs w hH hb hl => calls_of_every_depth fun D => AnyS.slices_Sort_string_alone laysSort D blk off cap zs w hH hb hl) xs hx
theorem f293_ok (xs : List ByteArray) (hx : xs.length ≤ 1073741824) : FnW Tryz.prog 293 [.v (.ow 9 1 xs.length (flat xs))] (.v (.ow 9 1 (compactS xs).length (flat (compactS xs)))) [.any] :=
  FnW_compact ⟨⟨Tryz.f293, by kernel_rfl, rfl, by kernel_rfl⟩⟩ (fun a cap w => calls_of_every_depth fun D => AnyS.slices_Compact_string_empty_in laysCompact D a cap w)
    (fun blk off cap zs w hH hl hc => calls_of_every_depth fun D => AnyS.slices_Compact_string_in laysCompact D blk off cap zs w hH hl hc) xs hx
end Am
