/- The library's sort by a given order,over this program. No condition. -/
import Derived.Test.YteidfkbfocdnmaaGreatProg
import Derived.KernelRfl
import Derived.Shelf.SlSortCmp.WholeK
import Derived.Shelf.SlSortCmp.NoneTotal
import Derived.Test.YteidfkbfocdnmaaGreatT
import Derived.Test.YteidfkbfocdnmaaGreatD
import Derived.Test.YteidfkbfocdnmaaGreatAm34
set_option linter.unusedSimpArgs false
set_option linter.unusedVariables false
set_option linter.unnecessarySimpa false
set_option linter.unusedSectionVars false
namespace Am
open Go Go.Proofs Go.Sort Go.Shelf
open Cel (cells)
set_option maxRecDepth 100000
def laysTally_ren : Go.Shelf.Ren := ⟨fun | 6 => 260 | 15 => 273 | 14 => 352 | 28 => 363 | 29 => 364 | 20 => 395 | 21 => 396 | 22 => 397 | 23 => 398 | 24 => 399 | 25 => 400 | 26 => 401 | 27 => 402 | 46 => 432 | 47 => 412 | 48 => 413 | 49 => 433 | 50 => 434 | 57 => 444 | n => n,fun | 22 => 32 | 24 => 179 | 25 => 265 | 3 => 3 | 39 => 261 | 0 => 0 | 53 => 291 | 55 => 330 | 4 => 4 | 46 => 323 | 45 => 322 | 50 => 270 | 5 => 5 | 9 => 9 | 66 => 359 | 70 => 363 | 76 => 380 | 77 => 381 | n => n,fun n => n⟩
theorem laysTally : Go.Proofs.SlLaysF0.n6 Tryz.prog laysTally_ren where
  mixed := by kernel_rfl
  f6 := ⟨"slices.SortFunc[[]loop.example/g00463/impl.Tally,loop.example/g00463/impl.Tally]", by decide, Tryz.func260.trans (congrArg some (by kernel_rfl))⟩
  f14 := ⟨"slices.pdqsortCmpFunc[loop.example/g00463/impl.Tally]", by decide, Tryz.func352.trans (congrArg some (by kernel_rfl))⟩
  f15 := Tryz.func273.trans (congrArg some (by kernel_rfl))
  f20 := ⟨"slices.insertionSortCmpFunc[loop.example/g00463/impl.Tally]", by decide, Tryz.func395.trans (congrArg some (by kernel_rfl))⟩
  f21 := ⟨"slices.heapSortCmpFunc[loop.example/g00463/impl.Tally]", by decide, Tryz.func396.trans (congrArg some (by kernel_rfl))⟩
  f22 := ⟨"slices.breakPatternsCmpFunc[loop.example/g00463/impl.Tally]", by decide, Tryz.func397.trans (congrArg some (by kernel_rfl))⟩
  f23 := ⟨"slices.choosePivotCmpFunc[loop.example/g00463/impl.Tally]", by decide, Tryz.func398.trans (congrArg some (by kernel_rfl))⟩
  f24 := ⟨"slices.reverseRangeCmpFunc[loop.example/g00463/impl.Tally]", by decide, Tryz.func399.trans (congrArg some (by kernel_rfl))⟩
  f25 := ⟨"slices.partialInsertionSortCmpFunc[loop.example/g00463/impl.Tally]", by decide, Tryz.func400.trans (congrArg some (by kernel_rfl))⟩
  f26 := ⟨"slices.partitionEqualCmpFunc[loop.example/g00463/impl.Tally]", by decide, Tryz.func401.trans (congrArg some (by kernel_rfl))⟩
  f27 := ⟨"slices.partitionCmpFunc[loop.example/g00463/impl.Tally]", by decide, Tryz.func402.trans (congrArg some (by kernel_rfl))⟩
  f28 := Tryz.func363.trans (congrArg some (by kernel_rfl))
  f29 := Tryz.func364.trans (congrArg some (by kernel_rfl))
  f46 := ⟨"slices.siftDownCmpFunc[loop.example/g00463/impl.Tally]", by decide, Tryz.func432.trans (congrArg some (by kernel_rfl))⟩
  f47 := Tryz.func412.trans (congrArg some (by kernel_rfl))
  f48 := Tryz.func413.trans (congrArg some (by kernel_rfl))
  f49 := ⟨"slices.medianAdjacentCmpFunc[loop.example/g00463/impl.Tally]", by decide, Tryz.func433.trans (congrArg some (by kernel_rfl))⟩
  f50 := ⟨"slices.medianCmpFunc[loop.example/g00463/impl.Tally]", by decide, Tryz.func434.trans (congrArg some (by kernel_rfl))⟩
  f57 := ⟨"slices.order2CmpFunc[loop.example/g00463/impl.Tally]", by decide, Tryz.func444.trans (congrArg some (by kernel_rfl))⟩
  t0 := Tryz.underlying0
  a0 := Tryz.isAgg0
  z0 := Tryz.sizeOf0
  v0 := Tryz.zeroValue0
  t3 := Tryz.underlying3
  a3 := Tryz.isAgg3
  z3 := Tryz.sizeOf3
  v3 := Tryz.zeroValue3
  t4 := Tryz.underlying4
  a4 := Tryz.isAgg4
  z4 := Tryz.sizeOf4
  v4 := Tryz.zeroValue4
  t5 := Tryz.underlying5
  a5 := Tryz.isAgg5
  z5 := Tryz.sizeOf5
  v5 := Tryz.zeroValue5
  t9 := Tryz.underlying9
  a9 := Tryz.isAgg9
  z9 := Tryz.sizeOf9
  v9 := Tryz.zeroValue9
  t22 := Tryz.underlying32
  a22 := Tryz.isAgg32
  z22 := Tryz.sizeOf32
  v22 := Tryz.zeroValue32
  t25 := Tryz.underlying265
  a25 := Tryz.isAgg265
  z25 := Tryz.sizeOf265
  v25 := Tryz.zeroValue265
  t39 := Tryz.underlying261
  a39 := Tryz.isAgg261
  z39 := Tryz.sizeOf261
  v39 := Tryz.zeroValue261
  t45 := Tryz.underlying322
  a45 := Tryz.isAgg322
  z45 := Tryz.sizeOf322
  v45 := Tryz.zeroValue322
  t46 := Tryz.underlying323
  a46 := Tryz.isAgg323
  z46 := Tryz.sizeOf323
  v46 := Tryz.zeroValue323
  t50 := Tryz.underlying270
  a50 := Tryz.isAgg270
  z50 := Tryz.sizeOf270
  v50 := Tryz.zeroValue270
  t53 := Tryz.underlying291
  a53 := Tryz.isAgg291
  z53 := Tryz.sizeOf291
  v53 := Tryz.zeroValue291
  t55 := Tryz.underlying330
  a55 := Tryz.isAgg330
  z55 := Tryz.sizeOf330
  v55 := Tryz.zeroValue330
  t66 := Tryz.underlying359
  a66 := Tryz.isAgg359
  z66 := Tryz.sizeOf359
  v66 := Tryz.zeroValue359
  t70 := Tryz.underlying363
  a70 := Tryz.isAgg363
  z70 := Tryz.sizeOf363
  v70 := Tryz.zeroValue363
  t76 := Tryz.underlying380
  a76 := Tryz.isAgg380
  z76 := Tryz.sizeOf380
  v76 := Tryz.zeroValue380
  t77 := Tryz.underlying381
  a77 := Tryz.isAgg381
  z77 := Tryz.sizeOf381
  v77 := Tryz.zeroValue381
theorem plainTally (x : GTally) : ∀ p,p ∈ cells x → plainB p = true := by
  intro p h
  simp [cells] at h
  rcases h with rfl | rfl | rfl <;> rfl
instance : Inhabited GTally := ⟨Cel.dflt⟩
theorem f260_ok {g : Nat} (cf : GTally → GTally → Int) (hO : SWO (ltOf cf)) (hg : ∀ args w,(callFunc g args).run Tryz.prog w = .ok (.enter g args) w)
    (hc : ∀ x y : GTally,FnR Tryz.prog g [.agg (cells x),.agg (cells y)] (.v (.int .i64 (cf x y)))) (xs ys : List GTally) (hx : xs.length ≤ 1073741824)
    (hy : ∀ zs : List GTally,zs.Perm xs → zs.Pairwise (fun a b => ltOf cf b a = false) → zs = ys) :
    FnW Tryz.prog 260 [.v (.ow 179 3 xs.length (flat xs)),.fn g []] (.tup []) [.v (.ow 179 3 ys.length (flat ys)),.any] :=
  FnW_sortFunc cf ⟨⟨Tryz.f260,by kernel_rfl,rfl,by kernel_rfl⟩⟩ (by decide) plainTally (fun p cap fv w => AnyF.slices_SortFunc_none laysTally p cap fv w)
    (fun blk off cap d w hl hH hb hs => AnyQ.slices_SortFunc laysTally 3 Tryz.isAgg179 Tryz.sizeOf179 (fun x : GTally => (cells x).map pvV) (fun x => by rw [List.length_map,Cel.len]; rfl) (fun x v hv => by obtain ⟨p,_,rfl⟩ := List.mem_map.1 hv; exact pvV_one p) cf hO g #[] blk off cap d w hg hl hH hb hs)
    hc xs ys hx hy
def laysLive_ren : Go.Shelf.Ren := ⟨fun | 6 => 264 | 15 => 273 | 14 => 354 | 28 => 363 | 29 => 364 | 20 => 403 | 21 => 404 | 22 => 405 | 23 => 406 | 24 => 407 | 25 => 408 | 26 => 409 | 27 => 410 | 46 => 435 | 47 => 412 | 48 => 413 | 49 => 436 | 50 => 437 | 57 => 445 | n => n,fun | 22 => 33 | 24 => 159 | 25 => 268 | 3 => 3 | 39 => 261 | 0 => 0 | 53 => 291 | 55 => 330 | 4 => 4 | 46 => 323 | 45 => 322 | 50 => 270 | 5 => 5 | 9 => 9 | 66 => 359 | 70 => 363 | 76 => 380 | 77 => 381 | n => n,fun n => n⟩
theorem laysLive : Go.Proofs.SlLaysF0.n6 Tryz.prog laysLive_ren where
  mixed := by kernel_rfl
  f6 := ⟨"slices.SortFunc[[]loop.example/g00463/impl.Live,loop.example/g00463/impl.Live]", by decide, Tryz.func264.trans (congrArg some (by kernel_rfl))⟩
  f14 := ⟨"slices.pdqsortCmpFunc[loop.example/g00463/impl.Live]", by decide, Tryz.func354.trans (congrArg some (by kernel_rfl))⟩
  f15 := Tryz.func273.trans (congrArg some (by kernel_rfl))
  f20 := ⟨"slices.insertionSortCmpFunc[loop.example/g00463/impl.Live]", by decide, Tryz.func403.trans (congrArg some (by kernel_rfl))⟩
  f21 := ⟨"slices.heapSortCmpFunc[loop.example/g00463/impl.Live]", by decide, Tryz.func404.trans (congrArg some (by kernel_rfl))⟩
  f22 := ⟨"slices.breakPatternsCmpFunc[loop.example/g00463/impl.Live]", by decide, Tryz.func405.trans (congrArg some (by kernel_rfl))⟩
  f23 := ⟨"slices.choosePivotCmpFunc[loop.example/g00463/impl.Live]", by decide, Tryz.func406.trans (congrArg some (by kernel_rfl))⟩
  f24 := ⟨"slices.reverseRangeCmpFunc[loop.example/g00463/impl.Live]", by decide, Tryz.func407.trans (congrArg some (by kernel_rfl))⟩
  f25 := ⟨"slices.partialInsertionSortCmpFunc[loop.example/g00463/impl.Live]", by decide, Tryz.func408.trans (congrArg some (by kernel_rfl))⟩
  f26 := ⟨"slices.partitionEqualCmpFunc[loop.example/g00463/impl.Live]", by decide, Tryz.func409.trans (congrArg some (by kernel_rfl))⟩
  f27 := ⟨"slices.partitionCmpFunc[loop.example/g00463/impl.Live]", by decide, Tryz.func410.trans (congrArg some (by kernel_rfl))⟩
  f28 := Tryz.func363.trans (congrArg some (by kernel_rfl))
  f29 := Tryz.func364.trans (congrArg some (by kernel_rfl))
  f46 := ⟨"slices.siftDownCmpFunc[loop.example/g00463/impl.Live]", by decide, Tryz.func435.trans (congrArg some (by kernel_rfl))⟩
  f47 := Tryz.func412.trans (congrArg some (by kernel_rfl))
  f48 := Tryz.func413.trans (congrArg some (by kernel_rfl))
  f49 := ⟨"slices.medianAdjacentCmpFunc[loop.example/g00463/impl.Live]", by decide, Tryz.func436.trans (congrArg some (by kernel_rfl))⟩
  f50 := ⟨"slices.medianCmpFunc[loop.example/g00463/impl.Live]", by decide, Tryz.func437.trans (congrArg some (by kernel_rfl))⟩
  f57 := ⟨"slices.order2CmpFunc[loop.example/g00463/impl.Live]", by decide, Tryz.func445.trans (congrArg some (by kernel_rfl))⟩
  t0 := Tryz.underlying0
  a0 := Tryz.isAgg0
  z0 := Tryz.sizeOf0
  v0 := Tryz.zeroValue0
  t3 := Tryz.underlying3
  a3 := Tryz.isAgg3
  z3 := Tryz.sizeOf3
  v3 := Tryz.zeroValue3
  t4 := Tryz.underlying4
  a4 := Tryz.isAgg4
  z4 := Tryz.sizeOf4
  v4 := Tryz.zeroValue4
  t5 := Tryz.underlying5
  a5 := Tryz.isAgg5
  z5 := Tryz.sizeOf5
  v5 := Tryz.zeroValue5
  t9 := Tryz.underlying9
  a9 := Tryz.isAgg9
  z9 := Tryz.sizeOf9
  v9 := Tryz.zeroValue9
  t22 := Tryz.underlying33
  a22 := Tryz.isAgg33
  z22 := Tryz.sizeOf33
  v22 := Tryz.zeroValue33
  t25 := Tryz.underlying268
  a25 := Tryz.isAgg268
  z25 := Tryz.sizeOf268
  v25 := Tryz.zeroValue268
  t39 := Tryz.underlying261
  a39 := Tryz.isAgg261
  z39 := Tryz.sizeOf261
  v39 := Tryz.zeroValue261
  t45 := Tryz.underlying322
  a45 := Tryz.isAgg322
  z45 := Tryz.sizeOf322
  v45 := Tryz.zeroValue322
  t46 := Tryz.underlying323
  a46 := Tryz.isAgg323
  z46 := Tryz.sizeOf323
  v46 := Tryz.zeroValue323
  t50 := Tryz.underlying270
  a50 := Tryz.isAgg270
  z50 := Tryz.sizeOf270
  v50 := Tryz.zeroValue270
  t53 := Tryz.underlying291
  a53 := Tryz.isAgg291
  z53 := Tryz.sizeOf291
  v53 := Tryz.zeroValue291
  t55 := Tryz.underlying330
  a55 := Tryz.isAgg330
  z55 := Tryz.sizeOf330
  v55 := Tryz.zeroValue330
  t66 := Tryz.underlying359
  a66 := Tryz.isAgg359
  z66 := Tryz.sizeOf359
  v66 := Tryz.zeroValue359
  t70 := Tryz.underlying363
  a70 := Tryz.isAgg363
  z70 := Tryz.sizeOf363
  v70 := Tryz.zeroValue363
  t76 := Tryz.underlying380
  a76 := Tryz.isAgg380
  z76 := Tryz.sizeOf380
  v76 := Tryz.zeroValue380
  t77 := Tryz.underlying381
  a77 := Tryz.isAgg381
  z77 := Tryz.sizeOf381
  v77 := Tryz.zeroValue381
theorem plainLive (x : GLive) : ∀ p,p ∈ cells x → plainB p = true := by
  intro p h
  simp [cells] at h
  rcases h with rfl | rfl | rfl | rfl | rfl | rfl <;> rfl
instance : Inhabited GLive := ⟨Cel.dflt⟩
theorem f264_ok {g : Nat} (cf : GLive → GLive → Int) (hO : SWO (ltOf cf)) (hg : ∀ args w,(callFunc g args).run Tryz.prog w = .ok (.enter g args) w)
    (hc : ∀ x y : GLive,FnR Tryz.prog g [.agg (cells x),.agg (cells y)] (.v (.int .i64 (cf x y)))) (xs ys : List GLive) (hx : xs.length ≤ 1073741824)
    (hy : ∀ zs : List GLive,zs.Perm xs → zs.Pairwise (fun a b => ltOf cf b a = false) → zs = ys) :
    FnW Tryz.prog 264 [.v (.ow 159 6 xs.length (flat xs)),.fn g []] (.tup []) [.v (.ow 159 6 ys.length (flat ys)),.any] :=
  FnW_sortFunc cf ⟨⟨Tryz.f264,by kernel_rfl,rfl,by kernel_rfl⟩⟩ (by decide) plainLive (fun p cap fv w => AnyF.slices_SortFunc_none laysLive p cap fv w)
    (fun blk off cap d w hl hH hb hs => AnyQ.slices_SortFunc laysLive 6 Tryz.isAgg159 Tryz.sizeOf159 (fun x : GLive => (cells x).map pvV) (fun x => by rw [List.length_map,Cel.len]; rfl) (fun x v hv => by obtain ⟨p,_,rfl⟩ := List.mem_map.1 hv; exact pvV_one p) cf hO g #[] blk off cap d w hg hl hH hb hs)
    hc xs ys hx hy
def laysCell_ren : Go.Shelf.Ren := ⟨fun | 6 => 169 | 15 => 273 | 14 => 289 | 28 => 363 | 29 => 364 | 20 => 366 | 21 => 367 | 22 => 368 | 23 => 369 | 24 => 370 | 25 => 371 | 26 => 372 | 27 => 373 | 46 => 416 | 47 => 412 | 48 => 413 | 49 => 417 | 50 => 418 | 57 => 439 | n => n,fun | 22 => 34 | 24 => 72 | 25 => 195 | 3 => 3 | 39 => 261 | 0 => 0 | 53 => 291 | 55 => 330 | 4 => 4 | 46 => 323 | 45 => 322 | 50 => 270 | 5 => 5 | 9 => 9 | 66 => 359 | 70 => 363 | 76 => 380 | 77 => 381 | n => n,fun n => n⟩
theorem laysCell : Go.Proofs.SlLaysF0.n6 Tryz.prog laysCell_ren where
  mixed := by kernel_rfl
  f6 := ⟨"slices.SortFunc[[]loop.example/g00463/impl.Cell,loop.example/g00463/impl.Cell]", by decide, Tryz.func169.trans (congrArg some (by kernel_rfl))⟩
  f14 := ⟨"slices.pdqsortCmpFunc[loop.example/g00463/impl.Cell]", by decide, Tryz.func289.trans (congrArg some (by kernel_rfl))⟩
  f15 := Tryz.func273.trans (congrArg some (by kernel_rfl))
  f20 := ⟨"slices.insertionSortCmpFunc[loop.example/g00463/impl.Cell]", by decide, Tryz.func366.trans (congrArg some (by kernel_rfl))⟩
  f21 := ⟨"slices.heapSortCmpFunc[loop.example/g00463/impl.Cell]", by decide, Tryz.func367.trans (congrArg some (by kernel_rfl))⟩
  f22 := ⟨"slices.breakPatternsCmpFunc[loop.example/g00463/impl.Cell]", by decide, Tryz.func368.trans (congrArg some (by kernel_rfl))⟩
  f23 := ⟨"slices.choosePivotCmpFunc[loop.example/g00463/impl.Cell]", by decide, Tryz.func369.trans (congrArg some (by kernel_rfl))⟩
  f24 := ⟨"slices.reverseRangeCmpFunc[loop.example/g00463/impl.Cell]", by decide, Tryz.func370.trans (congrArg some (by kernel_rfl))⟩
  f25 := ⟨"slices.partialInsertionSortCmpFunc[loop.example/g00463/impl.Cell]", by decide, Tryz.func371.trans (congrArg some (by kernel_rfl))⟩
  f26 := ⟨"slices.partitionEqualCmpFunc[loop.example/g00463/impl.Cell]", by decide, Tryz.func372.trans (congrArg some (by kernel_rfl))⟩
  f27 := ⟨"slices.partitionCmpFunc[loop.example/g00463/impl.Cell]", by decide, Tryz.func373.trans (congrArg some (by kernel_rfl))⟩
  f28 := Tryz.func363.trans (congrArg some (by kernel_rfl))
  f29 := Tryz.func364.trans (congrArg some (by kernel_rfl))
  f46 := ⟨"slices.siftDownCmpFunc[loop.example/g00463/impl.Cell]", by decide, Tryz.func416.trans (congrArg some (by kernel_rfl))⟩
  f47 := Tryz.func412.trans (congrArg some (by kernel_rfl))
  f48 := Tryz.func413.trans (congrArg some (by kernel_rfl))
  f49 := ⟨"slices.medianAdjacentCmpFunc[loop.example/g00463/impl.Cell]", by decide, Tryz.func417.trans (congrArg some (by kernel_rfl))⟩
  f50 := ⟨"slices.medianCmpFunc[loop.example/g00463/impl.Cell]", by decide, Tryz.func418.trans (congrArg some (by kernel_rfl))⟩
  f57 := ⟨"slices.order2CmpFunc[loop.example/g00463/impl.Cell]", by decide, Tryz.func439.trans (congrArg some (by kernel_rfl))⟩
  t0 := Tryz.underlying0
  a0 := Tryz.isAgg0
  z0 := Tryz.sizeOf0
  v0 := Tryz.zeroValue0
  t3 := Tryz.underlying3
  a3 := Tryz.isAgg3
  z3 := Tryz.sizeOf3
  v3 := Tryz.zeroValue3
  t4 := Tryz.underlying4
  a4 := Tryz.isAgg4
  z4 := Tryz.sizeOf4
  v4 := Tryz.zeroValue4
  t5 := Tryz.underlying5
  a5 := Tryz.isAgg5
  z5 := Tryz.sizeOf5
  v5 := Tryz.zeroValue5
  t9 := Tryz.underlying9
  a9 := Tryz.isAgg9
  z9 := Tryz.sizeOf9
  v9 := Tryz.zeroValue9
  t22 := Tryz.underlying34
  a22 := Tryz.isAgg34
  z22 := Tryz.sizeOf34
  v22 := Tryz.zeroValue34
  t25 := Tryz.underlying195
  a25 := Tryz.isAgg195
  z25 := Tryz.sizeOf195
  v25 := Tryz.zeroValue195
  t39 := Tryz.underlying261
  a39 := Tryz.isAgg261
  z39 := Tryz.sizeOf261
  v39 := Tryz.zeroValue261
  t45 := Tryz.underlying322
  a45 := Tryz.isAgg322
  z45 := Tryz.sizeOf322
  v45 := Tryz.zeroValue322
  t46 := Tryz.underlying323
  a46 := Tryz.isAgg323
  z46 := Tryz.sizeOf323
  v46 := Tryz.zeroValue323
  t50 := Tryz.underlying270
  a50 := Tryz.isAgg270
  z50 := Tryz.sizeOf270
  v50 := Tryz.zeroValue270
  t53 := Tryz.underlying291
  a53 := Tryz.isAgg291
  z53 := Tryz.sizeOf291
  v53 := Tryz.zeroValue291
  t55 := Tryz.underlying330
  a55 := Tryz.isAgg330
  z55 := Tryz.sizeOf330
  v55 := Tryz.zeroValue330
  t66 := Tryz.underlying359
  a66 := Tryz.isAgg359
  z66 := Tryz.sizeOf359
  v66 := Tryz.zeroValue359
  t70 := Tryz.underlying363
  a70 := Tryz.isAgg363
  z70 := Tryz.sizeOf363
  v70 := Tryz.zeroValue363
  t76 := Tryz.underlying380
  a76 := Tryz.isAgg380
  z76 := Tryz.sizeOf380
  v76 := Tryz.zeroValue380
  t77 := Tryz.underlying381
  a77 := Tryz.isAgg381
  z77 := Tryz.sizeOf381
  v77 := Tryz.zeroValue381
theorem plainCell (x : GCell) : ∀ p,p ∈ cells x → plainB p = true := by
  intro p h
  simp [cells] at h
  rcases h with rfl | rfl | rfl | rfl | rfl | rfl | rfl | rfl <;> rfl
instance : Inhabited GCell := ⟨Cel.dflt⟩
theorem f169_ok {g : Nat} (cf : GCell → GCell → Int) (hO : SWO (ltOf cf)) (hg : ∀ args w,(callFunc g args).run Tryz.prog w = .ok (.enter g args) w)
    (hc : ∀ x y : GCell,FnR Tryz.prog g [.agg (cells x),.agg (cells y)] (.v (.int .i64 (cf x y)))) (xs ys : List GCell) (hx : xs.length ≤ 1073741824)
    (hy : ∀ zs : List GCell,zs.Perm xs → zs.Pairwise (fun a b => ltOf cf b a = false) → zs = ys) :
    FnW Tryz.prog 169 [.v (.ow 72 8 xs.length (flat xs)),.fn g []] (.tup []) [.v (.ow 72 8 ys.length (flat ys)),.any] :=
  FnW_sortFunc cf ⟨⟨Tryz.f169,by kernel_rfl,rfl,by kernel_rfl⟩⟩ (by decide) plainCell (fun p cap fv w => AnyF.slices_SortFunc_none laysCell p cap fv w)
    (fun blk off cap d w hl hH hb hs => AnyQ.slices_SortFunc laysCell 8 Tryz.isAgg72 Tryz.sizeOf72 (fun x : GCell => (cells x).map pvV) (fun x => by rw [List.length_map,Cel.len]; rfl) (fun x v hv => by obtain ⟨p,_,rfl⟩ := List.mem_map.1 hv; exact pvV_one p) cf hO g #[] blk off cap d w hg hl hH hb hs)
    hc xs ys hx hy
end Am
