/- The library's sort by a given order, over this program. No condition. -/
import Derived.Test.YtmedpldnoehoiaaGreatProg
import Derived.KernelRfl
import Derived.Shelf.SlSortCmp.WholeK
import Derived.Shelf.SlSortCmp.NoneTotal
import Derived.Test.YtmedpldnoehoiaaGreatT
import Derived.Test.YtmedpldnoehoiaaGreatD
import Derived.Test.YtmedpldnoehoiaaGreatAm34
namespace Am
open Go Go.Proofs Go.Sort Go.Shelf
open Cel (cells)
set_option maxRecDepth 100000
def laysTally_ren : Go.Shelf.Ren := ⟨fun | 6 => 156 | 15 => 168 | 14 => 192 | 28 => 202 | 29 => 203 | 20 => 224 | 21 => 225 | 22 => 226 | 23 => 227 | 24 => 228 | 25 => 229 | 26 => 230 | 27 => 231 | 46 => 260 | 47 => 241 | 48 => 242 | 49 => 261 | 50 => 262 | 57 => 272 | n => n, fun | 22 => 25 | 24 => 117 | 25 => 162 | 3 => 3 | 39 => 172 | 0 => 0 | 53 => 202 | 55 => 204 | 4 => 4 | 46 => 196 | 45 => 195 | 50 => 166 | 5 => 5 | 9 => 9 | 66 => 228 | 70 => 232 | 76 => 248 | 77 => 249 | n => n, fun n => n⟩
theorem laysTally : Go.Proofs.SlLaysF0.n6 Tryz.prog laysTally_ren where
  mixed := by kernel_rfl
  f6 := ⟨"slices.SortFunc[[]loop.example/g00463/impl.Tally,loop.example/g00463/impl.Tally]", by decide, Tryz.func156.trans (congrArg some (by kernel_rfl))⟩
  f14 := ⟨"slices.pdqsortCmpFunc[loop.example/g00463/impl.Tally]", by decide, Tryz.func192.trans (congrArg some (by kernel_rfl))⟩
  f15 := Tryz.func168.trans (congrArg some (by kernel_rfl))
  f20 := ⟨"slices.insertionSortCmpFunc[loop.example/g00463/impl.Tally]", by decide, Tryz.func224.trans (congrArg some (by kernel_rfl))⟩
  f21 := ⟨"slices.heapSortCmpFunc[loop.example/g00463/impl.Tally]", by decide, Tryz.func225.trans (congrArg some (by kernel_rfl))⟩
  f22 := ⟨"slices.breakPatternsCmpFunc[loop.example/g00463/impl.Tally]", by decide, Tryz.func226.trans (congrArg some (by kernel_rfl))⟩
  f23 := ⟨"slices.choosePivotCmpFunc[loop.example/g00463/impl.Tally]", by decide, Tryz.func227.trans (congrArg some (by kernel_rfl))⟩
  f24 := ⟨"slices.reverseRangeCmpFunc[loop.example/g00463/impl.Tally]", by decide, Tryz.func228.trans (congrArg some (by kernel_rfl))⟩
  f25 := ⟨"slices.partialInsertionSortCmpFunc[loop.example/g00463/impl.Tally]", by decide, Tryz.func229.trans (congrArg some (by kernel_rfl))⟩
  f26 := ⟨"slices.partitionEqualCmpFunc[loop.example/g00463/impl.Tally]", by decide, Tryz.func230.trans (congrArg some (by kernel_rfl))⟩
  f27 := ⟨"slices.partitionCmpFunc[loop.example/g00463/impl.Tally]", by decide, Tryz.func231.trans (congrArg some (by kernel_rfl))⟩
  f28 := Tryz.func202.trans (congrArg some (by kernel_rfl))
  f29 := Tryz.func203.trans (congrArg some (by kernel_rfl))
  f46 := ⟨"slices.siftDownCmpFunc[loop.example/g00463/impl.Tally]", by decide, Tryz.func260.trans (congrArg some (by kernel_rfl))⟩
  f47 := Tryz.func241.trans (congrArg some (by kernel_rfl))
  f48 := Tryz.func242.trans (congrArg some (by kernel_rfl))
  f49 := ⟨"slices.medianAdjacentCmpFunc[loop.example/g00463/impl.Tally]", by decide, Tryz.func261.trans (congrArg some (by kernel_rfl))⟩
  f50 := ⟨"slices.medianCmpFunc[loop.example/g00463/impl.Tally]", by decide, Tryz.func262.trans (congrArg some (by kernel_rfl))⟩
  f57 := ⟨"slices.order2CmpFunc[loop.example/g00463/impl.Tally]", by decide, Tryz.func272.trans (congrArg some (by kernel_rfl))⟩
  t0 := Tryz.underlying0
  a0 := Tryz.isAgg0
  z0 := Tryz.sizeOf0
  v0 := Tryz.zeroValue0
  t3 := Tryz.underlying3
  a3 := Tryz.isAgg3
  z3 := Tryz.sizeOf3
  v3 := Tryz.zeroValue3
  t4 := Tryz.underlying4
  a4 := Tryz.isAgg4
  z4 := Tryz.sizeOf4
  v4 := Tryz.zeroValue4
  t5 := Tryz.underlying5
  a5 := Tryz.isAgg5
  z5 := Tryz.sizeOf5
  v5 := Tryz.zeroValue5
  t9 := Tryz.underlying9
  a9 := Tryz.isAgg9
  z9 := Tryz.sizeOf9
  v9 := Tryz.zeroValue9
  t22 := Tryz.underlying25
  a22 := Tryz.isAgg25
  z22 := Tryz.sizeOf25
  v22 := Tryz.zeroValue25
  t25 := Tryz.underlying162
  a25 := Tryz.isAgg162
  z25 := Tryz.sizeOf162
  v25 := Tryz.zeroValue162
  t39 := Tryz.underlying172
  a39 := Tryz.isAgg172
  z39 := Tryz.sizeOf172
  v39 := Tryz.zeroValue172
  t45 := Tryz.underlying195
  a45 := Tryz.isAgg195
  z45 := Tryz.sizeOf195
  v45 := Tryz.zeroValue195
  t46 := Tryz.underlying196
  a46 := Tryz.isAgg196
  z46 := Tryz.sizeOf196
  v46 := Tryz.zeroValue196
  t50 := Tryz.underlying166
  a50 := Tryz.isAgg166
  z50 := Tryz.sizeOf166
  v50 := Tryz.zeroValue166
  t53 := Tryz.underlying202
  a53 := Tryz.isAgg202
  z53 := Tryz.sizeOf202
  v53 := Tryz.zeroValue202
  t55 := Tryz.underlying204
  a55 := Tryz.isAgg204
  z55 := Tryz.sizeOf204
  v55 := Tryz.zeroValue204
  t66 := Tryz.underlying228
  a66 := Tryz.isAgg228
  z66 := Tryz.sizeOf228
  v66 := Tryz.zeroValue228
  t70 := Tryz.underlying232
  a70 := Tryz.isAgg232
  z70 := Tryz.sizeOf232
  v70 := Tryz.zeroValue232
  t76 := Tryz.underlying248
  a76 := Tryz.isAgg248
  z76 := Tryz.sizeOf248
  v76 := Tryz.zeroValue248
  t77 := Tryz.underlying249
  a77 := Tryz.isAgg249
  z77 := Tryz.sizeOf249
  v77 := Tryz.zeroValue249
theorem plainTally (x : GTally) : ∀ p, p ∈ cells x → plainB p = true := by
  intro p h
  simp [cells] at h
  rcases h with rfl | rfl | rfl <;> rfl
instance : Inhabited GTally := ⟨Cel.dflt⟩
theorem f156_ok {g : Nat} (cf : GTally → GTally → Int) (hO : SWO (ltOf cf)) (hg : ∀ args w, (callFunc g args).run Tryz.prog w = .ok (.enter g args) w)
    (hc : ∀ x y : GTally, FnR Tryz.prog g [.agg (cells x), .agg (cells y)] (.v (.int .i64 (cf x y)))) (xs ys : List GTally) (hx : xs.length ≤ 1073741824)
    (hy : ∀ zs : List GTally, zs.Perm xs → zs.Pairwise (fun a b => ltOf cf b a = false) → zs = ys) :
    FnW Tryz.prog 156 [.v (.ow 117 3 xs.length (flat xs)), .fn g []] (.tup []) [.v (.ow 117 3 ys.length (flat ys)), .any] :=
  FnW_sortFunc cf ⟨⟨Tryz.f156, by kernel_rfl, rfl, by kernel_rfl⟩⟩ (by decide) plainTally (fun p cap fv w => AnyF.slices_SortFunc_none laysTally p cap fv w)
    (fun blk off cap d w hl hH hb hs => AnyQ.slices_SortFunc laysTally 3 Tryz.isAgg117 Tryz.sizeOf117 (fun x : GTally => (cells x).map pvV) (fun x => by rw [List.length_map, Cel.len]; rfl) (fun x v hv => by obtain ⟨p, _, rfl⟩ := List.mem_map.1 hv; exact pvV_one p) cf hO g #[] blk off cap d w hg hl hH hb hs)
    hc xs ys hx hy
def laysLive_ren : Go.Shelf.Ren := ⟨fun | 6 => 158 | 15 => 168 | 14 => 193 | 28 => 202 | 29 => 203 | 20 => 232 | 21 => 233 | 22 => 234 | 23 => 235 | 24 => 236 | 25 => 237 | 26 => 238 | 27 => 239 | 46 => 263 | 47 => 241 | 48 => 242 | 49 => 264 | 50 => 265 | 57 => 273 | n => n, fun | 22 => 26 | 24 => 107 | 25 => 164 | 3 => 3 | 39 => 172 | 0 => 0 | 53 => 202 | 55 => 204 | 4 => 4 | 46 => 196 | 45 => 195 | 50 => 166 | 5 => 5 | 9 => 9 | 66 => 228 | 70 => 232 | 76 => 248 | 77 => 249 | n => n, fun n => n⟩
theorem laysLive : Go.Proofs.SlLaysF0.n6 Tryz.prog laysLive_ren where
  mixed := by kernel_rfl
  f6 := ⟨"slices.SortFunc[[]loop.example/g00463/impl.Live,loop.example/g00463/impl.Live]", by decide, Tryz.func158.trans (congrArg some (by kernel_rfl))⟩
  f14 := ⟨"slices.pdqsortCmpFunc[loop.example/g00463/impl.Live]", by decide, Tryz.func193.trans (congrArg some (by kernel_rfl))⟩
  f15 := Tryz.func168.trans (congrArg some (by kernel_rfl))
  f20 := ⟨"slices.insertionSortCmpFunc[loop.example/g00463/impl.Live]", by decide, Tryz.func232.trans (congrArg some (by kernel_rfl))⟩
  f21 := ⟨"slices.heapSortCmpFunc[loop.example/g00463/impl.Live]", by decide, Tryz.func233.trans (congrArg some (by kernel_rfl))⟩
  f22 := ⟨"slices.breakPatternsCmpFunc[loop.example/g00463/impl.Live]", by decide, Tryz.func234.trans (congrArg some (by kernel_rfl))⟩
  f23 := ⟨"slices.choosePivotCmpFunc[loop.example/g00463/impl.Live]", by decide, Tryz.func235.trans (congrArg some (by kernel_rfl))⟩
  f24 := ⟨"slices.reverseRangeCmpFunc[loop.example/g00463/impl.Live]", by decide, Tryz.func236.trans (congrArg some (by kernel_rfl))⟩
  f25 := ⟨"slices.partialInsertionSortCmpFunc[loop.example/g00463/impl.Live]", by decide, Tryz.func237.trans (congrArg some (by kernel_rfl))⟩
  f26 := ⟨"slices.partitionEqualCmpFunc[loop.example/g00463/impl.Live]", by decide, Tryz.func238.trans (congrArg some (by kernel_rfl))⟩
  f27 := ⟨"slices.partitionCmpFunc[loop.example/g00463/impl.Live]", by decide, Tryz.func239.trans (congrArg some (by kernel_rfl))⟩
  f28 := Tryz.func202.trans (congrArg some (by kernel_rfl))
  f29 := Tryz.func203.trans (congrArg some (by kernel_rfl))
  f46 := ⟨"slices.siftDownCmpFunc[loop.example/g00463/impl.Live]", by decide, Tryz.func263.trans (congrArg some (by kernel_rfl))⟩
  f47 := Tryz.func241.trans (congrArg some (by kernel_rfl))
  f48 := Tryz.func242.trans (congrArg some (by kernel_rfl))
  f49 := ⟨"slices.medianAdjacentCmpFunc[loop.example/g00463/impl.Live]", by decide, Tryz.func264.trans (congrArg some (by kernel_rfl))⟩
  f50 := ⟨"slices.medianCmpFunc[loop.example/g00463/impl.Live]", by decide, Tryz.func265.trans (congrArg some (by kernel_rfl))⟩
  f57 := ⟨"slices.order2CmpFunc[loop.example/g00463/impl.Live]", by decide, Tryz.func273.trans (congrArg some (by kernel_rfl))⟩
  t0 := Tryz.underlying0
  a0 := Tryz.isAgg0
  z0 := Tryz.sizeOf0
  v0 := Tryz.zeroValue0
  t3 := Tryz.underlying3
  a3 := Tryz.isAgg3
  z3 := Tryz.sizeOf3
  v3 := Tryz.zeroValue3
  t4 := Tryz.underlying4
  a4 := Tryz.isAgg4
  z4 := Tryz.sizeOf4
  v4 := Tryz.zeroValue4
  t5 := Tryz.underlying5
  a5 := Tryz.isAgg5
  z5 := Tryz.sizeOf5
  v5 := Tryz.zeroValue5
  t9 := Tryz.underlying9
  a9 := Tryz.isAgg9
  z9 := Tryz.sizeOf9
  v9 := Tryz.zeroValue9
  t22 := Tryz.underlying26
  a22 := Tryz.isAgg26
  z22 := Tryz.sizeOf26
  v22 := Tryz.zeroValue26
  t25 := Tryz.underlying164
  a25 := Tryz.isAgg164
  z25 := Tryz.sizeOf164
  v25 := Tryz.zeroValue164
  t39 := Tryz.underlying172
  a39 := Tryz.isAgg172
  z39 := Tryz.sizeOf172
  v39 := Tryz.zeroValue172
  t45 := Tryz.underlying195
  a45 := Tryz.isAgg195
  z45 := Tryz.sizeOf195
  v45 := Tryz.zeroValue195
  t46 := Tryz.underlying196
  a46 := Tryz.isAgg196
  z46 := Tryz.sizeOf196
  v46 := Tryz.zeroValue196
  t50 := Tryz.underlying166
  a50 := Tryz.isAgg166
  z50 := Tryz.sizeOf166
  v50 := Tryz.zeroValue166
  t53 := Tryz.underlying202
  a53 := Tryz.isAgg202
  z53 := Tryz.sizeOf202
  v53 := Tryz.zeroValue202
  t55 := Tryz.underlying204
  a55 := Tryz.isAgg204
  z55 := Tryz.sizeOf204
  v55 := Tryz.zeroValue204
  t66 := Tryz.underlying228
  a66 := Tryz.isAgg228
  z66 := Tryz.sizeOf228
  v66 := Tryz.zeroValue228
  t70 := Tryz.underlying232
  a70 := Tryz.isAgg232
  z70 := Tryz.sizeOf232
  v70 := Tryz.zeroValue232
  t76 := Tryz.underlying248
  a76 := Tryz.isAgg248
  z76 := Tryz.sizeOf248
  v76 := Tryz.zeroValue248
  t77 := Tryz.underlying249
  a77 := Tryz.isAgg249
  z77 := Tryz.sizeOf249
  v77 := Tryz.zeroValue249
theorem plainLive (x : GLive) : ∀ p, p ∈ cells x → plainB p = true := by
  intro p h
  simp [cells] at h
  rcases h with rfl | rfl | rfl | rfl | rfl | rfl <;> rfl
instance : Inhabited GLive := ⟨Cel.dflt⟩
theorem f158_ok {g : Nat} (cf : GLive → GLive → Int) (hO : SWO (ltOf cf)) (hg : ∀ args w, (callFunc g args).run Tryz.prog w = .ok (.enter g args) w)
    (hc : ∀ x y : GLive, FnR Tryz.prog g [.agg (cells x), .agg (cells y)] (.v (.int .i64 (cf x y)))) (xs ys : List GLive) (hx : xs.length ≤ 1073741824)
    (hy : ∀ zs : List GLive, zs.Perm xs → zs.Pairwise (fun a b => ltOf cf b a = false) → zs = ys) :
    FnW Tryz.prog 158 [.v (.ow 107 6 xs.length (flat xs)), .fn g []] (.tup []) [.v (.ow 107 6 ys.length (flat ys)), .any] :=
  FnW_sortFunc cf ⟨⟨Tryz.f158, by kernel_rfl, rfl, by kernel_rfl⟩⟩ (by decide) plainLive (fun p cap fv w => AnyF.slices_SortFunc_none laysLive p cap fv w)
    (fun blk off cap d w hl hH hb hs => AnyQ.slices_SortFunc laysLive 6 Tryz.isAgg107 Tryz.sizeOf107 (fun x : GLive => (cells x).map pvV) (fun x => by rw [List.length_map, Cel.len]; rfl) (fun x v hv => by obtain ⟨p, _, rfl⟩ := List.mem_map.1 hv; exact pvV_one p) cf hO g #[] blk off cap d w hg hl hH hb hs)
    hc xs ys hx hy
def laysCell_ren : Go.Shelf.Ren := ⟨fun | 6 => 146 | 15 => 168 | 14 => 188 | 28 => 202 | 29 => 203 | 20 => 206 | 21 => 207 | 22 => 208 | 23 => 209 | 24 => 210 | 25 => 211 | 26 => 212 | 27 => 213 | 46 => 245 | 47 => 241 | 48 => 242 | 49 => 246 | 50 => 247 | 57 => 267 | n => n, fun | 22 => 27 | 24 => 88 | 25 => 155 | 3 => 3 | 39 => 172 | 0 => 0 | 53 => 202 | 55 => 204 | 4 => 4 | 46 => 196 | 45 => 195 | 50 => 166 | 5 => 5 | 9 => 9 | 66 => 228 | 70 => 232 | 76 => 248 | 77 => 249 | n => n, fun n => n⟩
theorem laysCell : Go.Proofs.SlLaysF0.n6 Tryz.prog laysCell_ren where
  mixed := by kernel_rfl
  f6 := ⟨"slices.SortFunc[[]loop.example/g00463/impl.Cell,loop.example/g00463/impl.Cell]", by decide, Tryz.func146.trans (congrArg some (by kernel_rfl))⟩
  f14 := ⟨"slices.pdqsortCmpFunc[loop.example/g00463/impl.Cell]", by decide, Tryz.func188.trans (congrArg some (by kernel_rfl))⟩
  f15 := Tryz.func168.trans (congrArg some (by kernel_rfl))
  f20 := ⟨"slices.insertionSortCmpFunc[loop.example/g00463/impl.Cell]", by decide, Tryz.func206.trans (congrArg some (by kernel_rfl))⟩
  f21 := ⟨"slices.heapSortCmpFunc[loop.example/g00463/impl.Cell]", by decide, Tryz.func207.trans (congrArg some (by kernel_rfl))⟩
  f22 := ⟨"slices.breakPatternsCmpFunc[loop.example/g00463/impl.Cell]", by decide, Tryz.func208.trans (congrArg some (by kernel_rfl))⟩
  f23 := ⟨"slices.choosePivotCmpFunc[loop.example/g00463/impl.Cell]", by decide, Tryz.func209.trans (congrArg some (by kernel_rfl))⟩
  f24 := ⟨"slices.reverseRangeCmpFunc[loop.example/g00463/impl.Cell]", by decide, Tryz.func210.trans (congrArg some (by kernel_rfl))⟩
  f25 := ⟨"slices.partialInsertionSortCmpFunc[loop.example/g00463/impl.Cell]", by decide, Tryz.func211.trans (congrArg some (by kernel_rfl))⟩
  f26 := ⟨"slices.partitionEqualCmpFunc[loop.example/g00463/impl.Cell]", by decide, Tryz.func212.trans (congrArg some (by kernel_rfl))⟩
  f27 := ⟨"slices.partitionCmpFunc[loop.example/g00463/impl.Cell]", by decide, Tryz.func213.trans (congrArg some (by kernel_rfl))⟩
  f28 := Tryz.func202.trans (congrArg some (by kernel_rfl))
  f29 := Tryz.func203.trans (congrArg some (by kernel_rfl))
  f46 := ⟨"slices.siftDownCmpFunc[loop.example/g00463/impl.Cell]", by decide, Tryz.func245.trans (congrArg some (by kernel_rfl))⟩
  f47 := Tryz.func241.trans (congrArg some (by kernel_rfl))
  f48 := Tryz.func242.trans (congrArg some (by kernel_rfl))
  f49 := ⟨"slices.medianAdjacentCmpFunc[loop.example/g00463/impl.Cell]", by decide, Tryz.func246.trans (congrArg some (by kernel_rfl))⟩
  f50 := ⟨"slices.medianCmpFunc[loop.example/g00463/impl.Cell]", by decide, Tryz.func247.trans (congrArg some (by kernel_rfl))⟩
  f57 := ⟨"slices.order2CmpFunc[loop.example/g00463/impl.Cell]", by decide, Tryz.func267.trans (congrArg some (by kernel_rfl))⟩
  t0 := Tryz.underlying0
  a0 := Tryz.isAgg0
  z0 := Tryz.sizeOf0
  v0 := Tryz.zeroValue0
  t3 := Tryz.underlying3
  a3 := Tryz.isAgg3
  z3 := Tryz.sizeOf3
  v3 := Tryz.zeroValue3
  t4 := Tryz.underlying4
  a4 := Tryz.isAgg4
  z4 := Tryz.sizeOf4
  v4 := Tryz.zeroValue4
  t5 := Tryz.underlying5
  a5 := Tryz.isAgg5
  z5 := Tryz.sizeOf5
  v5 := Tryz.zeroValue5
  t9 := Tryz.underlying9
  a9 := Tryz.isAgg9
  z9 := Tryz.sizeOf9
  v9 := Tryz.zeroValue9
  t22 := Tryz.underlying27
  a22 := Tryz.isAgg27
  z22 := Tryz.sizeOf27
  v22 := Tryz.zeroValue27
  t25 := Tryz.underlying155
  a25 := Tryz.isAgg155
  z25 := Tryz.sizeOf155
  v25 := Tryz.zeroValue155
  t39 := Tryz.underlying172
  a39 := Tryz.isAgg172
  z39 := Tryz.sizeOf172
  v39 := Tryz.zeroValue172
  t45 := Tryz.underlying195
  a45 := Tryz.isAgg195
  z45 := Tryz.sizeOf195
  v45 := Tryz.zeroValue195
  t46 := Tryz.underlying196
  a46 := Tryz.isAgg196
  z46 := Tryz.sizeOf196
  v46 := Tryz.zeroValue196
  t50 := Tryz.underlying166
  a50 := Tryz.isAgg166
  z50 := Tryz.sizeOf166
  v50 := Tryz.zeroValue166
  t53 := Tryz.underlying202
  a53 := Tryz.isAgg202
  z53 := Tryz.sizeOf202
  v53 := Tryz.zeroValue202
  t55 := Tryz.underlying204
  a55 := Tryz.isAgg204
  z55 := Tryz.sizeOf204
  v55 := Tryz.zeroValue204
  t66 := Tryz.underlying228
  a66 := Tryz.isAgg228
  z66 := Tryz.sizeOf228
  v66 := Tryz.zeroValue228
  t70 := Tryz.underlying232
  a70 := Tryz.isAgg232
  z70 := Tryz.sizeOf232
  v70 := Tryz.zeroValue232
  t76 := Tryz.underlying248
  a76 := Tryz.isAgg248
  z76 := Tryz.sizeOf248
  v76 := Tryz.zeroValue248
  t77 := Tryz.underlying249
  a77 := Tryz.isAgg249
  z77 := Tryz.sizeOf249
  v77 := Tryz.zeroValue249
theorem plainCell (x : GCell) : ∀ p, p ∈ cells x → plainB p = true := by
  intro p h
  simp [cells] at h
  rcases h with rfl | rfl | rfl | rfl | rfl | rfl | rfl | rfl <;> rfl
instance : Inhabited GCell := ⟨Cel.dflt⟩
theorem f146_ok {g : Nat} (cf : GCell → GCell → Int) (hO : SWO (ltOf cf)) (hg : ∀ args w, (callFunc g args).run Tryz.prog w = .ok (.enter g args) w)
    (hc : ∀ x y : GCell, FnR Tryz.prog g [.agg (cells x), .agg (cells y)] (.v (.int .i64 (cf x y)))) (xs ys : List GCell) (hx : xs.length ≤ 1073741824)
    (hy : ∀ zs : List GCell, zs.Perm xs → zs.Pairwise (fun a b => ltOf cf b a = false) → zs = ys) :
    FnW Tryz.prog 146 [.v (.ow 88 8 xs.length (flat xs)), .fn g []] (.tup []) [.v (.ow 88 8 ys.length (flat ys)), .any] :=
  FnW_sortFunc cf ⟨⟨Tryz.f146, by kernel_rfl, rfl, by kernel_rfl⟩⟩ (by decide) plainCell (fun p cap fv w => AnyF.slices_SortFunc_none laysCell p cap fv w)
    (fun blk off cap d w hl hH hb hs => AnyQ.slices_SortFunc laysCell 8 Tryz.isAgg88 Tryz.sizeOf88 (fun x : GCell => (cells x).map pvV) (fun x => by rw [List.length_map, Cel.len]; rfl) (fun x v hv => by obtain ⟨p, _, rfl⟩ := List.mem_map.1 hv; exact pvV_one p) cf hO g #[] blk off cap d w hg hl hH hb hs)
    hc xs ys hx hy
def laysClash_ren : Go.Shelf.Ren := ⟨fun | 6 => 103 | 15 => 168 | 14 => 167 | 28 => 202 | 29 => 203 | 20 => 194 | 21 => 195 | 22 => 196 | 23 => 197 | 24 => 198 | 25 => 199 | 26 => 200 | 27 => 201 | 46 => 240 | 47 => 241 | 48 => 242 | 49 => 243 | 50 => 244 | 57 => 266 | n => n, fun | 22 => 49 | 24 => 52 | 25 => 130 | 3 => 3 | 39 => 172 | 0 => 0 | 53 => 202 | 55 => 204 | 4 => 4 | 46 => 196 | 45 => 195 | 50 => 166 | 5 => 5 | 9 => 9 | 66 => 228 | 70 => 232 | 76 => 248 | 77 => 249 | n => n, fun n => n⟩
theorem laysClash : Go.Proofs.SlLaysF0.n6 Tryz.prog laysClash_ren where
  mixed := by kernel_rfl
  f6 := ⟨"slices.SortFunc[[]loop.example/g00463/impl.Clash,loop.example/g00463/impl.Clash]", by decide, Tryz.func103.trans (congrArg some (by kernel_rfl))⟩
  f14 := ⟨"slices.pdqsortCmpFunc[loop.example/g00463/impl.Clash]", by decide, Tryz.func167.trans (congrArg some (by kernel_rfl))⟩
  f15 := Tryz.func168.trans (congrArg some (by kernel_rfl))
  f20 := ⟨"slices.insertionSortCmpFunc[loop.example/g00463/impl.Clash]", by decide, Tryz.func194.trans (congrArg some (by kernel_rfl))⟩
  f21 := ⟨"slices.heapSortCmpFunc[loop.example/g00463/impl.Clash]", by decide, Tryz.func195.trans (congrArg some (by kernel_rfl))⟩
  f22 := ⟨"slices.breakPatternsCmpFunc[loop.example/g00463/impl.Clash]", by decide, Tryz.func196.trans (congrArg some (by kernel_rfl))⟩
  f23 := ⟨"slices.choosePivotCmpFunc[loop.example/g00463/impl.Clash]", by decide, Tryz.func197.trans (congrArg some (by kernel_rfl))⟩
  f24 := ⟨"slices.reverseRangeCmpFunc[loop.example/g00463/impl.Clash]", by decide, Tryz.func198.trans (congrArg some (by kernel_rfl))⟩
  f25 := ⟨"slices.partialInsertionSortCmpFunc[loop.example/g00463/impl.Clash]", by decide, Tryz.func199.trans (congrArg some (by kernel_rfl))⟩
  f26 := ⟨"slices.partitionEqualCmpFunc[loop.example/g00463/impl.Clash]", by decide, Tryz.func200.trans (congrArg some (by kernel_rfl))⟩
  f27 := ⟨"slices.partitionCmpFunc[loop.example/g00463/impl.Clash]", by decide, Tryz.func201.trans (congrArg some (by kernel_rfl))⟩
  f28 := Tryz.func202.trans (congrArg some (by kernel_rfl))
  f29 := Tryz.func203.trans (congrArg some (by kernel_rfl))
  f46 := ⟨"slices.siftDownCmpFunc[loop.example/g00463/impl.Clash]", by decide, Tryz.func240.trans (congrArg some (by kernel_rfl))⟩
  f47 := Tryz.func241.trans (congrArg some (by kernel_rfl))
  f48 := Tryz.func242.trans (congrArg some (by kernel_rfl))
  f49 := ⟨"slices.medianAdjacentCmpFunc[loop.example/g00463/impl.Clash]", by decide, Tryz.func243.trans (congrArg some (by kernel_rfl))⟩
  f50 := ⟨"slices.medianCmpFunc[loop.example/g00463/impl.Clash]", by decide, Tryz.func244.trans (congrArg some (by kernel_rfl))⟩
  f57 := ⟨"slices.order2CmpFunc[loop.example/g00463/impl.Clash]", by decide, Tryz.func266.trans (congrArg some (by kernel_rfl))⟩
  t0 := Tryz.underlying0
  a0 := Tryz.isAgg0
  z0 := Tryz.sizeOf0
  v0 := Tryz.zeroValue0
  t3 := Tryz.underlying3
  a3 := Tryz.isAgg3
  z3 := Tryz.sizeOf3
  v3 := Tryz.zeroValue3
  t4 := Tryz.underlying4
  a4 := Tryz.isAgg4
  z4 := Tryz.sizeOf4
  v4 := Tryz.zeroValue4
  t5 := Tryz.underlying5
  a5 := Tryz.isAgg5
  z5 := Tryz.sizeOf5
  v5 := Tryz.zeroValue5
  t9 := Tryz.underlying9
  a9 := Tryz.isAgg9
  z9 := Tryz.sizeOf9
  v9 := Tryz.zeroValue9
  t22 := Tryz.underlying49
  a22 := Tryz.isAgg49
  z22 := Tryz.sizeOf49
  v22 := Tryz.zeroValue49
  t25 := Tryz.underlying130
  a25 := Tryz.isAgg130
  z25 := Tryz.sizeOf130
  v25 := Tryz.zeroValue130
  t39 := Tryz.underlying172
  a39 := Tryz.isAgg172
  z39 := Tryz.sizeOf172
  v39 := Tryz.zeroValue172
  t45 := Tryz.underlying195
  a45 := Tryz.isAgg195
  z45 := Tryz.sizeOf195
  v45 := Tryz.zeroValue195
  t46 := Tryz.underlying196
  a46 := Tryz.isAgg196
  z46 := Tryz.sizeOf196
  v46 := Tryz.zeroValue196
  t50 := Tryz.underlying166
  a50 := Tryz.isAgg166
  z50 := Tryz.sizeOf166
  v50 := Tryz.zeroValue166
  t53 := Tryz.underlying202
  a53 := Tryz.isAgg202
  z53 := Tryz.sizeOf202
  v53 := Tryz.zeroValue202
  t55 := Tryz.underlying204
  a55 := Tryz.isAgg204
  z55 := Tryz.sizeOf204
  v55 := Tryz.zeroValue204
  t66 := Tryz.underlying228
  a66 := Tryz.isAgg228
  z66 := Tryz.sizeOf228
  v66 := Tryz.zeroValue228
  t70 := Tryz.underlying232
  a70 := Tryz.isAgg232
  z70 := Tryz.sizeOf232
  v70 := Tryz.zeroValue232
  t76 := Tryz.underlying248
  a76 := Tryz.isAgg248
  z76 := Tryz.sizeOf248
  v76 := Tryz.zeroValue248
  t77 := Tryz.underlying249
  a77 := Tryz.isAgg249
  z77 := Tryz.sizeOf249
  v77 := Tryz.zeroValue249
theorem plainClash (x : GClash) : ∀ p, p ∈ cells x → plainB p = true := by
  intro p h
  simp [cells] at h
  rcases h with rfl | rfl <;> rfl
instance : Inhabited GClash := ⟨Cel.dflt⟩
theorem f103_ok {g : Nat} (cf : GClash → GClash → Int) (hO : SWO (ltOf cf)) (hg : ∀ args w, (callFunc g args).run Tryz.prog w = .ok (.enter g args) w)
    (hc : ∀ x y : GClash, FnR Tryz.prog g [.agg (cells x), .agg (cells y)] (.v (.int .i64 (cf x y)))) (xs ys : List GClash) (hx : xs.length ≤ 1073741824)
    (hy : ∀ zs : List GClash, zs.Perm xs → zs.Pairwise (fun a b => ltOf cf b a = false) → zs = ys) :
    FnW Tryz.prog 103 [.v (.ow 52 2 xs.length (flat xs)), .fn g []] (.tup []) [.v (.ow 52 2 ys.length (flat ys)), .any] :=
  FnW_sortFunc cf ⟨⟨Tryz.f103, by kernel_rfl, rfl, by kernel_rfl⟩⟩ (by decide) plainClash (fun p cap fv w => AnyF.slices_SortFunc_none laysClash p cap fv w)
    (fun blk off cap d w hl hH hb hs => AnyQ.slices_SortFunc laysClash 2 Tryz.isAgg52 Tryz.sizeOf52 (fun x : GClash => (cells x).map pvV) (fun x => by rw [List.length_map, Cel.len]; rfl) (fun x v hv => by obtain ⟨p, _, rfl⟩ := List.mem_map.1 hv; exact pvV_one p) cf hO g #[] blk off cap d w hg hl hH hb hs)
    hc xs ys hx hy
end Am
