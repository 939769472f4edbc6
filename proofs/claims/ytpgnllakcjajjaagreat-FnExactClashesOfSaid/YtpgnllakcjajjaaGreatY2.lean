/- The library's sort by a given order, over this program. No condition. -/
import Derived.Test.YtpgnllakcjajjaaGreatProg
import Derived.KernelRfl
import Derived.Shelf.SlSortCmp.WholeK
import Derived.Shelf.SlSortCmp.NoneTotal
import Derived.Test.YtpgnllakcjajjaaGreatT
import Derived.Test.YtpgnllakcjajjaaGreatD
import Derived.Test.YtpgnllakcjajjaaGreatAm34
namespace Am
open Go Go.Proofs Go.Sort Go.Shelf
open Cel (cells)
set_option maxRecDepth 100000
def laysTally_ren : Go.Shelf.Ren := ⟨fun | 6 => 135 | 15 => 155 | 14 => 172 | 28 => 185 | 29 => 186 | 20 => 189 | 21 => 190 | 22 => 191 | 23 => 192 | 24 => 193 | 25 => 194 | 26 => 195 | 27 => 196 | 46 => 228 | 47 => 224 | 48 => 225 | 49 => 229 | 50 => 230 | 57 => 241 | n => n, fun | 22 => 29 | 24 => 118 | 25 => 161 | 3 => 3 | 39 => 178 | 0 => 0 | 53 => 205 | 55 => 207 | 4 => 4 | 46 => 199 | 45 => 198 | 50 => 166 | 5 => 5 | 9 => 9 | 66 => 231 | 70 => 235 | 76 => 245 | 77 => 246 | n => n, fun n => n⟩
theorem laysTally : Go.Proofs.SlLaysF0.n6 Tryz.prog laysTally_ren where
  mixed := by kernel_rfl
  f6 := ⟨"slices.SortFunc[[]loop.example/g00463/impl.Tally,loop.example/g00463/impl.Tally]", by decide, Tryz.func135.trans (congrArg some (by kernel_rfl))⟩
  f14 := ⟨"slices.pdqsortCmpFunc[loop.example/g00463/impl.Tally]", by decide, Tryz.func172.trans (congrArg some (by kernel_rfl))⟩
  f15 := Tryz.func155.trans (congrArg some (by kernel_rfl))
  f20 := ⟨"slices.insertionSortCmpFunc[loop.example/g00463/impl.Tally]", by decide, Tryz.func189.trans (congrArg some (by kernel_rfl))⟩
  f21 := ⟨"slices.heapSortCmpFunc[loop.example/g00463/impl.Tally]", by decide, Tryz.func190.trans (congrArg some (by kernel_rfl))⟩
  f22 := ⟨"slices.breakPatternsCmpFunc[loop.example/g00463/impl.Tally]", by decide, Tryz.func191.trans (congrArg some (by kernel_rfl))⟩
  f23 := ⟨"slices.choosePivotCmpFunc[loop.example/g00463/impl.Tally]", by decide, Tryz.func192.trans (congrArg some (by kernel_rfl))⟩
  f24 := ⟨"slices.reverseRangeCmpFunc[loop.example/g00463/impl.Tally]", by decide, Tryz.func193.trans (congrArg some (by kernel_rfl))⟩
  f25 := ⟨"slices.partialInsertionSortCmpFunc[loop.example/g00463/impl.Tally]", by decide, Tryz.func194.trans (congrArg some (by kernel_rfl))⟩
  f26 := ⟨"slices.partitionEqualCmpFunc[loop.example/g00463/impl.Tally]", by decide, Tryz.func195.trans (congrArg some (by kernel_rfl))⟩
  f27 := ⟨"slices.partitionCmpFunc[loop.example/g00463/impl.Tally]", by decide, Tryz.func196.trans (congrArg some (by kernel_rfl))⟩
  f28 := Tryz.func185.trans (congrArg some (by kernel_rfl))
  f29 := Tryz.func186.trans (congrArg some (by kernel_rfl))
  f46 := ⟨"slices.siftDownCmpFunc[loop.example/g00463/impl.Tally]", by decide, Tryz.func228.trans (congrArg some (by kernel_rfl))⟩
  f47 := Tryz.func224.trans (congrArg some (by kernel_rfl))
  f48 := Tryz.func225.trans (congrArg some (by kernel_rfl))
  f49 := ⟨"slices.medianAdjacentCmpFunc[loop.example/g00463/impl.Tally]", by decide, Tryz.func229.trans (congrArg some (by kernel_rfl))⟩
  f50 := ⟨"slices.medianCmpFunc[loop.example/g00463/impl.Tally]", by decide, Tryz.func230.trans (congrArg some (by kernel_rfl))⟩
  f57 := ⟨"slices.order2CmpFunc[loop.example/g00463/impl.Tally]", by decide, Tryz.func241.trans (congrArg some (by kernel_rfl))⟩
  t0 := Tryz.underlying0
  a0 := Tryz.isAgg0
  z0 := Tryz.sizeOf0
  v0 := Tryz.zeroValue0
  t3 := Tryz.underlying3
  a3 := Tryz.isAgg3
  z3 := Tryz.sizeOf3
  v3 := Tryz.zeroValue3
  t4 := Tryz.underlying4
  a4 := Tryz.isAgg4
  z4 := Tryz.sizeOf4
  v4 := Tryz.zeroValue4
  t5 := Tryz.underlying5
  a5 := Tryz.isAgg5
  z5 := Tryz.sizeOf5
  v5 := Tryz.zeroValue5
  t9 := Tryz.underlying9
  a9 := Tryz.isAgg9
  z9 := Tryz.sizeOf9
  v9 := Tryz.zeroValue9
  t22 := Tryz.underlying29
  a22 := Tryz.isAgg29
  z22 := Tryz.sizeOf29
  v22 := Tryz.zeroValue29
  t25 := Tryz.underlying161
  a25 := Tryz.isAgg161
  z25 := Tryz.sizeOf161
  v25 := Tryz.zeroValue161
  t39 := Tryz.underlying178
  a39 := Tryz.isAgg178
  z39 := Tryz.sizeOf178
  v39 := Tryz.zeroValue178
  t45 := Tryz.underlying198
  a45 := Tryz.isAgg198
  z45 := Tryz.sizeOf198
  v45 := Tryz.zeroValue198
  t46 := Tryz.underlying199
  a46 := Tryz.isAgg199
  z46 := Tryz.sizeOf199
  v46 := Tryz.zeroValue199
  t50 := Tryz.underlying166
  a50 := Tryz.isAgg166
  z50 := Tryz.sizeOf166
  v50 := Tryz.zeroValue166
  t53 := Tryz.underlying205
  a53 := Tryz.isAgg205
  z53 := Tryz.sizeOf205
  v53 := Tryz.zeroValue205
  t55 := Tryz.underlying207
  a55 := Tryz.isAgg207
  z55 := Tryz.sizeOf207
  v55 := Tryz.zeroValue207
  t66 := Tryz.underlying231
  a66 := Tryz.isAgg231
  z66 := Tryz.sizeOf231
  v66 := Tryz.zeroValue231
  t70 := Tryz.underlying235
  a70 := Tryz.isAgg235
  z70 := Tryz.sizeOf235
  v70 := Tryz.zeroValue235
  t76 := Tryz.underlying245
  a76 := Tryz.isAgg245
  z76 := Tryz.sizeOf245
  v76 := Tryz.zeroValue245
  t77 := Tryz.underlying246
  a77 := Tryz.isAgg246
  z77 := Tryz.sizeOf246
  v77 := Tryz.zeroValue246
theorem plainTally (x : GTally) : ∀ p, p ∈ cells x → plainB p = true := by
  intro p h
  simp [cells] at h
  rcases h with rfl | rfl | rfl <;> rfl
instance : Inhabited GTally := ⟨Cel.dflt⟩
theorem f135_ok {g : Nat} (cf : GTally → GTally → Int) (hO : SWO (ltOf cf)) (hg : ∀ args w, (callFunc g args).run Tryz.prog w = .ok (.enter g args) w)
    (hc : ∀ x y : GTally, FnR Tryz.prog g [.agg (cells x), .agg (cells y)] (.v (.int .i64 (cf x y)))) (xs ys : List GTally) (hx : xs.length ≤ 1073741824)
    (hy : ∀ zs : List GTally, zs.Perm xs → zs.Pairwise (fun a b => ltOf cf b a = false) → zs = ys) :
    FnW Tryz.prog 135 [.v (.ow 118 3 xs.length (flat xs)), .fn g []] (.tup []) [.v (.ow 118 3 ys.length (flat ys)), .any] :=
  FnW_sortFunc cf ⟨⟨Tryz.f135, by kernel_rfl, rfl, by kernel_rfl⟩⟩ (by decide) plainTally (fun p cap fv w => AnyF.slices_SortFunc_none laysTally p cap fv w)
    (fun blk off cap d w hl hH hb hs => AnyQ.slices_SortFunc laysTally 3 Tryz.isAgg118 Tryz.sizeOf118 (fun x : GTally => (cells x).map pvV) (fun x => by rw [List.length_map, Cel.len]; rfl) (fun x v hv => by obtain ⟨p, _, rfl⟩ := List.mem_map.1 hv; exact pvV_one p) cf hO g #[] blk off cap d w hg hl hH hb hs)
    hc xs ys hx hy
def laysLive_ren : Go.Shelf.Ren := ⟨fun | 6 => 138 | 15 => 155 | 14 => 174 | 28 => 185 | 29 => 186 | 20 => 198 | 21 => 199 | 22 => 200 | 23 => 201 | 24 => 202 | 25 => 203 | 26 => 204 | 27 => 205 | 46 => 231 | 47 => 224 | 48 => 225 | 49 => 232 | 50 => 233 | 57 => 242 | n => n, fun | 22 => 30 | 24 => 82 | 25 => 164 | 3 => 3 | 39 => 178 | 0 => 0 | 53 => 205 | 55 => 207 | 4 => 4 | 46 => 199 | 45 => 198 | 50 => 166 | 5 => 5 | 9 => 9 | 66 => 231 | 70 => 235 | 76 => 245 | 77 => 246 | n => n, fun n => n⟩
theorem laysLive : Go.Proofs.SlLaysF0.n6 Tryz.prog laysLive_ren where
  mixed := by kernel_rfl
  f6 := ⟨"slices.SortFunc[[]loop.example/g00463/impl.Live,loop.example/g00463/impl.Live]", by decide, Tryz.func138.trans (congrArg some (by kernel_rfl))⟩
  f14 := ⟨"slices.pdqsortCmpFunc[loop.example/g00463/impl.Live]", by decide, Tryz.func174.trans (congrArg some (by kernel_rfl))⟩
  f15 := Tryz.func155.trans (congrArg some (by kernel_rfl))
  f20 := ⟨"slices.insertionSortCmpFunc[loop.example/g00463/impl.Live]", by decide, Tryz.func198.trans (congrArg some (by kernel_rfl))⟩
  f21 := ⟨"slices.heapSortCmpFunc[loop.example/g00463/impl.Live]", by decide, Tryz.func199.trans (congrArg some (by kernel_rfl))⟩
  f22 := ⟨"slices.breakPatternsCmpFunc[loop.example/g00463/impl.Live]", by decide, Tryz.func200.trans (congrArg some (by kernel_rfl))⟩
  f23 := ⟨"slices.choosePivotCmpFunc[loop.example/g00463/impl.Live]", by decide, Tryz.func201.trans (congrArg some (by kernel_rfl))⟩
  f24 := ⟨"slices.reverseRangeCmpFunc[loop.example/g00463/impl.Live]", by decide, Tryz.func202.trans (congrArg some (by kernel_rfl))⟩
  f25 := ⟨"slices.partialInsertionSortCmpFunc[loop.example/g00463/impl.Live]", by decide, Tryz.func203.trans (congrArg some (by kernel_rfl))⟩
  f26 := ⟨"slices.partitionEqualCmpFunc[loop.example/g00463/impl.Live]", by decide, Tryz.func204.trans (congrArg some (by kernel_rfl))⟩
  f27 := ⟨"slices.partitionCmpFunc[loop.example/g00463/impl.Live]", by decide, Tryz.func205.trans (congrArg some (by kernel_rfl))⟩
  f28 := Tryz.func185.trans (congrArg some (by kernel_rfl))
  f29 := Tryz.func186.trans (congrArg some (by kernel_rfl))
  f46 := ⟨"slices.siftDownCmpFunc[loop.example/g00463/impl.Live]", by decide, Tryz.func231.trans (congrArg some (by kernel_rfl))⟩
  f47 := Tryz.func224.trans (congrArg some (by kernel_rfl))
  f48 := Tryz.func225.trans (congrArg some (by kernel_rfl))
  f49 := ⟨"slices.medianAdjacentCmpFunc[loop.example/g00463/impl.Live]", by decide, Tryz.func232.trans (congrArg some (by kernel_rfl))⟩
  f50 := ⟨"slices.medianCmpFunc[loop.example/g00463/impl.Live]", by decide, Tryz.func233.trans (congrArg some (by kernel_rfl))⟩
  f57 := ⟨"slices.order2CmpFunc[loop.example/g00463/impl.Live]", by decide, Tryz.func242.trans (congrArg some (by kernel_rfl))⟩
  t0 := Tryz.underlying0
  a0 := Tryz.isAgg0
  z0 := Tryz.sizeOf0
  v0 := Tryz.zeroValue0
  t3 := Tryz.underlying3
  a3 := Tryz.isAgg3
  z3 := Tryz.sizeOf3
  v3 := Tryz.zeroValue3
  t4 := Tryz.underlying4
  a4 := Tryz.isAgg4
  z4 := Tryz.sizeOf4
  v4 := Tryz.zeroValue4
  t5 := Tryz.underlying5
  a5 := Tryz.isAgg5
  z5 := Tryz.sizeOf5
  v5 := Tryz.zeroValue5
  t9 := Tryz.underlying9
  a9 := Tryz.isAgg9
  z9 := Tryz.sizeOf9
  v9 := Tryz.zeroValue9
  t22 := Tryz.underlying30
  a22 := Tryz.isAgg30
  z22 := Tryz.sizeOf30
  v22 := Tryz.zeroValue30
  t25 := Tryz.underlying164
  a25 := Tryz.isAgg164
  z25 := Tryz.sizeOf164
  v25 := Tryz.zeroValue164
  t39 := Tryz.underlying178
  a39 := Tryz.isAgg178
  z39 := Tryz.sizeOf178
  v39 := Tryz.zeroValue178
  t45 := Tryz.underlying198
  a45 := Tryz.isAgg198
  z45 := Tryz.sizeOf198
  v45 := Tryz.zeroValue198
  t46 := Tryz.underlying199
  a46 := Tryz.isAgg199
  z46 := Tryz.sizeOf199
  v46 := Tryz.zeroValue199
  t50 := Tryz.underlying166
  a50 := Tryz.isAgg166
  z50 := Tryz.sizeOf166
  v50 := Tryz.zeroValue166
  t53 := Tryz.underlying205
  a53 := Tryz.isAgg205
  z53 := Tryz.sizeOf205
  v53 := Tryz.zeroValue205
  t55 := Tryz.underlying207
  a55 := Tryz.isAgg207
  z55 := Tryz.sizeOf207
  v55 := Tryz.zeroValue207
  t66 := Tryz.underlying231
  a66 := Tryz.isAgg231
  z66 := Tryz.sizeOf231
  v66 := Tryz.zeroValue231
  t70 := Tryz.underlying235
  a70 := Tryz.isAgg235
  z70 := Tryz.sizeOf235
  v70 := Tryz.zeroValue235
  t76 := Tryz.underlying245
  a76 := Tryz.isAgg245
  z76 := Tryz.sizeOf245
  v76 := Tryz.zeroValue245
  t77 := Tryz.underlying246
  a77 := Tryz.isAgg246
  z77 := Tryz.sizeOf246
  v77 := Tryz.zeroValue246
theorem plainLive (x : GLive) : ∀ p, p ∈ cells x → plainB p = true := by
  intro p h
  simp [cells] at h
  rcases h with rfl | rfl | rfl | rfl | rfl | rfl <;> rfl
instance : Inhabited GLive := ⟨Cel.dflt⟩
theorem f138_ok {g : Nat} (cf : GLive → GLive → Int) (hO : SWO (ltOf cf)) (hg : ∀ args w, (callFunc g args).run Tryz.prog w = .ok (.enter g args) w)
    (hc : ∀ x y : GLive, FnR Tryz.prog g [.agg (cells x), .agg (cells y)] (.v (.int .i64 (cf x y)))) (xs ys : List GLive) (hx : xs.length ≤ 1073741824)
    (hy : ∀ zs : List GLive, zs.Perm xs → zs.Pairwise (fun a b => ltOf cf b a = false) → zs = ys) :
    FnW Tryz.prog 138 [.v (.ow 82 6 xs.length (flat xs)), .fn g []] (.tup []) [.v (.ow 82 6 ys.length (flat ys)), .any] :=
  FnW_sortFunc cf ⟨⟨Tryz.f138, by kernel_rfl, rfl, by kernel_rfl⟩⟩ (by decide) plainLive (fun p cap fv w => AnyF.slices_SortFunc_none laysLive p cap fv w)
    (fun blk off cap d w hl hH hb hs => AnyQ.slices_SortFunc laysLive 6 Tryz.isAgg82 Tryz.sizeOf82 (fun x : GLive => (cells x).map pvV) (fun x => by rw [List.length_map, Cel.len]; rfl) (fun x v hv => by obtain ⟨p, _, rfl⟩ := List.mem_map.1 hv; exact pvV_one p) cf hO g #[] blk off cap d w hg hl hH hb hs)
    hc xs ys hx hy
def laysCell_ren : Go.Shelf.Ren := ⟨fun | 6 => 141 | 15 => 155 | 14 => 175 | 28 => 185 | 29 => 186 | 20 => 206 | 21 => 207 | 22 => 208 | 23 => 209 | 24 => 210 | 25 => 211 | 26 => 212 | 27 => 213 | 46 => 234 | 47 => 224 | 48 => 225 | 49 => 235 | 50 => 236 | 57 => 243 | n => n, fun | 22 => 31 | 24 => 121 | 25 => 168 | 3 => 3 | 39 => 178 | 0 => 0 | 53 => 205 | 55 => 207 | 4 => 4 | 46 => 199 | 45 => 198 | 50 => 166 | 5 => 5 | 9 => 9 | 66 => 231 | 70 => 235 | 76 => 245 | 77 => 246 | n => n, fun n => n⟩
theorem laysCell : Go.Proofs.SlLaysF0.n6 Tryz.prog laysCell_ren where
  mixed := by kernel_rfl
  f6 := ⟨"slices.SortFunc[[]loop.example/g00463/impl.Cell,loop.example/g00463/impl.Cell]", by decide, Tryz.func141.trans (congrArg some (by kernel_rfl))⟩
  f14 := ⟨"slices.pdqsortCmpFunc[loop.example/g00463/impl.Cell]", by decide, Tryz.func175.trans (congrArg some (by kernel_rfl))⟩
  f15 := Tryz.func155.trans (congrArg some (by kernel_rfl))
  f20 := ⟨"slices.insertionSortCmpFunc[loop.example/g00463/impl.Cell]", by decide, Tryz.func206.trans (congrArg some (by kernel_rfl))⟩
  f21 := ⟨"slices.heapSortCmpFunc[loop.example/g00463/impl.Cell]", by decide, Tryz.func207.trans (congrArg some (by kernel_rfl))⟩
  f22 := ⟨"slices.breakPatternsCmpFunc[loop.example/g00463/impl.Cell]", by decide, Tryz.func208.trans (congrArg some (by kernel_rfl))⟩
  f23 := ⟨"slices.choosePivotCmpFunc[loop.example/g00463/impl.Cell]", by decide, Tryz.func209.trans (congrArg some (by kernel_rfl))⟩
  f24 := ⟨"slices.reverseRangeCmpFunc[loop.example/g00463/impl.Cell]", by decide, Tryz.func210.trans (congrArg some (by kernel_rfl))⟩
  f25 := ⟨"slices.partialInsertionSortCmpFunc[loop.example/g00463/impl.Cell]", by decide, Tryz.func211.trans (congrArg some (by kernel_rfl))⟩
  f26 := ⟨"slices.partitionEqualCmpFunc[loop.example/g00463/impl.Cell]", by decide, Tryz.func212.trans (congrArg some (by kernel_rfl))⟩
  f27 := ⟨"slices.partitionCmpFunc[loop.example/g00463/impl.Cell]", by decide, Tryz.func213.trans (congrArg some (by kernel_rfl))⟩
  f28 := Tryz.func185.trans (congrArg some (by kernel_rfl))
  f29 := Tryz.func186.trans (congrArg some (by kernel_rfl))
  f46 := ⟨"slices.siftDownCmpFunc[loop.example/g00463/impl.Cell]", by decide, Tryz.func234.trans (congrArg some (by kernel_rfl))⟩
  f47 := Tryz.func224.trans (congrArg some (by kernel_rfl))
  f48 := Tryz.func225.trans (congrArg some (by kernel_rfl))
  f49 := ⟨"slices.medianAdjacentCmpFunc[loop.example/g00463/impl.Cell]", by decide, Tryz.func235.trans (congrArg some (by kernel_rfl))⟩
  f50 := ⟨"slices.medianCmpFunc[loop.example/g00463/impl.Cell]", by decide, Tryz.func236.trans (congrArg some (by kernel_rfl))⟩
  f57 := ⟨"slices.order2CmpFunc[loop.example/g00463/impl.Cell]", by decide, Tryz.func243.trans (congrArg some (by kernel_rfl))⟩
  t0 := Tryz.underlying0
  a0 := Tryz.isAgg0
  z0 := Tryz.sizeOf0
  v0 := Tryz.zeroValue0
  t3 := Tryz.underlying3
  a3 := Tryz.isAgg3
  z3 := Tryz.sizeOf3
  v3 := Tryz.zeroValue3
  t4 := Tryz.underlying4
  a4 := Tryz.isAgg4
  z4 := Tryz.sizeOf4
  v4 := Tryz.zeroValue4
  t5 := Tryz.underlying5
  a5 := Tryz.isAgg5
  z5 := Tryz.sizeOf5
  v5 := Tryz.zeroValue5
  t9 := Tryz.underlying9
  a9 := Tryz.isAgg9
  z9 := Tryz.sizeOf9
  v9 := Tryz.zeroValue9
  t22 := Tryz.underlying31
  a22 := Tryz.isAgg31
  z22 := Tryz.sizeOf31
  v22 := Tryz.zeroValue31
  t25 := Tryz.underlying168
  a25 := Tryz.isAgg168
  z25 := Tryz.sizeOf168
  v25 := Tryz.zeroValue168
  t39 := Tryz.underlying178
  a39 := Tryz.isAgg178
  z39 := Tryz.sizeOf178
  v39 := Tryz.zeroValue178
  t45 := Tryz.underlying198
  a45 := Tryz.isAgg198
  z45 := Tryz.sizeOf198
  v45 := Tryz.zeroValue198
  t46 := Tryz.underlying199
  a46 := Tryz.isAgg199
  z46 := Tryz.sizeOf199
  v46 := Tryz.zeroValue199
  t50 := Tryz.underlying166
  a50 := Tryz.isAgg166
  z50 := Tryz.sizeOf166
  v50 := Tryz.zeroValue166
  t53 := Tryz.underlying205
  a53 := Tryz.isAgg205
  z53 := Tryz.sizeOf205
  v53 := Tryz.zeroValue205
  t55 := Tryz.underlying207
  a55 := Tryz.isAgg207
  z55 := Tryz.sizeOf207
  v55 := Tryz.zeroValue207
  t66 := Tryz.underlying231
  a66 := Tryz.isAgg231
  z66 := Tryz.sizeOf231
  v66 := Tryz.zeroValue231
  t70 := Tryz.underlying235
  a70 := Tryz.isAgg235
  z70 := Tryz.sizeOf235
  v70 := Tryz.zeroValue235
  t76 := Tryz.underlying245
  a76 := Tryz.isAgg245
  z76 := Tryz.sizeOf245
  v76 := Tryz.zeroValue245
  t77 := Tryz.underlying246
  a77 := Tryz.isAgg246
  z77 := Tryz.sizeOf246
  v77 := Tryz.zeroValue246
theorem plainCell (x : GCell) : ∀ p, p ∈ cells x → plainB p = true := by
  intro p h
  simp [cells] at h
  rcases h with rfl | rfl | rfl | rfl | rfl | rfl | rfl | rfl <;> rfl
instance : Inhabited GCell := ⟨Cel.dflt⟩
theorem f141_ok {g : Nat} (cf : GCell → GCell → Int) (hO : SWO (ltOf cf)) (hg : ∀ args w, (callFunc g args).run Tryz.prog w = .ok (.enter g args) w)
    (hc : ∀ x y : GCell, FnR Tryz.prog g [.agg (cells x), .agg (cells y)] (.v (.int .i64 (cf x y)))) (xs ys : List GCell) (hx : xs.length ≤ 1073741824)
    (hy : ∀ zs : List GCell, zs.Perm xs → zs.Pairwise (fun a b => ltOf cf b a = false) → zs = ys) :
    FnW Tryz.prog 141 [.v (.ow 121 8 xs.length (flat xs)), .fn g []] (.tup []) [.v (.ow 121 8 ys.length (flat ys)), .any] :=
  FnW_sortFunc cf ⟨⟨Tryz.f141, by kernel_rfl, rfl, by kernel_rfl⟩⟩ (by decide) plainCell (fun p cap fv w => AnyF.slices_SortFunc_none laysCell p cap fv w)
    (fun blk off cap d w hl hH hb hs => AnyQ.slices_SortFunc laysCell 8 Tryz.isAgg121 Tryz.sizeOf121 (fun x : GCell => (cells x).map pvV) (fun x => by rw [List.length_map, Cel.len]; rfl) (fun x v hv => by obtain ⟨p, _, rfl⟩ := List.mem_map.1 hv; exact pvV_one p) cf hO g #[] blk off cap d w hg hl hH hb hs)
    hc xs ys hx hy
def laysClash_ren : Go.Shelf.Ren := ⟨fun | 6 => 85 | 15 => 155 | 14 => 154 | 28 => 185 | 29 => 186 | 20 => 177 | 21 => 178 | 22 => 179 | 23 => 180 | 24 => 181 | 25 => 182 | 26 => 183 | 27 => 184 | 46 => 223 | 47 => 224 | 48 => 225 | 49 => 226 | 50 => 227 | 57 => 240 | n => n, fun | 22 => 39 | 24 => 107 | 25 => 113 | 3 => 3 | 39 => 178 | 0 => 0 | 53 => 205 | 55 => 207 | 4 => 4 | 46 => 199 | 45 => 198 | 50 => 166 | 5 => 5 | 9 => 9 | 66 => 231 | 70 => 235 | 76 => 245 | 77 => 246 | n => n, fun n => n⟩
theorem laysClash : Go.Proofs.SlLaysF0.n6 Tryz.prog laysClash_ren where
  mixed := by kernel_rfl
  f6 := ⟨"slices.SortFunc[[]loop.example/g00463/impl.Clash,loop.example/g00463/impl.Clash]", by decide, Tryz.func85.trans (congrArg some (by kernel_rfl))⟩
  f14 := ⟨"slices.pdqsortCmpFunc[loop.example/g00463/impl.Clash]", by decide, Tryz.func154.trans (congrArg some (by kernel_rfl))⟩
  f15 := Tryz.func155.trans (congrArg some (by kernel_rfl))
  f20 := ⟨"slices.insertionSortCmpFunc[loop.example/g00463/impl.Clash]", by decide, Tryz.func177.trans (congrArg some (by kernel_rfl))⟩
  f21 := ⟨"slices.heapSortCmpFunc[loop.example/g00463/impl.Clash]", by decide, Tryz.func178.trans (congrArg some (by kernel_rfl))⟩
  f22 := ⟨"slices.breakPatternsCmpFunc[loop.example/g00463/impl.Clash]", by decide, Tryz.func179.trans (congrArg some (by kernel_rfl))⟩
  f23 := ⟨"slices.choosePivotCmpFunc[loop.example/g00463/impl.Clash]", by decide, Tryz.func180.trans (congrArg some (by kernel_rfl))⟩
  f24 := ⟨"slices.reverseRangeCmpFunc[loop.example/g00463/impl.Clash]", by decide, Tryz.func181.trans (congrArg some (by kernel_rfl))⟩
  f25 := ⟨"slices.partialInsertionSortCmpFunc[loop.example/g00463/impl.Clash]", by decide, Tryz.func182.trans (congrArg some (by kernel_rfl))⟩
  f26 := ⟨"slices.partitionEqualCmpFunc[loop.example/g00463/impl.Clash]", by decide, Tryz.func183.trans (congrArg some (by kernel_rfl))⟩
  f27 := ⟨"slices.partitionCmpFunc[loop.example/g00463/impl.Clash]", by decide, Tryz.func184.trans (congrArg some (by kernel_rfl))⟩
  f28 := Tryz.func185.trans (congrArg some (by kernel_rfl))
  f29 := Tryz.func186.trans (congrArg some (by kernel_rfl))
  f46 := ⟨"slices.siftDownCmpFunc[loop.example/g00463/impl.Clash]", by decide, Tryz.func223.trans (congrArg some (by kernel_rfl))⟩
  f47 := Tryz.func224.trans (congrArg some (by kernel_rfl))
  f48 := Tryz.func225.trans (congrArg some (by kernel_rfl))
  f49 := ⟨"slices.medianAdjacentCmpFunc[loop.example/g00463/impl.Clash]", by decide, Tryz.func226.trans (congrArg some (by kernel_rfl))⟩
  f50 := ⟨"slices.medianCmpFunc[loop.example/g00463/impl.Clash]", by decide, Tryz.func227.trans (congrArg some (by kernel_rfl))⟩
  f57 := ⟨"slices.order2CmpFunc[loop.example/g00463/impl.Clash]", by decide, Tryz.func240.trans (congrArg some (by kernel_rfl))⟩
  t0 := Tryz.underlying0
  a0 := Tryz.isAgg0
  z0 := Tryz.sizeOf0
  v0 := Tryz.zeroValue0
  t3 := Tryz.underlying3
  a3 := Tryz.isAgg3
  z3 := Tryz.sizeOf3
  v3 := Tryz.zeroValue3
  t4 := Tryz.underlying4
  a4 := Tryz.isAgg4
  z4 := Tryz.sizeOf4
  v4 := Tryz.zeroValue4
  t5 := Tryz.underlying5
  a5 := Tryz.isAgg5
  z5 := Tryz.sizeOf5
  v5 := Tryz.zeroValue5
  t9 := Tryz.underlying9
  a9 := Tryz.isAgg9
  z9 := Tryz.sizeOf9
  v9 := Tryz.zeroValue9
  t22 := Tryz.underlying39
  a22 := Tryz.isAgg39
  z22 := Tryz.sizeOf39
  v22 := Tryz.zeroValue39
  t25 := Tryz.underlying113
  a25 := Tryz.isAgg113
  z25 := Tryz.sizeOf113
  v25 := Tryz.zeroValue113
  t39 := Tryz.underlying178
  a39 := Tryz.isAgg178
  z39 := Tryz.sizeOf178
  v39 := Tryz.zeroValue178
  t45 := Tryz.underlying198
  a45 := Tryz.isAgg198
  z45 := Tryz.sizeOf198
  v45 := Tryz.zeroValue198
  t46 := Tryz.underlying199
  a46 := Tryz.isAgg199
  z46 := Tryz.sizeOf199
  v46 := Tryz.zeroValue199
  t50 := Tryz.underlying166
  a50 := Tryz.isAgg166
  z50 := Tryz.sizeOf166
  v50 := Tryz.zeroValue166
  t53 := Tryz.underlying205
  a53 := Tryz.isAgg205
  z53 := Tryz.sizeOf205
  v53 := Tryz.zeroValue205
  t55 := Tryz.underlying207
  a55 := Tryz.isAgg207
  z55 := Tryz.sizeOf207
  v55 := Tryz.zeroValue207
  t66 := Tryz.underlying231
  a66 := Tryz.isAgg231
  z66 := Tryz.sizeOf231
  v66 := Tryz.zeroValue231
  t70 := Tryz.underlying235
  a70 := Tryz.isAgg235
  z70 := Tryz.sizeOf235
  v70 := Tryz.zeroValue235
  t76 := Tryz.underlying245
  a76 := Tryz.isAgg245
  z76 := Tryz.sizeOf245
  v76 := Tryz.zeroValue245
  t77 := Tryz.underlying246
  a77 := Tryz.isAgg246
  z77 := Tryz.sizeOf246
  v77 := Tryz.zeroValue246
theorem plainClash (x : GClash) : ∀ p, p ∈ cells x → plainB p = true := by
  intro p h
  simp [cells] at h
  rcases h with rfl | rfl <;> rfl
instance : Inhabited GClash := ⟨Cel.dflt⟩
theorem f85_ok {g : Nat} (cf : GClash → GClash → Int) (hO : SWO (ltOf cf)) (hg : ∀ args w, (callFunc g args).run Tryz.prog w = .ok (.enter g args) w)
    (hc : ∀ x y : GClash, FnR Tryz.prog g [.agg (cells x), .agg (cells y)] (.v (.int .i64 (cf x y)))) (xs ys : List GClash) (hx : xs.length ≤ 1073741824)
    (hy : ∀ zs : List GClash, zs.Perm xs → zs.Pairwise (fun a b => ltOf cf b a = false) → zs = ys) :
    FnW Tryz.prog 85 [.v (.ow 107 2 xs.length (flat xs)), .fn g []] (.tup []) [.v (.ow 107 2 ys.length (flat ys)), .any] :=
  FnW_sortFunc cf ⟨⟨Tryz.f85, by kernel_rfl, rfl, by kernel_rfl⟩⟩ (by decide) plainClash (fun p cap fv w => AnyF.slices_SortFunc_none laysClash p cap fv w)
    (fun blk off cap d w hl hH hb hs => AnyQ.slices_SortFunc laysClash 2 Tryz.isAgg107 Tryz.sizeOf107 (fun x : GClash => (cells x).map pvV) (fun x => by rw [List.length_map, Cel.len]; rfl) (fun x v hv => by obtain ⟨p, _, rfl⟩ := List.mem_map.1 hv; exact pvV_one p) cf hO g #[] blk off cap d w hg hl hH hb hs)
    hc xs ys hx hy
end Am
