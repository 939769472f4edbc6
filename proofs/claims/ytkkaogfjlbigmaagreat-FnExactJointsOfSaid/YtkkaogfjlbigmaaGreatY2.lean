/- The library's sort by a given order, over this program. No condition. -/
import Derived.Test.YtkkaogfjlbigmaaGreatProg
import Derived.KernelRfl
import Derived.Shelf.SlSortCmp.WholeK
import Derived.Shelf.SlSortCmp.NoneTotal
import Derived.Test.YtkkaogfjlbigmaaGreatT
import Derived.Test.YtkkaogfjlbigmaaGreatD
import Derived.Test.YtkkaogfjlbigmaaGreatAm34
namespace Am
open Go Go.Proofs Go.Sort Go.Shelf
open Cel (cells)
set_option maxRecDepth 100000
def laysTally_ren : Go.Shelf.Ren := ⟨fun | 6 => 164 | 15 => 140 | 14 => 174 | 28 => 162 | 29 => 163 | 20 => 178 | 21 => 179 | 22 => 180 | 23 => 181 | 24 => 182 | 25 => 183 | 26 => 184 | 27 => 185 | 46 => 194 | 47 => 170 | 48 => 171 | 49 => 195 | 50 => 196 | 57 => 200 | n => n, fun | 22 => 38 | 24 => 120 | 25 => 143 | 3 => 3 | 39 => 168 | 0 => 0 | 53 => 183 | 55 => 185 | 4 => 4 | 46 => 177 | 45 => 176 | 50 => 146 | 5 => 5 | 9 => 9 | 66 => 189 | 70 => 193 | 76 => 198 | 77 => 199 | n => n, fun n => n⟩
theorem laysTally : Go.Proofs.SlLaysF0.n6 Tryz.prog laysTally_ren where
  mixed := by kernel_rfl
  f6 := ⟨"slices.SortFunc[[]loop.example/g00463/impl.Tally,loop.example/g00463/impl.Tally]", by decide, Tryz.func164.trans (congrArg some (by kernel_rfl))⟩
  f14 := ⟨"slices.pdqsortCmpFunc[loop.example/g00463/impl.Tally]", by decide, Tryz.func174.trans (congrArg some (by kernel_rfl))⟩
  f15 := Tryz.func140.trans (congrArg some (by kernel_rfl))
  f20 := ⟨"slices.insertionSortCmpFunc[loop.example/g00463/impl.Tally]", by decide, Tryz.func178.trans (congrArg some (by kernel_rfl))⟩
  f21 := ⟨"slices.heapSortCmpFunc[loop.example/g00463/impl.Tally]", by decide, Tryz.func179.trans (congrArg some (by kernel_rfl))⟩
  f22 := ⟨"slices.breakPatternsCmpFunc[loop.example/g00463/impl.Tally]", by decide, Tryz.func180.trans (congrArg some (by kernel_rfl))⟩
  f23 := ⟨"slices.choosePivotCmpFunc[loop.example/g00463/impl.Tally]", by decide, Tryz.func181.trans (congrArg some (by kernel_rfl))⟩
  f24 := ⟨"slices.reverseRangeCmpFunc[loop.example/g00463/impl.Tally]", by decide, Tryz.func182.trans (congrArg some (by kernel_rfl))⟩
  f25 := ⟨"slices.partialInsertionSortCmpFunc[loop.example/g00463/impl.Tally]", by decide, Tryz.func183.trans (congrArg some (by kernel_rfl))⟩
  f26 := ⟨"slices.partitionEqualCmpFunc[loop.example/g00463/impl.Tally]", by decide, Tryz.func184.trans (congrArg some (by kernel_rfl))⟩
  f27 := ⟨"slices.partitionCmpFunc[loop.example/g00463/impl.Tally]", by decide, Tryz.func185.trans (congrArg some (by kernel_rfl))⟩
  f28 := Tryz.func162.trans (congrArg some (by kernel_rfl))
  f29 := Tryz.func163.trans (congrArg some (by kernel_rfl))
  f46 := ⟨"slices.siftDownCmpFunc[loop.example/g00463/impl.Tally]", by decide, Tryz.func194.trans (congrArg some (by kernel_rfl))⟩
  f47 := Tryz.func170.trans (congrArg some (by kernel_rfl))
  f48 := Tryz.func171.trans (congrArg some (by kernel_rfl))
  f49 := ⟨"slices.medianAdjacentCmpFunc[loop.example/g00463/impl.Tally]", by decide, Tryz.func195.trans (congrArg some (by kernel_rfl))⟩
  f50 := ⟨"slices.medianCmpFunc[loop.example/g00463/impl.Tally]", by decide, Tryz.func196.trans (congrArg some (by kernel_rfl))⟩
  f57 := ⟨"slices.order2CmpFunc[loop.example/g00463/impl.Tally]", by decide, Tryz.func200.trans (congrArg some (by kernel_rfl))⟩
  t0 := Tryz.underlying0
  a0 := Tryz.isAgg0
  z0 := Tryz.sizeOf0
  v0 := Tryz.zeroValue0
  t3 := Tryz.underlying3
  a3 := Tryz.isAgg3
  z3 := Tryz.sizeOf3
  v3 := Tryz.zeroValue3
  t4 := Tryz.underlying4
  a4 := Tryz.isAgg4
  z4 := Tryz.sizeOf4
  v4 := Tryz.zeroValue4
  t5 := Tryz.underlying5
  a5 := Tryz.isAgg5
  z5 := Tryz.sizeOf5
  v5 := Tryz.zeroValue5
  t9 := Tryz.underlying9
  a9 := Tryz.isAgg9
  z9 := Tryz.sizeOf9
  v9 := Tryz.zeroValue9
  t22 := Tryz.underlying38
  a22 := Tryz.isAgg38
  z22 := Tryz.sizeOf38
  v22 := Tryz.zeroValue38
  t25 := Tryz.underlying143
  a25 := Tryz.isAgg143
  z25 := Tryz.sizeOf143
  v25 := Tryz.zeroValue143
  t39 := Tryz.underlying168
  a39 := Tryz.isAgg168
  z39 := Tryz.sizeOf168
  v39 := Tryz.zeroValue168
  t45 := Tryz.underlying176
  a45 := Tryz.isAgg176
  z45 := Tryz.sizeOf176
  v45 := Tryz.zeroValue176
  t46 := Tryz.underlying177
  a46 := Tryz.isAgg177
  z46 := Tryz.sizeOf177
  v46 := Tryz.zeroValue177
  t50 := Tryz.underlying146
  a50 := Tryz.isAgg146
  z50 := Tryz.sizeOf146
  v50 := Tryz.zeroValue146
  t53 := Tryz.underlying183
  a53 := Tryz.isAgg183
  z53 := Tryz.sizeOf183
  v53 := Tryz.zeroValue183
  t55 := Tryz.underlying185
  a55 := Tryz.isAgg185
  z55 := Tryz.sizeOf185
  v55 := Tryz.zeroValue185
  t66 := Tryz.underlying189
  a66 := Tryz.isAgg189
  z66 := Tryz.sizeOf189
  v66 := Tryz.zeroValue189
  t70 := Tryz.underlying193
  a70 := Tryz.isAgg193
  z70 := Tryz.sizeOf193
  v70 := Tryz.zeroValue193
  t76 := Tryz.underlying198
  a76 := Tryz.isAgg198
  z76 := Tryz.sizeOf198
  v76 := Tryz.zeroValue198
  t77 := Tryz.underlying199
  a77 := Tryz.isAgg199
  z77 := Tryz.sizeOf199
  v77 := Tryz.zeroValue199
theorem plainTally (x : GTally) : ∀ p, p ∈ cells x → plainB p = true := by
  intro p h
  simp [cells] at h
  rcases h with rfl | rfl | rfl <;> rfl
instance : Inhabited GTally := ⟨Cel.dflt⟩
theorem f164_ok {g : Nat} (cf : GTally → GTally → Int) (hO : SWO (ltOf cf)) (hg : ∀ args w, (callFunc g args).run Tryz.prog w = .ok (.enter g args) w)
    (hc : ∀ x y : GTally, FnR Tryz.prog g [.agg (cells x), .agg (cells y)] (.v (.int .i64 (cf x y)))) (xs ys : List GTally) (hx : xs.length ≤ 1073741824)
    (hy : ∀ zs : List GTally, zs.Perm xs → zs.Pairwise (fun a b => ltOf cf b a = false) → zs = ys) :
    FnW Tryz.prog 164 [.v (.ow 120 3 xs.length (flat xs)), .fn g []] (.tup []) [.v (.ow 120 3 ys.length (flat ys)), .any] :=
  FnW_sortFunc cf ⟨⟨Tryz.f164, by kernel_rfl, rfl, by kernel_rfl⟩⟩ (by decide) plainTally (fun p cap fv w => AnyF.slices_SortFunc_none laysTally p cap fv w)
    (fun blk off cap d w hl hH hb hs => AnyQ.slices_SortFunc laysTally 3 Tryz.isAgg120 Tryz.sizeOf120 (fun x : GTally => (cells x).map pvV) (fun x => by rw [List.length_map, Cel.len]; rfl) (fun x v hv => by obtain ⟨p, _, rfl⟩ := List.mem_map.1 hv; exact pvV_one p) cf hO g #[] blk off cap d w hg hl hH hb hs)
    hc xs ys hx hy
def laysLive_ren : Go.Shelf.Ren := ⟨fun | 6 => 166 | 15 => 140 | 14 => 176 | 28 => 162 | 29 => 163 | 20 => 186 | 21 => 187 | 22 => 188 | 23 => 189 | 24 => 190 | 25 => 191 | 26 => 192 | 27 => 193 | 46 => 197 | 47 => 170 | 48 => 171 | 49 => 198 | 50 => 199 | 57 => 201 | n => n, fun | 22 => 39 | 24 => 114 | 25 => 188 | 3 => 3 | 39 => 168 | 0 => 0 | 53 => 183 | 55 => 185 | 4 => 4 | 46 => 177 | 45 => 176 | 50 => 146 | 5 => 5 | 9 => 9 | 66 => 189 | 70 => 193 | 76 => 198 | 77 => 199 | n => n, fun n => n⟩
theorem laysLive : Go.Proofs.SlLaysF0.n6 Tryz.prog laysLive_ren where
  mixed := by kernel_rfl
  f6 := ⟨"slices.SortFunc[[]loop.example/g00463/impl.Live,loop.example/g00463/impl.Live]", by decide, Tryz.func166.trans (congrArg some (by kernel_rfl))⟩
  f14 := ⟨"slices.pdqsortCmpFunc[loop.example/g00463/impl.Live]", by decide, Tryz.func176.trans (congrArg some (by kernel_rfl))⟩
  f15 := Tryz.func140.trans (congrArg some (by kernel_rfl))
  f20 := ⟨"slices.insertionSortCmpFunc[loop.example/g00463/impl.Live]", by decide, Tryz.func186.trans (congrArg some (by kernel_rfl))⟩
  f21 := ⟨"slices.heapSortCmpFunc[loop.example/g00463/impl.Live]", by decide, Tryz.func187.trans (congrArg some (by kernel_rfl))⟩
  f22 := ⟨"slices.breakPatternsCmpFunc[loop.example/g00463/impl.Live]", by decide, Tryz.func188.trans (congrArg some (by kernel_rfl))⟩
  f23 := ⟨"slices.choosePivotCmpFunc[loop.example/g00463/impl.Live]", by decide, Tryz.func189.trans (congrArg some (by kernel_rfl))⟩
  f24 := ⟨"slices.reverseRangeCmpFunc[loop.example/g00463/impl.Live]", by decide, Tryz.func190.trans (congrArg some (by kernel_rfl))⟩
  f25 := ⟨"slices.partialInsertionSortCmpFunc[loop.example/g00463/impl.Live]", by decide, Tryz.func191.trans (congrArg some (by kernel_rfl))⟩
  f26 := ⟨"slices.partitionEqualCmpFunc[loop.example/g00463/impl.Live]", by decide, Tryz.func192.trans (congrArg some (by kernel_rfl))⟩
  f27 := ⟨"slices.partitionCmpFunc[loop.example/g00463/impl.Live]", by decide, Tryz.func193.trans (congrArg some (by kernel_rfl))⟩
  f28 := Tryz.func162.trans (congrArg some (by kernel_rfl))
  f29 := Tryz.func163.trans (congrArg some (by kernel_rfl))
  f46 := ⟨"slices.siftDownCmpFunc[loop.example/g00463/impl.Live]", by decide, Tryz.func197.trans (congrArg some (by kernel_rfl))⟩
  f47 := Tryz.func170.trans (congrArg some (by kernel_rfl))
  f48 := Tryz.func171.trans (congrArg some (by kernel_rfl))
  f49 := ⟨"slices.medianAdjacentCmpFunc[loop.example/g00463/impl.Live]", by decide, Tryz.func198.trans (congrArg some (by kernel_rfl))⟩
  f50 := ⟨"slices.medianCmpFunc[loop.example/g00463/impl.Live]", by decide, Tryz.func199.trans (congrArg some (by kernel_rfl))⟩
  f57 := ⟨"slices.order2CmpFunc[loop.example/g00463/impl.Live]", by decide, Tryz.func201.trans (congrArg some (by kernel_rfl))⟩
  t0 := Tryz.underlying0
  a0 := Tryz.isAgg0
  z0 := Tryz.sizeOf0
  v0 := Tryz.zeroValue0
  t3 := Tryz.underlying3
  a3 := Tryz.isAgg3
  z3 := Tryz.sizeOf3
  v3 := Tryz.zeroValue3
  t4 := Tryz.underlying4
  a4 := Tryz.isAgg4
  z4 := Tryz.sizeOf4
  v4 := Tryz.zeroValue4
  t5 := Tryz.underlying5
  a5 := Tryz.isAgg5
  z5 := Tryz.sizeOf5
  v5 := Tryz.zeroValue5
  t9 := Tryz.underlying9
  a9 := Tryz.isAgg9
  z9 := Tryz.sizeOf9
  v9 := Tryz.zeroValue9
  t22 := Tryz.underlying39
  a22 := Tryz.isAgg39
  z22 := Tryz.sizeOf39
  v22 := Tryz.zeroValue39
  t25 := Tryz.underlying188
  a25 := Tryz.isAgg188
  z25 := Tryz.sizeOf188
  v25 := Tryz.zeroValue188
  t39 := Tryz.underlying168
  a39 := Tryz.isAgg168
  z39 := Tryz.sizeOf168
  v39 := Tryz.zeroValue168
  t45 := Tryz.underlying176
  a45 := Tryz.isAgg176
  z45 := Tryz.sizeOf176
  v45 := Tryz.zeroValue176
  t46 := Tryz.underlying177
  a46 := Tryz.isAgg177
  z46 := Tryz.sizeOf177
  v46 := Tryz.zeroValue177
  t50 := Tryz.underlying146
  a50 := Tryz.isAgg146
  z50 := Tryz.sizeOf146
  v50 := Tryz.zeroValue146
  t53 := Tryz.underlying183
  a53 := Tryz.isAgg183
  z53 := Tryz.sizeOf183
  v53 := Tryz.zeroValue183
  t55 := Tryz.underlying185
  a55 := Tryz.isAgg185
  z55 := Tryz.sizeOf185
  v55 := Tryz.zeroValue185
  t66 := Tryz.underlying189
  a66 := Tryz.isAgg189
  z66 := Tryz.sizeOf189
  v66 := Tryz.zeroValue189
  t70 := Tryz.underlying193
  a70 := Tryz.isAgg193
  z70 := Tryz.sizeOf193
  v70 := Tryz.zeroValue193
  t76 := Tryz.underlying198
  a76 := Tryz.isAgg198
  z76 := Tryz.sizeOf198
  v76 := Tryz.zeroValue198
  t77 := Tryz.underlying199
  a77 := Tryz.isAgg199
  z77 := Tryz.sizeOf199
  v77 := Tryz.zeroValue199
theorem plainLive (x : GLive) : ∀ p, p ∈ cells x → plainB p = true := by
  intro p h
  simp [cells] at h
  rcases h with rfl | rfl | rfl | rfl | rfl | rfl <;> rfl
instance : Inhabited GLive := ⟨Cel.dflt⟩
theorem f166_ok {g : Nat} (cf : GLive → GLive → Int) (hO : SWO (ltOf cf)) (hg : ∀ args w, (callFunc g args).run Tryz.prog w = .ok (.enter g args) w)
    (hc : ∀ x y : GLive, FnR Tryz.prog g [.agg (cells x), .agg (cells y)] (.v (.int .i64 (cf x y)))) (xs ys : List GLive) (hx : xs.length ≤ 1073741824)
    (hy : ∀ zs : List GLive, zs.Perm xs → zs.Pairwise (fun a b => ltOf cf b a = false) → zs = ys) :
    FnW Tryz.prog 166 [.v (.ow 114 6 xs.length (flat xs)), .fn g []] (.tup []) [.v (.ow 114 6 ys.length (flat ys)), .any] :=
  FnW_sortFunc cf ⟨⟨Tryz.f166, by kernel_rfl, rfl, by kernel_rfl⟩⟩ (by decide) plainLive (fun p cap fv w => AnyF.slices_SortFunc_none laysLive p cap fv w)
    (fun blk off cap d w hl hH hb hs => AnyQ.slices_SortFunc laysLive 6 Tryz.isAgg114 Tryz.sizeOf114 (fun x : GLive => (cells x).map pvV) (fun x => by rw [List.length_map, Cel.len]; rfl) (fun x v hv => by obtain ⟨p, _, rfl⟩ := List.mem_map.1 hv; exact pvV_one p) cf hO g #[] blk off cap d w hg hl hH hb hs)
    hc xs ys hx hy
def laysCell_ren : Go.Shelf.Ren := ⟨fun | 6 => 122 | 15 => 140 | 14 => 139 | 28 => 162 | 29 => 163 | 20 => 154 | 21 => 155 | 22 => 156 | 23 => 157 | 24 => 158 | 25 => 159 | 26 => 160 | 27 => 161 | 46 => 169 | 47 => 170 | 48 => 171 | 49 => 172 | 50 => 173 | 57 => 177 | n => n, fun | 22 => 40 | 24 => 116 | 25 => 155 | 3 => 3 | 39 => 168 | 0 => 0 | 53 => 183 | 55 => 185 | 4 => 4 | 46 => 177 | 45 => 176 | 50 => 146 | 5 => 5 | 9 => 9 | 66 => 189 | 70 => 193 | 76 => 198 | 77 => 199 | n => n, fun n => n⟩
theorem laysCell : Go.Proofs.SlLaysF0.n6 Tryz.prog laysCell_ren where
  mixed := by kernel_rfl
  f6 := ⟨"slices.SortFunc[[]loop.example/g00463/impl.Cell,loop.example/g00463/impl.Cell]", by decide, Tryz.func122.trans (congrArg some (by kernel_rfl))⟩
  f14 := ⟨"slices.pdqsortCmpFunc[loop.example/g00463/impl.Cell]", by decide, Tryz.func139.trans (congrArg some (by kernel_rfl))⟩
  f15 := Tryz.func140.trans (congrArg some (by kernel_rfl))
  f20 := ⟨"slices.insertionSortCmpFunc[loop.example/g00463/impl.Cell]", by decide, Tryz.func154.trans (congrArg some (by kernel_rfl))⟩
  f21 := ⟨"slices.heapSortCmpFunc[loop.example/g00463/impl.Cell]", by decide, Tryz.func155.trans (congrArg some (by kernel_rfl))⟩
  f22 := ⟨"slices.breakPatternsCmpFunc[loop.example/g00463/impl.Cell]", by decide, Tryz.func156.trans (congrArg some (by kernel_rfl))⟩
  f23 := ⟨"slices.choosePivotCmpFunc[loop.example/g00463/impl.Cell]", by decide, Tryz.func157.trans (congrArg some (by kernel_rfl))⟩
  f24 := ⟨"slices.reverseRangeCmpFunc[loop.example/g00463/impl.Cell]", by decide, Tryz.func158.trans (congrArg some (by kernel_rfl))⟩
  f25 := ⟨"slices.partialInsertionSortCmpFunc[loop.example/g00463/impl.Cell]", by decide, Tryz.func159.trans (congrArg some (by kernel_rfl))⟩
  f26 := ⟨"slices.partitionEqualCmpFunc[loop.example/g00463/impl.Cell]", by decide, Tryz.func160.trans (congrArg some (by kernel_rfl))⟩
  f27 := ⟨"slices.partitionCmpFunc[loop.example/g00463/impl.Cell]", by decide, Tryz.func161.trans (congrArg some (by kernel_rfl))⟩
  f28 := Tryz.func162.trans (congrArg some (by kernel_rfl))
  f29 := Tryz.func163.trans (congrArg some (by kernel_rfl))
  f46 := ⟨"slices.siftDownCmpFunc[loop.example/g00463/impl.Cell]", by decide, Tryz.func169.trans (congrArg some (by kernel_rfl))⟩
  f47 := Tryz.func170.trans (congrArg some (by kernel_rfl))
  f48 := Tryz.func171.trans (congrArg some (by kernel_rfl))
  f49 := ⟨"slices.medianAdjacentCmpFunc[loop.example/g00463/impl.Cell]", by decide, Tryz.func172.trans (congrArg some (by kernel_rfl))⟩
  f50 := ⟨"slices.medianCmpFunc[loop.example/g00463/impl.Cell]", by decide, Tryz.func173.trans (congrArg some (by kernel_rfl))⟩
  f57 := ⟨"slices.order2CmpFunc[loop.example/g00463/impl.Cell]", by decide, Tryz.func177.trans (congrArg some (by kernel_rfl))⟩
  t0 := Tryz.underlying0
  a0 := Tryz.isAgg0
  z0 := Tryz.sizeOf0
  v0 := Tryz.zeroValue0
  t3 := Tryz.underlying3
  a3 := Tryz.isAgg3
  z3 := Tryz.sizeOf3
  v3 := Tryz.zeroValue3
  t4 := Tryz.underlying4
  a4 := Tryz.isAgg4
  z4 := Tryz.sizeOf4
  v4 := Tryz.zeroValue4
  t5 := Tryz.underlying5
  a5 := Tryz.isAgg5
  z5 := Tryz.sizeOf5
  v5 := Tryz.zeroValue5
  t9 := Tryz.underlying9
  a9 := Tryz.isAgg9
  z9 := Tryz.sizeOf9
  v9 := Tryz.zeroValue9
  t22 := Tryz.underlying40
  a22 := Tryz.isAgg40
  z22 := Tryz.sizeOf40
  v22 := Tryz.zeroValue40
  t25 := Tryz.underlying155
  a25 := Tryz.isAgg155
  z25 := Tryz.sizeOf155
  v25 := Tryz.zeroValue155
  t39 := Tryz.underlying168
  a39 := Tryz.isAgg168
  z39 := Tryz.sizeOf168
  v39 := Tryz.zeroValue168
  t45 := Tryz.underlying176
  a45 := Tryz.isAgg176
  z45 := Tryz.sizeOf176
  v45 := Tryz.zeroValue176
  t46 := Tryz.underlying177
  a46 := Tryz.isAgg177
  z46 := Tryz.sizeOf177
  v46 := Tryz.zeroValue177
  t50 := Tryz.underlying146
  a50 := Tryz.isAgg146
  z50 := Tryz.sizeOf146
  v50 := Tryz.zeroValue146
  t53 := Tryz.underlying183
  a53 := Tryz.isAgg183
  z53 := Tryz.sizeOf183
  v53 := Tryz.zeroValue183
  t55 := Tryz.underlying185
  a55 := Tryz.isAgg185
  z55 := Tryz.sizeOf185
  v55 := Tryz.zeroValue185
  t66 := Tryz.underlying189
  a66 := Tryz.isAgg189
  z66 := Tryz.sizeOf189
  v66 := Tryz.zeroValue189
  t70 := Tryz.underlying193
  a70 := Tryz.isAgg193
  z70 := Tryz.sizeOf193
  v70 := Tryz.zeroValue193
  t76 := Tryz.underlying198
  a76 := Tryz.isAgg198
  z76 := Tryz.sizeOf198
  v76 := Tryz.zeroValue198
  t77 := Tryz.underlying199
  a77 := Tryz.isAgg199
  z77 := Tryz.sizeOf199
  v77 := Tryz.zeroValue199
theorem plainCell (x : GCell) : ∀ p, p ∈ cells x → plainB p = true := by
  intro p h
  simp [cells] at h
  rcases h with rfl | rfl | rfl | rfl | rfl | rfl | rfl | rfl <;> rfl
instance : Inhabited GCell := ⟨Cel.dflt⟩
theorem f122_ok {g : Nat} (cf : GCell → GCell → Int) (hO : SWO (ltOf cf)) (hg : ∀ args w, (callFunc g args).run Tryz.prog w = .ok (.enter g args) w)
    (hc : ∀ x y : GCell, FnR Tryz.prog g [.agg (cells x), .agg (cells y)] (.v (.int .i64 (cf x y)))) (xs ys : List GCell) (hx : xs.length ≤ 1073741824)
    (hy : ∀ zs : List GCell, zs.Perm xs → zs.Pairwise (fun a b => ltOf cf b a = false) → zs = ys) :
    FnW Tryz.prog 122 [.v (.ow 116 8 xs.length (flat xs)), .fn g []] (.tup []) [.v (.ow 116 8 ys.length (flat ys)), .any] :=
  FnW_sortFunc cf ⟨⟨Tryz.f122, by kernel_rfl, rfl, by kernel_rfl⟩⟩ (by decide) plainCell (fun p cap fv w => AnyF.slices_SortFunc_none laysCell p cap fv w)
    (fun blk off cap d w hl hH hb hs => AnyQ.slices_SortFunc laysCell 8 Tryz.isAgg116 Tryz.sizeOf116 (fun x : GCell => (cells x).map pvV) (fun x => by rw [List.length_map, Cel.len]; rfl) (fun x v hv => by obtain ⟨p, _, rfl⟩ := List.mem_map.1 hv; exact pvV_one p) cf hO g #[] blk off cap d w hg hl hH hb hs)
    hc xs ys hx hy
end Am
