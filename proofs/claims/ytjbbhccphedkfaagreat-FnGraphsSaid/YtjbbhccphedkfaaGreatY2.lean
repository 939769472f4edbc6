/- The library's sort by a given order,over this program. No condition. -/
import Derived.Test.YtjbbhccphedkfaaGreatProg
import Derived.KernelRfl
import Derived.Shelf.SlSortCmp.WholeK
import Derived.Shelf.SlSortCmp.NoneTotal
import Derived.Test.YtjbbhccphedkfaaGreatT
import Derived.Test.YtjbbhccphedkfaaGreatD
import Derived.Test.YtjbbhccphedkfaaGreatAm34
set_option linter.unusedSimpArgs false
set_option linter.unusedVariables false
set_option linter.unnecessarySimpa false
set_option linter.unusedSectionVars false
namespace Am
open Go Go.Proofs Go.Sort Go.Shelf
open Cel (cells)
set_option maxRecDepth 100000
def laysTally_ren:Go.Shelf.Ren:=⟨fun | 6 => 190 | 15 => 143 | 14 => 214 | 28 => 188 | 29 => 189 | 20 => 228 | 21 => 229 | 22 => 230 | 23 => 231 | 24 => 232 | 25 => 233 | 26 => 234 | 27 => 235 | 46 => 253 | 47 => 210 | 48 => 211 | 49 => 254 | 50 => 255 | 57 => 263 | n => n,fun | 22 => 25 | 24 => 104 | 25 => 164 | 3 => 3 | 39 => 144 | 0 => 0 | 53 => 130 | 55 => 200 | 4 => 4 | 46 => 192 | 45 => 191 | 50 => 166 | 5 => 5 | 9 => 9 | 66 => 215 | 70 => 219 | 76 => 232 | 77 => 233 | n => n,fun n => n⟩
theorem laysTally:Go.Proofs.SlLaysF0.n6 Tryz.prog laysTally_ren where
  mixed:=by kernel_rfl
  f6 := ⟨"slices.SortFunc[[]loop.example/g00463/impl.Tally,loop.example/g00463/impl.Tally]", by decide, Tryz.func190.trans (congrArg some (by kernel_rfl))⟩
  f14 := ⟨"slices.pdqsortCmpFunc[loop.example/g00463/impl.Tally]", by decide, Tryz.func214.trans (congrArg some (by kernel_rfl))⟩
  f15:=Tryz.func143.trans (congrArg some (by kernel_rfl))
  f20 := ⟨"slices.insertionSortCmpFunc[loop.example/g00463/impl.Tally]", by decide, Tryz.func228.trans (congrArg some (by kernel_rfl))⟩
  f21 := ⟨"slices.heapSortCmpFunc[loop.example/g00463/impl.Tally]", by decide, Tryz.func229.trans (congrArg some (by kernel_rfl))⟩
  f22 := ⟨"slices.breakPatternsCmpFunc[loop.example/g00463/impl.Tally]", by decide, Tryz.func230.trans (congrArg some (by kernel_rfl))⟩
  f23 := ⟨"slices.choosePivotCmpFunc[loop.example/g00463/impl.Tally]", by decide, Tryz.func231.trans (congrArg some (by kernel_rfl))⟩
  f24 := ⟨"slices.reverseRangeCmpFunc[loop.example/g00463/impl.Tally]", by decide, Tryz.func232.trans (congrArg some (by kernel_rfl))⟩
  f25 := ⟨"slices.partialInsertionSortCmpFunc[loop.example/g00463/impl.Tally]", by decide, Tryz.func233.trans (congrArg some (by kernel_rfl))⟩
  f26 := ⟨"slices.partitionEqualCmpFunc[loop.example/g00463/impl.Tally]", by decide, Tryz.func234.trans (congrArg some (by kernel_rfl))⟩
  f27 := ⟨"slices.partitionCmpFunc[loop.example/g00463/impl.Tally]", by decide, Tryz.func235.trans (congrArg some (by kernel_rfl))⟩
  f28:=Tryz.func188.trans (congrArg some (by kernel_rfl))
  f29:=Tryz.func189.trans (congrArg some (by kernel_rfl))
  f46 := ⟨"slices.siftDownCmpFunc[loop.example/g00463/impl.Tally]", by decide, Tryz.func253.trans (congrArg some (by kernel_rfl))⟩
  f47:=Tryz.func210.trans (congrArg some (by kernel_rfl))
  f48:=Tryz.func211.trans (congrArg some (by kernel_rfl))
  f49 := ⟨"slices.medianAdjacentCmpFunc[loop.example/g00463/impl.Tally]", by decide, Tryz.func254.trans (congrArg some (by kernel_rfl))⟩
  f50 := ⟨"slices.medianCmpFunc[loop.example/g00463/impl.Tally]", by decide, Tryz.func255.trans (congrArg some (by kernel_rfl))⟩
  f57 := ⟨"slices.order2CmpFunc[loop.example/g00463/impl.Tally]", by decide, Tryz.func263.trans (congrArg some (by kernel_rfl))⟩
  t0:=Tryz.underlying0
  a0:=Tryz.isAgg0
  z0:=Tryz.sizeOf0
  v0:=Tryz.zeroValue0
  t3:=Tryz.underlying3
  a3:=Tryz.isAgg3
  z3:=Tryz.sizeOf3
  v3:=Tryz.zeroValue3
  t4:=Tryz.underlying4
  a4:=Tryz.isAgg4
  z4:=Tryz.sizeOf4
  v4:=Tryz.zeroValue4
  t5:=Tryz.underlying5
  a5:=Tryz.isAgg5
  z5:=Tryz.sizeOf5
  v5:=Tryz.zeroValue5
  t9:=Tryz.underlying9
  a9:=Tryz.isAgg9
  z9:=Tryz.sizeOf9
  v9:=Tryz.zeroValue9
  t22:=Tryz.underlying25
  a22:=Tryz.isAgg25
  z22:=Tryz.sizeOf25
  v22:=Tryz.zeroValue25
  t25:=Tryz.underlying164
  a25:=Tryz.isAgg164
  z25:=Tryz.sizeOf164
  v25:=Tryz.zeroValue164
  t39:=Tryz.underlying144
  a39:=Tryz.isAgg144
  z39:=Tryz.sizeOf144
  v39:=Tryz.zeroValue144
  t45:=Tryz.underlying191
  a45:=Tryz.isAgg191
  z45:=Tryz.sizeOf191
  v45:=Tryz.zeroValue191
  t46:=Tryz.underlying192
  a46:=Tryz.isAgg192
  z46:=Tryz.sizeOf192
  v46:=Tryz.zeroValue192
  t50:=Tryz.underlying166
  a50:=Tryz.isAgg166
  z50:=Tryz.sizeOf166
  v50:=Tryz.zeroValue166
  t53:=Tryz.underlying130
  a53:=Tryz.isAgg130
  z53:=Tryz.sizeOf130
  v53:=Tryz.zeroValue130
  t55:=Tryz.underlying200
  a55:=Tryz.isAgg200
  z55:=Tryz.sizeOf200
  v55:=Tryz.zeroValue200
  t66:=Tryz.underlying215
  a66:=Tryz.isAgg215
  z66:=Tryz.sizeOf215
  v66:=Tryz.zeroValue215
  t70:=Tryz.underlying219
  a70:=Tryz.isAgg219
  z70:=Tryz.sizeOf219
  v70:=Tryz.zeroValue219
  t76:=Tryz.underlying232
  a76:=Tryz.isAgg232
  z76:=Tryz.sizeOf232
  v76:=Tryz.zeroValue232
  t77:=Tryz.underlying233
  a77:=Tryz.isAgg233
  z77:=Tryz.sizeOf233
  v77:=Tryz.zeroValue233
theorem plainTally (x:GTally):∀ p,p ∈ cells x → plainB p = true:=by
  intro p h
  simp [cells] at h
  rcases h with rfl | rfl | rfl <;> rfl
instance:Inhabited GTally:=⟨Cel.dflt⟩
theorem f190_ok {g:Nat} (cf:GTally → GTally → Int) (hO:SWO (ltOf cf)) (hg:∀ args w,(callFunc g args).run Tryz.prog w = .ok (.enter g args) w)
    (hc:∀ x y:GTally,FnR Tryz.prog g [.agg (cells x),.agg (cells y)] (.v (.int .i64 (cf x y)))) (xs ys:List GTally) (hx:xs.length ≤ 1073741824)
    (hy:∀ zs:List GTally,zs.Perm xs → zs.Pairwise (fun a b => ltOf cf b a = false) → zs = ys) :
    FnW Tryz.prog 190 [.v (.ow 104 3 xs.length (flat xs)),.fn g []] (.tup []) [.v (.ow 104 3 ys.length (flat ys)),.any] :=
  FnW_sortFunc cf ⟨⟨Tryz.f190,by kernel_rfl,rfl,by kernel_rfl⟩⟩ (by decide) plainTally (fun p cap fv w => AnyF.slices_SortFunc_none laysTally p cap fv w)
    (fun blk off cap d w hl hH hb hs => AnyQ.slices_SortFunc laysTally 3 Tryz.isAgg104 Tryz.sizeOf104 (fun x:GTally => (cells x).map pvV) (fun x => by rw [List.length_map,Cel.len]; rfl) (fun x v hv => by obtain ⟨p,_,rfl⟩:=List.mem_map.1 hv; exact pvV_one p) cf hO g #[] blk off cap d w hg hl hH hb hs)
    hc xs ys hx hy
def laysLive_ren:Go.Shelf.Ren:=⟨fun | 6 => 192 | 15 => 143 | 14 => 216 | 28 => 188 | 29 => 189 | 20 => 236 | 21 => 237 | 22 => 238 | 23 => 239 | 24 => 240 | 25 => 241 | 26 => 242 | 27 => 243 | 46 => 256 | 47 => 210 | 48 => 211 | 49 => 257 | 50 => 258 | 57 => 264 | n => n,fun | 22 => 26 | 24 => 98 | 25 => 203 | 3 => 3 | 39 => 144 | 0 => 0 | 53 => 130 | 55 => 200 | 4 => 4 | 46 => 192 | 45 => 191 | 50 => 166 | 5 => 5 | 9 => 9 | 66 => 215 | 70 => 219 | 76 => 232 | 77 => 233 | n => n,fun n => n⟩
theorem laysLive:Go.Proofs.SlLaysF0.n6 Tryz.prog laysLive_ren where
  mixed:=by kernel_rfl
  f6 := ⟨"slices.SortFunc[[]loop.example/g00463/impl.Live,loop.example/g00463/impl.Live]", by decide, Tryz.func192.trans (congrArg some (by kernel_rfl))⟩
  f14 := ⟨"slices.pdqsortCmpFunc[loop.example/g00463/impl.Live]", by decide, Tryz.func216.trans (congrArg some (by kernel_rfl))⟩
  f15:=Tryz.func143.trans (congrArg some (by kernel_rfl))
  f20 := ⟨"slices.insertionSortCmpFunc[loop.example/g00463/impl.Live]", by decide, Tryz.func236.trans (congrArg some (by kernel_rfl))⟩
  f21 := ⟨"slices.heapSortCmpFunc[loop.example/g00463/impl.Live]", by decide, Tryz.func237.trans (congrArg some (by kernel_rfl))⟩
  f22 := ⟨"slices.breakPatternsCmpFunc[loop.example/g00463/impl.Live]", by decide, Tryz.func238.trans (congrArg some (by kernel_rfl))⟩
  f23 := ⟨"slices.choosePivotCmpFunc[loop.example/g00463/impl.Live]", by decide, Tryz.func239.trans (congrArg some (by kernel_rfl))⟩
  f24 := ⟨"slices.reverseRangeCmpFunc[loop.example/g00463/impl.Live]", by decide, Tryz.func240.trans (congrArg some (by kernel_rfl))⟩
  f25 := ⟨"slices.partialInsertionSortCmpFunc[loop.example/g00463/impl.Live]", by decide, Tryz.func241.trans (congrArg some (by kernel_rfl))⟩
  f26 := ⟨"slices.partitionEqualCmpFunc[loop.example/g00463/impl.Live]", by decide, Tryz.func242.trans (congrArg some (by kernel_rfl))⟩
  f27 := ⟨"slices.partitionCmpFunc[loop.example/g00463/impl.Live]", by decide, Tryz.func243.trans (congrArg some (by kernel_rfl))⟩
  f28:=Tryz.func188.trans (congrArg some (by kernel_rfl))
  f29:=Tryz.func189.trans (congrArg some (by kernel_rfl))
  f46 := ⟨"slices.siftDownCmpFunc[loop.example/g00463/impl.Live]", by decide, Tryz.func256.trans (congrArg some (by kernel_rfl))⟩
  f47:=Tryz.func210.trans (congrArg some (by kernel_rfl))
  f48:=Tryz.func211.trans (congrArg some (by kernel_rfl))
  f49 := ⟨"slices.medianAdjacentCmpFunc[loop.example/g00463/impl.Live]", by decide, Tryz.func257.trans (congrArg some (by kernel_rfl))⟩
  f50 := ⟨"slices.medianCmpFunc[loop.example/g00463/impl.Live]", by decide, Tryz.func258.trans (congrArg some (by kernel_rfl))⟩
  f57 := ⟨"slices.order2CmpFunc[loop.example/g00463/impl.Live]", by decide, Tryz.func264.trans (congrArg some (by kernel_rfl))⟩
  t0:=Tryz.underlying0
  a0:=Tryz.isAgg0
  z0:=Tryz.sizeOf0
  v0:=Tryz.zeroValue0
  t3:=Tryz.underlying3
  a3:=Tryz.isAgg3
  z3:=Tryz.sizeOf3
  v3:=Tryz.zeroValue3
  t4:=Tryz.underlying4
  a4:=Tryz.isAgg4
  z4:=Tryz.sizeOf4
  v4:=Tryz.zeroValue4
  t5:=Tryz.underlying5
  a5:=Tryz.isAgg5
  z5:=Tryz.sizeOf5
  v5:=Tryz.zeroValue5
  t9:=Tryz.underlying9
  a9:=Tryz.isAgg9
  z9:=Tryz.sizeOf9
  v9:=Tryz.zeroValue9
  t22:=Tryz.underlying26
  a22:=Tryz.isAgg26
  z22:=Tryz.sizeOf26
  v22:=Tryz.zeroValue26
  t25:=Tryz.underlying203
  a25:=Tryz.isAgg203
  z25:=Tryz.sizeOf203
  v25:=Tryz.zeroValue203
  t39:=Tryz.underlying144
  a39:=Tryz.isAgg144
  z39:=Tryz.sizeOf144
  v39:=Tryz.zeroValue144
  t45:=Tryz.underlying191
  a45:=Tryz.isAgg191
  z45:=Tryz.sizeOf191
  v45:=Tryz.zeroValue191
  t46:=Tryz.underlying192
  a46:=Tryz.isAgg192
  z46:=Tryz.sizeOf192
  v46:=Tryz.zeroValue192
  t50:=Tryz.underlying166
  a50:=Tryz.isAgg166
  z50:=Tryz.sizeOf166
  v50:=Tryz.zeroValue166
  t53:=Tryz.underlying130
  a53:=Tryz.isAgg130
  z53:=Tryz.sizeOf130
  v53:=Tryz.zeroValue130
  t55:=Tryz.underlying200
  a55:=Tryz.isAgg200
  z55:=Tryz.sizeOf200
  v55:=Tryz.zeroValue200
  t66:=Tryz.underlying215
  a66:=Tryz.isAgg215
  z66:=Tryz.sizeOf215
  v66:=Tryz.zeroValue215
  t70:=Tryz.underlying219
  a70:=Tryz.isAgg219
  z70:=Tryz.sizeOf219
  v70:=Tryz.zeroValue219
  t76:=Tryz.underlying232
  a76:=Tryz.isAgg232
  z76:=Tryz.sizeOf232
  v76:=Tryz.zeroValue232
  t77:=Tryz.underlying233
  a77:=Tryz.isAgg233
  z77:=Tryz.sizeOf233
  v77:=Tryz.zeroValue233
theorem plainLive (x:GLive):∀ p,p ∈ cells x → plainB p = true:=by
  intro p h
  simp [cells] at h
  rcases h with rfl | rfl | rfl | rfl | rfl | rfl <;> rfl
instance:Inhabited GLive:=⟨Cel.dflt⟩
theorem f192_ok {g:Nat} (cf:GLive → GLive → Int) (hO:SWO (ltOf cf)) (hg:∀ args w,(callFunc g args).run Tryz.prog w = .ok (.enter g args) w)
    (hc:∀ x y:GLive,FnR Tryz.prog g [.agg (cells x),.agg (cells y)] (.v (.int .i64 (cf x y)))) (xs ys:List GLive) (hx:xs.length ≤ 1073741824)
    (hy:∀ zs:List GLive,zs.Perm xs → zs.Pairwise (fun a b => ltOf cf b a = false) → zs = ys) :
    FnW Tryz.prog 192 [.v (.ow 98 6 xs.length (flat xs)),.fn g []] (.tup []) [.v (.ow 98 6 ys.length (flat ys)),.any] :=
  FnW_sortFunc cf ⟨⟨Tryz.f192,by kernel_rfl,rfl,by kernel_rfl⟩⟩ (by decide) plainLive (fun p cap fv w => AnyF.slices_SortFunc_none laysLive p cap fv w)
    (fun blk off cap d w hl hH hb hs => AnyQ.slices_SortFunc laysLive 6 Tryz.isAgg98 Tryz.sizeOf98 (fun x:GLive => (cells x).map pvV) (fun x => by rw [List.length_map,Cel.len]; rfl) (fun x v hv => by obtain ⟨p,_,rfl⟩:=List.mem_map.1 hv; exact pvV_one p) cf hO g #[] blk off cap d w hg hl hH hb hs)
    hc xs ys hx hy
def laysCell_ren:Go.Shelf.Ren:=⟨fun | 6 => 194 | 15 => 143 | 14 => 217 | 28 => 188 | 29 => 189 | 20 => 244 | 21 => 245 | 22 => 246 | 23 => 247 | 24 => 248 | 25 => 249 | 26 => 250 | 27 => 251 | 46 => 259 | 47 => 210 | 48 => 211 | 49 => 260 | 50 => 261 | 57 => 265 | n => n,fun | 22 => 27 | 24 => 100 | 25 => 205 | 3 => 3 | 39 => 144 | 0 => 0 | 53 => 130 | 55 => 200 | 4 => 4 | 46 => 192 | 45 => 191 | 50 => 166 | 5 => 5 | 9 => 9 | 66 => 215 | 70 => 219 | 76 => 232 | 77 => 233 | n => n,fun n => n⟩
theorem laysCell:Go.Proofs.SlLaysF0.n6 Tryz.prog laysCell_ren where
  mixed:=by kernel_rfl
  f6 := ⟨"slices.SortFunc[[]loop.example/g00463/impl.Cell,loop.example/g00463/impl.Cell]", by decide, Tryz.func194.trans (congrArg some (by kernel_rfl))⟩
  f14 := ⟨"slices.pdqsortCmpFunc[loop.example/g00463/impl.Cell]", by decide, Tryz.func217.trans (congrArg some (by kernel_rfl))⟩
  f15:=Tryz.func143.trans (congrArg some (by kernel_rfl))
  f20 := ⟨"slices.insertionSortCmpFunc[loop.example/g00463/impl.Cell]", by decide, Tryz.func244.trans (congrArg some (by kernel_rfl))⟩
  f21 := ⟨"slices.heapSortCmpFunc[loop.example/g00463/impl.Cell]", by decide, Tryz.func245.trans (congrArg some (by kernel_rfl))⟩
  f22 := ⟨"slices.breakPatternsCmpFunc[loop.example/g00463/impl.Cell]", by decide, Tryz.func246.trans (congrArg some (by kernel_rfl))⟩
  f23 := ⟨"slices.choosePivotCmpFunc[loop.example/g00463/impl.Cell]", by decide, Tryz.func247.trans (congrArg some (by kernel_rfl))⟩
  f24 := ⟨"slices.reverseRangeCmpFunc[loop.example/g00463/impl.Cell]", by decide, Tryz.func248.trans (congrArg some (by kernel_rfl))⟩
  f25 := ⟨"slices.partialInsertionSortCmpFunc[loop.example/g00463/impl.Cell]", by decide, Tryz.func249.trans (congrArg some (by kernel_rfl))⟩
  f26 := ⟨"slices.partitionEqualCmpFunc[loop.example/g00463/impl.Cell]", by decide, Tryz.func250.trans (congrArg some (by kernel_rfl))⟩
  f27 := ⟨"slices.partitionCmpFunc[loop.example/g00463/impl.Cell]", by decide, Tryz.func251.trans (congrArg some (by kernel_rfl))⟩
  f28:=Tryz.func188.trans (congrArg some (by kernel_rfl))
  f29:=Tryz.func189.trans (congrArg some (by kernel_rfl))
  f46 := ⟨"slices.siftDownCmpFunc[loop.example/g00463/impl.Cell]", by decide, Tryz.func259.trans (congrArg some (by kernel_rfl))⟩
  f47:=Tryz.func210.trans (congrArg some (by kernel_rfl))
  f48:=Tryz.func211.trans (congrArg some (by kernel_rfl))
  f49 := ⟨"slices.medianAdjacentCmpFunc[loop.example/g00463/impl.Cell]", by decide, Tryz.func260.trans (congrArg some (by kernel_rfl))⟩
  f50 := ⟨"slices.medianCmpFunc[loop.example/g00463/impl.Cell]", by decide, Tryz.func261.trans (congrArg some (by kernel_rfl))⟩
  f57 := ⟨"slices.order2CmpFunc[loop.example/g00463/impl.Cell]", by decide, Tryz.func265.trans (congrArg some (by kernel_rfl))⟩
  t0:=Tryz.underlying0
  a0:=Tryz.isAgg0
  z0:=Tryz.sizeOf0
  v0:=Tryz.zeroValue0
  t3:=Tryz.underlying3
  a3:=Tryz.isAgg3
  z3:=Tryz.sizeOf3
  v3:=Tryz.zeroValue3
  t4:=Tryz.underlying4
  a4:=Tryz.isAgg4
  z4:=Tryz.sizeOf4
  v4:=Tryz.zeroValue4
  t5:=Tryz.underlying5
  a5:=Tryz.isAgg5
  z5:=Tryz.sizeOf5
  v5:=Tryz.zeroValue5
  t9:=Tryz.underlying9
  a9:=Tryz.isAgg9
  z9:=Tryz.sizeOf9
  v9:=Tryz.zeroValue9
  t22:=Tryz.underlying27
  a22:=Tryz.isAgg27
  z22:=Tryz.sizeOf27
  v22:=Tryz.zeroValue27
  t25:=Tryz.underlying205
  a25:=Tryz.isAgg205
  z25:=Tryz.sizeOf205
  v25:=Tryz.zeroValue205
  t39:=Tryz.underlying144
  a39:=Tryz.isAgg144
  z39:=Tryz.sizeOf144
  v39:=Tryz.zeroValue144
  t45:=Tryz.underlying191
  a45:=Tryz.isAgg191
  z45:=Tryz.sizeOf191
  v45:=Tryz.zeroValue191
  t46:=Tryz.underlying192
  a46:=Tryz.isAgg192
  z46:=Tryz.sizeOf192
  v46:=Tryz.zeroValue192
  t50:=Tryz.underlying166
  a50:=Tryz.isAgg166
  z50:=Tryz.sizeOf166
  v50:=Tryz.zeroValue166
  t53:=Tryz.underlying130
  a53:=Tryz.isAgg130
  z53:=Tryz.sizeOf130
  v53:=Tryz.zeroValue130
  t55:=Tryz.underlying200
  a55:=Tryz.isAgg200
  z55:=Tryz.sizeOf200
  v55:=Tryz.zeroValue200
  t66:=Tryz.underlying215
  a66:=Tryz.isAgg215
  z66:=Tryz.sizeOf215
  v66:=Tryz.zeroValue215
  t70:=Tryz.underlying219
  a70:=Tryz.isAgg219
  z70:=Tryz.sizeOf219
  v70:=Tryz.zeroValue219
  t76:=Tryz.underlying232
  a76:=Tryz.isAgg232
  z76:=Tryz.sizeOf232
  v76:=Tryz.zeroValue232
  t77:=Tryz.underlying233
  a77:=Tryz.isAgg233
  z77:=Tryz.sizeOf233
  v77:=Tryz.zeroValue233
theorem plainCell (x:GCell):∀ p,p ∈ cells x → plainB p = true:=by
  intro p h
  simp [cells] at h
  rcases h with rfl | rfl | rfl | rfl | rfl | rfl | rfl | rfl <;> rfl
instance:Inhabited GCell:=⟨Cel.dflt⟩
theorem f194_ok {g:Nat} (cf:GCell → GCell → Int) (hO:SWO (ltOf cf)) (hg:∀ args w,(callFunc g args).run Tryz.prog w = .ok (.enter g args) w)
    (hc:∀ x y:GCell,FnR Tryz.prog g [.agg (cells x),.agg (cells y)] (.v (.int .i64 (cf x y)))) (xs ys:List GCell) (hx:xs.length ≤ 1073741824)
    (hy:∀ zs:List GCell,zs.Perm xs → zs.Pairwise (fun a b => ltOf cf b a = false) → zs = ys) :
    FnW Tryz.prog 194 [.v (.ow 100 8 xs.length (flat xs)),.fn g []] (.tup []) [.v (.ow 100 8 ys.length (flat ys)),.any] :=
  FnW_sortFunc cf ⟨⟨Tryz.f194,by kernel_rfl,rfl,by kernel_rfl⟩⟩ (by decide) plainCell (fun p cap fv w => AnyF.slices_SortFunc_none laysCell p cap fv w)
    (fun blk off cap d w hl hH hb hs => AnyQ.slices_SortFunc laysCell 8 Tryz.isAgg100 Tryz.sizeOf100 (fun x:GCell => (cells x).map pvV) (fun x => by rw [List.length_map,Cel.len]; rfl) (fun x v hv => by obtain ⟨p,_,rfl⟩:=List.mem_map.1 hv; exact pvV_one p) cf hO g #[] blk off cap d w hg hl hH hb hs)
    hc xs ys hx hy
end Am
