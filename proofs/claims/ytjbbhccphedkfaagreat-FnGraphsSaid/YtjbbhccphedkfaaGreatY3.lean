/- The library's sort of integers,over this program. No condition. -/
import Derived.Test.YtjbbhccphedkfaaGreatProg
import Derived.KernelRfl
import Derived.Shelf.Slices.In.SortNone
import Derived.Shelf.Slices.In.SortAlone
import Derived.Test.YtjbbhccphedkfaaGreatT
import Derived.Test.YtjbbhccphedkfaaGreatAm36
set_option linter.unusedSimpArgs false
set_option linter.unusedVariables false
set_option linter.unnecessarySimpa false
set_option linter.unusedSectionVars false
namespace Am
open Go Go.Proofs Go.Sort
set_option maxRecDepth 100000
def laysSortI_ren:Go.Shelf.Ren:=⟨fun | 189 => 79 | 125 => 143 | 257 => 142 | 128 => 188 | 129 => 189 | 294 => 179 | 295 => 180 | 296 => 181 | 297 => 182 | 298 => 183 | 299 => 184 | 216 => 185 | 300 => 186 | 301 => 187 | 328 => 209 | 329 => 210 | 330 => 211 | 331 => 212 | 332 => 213 | 215 => 198 | 343 => 227 | n => n,fun | 28 => 24 | 3 => 3 | 46 => 144 | 0 => 0 | 51 => 130 | 53 => 200 | 4 => 4 | 183 => 192 | 182 => 191 | 131 => 166 | 5 => 5 | 9 => 9 | 218 => 215 | 222 => 219 | 228 => 232 | 229 => 233 | n => n,fun n => n⟩
theorem laysSortI:Go.Proofs.Lays.n189 Tryz.prog laysSortI_ren where
  mixed:=by kernel_rfl
  f125:=Tryz.func143.trans (congrArg some (by kernel_rfl))
  f128:=Tryz.func188.trans (congrArg some (by kernel_rfl))
  f129:=Tryz.func189.trans (congrArg some (by kernel_rfl))
  f189:=Tryz.func79.trans (congrArg some (by kernel_rfl))
  f215:=Tryz.func198.trans (congrArg some (by kernel_rfl))
  f216:=Tryz.func185.trans (congrArg some (by kernel_rfl))
  f257:=Tryz.func142.trans (congrArg some (by kernel_rfl))
  f294:=Tryz.func179.trans (congrArg some (by kernel_rfl))
  f295:=Tryz.func180.trans (congrArg some (by kernel_rfl))
  f296:=Tryz.func181.trans (congrArg some (by kernel_rfl))
  f297:=Tryz.func182.trans (congrArg some (by kernel_rfl))
  f298:=Tryz.func183.trans (congrArg some (by kernel_rfl))
  f299:=Tryz.func184.trans (congrArg some (by kernel_rfl))
  f300:=Tryz.func186.trans (congrArg some (by kernel_rfl))
  f301:=Tryz.func187.trans (congrArg some (by kernel_rfl))
  f328:=Tryz.func209.trans (congrArg some (by kernel_rfl))
  f329:=Tryz.func210.trans (congrArg some (by kernel_rfl))
  f330:=Tryz.func211.trans (congrArg some (by kernel_rfl))
  f331:=Tryz.func212.trans (congrArg some (by kernel_rfl))
  f332:=Tryz.func213.trans (congrArg some (by kernel_rfl))
  f343:=Tryz.func227.trans (congrArg some (by kernel_rfl))
  t0:=Tryz.underlying0
  a0:=Tryz.isAgg0
  z0:=Tryz.sizeOf0
  v0:=Tryz.zeroValue0
  t3:=Tryz.underlying3
  a3:=Tryz.isAgg3
  z3:=Tryz.sizeOf3
  v3:=Tryz.zeroValue3
  t4:=Tryz.underlying4
  a4:=Tryz.isAgg4
  z4:=Tryz.sizeOf4
  v4:=Tryz.zeroValue4
  t5:=Tryz.underlying5
  a5:=Tryz.isAgg5
  z5:=Tryz.sizeOf5
  v5:=Tryz.zeroValue5
  t9:=Tryz.underlying9
  a9:=Tryz.isAgg9
  z9:=Tryz.sizeOf9
  v9:=Tryz.zeroValue9
  t28:=Tryz.underlying24
  a28:=Tryz.isAgg24
  z28:=Tryz.sizeOf24
  v28:=Tryz.zeroValue24
  t46:=Tryz.underlying144
  a46:=Tryz.isAgg144
  z46:=Tryz.sizeOf144
  v46:=Tryz.zeroValue144
  t51:=Tryz.underlying130
  a51:=Tryz.isAgg130
  z51:=Tryz.sizeOf130
  v51:=Tryz.zeroValue130
  t53:=Tryz.underlying200
  a53:=Tryz.isAgg200
  z53:=Tryz.sizeOf200
  v53:=Tryz.zeroValue200
  t131:=Tryz.underlying166
  a131:=Tryz.isAgg166
  z131:=Tryz.sizeOf166
  v131:=Tryz.zeroValue166
  t182:=Tryz.underlying191
  a182:=Tryz.isAgg191
  z182:=Tryz.sizeOf191
  v182:=Tryz.zeroValue191
  t183:=Tryz.underlying192
  a183:=Tryz.isAgg192
  z183:=Tryz.sizeOf192
  v183:=Tryz.zeroValue192
  t218:=Tryz.underlying215
  a218:=Tryz.isAgg215
  z218:=Tryz.sizeOf215
  v218:=Tryz.zeroValue215
  t222:=Tryz.underlying219
  a222:=Tryz.isAgg219
  z222:=Tryz.sizeOf219
  v222:=Tryz.zeroValue219
  t228:=Tryz.underlying232
  a228:=Tryz.isAgg232
  z228:=Tryz.sizeOf232
  v228:=Tryz.zeroValue232
  t229:=Tryz.underlying233
  a229:=Tryz.isAgg233
  z229:=Tryz.sizeOf233
  v229:=Tryz.zeroValue233
theorem f79_ok (xs:List Int) (hx:xs.length ≤ 1073741824):FnW Tryz.prog 79 [.v (.ow 3 1 xs.length (flat xs))] (.tup []) [.v (.ow 3 1 xs.length (flat (sortI xs)))] :=
  FnW_sortI ⟨⟨Tryz.f79,by kernel_rfl,rfl,by kernel_rfl⟩⟩ (fun p cap w => calls_of_every_depth fun D => AnyS.slices_Sort_int_none_alone laysSortI D p cap w)
    (fun blk off cap zs w hH hb hl => calls_of_every_depth fun D => AnyS.slices_Sort_int_alone laysSortI D blk off cap zs w hH hb hl) xs hx
end Am
