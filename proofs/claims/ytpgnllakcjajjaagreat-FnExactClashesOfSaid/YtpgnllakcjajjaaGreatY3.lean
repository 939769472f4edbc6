/- The library's sort of integers, over this program. No condition. -/
import Derived.Test.YtpgnllakcjajjaaGreatProg
import Derived.KernelRfl
import Derived.Shelf.Slices.In.SortNone
import Derived.Shelf.Slices.In.SortAlone
import Derived.Test.YtpgnllakcjajjaaGreatT
import Derived.Test.YtpgnllakcjajjaaGreatAm36
namespace Am
open Go Go.Proofs Go.Sort
set_option maxRecDepth 100000
def laysSortI_ren : Go.Shelf.Ren := ⟨fun | 189 => 153 | 125 => 155 | 257 => 176 | 128 => 185 | 129 => 186 | 294 => 214 | 295 => 215 | 296 => 216 | 297 => 217 | 298 => 218 | 299 => 219 | 216 => 220 | 300 => 221 | 301 => 222 | 328 => 237 | 329 => 224 | 330 => 225 | 331 => 238 | 332 => 239 | 215 => 197 | 343 => 244 | n => n, fun | 28 => 22 | 3 => 3 | 46 => 178 | 0 => 0 | 51 => 205 | 53 => 207 | 4 => 4 | 183 => 199 | 182 => 198 | 131 => 166 | 5 => 5 | 9 => 9 | 218 => 231 | 222 => 235 | 228 => 245 | 229 => 246 | n => n, fun n => n⟩
theorem laysSortI : Go.Proofs.Lays.n189 Tryz.prog laysSortI_ren where
  mixed := by kernel_rfl
  f125 := Tryz.func155.trans (congrArg some (by kernel_rfl))
  f128 := Tryz.func185.trans (congrArg some (by kernel_rfl))
  f129 := Tryz.func186.trans (congrArg some (by kernel_rfl))
  f189 := Tryz.func153.trans (congrArg some (by kernel_rfl))
  f215 := Tryz.func197.trans (congrArg some (by kernel_rfl))
  f216 := Tryz.func220.trans (congrArg some (by kernel_rfl))
  f257 := Tryz.func176.trans (congrArg some (by kernel_rfl))
  f294 := Tryz.func214.trans (congrArg some (by kernel_rfl))
  f295 := Tryz.func215.trans (congrArg some (by kernel_rfl))
  f296 := Tryz.func216.trans (congrArg some (by kernel_rfl))
  f297 := Tryz.func217.trans (congrArg some (by kernel_rfl))
  f298 := Tryz.func218.trans (congrArg some (by kernel_rfl))
  f299 := Tryz.func219.trans (congrArg some (by kernel_rfl))
  f300 := Tryz.func221.trans (congrArg some (by kernel_rfl))
  f301 := Tryz.func222.trans (congrArg some (by kernel_rfl))
  f328 := Tryz.func237.trans (congrArg some (by kernel_rfl))
  f329 := Tryz.func224.trans (congrArg some (by kernel_rfl))
  f330 := Tryz.func225.trans (congrArg some (by kernel_rfl))
  f331 := Tryz.func238.trans (congrArg some (by kernel_rfl))
  f332 := Tryz.func239.trans (congrArg some (by kernel_rfl))
  f343 := Tryz.func244.trans (congrArg some (by kernel_rfl))
  t0 := Tryz.underlying0
  a0 := Tryz.isAgg0
  z0 := Tryz.sizeOf0
  v0 := Tryz.zeroValue0
  t3 := Tryz.underlying3
  a3 := Tryz.isAgg3
  z3 := Tryz.sizeOf3
  v3 := Tryz.zeroValue3
  t4 := Tryz.underlying4
  a4 := Tryz.isAgg4
  z4 := Tryz.sizeOf4
  v4 := Tryz.zeroValue4
  t5 := Tryz.underlying5
  a5 := Tryz.isAgg5
  z5 := Tryz.sizeOf5
  v5 := Tryz.zeroValue5
  t9 := Tryz.underlying9
  a9 := Tryz.isAgg9
  z9 := Tryz.sizeOf9
  v9 := Tryz.zeroValue9
  t28 := Tryz.underlying22
  a28 := Tryz.isAgg22
  z28 := Tryz.sizeOf22
  v28 := Tryz.zeroValue22
  t46 := Tryz.underlying178
  a46 := Tryz.isAgg178
  z46 := Tryz.sizeOf178
  v46 := Tryz.zeroValue178
  t51 := Tryz.underlying205
  a51 := Tryz.isAgg205
  z51 := Tryz.sizeOf205
  v51 := Tryz.zeroValue205
  t53 := Tryz.underlying207
  a53 := Tryz.isAgg207
  z53 := Tryz.sizeOf207
  v53 := Tryz.zeroValue207
  t131 := Tryz.underlying166
  a131 := Tryz.isAgg166
  z131 := Tryz.sizeOf166
  v131 := Tryz.zeroValue166
  t182 := Tryz.underlying198
  a182 := Tryz.isAgg198
  z182 := Tryz.sizeOf198
  v182 := Tryz.zeroValue198
  t183 := Tryz.underlying199
  a183 := Tryz.isAgg199
  z183 := Tryz.sizeOf199
  v183 := Tryz.zeroValue199
  t218 := Tryz.underlying231
  a218 := Tryz.isAgg231
  z218 := Tryz.sizeOf231
  v218 := Tryz.zeroValue231
  t222 := Tryz.underlying235
  a222 := Tryz.isAgg235
  z222 := Tryz.sizeOf235
  v222 := Tryz.zeroValue235
  t228 := Tryz.underlying245
  a228 := Tryz.isAgg245
  z228 := Tryz.sizeOf245
  v228 := Tryz.zeroValue245
  t229 := Tryz.underlying246
  a229 := Tryz.isAgg246
  z229 := Tryz.sizeOf246
  v229 := Tryz.zeroValue246
theorem f153_ok (xs : List Int) (hx : xs.length ≤ 1073741824) : FnW Tryz.prog 153 [.v (.ow 3 1 xs.length (flat xs))] (.tup []) [.v (.ow 3 1 xs.length (flat (sortI xs)))] :=
  FnW_sortI ⟨⟨Tryz.f153, by kernel_rfl, rfl, by kernel_rfl⟩⟩ (fun p cap w => calls_of_every_depth fun D => AnyS.slices_Sort_int_none_alone laysSortI D p cap w)
    (fun blk off cap zs w hH hb hl => calls_of_every_depth fun D => AnyS.slices_Sort_int_alone laysSortI D blk off cap zs w hH hb hl) xs hx
end Am
