/- The library's sort and compaction of strings, over this program. No condition. -/
import Derived.Test.YtlkkgdealgceeaaProg
import Derived.KernelRfl
import Derived.Shelf.Slices.In.CompactS
import Derived.Shelf.Slices.In.SortNone
import Derived.Shelf.Slices.In.SortAlone
import Derived.Test.YtlkkgdealgceeaaT
import Derived.Test.YtlkkgdealgceeaaAm33
namespace Am
open Go Go.Proofs Go.Sort
set_option maxRecDepth 100000
def laysSort_ren : Go.Shelf.Ren := ⟨fun | 190 => 133 | 125 => 142 | 258 => 141 | 128 => 153 | 129 => 154 | 302 => 144 | 303 => 145 | 304 => 146 | 305 => 147 | 306 => 148 | 307 => 149 | 308 => 150 | 309 => 151 | 310 => 152 | 333 => 155 | 329 => 156 | 330 => 157 | 334 => 158 | 335 => 159 | 336 => 143 | 344 => 160 | n => n, fun | 31 => 58 | 9 => 9 | 3 => 3 | 46 => 157 | 0 => 0 | 51 => 144 | 53 => 173 | 4 => 4 | 183 => 165 | 182 => 164 | 131 => 160 | 5 => 5 | 218 => 174 | 222 => 178 | 228 => 180 | 229 => 181 | n => n, fun n => n⟩
theorem laysSort : Go.Proofs.Lays.n190 Try.prog laysSort_ren where
  mixed := by kernel_rfl
  f125 := Try.func142.trans (congrArg some (by kernel_rfl))
  f128 := Try.func153.trans (congrArg some (by kernel_rfl))
  f129 := Try.func154.trans (congrArg some (by kernel_rfl))
  f190 := Try.func133.trans (congrArg some (by kernel_rfl))
  f258 := Try.func141.trans (congrArg some (by kernel_rfl))
  f302 := Try.func144.trans (congrArg some (by kernel_rfl))
  f303 := Try.func145.trans (congrArg some (by kernel_rfl))
  f304 := Try.func146.trans (congrArg some (by kernel_rfl))
  f305 := Try.func147.trans (congrArg some (by kernel_rfl))
  f306 := Try.func148.trans (congrArg some (by kernel_rfl))
  f307 := Try.func149.trans (congrArg some (by kernel_rfl))
  f308 := Try.func150.trans (congrArg some (by kernel_rfl))
  f309 := Try.func151.trans (congrArg some (by kernel_rfl))
  f310 := Try.func152.trans (congrArg some (by kernel_rfl))
  f329 := Try.func156.trans (congrArg some (by kernel_rfl))
  f330 := Try.func157.trans (congrArg some (by kernel_rfl))
  f333 := Try.func155.trans (congrArg some (by kernel_rfl))
  f334 := Try.func158.trans (congrArg some (by kernel_rfl))
  f335 := Try.func159.trans (congrArg some (by kernel_rfl))
  f336 := Try.func143.trans (congrArg some (by kernel_rfl))
  f344 := Try.func160.trans (congrArg some (by kernel_rfl))
  t0 := Try.underlying0
  a0 := Try.isAgg0
  z0 := Try.sizeOf0
  v0 := Try.zeroValue0
  t3 := Try.underlying3
  a3 := Try.isAgg3
  z3 := Try.sizeOf3
  v3 := Try.zeroValue3
  t4 := Try.underlying4
  a4 := Try.isAgg4
  z4 := Try.sizeOf4
  v4 := Try.zeroValue4
  t5 := Try.underlying5
  a5 := Try.isAgg5
  z5 := Try.sizeOf5
  v5 := Try.zeroValue5
  t9 := Try.underlying9
  a9 := Try.isAgg9
  z9 := Try.sizeOf9
  v9 := Try.zeroValue9
  t31 := Try.underlying58
  a31 := Try.isAgg58
  z31 := Try.sizeOf58
  v31 := Try.zeroValue58
  t46 := Try.underlying157
  a46 := Try.isAgg157
  z46 := Try.sizeOf157
  v46 := Try.zeroValue157
  t51 := Try.underlying144
  a51 := Try.isAgg144
  z51 := Try.sizeOf144
  v51 := Try.zeroValue144
  t53 := Try.underlying173
  a53 := Try.isAgg173
  z53 := Try.sizeOf173
  v53 := Try.zeroValue173
  t131 := Try.underlying160
  a131 := Try.isAgg160
  z131 := Try.sizeOf160
  v131 := Try.zeroValue160
  t182 := Try.underlying164
  a182 := Try.isAgg164
  z182 := Try.sizeOf164
  v182 := Try.zeroValue164
  t183 := Try.underlying165
  a183 := Try.isAgg165
  z183 := Try.sizeOf165
  v183 := Try.zeroValue165
  t218 := Try.underlying174
  a218 := Try.isAgg174
  z218 := Try.sizeOf174
  v218 := Try.zeroValue174
  t222 := Try.underlying178
  a222 := Try.isAgg178
  z222 := Try.sizeOf178
  v222 := Try.zeroValue178
  t228 := Try.underlying180
  a228 := Try.isAgg180
  z228 := Try.sizeOf180
  v228 := Try.zeroValue180
  t229 := Try.underlying181
  a229 := Try.isAgg181
  z229 := Try.sizeOf181
  v229 := Try.zeroValue181
def laysCompact_ren : Go.Shelf.Ren := ⟨fun | 194 => 134 | n => n, fun | 31 => 58 | 9 => 9 | 3 => 3 | 4 => 4 | 0 => 0 | n => n, fun n => n⟩
theorem laysCompact : Go.Proofs.Lays.n194 Try.prog laysCompact_ren where
  mixed := by kernel_rfl
  f194 := Try.func134.trans (congrArg some (by kernel_rfl))
  t0 := Try.underlying0
  a0 := Try.isAgg0
  z0 := Try.sizeOf0
  v0 := Try.zeroValue0
  t3 := Try.underlying3
  a3 := Try.isAgg3
  z3 := Try.sizeOf3
  v3 := Try.zeroValue3
  t4 := Try.underlying4
  a4 := Try.isAgg4
  z4 := Try.sizeOf4
  v4 := Try.zeroValue4
  t9 := Try.underlying9
  a9 := Try.isAgg9
  z9 := Try.sizeOf9
  v9 := Try.zeroValue9
  t31 := Try.underlying58
  a31 := Try.isAgg58
  z31 := Try.sizeOf58
  v31 := Try.zeroValue58
theorem f133_ok (xs : List ByteArray) (hx : xs.length ≤ 1073741824) : FnW Try.prog 133 [.v (.ow 9 1 xs.length (flat xs))] (.tup []) [.v (.ow 9 1 xs.length (flat (sortS xs)))] :=
  FnW_sort ⟨⟨Try.f133, by kernel_rfl, rfl, by kernel_rfl⟩⟩ (fun p cap w => calls_of_every_depth fun D => AnyS.slices_Sort_string_none_alone laysSort D p cap w)
    (fun blk off cap zs w hH hb hl => calls_of_every_depth fun D => AnyS.slices_Sort_string_alone laysSort D blk off cap zs w hH hb hl) xs hx
theorem f134_ok (xs : List ByteArray) (hx : xs.length ≤ 1073741824) : FnW Try.prog 134 [.v (.ow 9 1 xs.length (flat xs))] (.v (.ow 9 1 (compactS xs).length (flat (compactS xs)))) [.any] :=
  FnW_compact ⟨⟨Try.f134, by kernel_rfl, rfl, by kernel_rfl⟩⟩ (fun a cap w => calls_of_every_depth fun D => AnyS.slices_Compact_string_empty_in laysCompact D a cap w)
    (fun blk off cap zs w hH hl hc => calls_of_every_depth fun D => AnyS.slices_Compact_string_in laysCompact D blk off cap zs w hH hl hc) xs hx
end Am
