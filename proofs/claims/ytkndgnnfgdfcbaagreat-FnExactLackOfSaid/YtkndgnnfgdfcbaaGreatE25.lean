/- What one lacks. No condition. -/
import Derived.Test.YtkndgnnfgdfcbaaGreatT
import Derived.Test.YtkndgnnfgdfcbaaGreatD
import Derived.Test.YtkndgnnfgdfcbaaGreatE23
import Derived.Test.YtkndgnnfgdfcbaaGreatAm31
namespace Am
open Go Go.Proofs
open Cel (cells)
set_option maxRecDepth 100000
set_option linter.unusedSimpArgs false
set_option linter.unusedVariables false

@[simp] def h176 : Hts := {  }
theorem f176_ok (xs : List Int) (h : xs.length ≤ 1073741824) : FnR Tryz.prog 176 [.v (.im xs.length (flat xs))] (.v (.ow 3 1 xs.length (flat xs))) := by
  refine FnW.of_AW TryzT_ok 0 (fn := Tryz.f176) (by kernel_rfl) rfl (by kernel_rfl) rfl rfl rfl ?_
  refine AW_of h176 TryzT_ok (by kernel_rfl) ?_
  simp -dsimp
  simp [capMax]
  omega
@[simp] def h127 : Hts := {  }
theorem f127_ok (a : GAct) (h : a.Ok) : FnR Tryz.prog 127 [.agg [.int .i64 a.dot.rep, .int .i64 a.dot.seq, .int .i64 a.time, .im a.knew.length (flat a.knew), .int .i64 a.kind, .str a.obj, .str a.key, .int .i64 a.val, .int .i64 a.ref.rep, .int .i64 a.ref.seq]] (.agg [.int .i64 a.dot.rep, .int .i64 a.dot.seq, .int .i64 a.time, .ow 3 1 a.knew.length (flat a.knew), .int .i64 a.kind, .str a.obj, .str a.key, .int .i64 a.val, .int .i64 a.ref.rep, .int .i64 a.ref.seq]) := by
  simp only [GAct.Ok] at h
  obtain ⟨o0, o1, o2⟩ := h
  refine FnW.of_AW TryzT_ok 0 (fn := Tryz.f127) (by kernel_rfl) rfl (by kernel_rfl) rfl rfl rfl ?_
  refine AW_of h127 TryzT_ok (by kernel_rfl) ?_
  simp -dsimp
  refine ACallK_of (f176_ok _ o0) ?_
  simp -dsimp
@[simp] def h122 : Hts := {  }
theorem f122_ok (a : GAct) (h : a.Ok) : FnR Tryz.prog 122 [.agg [.int .i64 a.dot.rep, .int .i64 a.dot.seq, .int .i64 a.time, .im a.knew.length (flat a.knew), .int .i64 a.kind, .str a.obj, .str a.key, .int .i64 a.val, .int .i64 a.ref.rep, .int .i64 a.ref.seq]] (.agg [.int .i64 a.dot.rep, .int .i64 a.dot.seq, .int .i64 a.time, .ow 3 1 a.knew.length (flat a.knew), .int .i64 a.kind, .str a.obj, .str a.key, .int .i64 a.val, .int .i64 a.ref.rep, .int .i64 a.ref.seq]) := by
  simp only [GAct.Ok] at h
  obtain ⟨o0, o1, o2⟩ := h
  refine FnW.of_AW TryzT_ok 0 (fn := Tryz.f122) (by kernel_rfl) rfl (by kernel_rfl) rfl rfl rfl ?_
  refine AW_of h122 TryzT_ok (by kernel_rfl) ?_
  simp -dsimp
  simp [capMax]
  omega
@[simp] def h128 : Hts := { dr := fun id => if id = 1 then [{ mb := [9, 13, 17, 21] }, { mb := [9, 13, 17, 21] }, { cr := true, mb := [9, 13, 17, 21] }, { mb := [5, 9, 13, 17, 21] }, { mb := [5, 9, 13, 17, 21] }, { cr := true, mb := [9, 13, 17, 21] }, { cr := true, mb := [5, 8, 13, 17, 21] }, { mb := [5, 8, 9, 13, 17, 21] }, { mb := [5, 8, 9, 13, 17, 21] }, { wr := [576], cr := true, mb := [13, 17, 21] }, { mn := [576], cr := true, mb := [5, 8, 9, 12, 17, 21] }, { mn := [576], mb := [5, 8, 9, 12, 13, 17, 21] }, { mn := [576], mb := [5, 8, 9, 12, 13, 17, 21] }, { wr := [832], cr := true, mb := [17, 21] }, { mn := [576, 832], cr := true, mb := [5, 8, 9, 12, 13, 16, 21] }, { mn := [576, 832], mb := [5, 8, 9, 12, 13, 16, 17, 21] }, { mn := [576, 832], mb := [5, 8, 9, 12, 13, 16, 17, 21] }, { wr := [1088], cr := true, mb := [21] }, { mn := [576, 832, 1088], cr := true, mb := [5, 8, 9, 12, 13, 16, 17, 20] }, { mn := [576, 832, 1088], mb := [5, 8, 9, 12, 13, 16, 17, 20, 21] }, { mn := [576, 832, 1088], mb := [5, 8, 9, 12, 13, 16, 17, 20, 21] }, { wr := [1344], cr := true }, {}, { wr := [128] }] else [] }
set_option maxHeartbeats 1000000 in
theorem f128_ok (d : GDelta) (h : d.Ok) : FnR Tryz.prog 128 [.agg [.im d.base.length (flat d.base), .im d.know.length (flat d.know), .im d.tallies.length (flat d.tallies), .im d.lives.length (flat d.lives), .im d.dead.length (flat d.dead), .im d.cs.length (flat d.cs)]] (.agg [.ow 3 1 d.base.length (flat d.base), .ow 3 1 d.know.length (flat d.know), .ow 146 3 d.tallies.length (flat d.tallies), .ow 148 6 d.lives.length (flat d.lives), .ow 38 2 d.dead.length (flat d.dead), .ow 150 8 d.cs.length (flat d.cs)]) := by
  simp only [GDelta.Ok] at h
  obtain ⟨o0, o1, o2, o3, o4, o5, o6, o7, o8⟩ := h
  refine FnW.of_AW TryzT_ok 0 (fn := Tryz.f128) (by kernel_rfl) rfl (by kernel_rfl) rfl rfl rfl ?_
  refine AW_of h128 TryzT_ok (by kernel_rfl) ?_
  simp -dsimp
  refine ACallK_of (f176_ok _ o0) ?_
  simp -dsimp
  refine ACallK_of (f176_ok _ o1) ?_
  simp -dsimp
  simp [capMax]
  omega
@[simp] def h123 : Hts := { dr := fun id => if id = 1 then [{ cr := true, mb := [7, 11, 15, 19, 23] }, { mb := [3, 7, 11, 15, 19, 23] }, { mb := [3, 7, 11, 15, 19, 23] }, { wr := [192], cr := true, mb := [7, 11, 15, 19, 23] }, { mn := [192], cr := true, mb := [3, 6, 11, 15, 19, 23] }, { mn := [192], mb := [3, 6, 7, 11, 15, 19, 23] }, { mn := [192], mb := [3, 6, 7, 11, 15, 19, 23] }, { wr := [448], cr := true, mb := [11, 15, 19, 23] }, { mn := [192, 448], cr := true, mb := [3, 6, 7, 10, 15, 19, 23] }, { mn := [192, 448], mb := [3, 6, 7, 10, 11, 15, 19, 23] }, { mn := [192, 448], mb := [3, 6, 7, 10, 11, 15, 19, 23] }, { wr := [704], cr := true, mb := [15, 19, 23] }, { mn := [192, 448, 704], cr := true, mb := [3, 6, 7, 10, 11, 14, 19, 23] }, { mn := [192, 448, 704], mb := [3, 6, 7, 10, 11, 14, 15, 19, 23] }, { mn := [192, 448, 704], mb := [3, 6, 7, 10, 11, 14, 15, 19, 23] }, { wr := [960], cr := true, mb := [19, 23] }, { mn := [192, 448, 704, 960], cr := true, mb := [3, 6, 7, 10, 11, 14, 15, 18, 23] }, { mn := [192, 448, 704, 960], mb := [3, 6, 7, 10, 11, 14, 15, 18, 19, 23] }, { mn := [192, 448, 704, 960], mb := [3, 6, 7, 10, 11, 14, 15, 18, 19, 23] }, { wr := [1216], cr := true, mb := [23] }, { mn := [192, 448, 704, 960, 1216], cr := true, mb := [3, 6, 7, 10, 11, 14, 15, 18, 19, 22] }, { mn := [192, 448, 704, 960, 1216], mb := [3, 6, 7, 10, 11, 14, 15, 18, 19, 22, 23] }, { mn := [192, 448, 704, 960, 1216], mb := [3, 6, 7, 10, 11, 14, 15, 18, 19, 22, 23] }, { wr := [1472], cr := true }, {}, { wr := [128] }] else [] }
set_option maxHeartbeats 1000000 in
theorem f123_ok (d : GDelta) (h : d.Ok) : FnR Tryz.prog 123 [.agg [.im d.base.length (flat d.base), .im d.know.length (flat d.know), .im d.tallies.length (flat d.tallies), .im d.lives.length (flat d.lives), .im d.dead.length (flat d.dead), .im d.cs.length (flat d.cs)]] (.agg [.ow 3 1 d.base.length (flat d.base), .ow 3 1 d.know.length (flat d.know), .ow 146 3 d.tallies.length (flat d.tallies), .ow 148 6 d.lives.length (flat d.lives), .ow 38 2 d.dead.length (flat d.dead), .ow 150 8 d.cs.length (flat d.cs)]) := by
  simp only [GDelta.Ok] at h
  obtain ⟨o0, o1, o2, o3, o4, o5, o6, o7, o8⟩ := h
  refine FnW.of_AW TryzT_ok 0 (fn := Tryz.f123) (by kernel_rfl) rfl (by kernel_rfl) rfl rfl rfl ?_
  refine AW_of h123 TryzT_ok (by kernel_rfl) ?_
  simp -dsimp
  simp [capMax]
  omega
@[simp] def h54 : Hts := { dr := fun id => if id = 1 then [{ mb := [7, 10] }, { mb := [7, 10] }, {}, {}, { cr := true }, { mb := [7] }, { mb := [7] }, { cr := true }, {}, { wr := [128] }] else [] }
theorem f54_ok (u : GUnit) (h : u.Ok) : FnR Tryz.prog 54 [.agg [.bool u.batch, .int .i64 u.act.dot.rep, .int .i64 u.act.dot.seq, .int .i64 u.act.time, .im u.act.knew.length (flat u.act.knew), .int .i64 u.act.kind, .str u.act.obj, .str u.act.key, .int .i64 u.act.val, .int .i64 u.act.ref.rep, .int .i64 u.act.ref.seq, .im u.delta.base.length (flat u.delta.base), .im u.delta.know.length (flat u.delta.know), .im u.delta.tallies.length (flat u.delta.tallies), .im u.delta.lives.length (flat u.delta.lives), .im u.delta.dead.length (flat u.delta.dead), .im u.delta.cs.length (flat u.delta.cs)]] (.agg [.bool u.batch, .int .i64 u.act.dot.rep, .int .i64 u.act.dot.seq, .int .i64 u.act.time, .ow 3 1 u.act.knew.length (flat u.act.knew), .int .i64 u.act.kind, .str u.act.obj, .str u.act.key, .int .i64 u.act.val, .int .i64 u.act.ref.rep, .int .i64 u.act.ref.seq, .ow 3 1 u.delta.base.length (flat u.delta.base), .ow 3 1 u.delta.know.length (flat u.delta.know), .ow 146 3 u.delta.tallies.length (flat u.delta.tallies), .ow 148 6 u.delta.lives.length (flat u.delta.lives), .ow 38 2 u.delta.dead.length (flat u.delta.dead), .ow 150 8 u.delta.cs.length (flat u.delta.cs)]) := by
  simp only [GUnit.Ok] at h
  refine FnW.of_AW TryzT_ok 0 (fn := Tryz.f54) (by kernel_rfl) rfl (by kernel_rfl) rfl rfl rfl ?_
  refine AW_of h54 TryzT_ok (by kernel_rfl) ?_
  simp -dsimp
  refine ACallK_of (f127_ok _ h.1) ?_
  simp -dsimp
  refine ACallK_of (f128_ok _ h.2) ?_
  simp -dsimp
@[simp] def h48 : Hts := { dr := fun id => if id = 1 then [{ mb := [7, 10] }, { mb := [7, 10] }, {}, {}, { cr := true }, { mb := [7] }, { mb := [7] }, { cr := true }, {}, { wr := [128] }] else [] }
theorem f48_ok (u : GUnit) (h : u.Ok) : FnR Tryz.prog 48 [.agg [.bool u.batch, .int .i64 u.act.dot.rep, .int .i64 u.act.dot.seq, .int .i64 u.act.time, .im u.act.knew.length (flat u.act.knew), .int .i64 u.act.kind, .str u.act.obj, .str u.act.key, .int .i64 u.act.val, .int .i64 u.act.ref.rep, .int .i64 u.act.ref.seq, .im u.delta.base.length (flat u.delta.base), .im u.delta.know.length (flat u.delta.know), .im u.delta.tallies.length (flat u.delta.tallies), .im u.delta.lives.length (flat u.delta.lives), .im u.delta.dead.length (flat u.delta.dead), .im u.delta.cs.length (flat u.delta.cs)]] (.agg [.bool u.batch, .int .i64 u.act.dot.rep, .int .i64 u.act.dot.seq, .int .i64 u.act.time, .ow 3 1 u.act.knew.length (flat u.act.knew), .int .i64 u.act.kind, .str u.act.obj, .str u.act.key, .int .i64 u.act.val, .int .i64 u.act.ref.rep, .int .i64 u.act.ref.seq, .ow 3 1 u.delta.base.length (flat u.delta.base), .ow 3 1 u.delta.know.length (flat u.delta.know), .ow 146 3 u.delta.tallies.length (flat u.delta.tallies), .ow 148 6 u.delta.lives.length (flat u.delta.lives), .ow 38 2 u.delta.dead.length (flat u.delta.dead), .ow 150 8 u.delta.cs.length (flat u.delta.cs)]) := by
  simp only [GUnit.Ok] at h
  refine FnW.of_AW TryzT_ok 0 (fn := Tryz.f48) (by kernel_rfl) rfl (by kernel_rfl) rfl rfl rfl ?_
  refine AW_of h48 TryzT_ok (by kernel_rfl) ?_
  simp -dsimp
  refine ACallK_of (f122_ok _ h.1) ?_
  simp -dsimp
  refine ACallK_of (f123_ok _ h.2) ?_
  simp -dsimp
end Am
