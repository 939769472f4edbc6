/- Where a cell is: the program's. No condition. -/
import Derived.Test.YteidfkbfocdnmaaGreatT
import Derived.Test.YteidfkbfocdnmaaGreatD
import Derived.Test.YteidfkbfocdnmaaGreatE16
import Derived.Test.YteidfkbfocdnmaaGreatAm29
import Derived.Test.YteidfkbfocdnmaaGreatAm31
set_option linter.unusedSimpArgs false
set_option linter.unusedVariables false
set_option linter.unnecessarySimpa false
set_option linter.unusedSectionVars false
namespace Am
open Go Go.Proofs
open Cel (cells)
set_option maxRecDepth 100000
@[simp] def h376 : Hts := {  }
theorem f376_ok (x : GCell) (d : GDot) : FnR Tryz.prog 376 [.agg [.str x.obj,.int .i64 x.dot.rep,.int .i64 x.dot.seq,.int .i64 x.time,.int .i64 x.ref.rep,.int .i64 x.ref.seq,.int .i64 x.val,.bool x.gone],.pc [.int .i64 d.rep,.int .i64 d.seq]] (.v (.bool (dotIs d x))) := by
  refine FnW.of_AW TryzT_ok 0 (fn := Tryz.f376) (by kernel_rfl) rfl (by kernel_rfl) rfl rfl rfl ?_; refine AW_of h376 TryzT_ok (by kernel_rfl) ?_
  simp -dsimp
  simp only [dotIs]
  rw [Bool.eq_iff_iff]; simp [GDot.ext_iff]
@[simp] def h375 : Hts := {  }
theorem f375_ok (xs : List GCell) (d : GDot) (hx : xs.length ≤ 1073741824) : FnR Tryz.prog 375 [.v (.im xs.length (flat xs)),.fn 376 [.pc [.int .i64 d.rep,.int .i64 d.seq]]] (.v (.int .i64 (cellAt xs d))) := by
  refine FnW.of_AW TryzT_ok 0 (fn := Tryz.f375) (by kernel_rfl) rfl (by kernel_rfl) rfl rfl rfl ?_; refine AW_of h375 TryzT_ok (by kernel_rfl) ?_
  simp -dsimp
  refine AWh_loop (fun i : Nat => i ≤ xs.length ∧ ∀ j : Nat,j < i → dotIs d (nth xs j) = false) (fun i => mkE [(0,.c (.im xs.length (flat xs))),(1,.fn 376 [.pc [.int .i64 d.rep,.int .i64 d.seq] 0]),(7,.c (.int .i64 xs.length)),(8,.c (.int .i64 i))] []) (fun i => xs.length - i) 0 (Wk_to [0,1,7,8] [] rfl rfl (by simp)) (by simp) ?_
  rintro i ⟨hi,hall⟩
  refine AW_of h375 TryzT_ok (by kernel_rfl) ?_
  have wi : IntKind.i64.wrap ((i : Int) + 1) = i + 1 := wrap64 (by omega) (by omega)
  rcases Nat.lt_or_ge i xs.length with h1 | h1
  · simp -dsimp [h1,ne_of_lt h1]
    repeat (first|refine ⟨by omega,?_⟩|refine ⟨by simp [capMax];omega,?_⟩|refine ⟨⟨by omega,by omega⟩,?_⟩)
    refine ACallK_of (f376_ok _ _) ?_
    cases e : dotIs d (nth xs i)
    · simp -dsimp [h1,ne_of_lt h1]
      repeat (first|refine ⟨by omega,?_⟩|refine ⟨by simp [capMax];omega,?_⟩|refine ⟨⟨by omega,by omega⟩,?_⟩)
      refine Back_of (i + 1) [0,1,7,8] [] rfl rfl (by simp [wi]) ⟨by omega,fun j hj => ?_⟩ (by omega)
      by_cases e3 : j = i
      · subst e3; exact e
      · exact hall j (by omega)
    · simp -dsimp [h1,ne_of_lt h1]
      repeat (first|refine ⟨by omega,?_⟩|refine ⟨by simp [capMax];omega,?_⟩|refine ⟨⟨by omega,by omega⟩,?_⟩)
      rw [cellAt,idx_here h1 hall e]
  · simp -dsimp [Nat.not_lt.2 h1]
    rw [cellAt,idx_none (fun j hj => hall j (by omega))]
@[simp] def h291 : Hts := {  }
theorem f291_ok (s : GState) (d : GDot) (ha : s.cs.length ≤ 1073741824) : FnR Tryz.prog 291 [.agg [.im s.know.length (flat s.know),.im s.tallies.length (flat s.tallies),.im s.lives.length (flat s.lives),.im s.cs.length (flat s.cs)],.agg [.int .i64 d.rep,.int .i64 d.seq]] (.v (.int .i64 (cellAt s.cs d))) := by
  refine FnW.of_AW TryzT_ok 0 (fn := Tryz.f291) (by kernel_rfl) rfl (by kernel_rfl) rfl rfl rfl ?_; refine AW_of h291 TryzT_ok (by kernel_rfl) ?_
  simp -dsimp
  refine ACallK_of (f375_ok _ _ ha) ?_
  simp -dsimp
end Am
