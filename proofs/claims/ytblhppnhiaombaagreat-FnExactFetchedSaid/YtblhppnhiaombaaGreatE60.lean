/- Where a commit is. No condition. -/
import Derived.Test.YtblhppnhiaombaaGreatT
import Derived.Test.YtblhppnhiaombaaGreatD
import Derived.Test.YtblhppnhiaombaaGreatE2
import Derived.Test.YtblhppnhiaombaaGreatAm29
import Derived.Test.YtblhppnhiaombaaGreatAm31
namespace Am
open Go Go.Proofs
set_option linter.unusedSimpArgs false
set_option linter.unusedVariables false

theorem dot_beq (a b : GDot) : (a.rep == b.rep && a.seq == b.seq) = decide (a = b) := by
  rw [Bool.eq_iff_iff]; simp [GDot.ext_iff]
def atId (g : GGraph) (d : GDot) : Int := idx (fun c : GCommit => decide (c.id = d)) g.commits

@[simp] def h101 : Hts := { dr := fun id => if id = 4 then [{}, {}, {}, {}, {}, {}, {}, {}] else [] }
theorem f101_ok (g : GGraph) (d : GDot) (hg : g.commits.length ≤ 1073741824) : FnR Tryz.prog 101 [.agg [.im g.commits.length (flat g.commits), .int .i64 g.head], .agg [.int .i64 d.rep, .int .i64 d.seq]] (.v (.int .i64 (atId g d))) := by
  refine FnW.of_AW TryzT_ok 0 (fn := Tryz.f101) (by kernel_rfl) rfl (by kernel_rfl) rfl rfl rfl ?_
  refine AW_of h101 TryzT_ok (by kernel_rfl) ?_
  simp -dsimp
  refine AWh_loop (fun i : Nat => i ≤ g.commits.length ∧ ∀ j : Nat, j < i → decide ((nth g.commits j).id = d) = false) (fun i => mkE [(2, .box 128 0), (3, .box 192 0), (5, .c (.int .i64 i))] [(128, .box [.c (.im g.commits.length (flat g.commits)), .c (.int .i64 g.head)]), (192, .box [.c (.int .i64 d.rep), .c (.int .i64 d.seq)])]) (fun i => g.commits.length - i) 0 (Wk_to [2, 3, 5] [(128, 128), (192, 192)] rfl rfl (by simp)) (by simp) ?_
  rintro i ⟨hi, hall⟩
  refine AW_of h101 TryzT_ok (by kernel_rfl) ?_
  have wi : IntKind.i64.wrap ((i : Int) + 1) = i + 1 := wrap64 (by omega) (by omega)
  rcases Nat.lt_or_ge i g.commits.length with h1 | h1
  · simp -dsimp [h1, ne_of_lt h1, dot_beq]
    refine ⟨by omega, fun e1 => ?_, fun e => ?_⟩
    · rw [atId, idx_here h1 hall (by simp [e1])]
    · refine Back_of (i + 1) [2, 3, 5] [(128, 128), (192, 192)] rfl rfl (by simp [wi]) ⟨by omega, fun j hj => ?_⟩ (by omega)
      by_cases e3 : j = i
      · subst e3; simpa using e
      · exact hall j (by omega)
  · simp -dsimp [Nat.not_lt.2 h1]
    rw [atId, idx_none (fun j hj => hall j (by omega))]

@[simp] def h199 : Hts := {  }
theorem f199_ok (c : GCommit) (d : GDot) : FnR Tryz.prog 199 [.agg [.int .i64 c.id.rep, .int .i64 c.id.seq, .im c.ups.length (flat c.ups), .im c.state.know.length (flat c.state.know), .im c.state.tallies.length (flat c.state.tallies), .im c.state.lives.length (flat c.state.lives), .im c.state.cs.length (flat c.state.cs)], .pc [.int .i64 d.rep, .int .i64 d.seq]] (.v (.bool (decide (c.id = d)))) := by
  refine FnW.of_AW TryzT_ok 0 (fn := Tryz.f199) (by kernel_rfl) rfl (by kernel_rfl) rfl rfl rfl ?_
  refine AW_of h199 TryzT_ok (by kernel_rfl) ?_
  simp -dsimp
  exact dot_beq _ _

@[simp] def h198 : Hts := {  }
theorem f198_ok (xs : List GCommit) (d : GDot) (hx : xs.length ≤ 1073741824) : FnR Tryz.prog 198 [.v (.im xs.length (flat xs)), .fn 199 [.pc [.int .i64 d.rep, .int .i64 d.seq]]] (.v (.int .i64 (idx (fun c : GCommit => decide (c.id = d)) xs))) := by
  refine FnW.of_AW TryzT_ok 0 (fn := Tryz.f198) (by kernel_rfl) rfl (by kernel_rfl) rfl rfl rfl ?_
  refine AW_of h198 TryzT_ok (by kernel_rfl) ?_
  simp -dsimp
  refine AWh_loop (fun i : Nat => i ≤ xs.length ∧ ∀ j : Nat, j < i → decide ((nth xs j).id = d) = false) (fun i => mkE [(0, .c (.im xs.length (flat xs))), (1, .fn 199 [.pc [.int .i64 d.rep, .int .i64 d.seq] 0]), (7, .c (.int .i64 xs.length)), (8, .c (.int .i64 i))] []) (fun i => xs.length - i) 0 (Wk_to [0, 1, 7, 8] [] rfl rfl (by simp)) (by simp) ?_
  rintro i ⟨hi, hall⟩
  refine AW_of h198 TryzT_ok (by kernel_rfl) ?_
  have wi : IntKind.i64.wrap ((i : Int) + 1) = i + 1 := wrap64 (by omega) (by omega)
  rcases Nat.lt_or_ge i xs.length with h1 | h1
  · simp -dsimp [h1, ne_of_lt h1]
    refine ACallK_of (f199_ok _ _) ?_
    simp -dsimp
    refine ⟨fun e => ?_, fun e => ?_⟩
    · rw [idx_here h1 hall (by simpa using e)]
    · refine Back_of (i + 1) [0, 1, 7, 8] [] rfl rfl (by simp [wi]) ⟨by omega, fun j hj => ?_⟩ (by omega)
      by_cases e3 : j = i
      · subst e3; simpa using e
      · exact hall j (by omega)
  · simp -dsimp [Nat.not_lt.2 h1]
    rw [idx_none (fun j hj => hall j (by omega))]

@[simp] def h108 : Hts := {  }
theorem f108_ok (g : GGraph) (d : GDot) (hg : g.commits.length ≤ 1073741824) : FnR Tryz.prog 108 [.agg [.im g.commits.length (flat g.commits), .int .i64 g.head], .agg [.int .i64 d.rep, .int .i64 d.seq]] (.v (.int .i64 (atId g d))) := by
  refine FnW.of_AW TryzT_ok 0 (fn := Tryz.f108) (by kernel_rfl) rfl (by kernel_rfl) rfl rfl rfl ?_
  refine AW_of h108 TryzT_ok (by kernel_rfl) ?_
  simp -dsimp
  refine ACallK_of (f198_ok _ _ hg) ?_
  simp -dsimp
  rfl

end Am
