/- Rows: each cell once,each behind what it was put behind; all of them. No condition. -/
import Derived.Test.YteidfkbfocdnmaaGreatD
import Derived.Test.YteidfkbfocdnmaaGreatU1
import Derived.Test.YteidfkbfocdnmaaGreatE70
import Derived.Test.YteidfkbfocdnmaaGreatE93a
import Derived.Test.YteidfkbfocdnmaaGreatV1
import Derived.Test.YteidfkbfocdnmaaGreatT
import Derived.Test.YteidfkbfocdnmaaGreatAm29
import Derived.Test.YteidfkbfocdnmaaGreatAm31
set_option linter.unusedSimpArgs false
set_option linter.unusedVariables false
set_option linter.unnecessarySimpa false
set_option linter.unusedSectionVars false
namespace Am
open Go
end Am
namespace Am
open Go
end Am
namespace Am
open Go
end Am
namespace Am
open Go Go.Proofs
open Cel (cells)
set_option maxRecDepth 100000
@[simp] def h159 : Hts := { merge := fun _ => false }
set_option maxHeartbeats 1000000 in
theorem f159_ok (l : List GCell) (hs : l.length ≤ 1073741824) (ht : ∀ x,x ∈ l → 0 ≤ x.time) : FnR Tryz.prog 159 [.v (.im l.length (flat l))] (.v (.int .i64 (timeK l l.length))) := by
  refine FnW.of_AW TryzT_ok 0 (fn := Tryz.f159) (by kernel_rfl) rfl (by kernel_rfl) rfl rfl rfl ?_; refine AW_of h159 TryzT_ok (by kernel_rfl) ?_
  simp -dsimp
  refine AWh_loop (fun i : Nat => i ≤ l.length) (fun i => mkE [(3,.c (.int .i64 (timeK l i))),(6,.c (.im l.length (flat l))),(7,.c (.int .i64 l.length)),(8,.c (.int .i64 i))] []) (fun i => l.length - i) 0 (Wk_to [3,6,7,8] [] rfl rfl (by simp [timeK])) (by simp) ?_
  rintro i hi
  refine AW_of h159 TryzT_ok (by kernel_rfl) ?_
  have wi : IntKind.i64.wrap ((i : Int) + 1) = i + 1 := wrap64 (by omega) (by omega)
  rcases Nat.lt_or_ge i l.length with h1 | h1
  · have h0 := ht _ (nth_mem h1)
    rcases Nat.eq_zero_or_pos i with z | z
    · have zb : ((i : Int) == 0) = true := by simp; omega
      have e : timeK l (i + 1) = (nth l i).time := by
        subst z
        rw [timeK,timeK]; split <;> omega
      simp -dsimp [h1,ne_of_lt h1,wi,zb]
      repeat (first|refine ⟨by omega,?_⟩|refine ⟨by simp [capMax];omega,?_⟩|refine ⟨⟨by omega,by omega⟩,?_⟩)
      exact Back_of (i + 1) [3,6,7,8] [] rfl rfl (by simp [e]) (by omega) (by omega)
    · have z1 : ¬ i = 0 := by omega
      have zb : ((i : Int) == 0) = false := by simp; omega
      by_cases q : timeK l i < (nth l i).time
      · simp -dsimp [h1,ne_of_lt h1,wi,z1,zb,q]
        repeat (first|refine ⟨by omega,?_⟩|refine ⟨by simp [capMax];omega,?_⟩|refine ⟨⟨by omega,by omega⟩,?_⟩)
        exact Back_of (i + 1) [3,6,7,8] [] rfl rfl (by simp [timeK,q]) (by omega) (by omega)
      · simp -dsimp [h1,ne_of_lt h1,wi,z1,zb,q,Int.not_lt.1 q]
        repeat (first|refine ⟨by omega,?_⟩|refine ⟨by simp [capMax];omega,?_⟩|refine ⟨⟨by omega,by omega⟩,?_⟩)
        exact Back_of (i + 1) [3,6,7,8] [] rfl rfl (by simp [timeK,q]) (by omega) (by omega)
  · obtain rfl : i = l.length := by omega
    simp -dsimp
@[simp] def h30 : Hts := { merge := fun _ => false }
theorem f30_ok (s : GState) (hs : SOK s) : FnR Tryz.prog 30 [.agg [.im s.know.length (flat s.know),.im s.tallies.length (flat s.tallies),.im s.lives.length (flat s.lives),.im s.cs.length (flat s.cs)]] (.v (.int .i64 (timeOf s))) := by
  have hc := hs.c1
  refine FnW.of_AW TryzT_ok 0 (fn := Tryz.f30) (by kernel_rfl) rfl (by kernel_rfl) rfl rfl rfl ?_; refine AW_of h30 TryzT_ok (by kernel_rfl) ?_
  simp -dsimp
  refine ACallK_of (f159_ok s.cs (by omega) (fun x hx => by
    have := (hs.c2 x hx).2
    simp only [cellOk',spIn,Bool.and_eq_true,decide_eq_true_eq] at this
    omega)) ?_
  simp -dsimp
  simp [timeOf]
end Am
