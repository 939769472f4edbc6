/- Counters, lives and cells in their order. No condition. -/
import Derived.Test.YtpgnllakcjajjaaGreatT
import Derived.Test.YtpgnllakcjajjaaGreatD
import Derived.Test.YtpgnllakcjajjaaGreatE7
import Derived.Test.YtpgnllakcjajjaaGreatAm29
import Derived.Test.YtpgnllakcjajjaaGreatAm31
namespace Am
open Go Go.Proofs
open Cel (cells)
set_option maxRecDepth 100000
set_option linter.unusedSimpArgs false
set_option linter.unusedVariables false

@[simp] def h123 : Hts := { merge := fun _ => false, mergeF := fun _ => false, dr := fun id => if id = 5 then [{}, {}, { cr := true }, {}, {}, {}, {}, { cr := true }, {}, {}, {}, {}, {}, { cr := true }, {}, {}, {}, {}, {}, { cr := true }, {}, {}, {}, {}, {}, {}, {}, {}, {}, {}, { cr := true }, {}, {}, {}, {}, {}, {}, {}, {}, {}, {}, {}, {}, {}, {}, {}, { cr := true }, {}, {}, {}] else [] }
set_option maxHeartbeats 4000000 in
theorem f123_ok (l : List GCell) (ha : l.length ≤ 1073741824) (he : ∀ x, x ∈ l → x.Ok) : FnR Tryz.prog 123 [.v (.im l.length (flat l))] (.v (.bool (celsOk l))) := by
  refine FnW.of_AW TryzT_ok 0 (fn := Tryz.f123) (by kernel_rfl) rfl (by kernel_rfl) rfl rfl rfl ?_
  refine AW_of h123 TryzT_ok (by kernel_rfl) ?_
  simp -dsimp
  refine AWh_loop (fun i : Nat => i ≤ l.length ∧ allB (celAt l) i = true) (fun i => mkE [(0, .c (.im l.length (flat l))), (3, .c (.int .i64 i))] []) (fun i => l.length - i) 0 (Wk_to [0, 3] [] rfl rfl (by simp)) (by simp [allB]) ?_
  rintro i ⟨hi, hall⟩
  refine AW_of h123 TryzT_ok (by kernel_rfl) ?_
  rcases Nat.lt_or_ge i l.length with h1 | h1
  · have hm := he _ (nth_mem h1)
    simp only [GCell.Ok] at hm
    rcases Nat.eq_zero_or_pos i with hz | hz
    · have hz' : ¬ 0 < i := by omega
      simp -dsimp [h1, ne_of_lt h1, hz']
      refine ⟨by omega, ?_⟩
      refine ACallK_of (f111_ok _) ?_
      cases g1 : dotOk (nth l i).dot
      · simp -dsimp [h1, ne_of_lt h1, hz']
        exact celsOk_false h1 (by simp [celAt, cellOk', g1])
      simp -dsimp [h1, ne_of_lt h1, hz', g1]
      refine ACallK_of (f170_ok _ (by omega)) ?_
      cases g2 : nameOk (nth l i).obj
      · simp -dsimp [h1, ne_of_lt h1, hz']
        exact celsOk_false h1 (by simp [celAt, cellOk', g2])
      simp -dsimp [h1, ne_of_lt h1, hz', g2]
      refine ACallK_of (f110_ok _ _ _) ?_
      cases g3 : spIn (nth l i).time 1 10000
      · simp -dsimp [h1, ne_of_lt h1, hz']
        exact celsOk_false h1 (by simp [celAt, cellOk', g3])
      simp -dsimp [h1, ne_of_lt h1, hz', g3]
      refine ACallK_of (f110_ok _ _ _) ?_
      cases g4 : spIn (nth l i).val 0 999999
      · simp -dsimp [h1, ne_of_lt h1, hz']
        exact celsOk_false h1 (by simp [celAt, cellOk', g4])
      rcases bne_cases (nth l i).ref.rep with ⟨r1, r2⟩ | ⟨r1, r2⟩ <;> rcases bne_cases (nth l i).ref.seq with ⟨q1, q2⟩ | ⟨q1, q2⟩
      · simp -dsimp [h1, ne_of_lt h1, hz', g1, g2, g3, g4, r1, r2, q1, q2]
        refine ACallK_of (f111_ok _) ?_
        cases g5 : dotOk (nth l i).ref
        · simp -dsimp [h1, ne_of_lt h1, hz', g1, g2, g3, g4, r1, r2, q1, q2]
          exact celsOk_false h1 (by simp [celAt, cellOk', g5, r2, q2])
        simp -dsimp [h1, ne_of_lt h1, hz', g1, g2, g3, g4, r1, r2, q1, q2, g5]
        exact Back_of (i + 1) [0, 3] [] rfl rfl (by simp; rw [wrap64 (by omega) (by omega)]) ⟨by omega, allB_succ hall (by subst hz; simp [celAt, cellOk', g1, g2, g3, g4, r1, r2, q1, q2, g5])⟩ (by omega)
      · simp -dsimp [h1, ne_of_lt h1, hz', g1, g2, g3, g4, r1, r2, q1, q2]
        refine ACallK_of (f111_ok _) ?_
        cases g5 : dotOk (nth l i).ref
        · simp -dsimp [h1, ne_of_lt h1, hz', g1, g2, g3, g4, r1, r2, q1, q2]
          exact celsOk_false h1 (by simp [celAt, cellOk', g5, r2, q2])
        simp -dsimp [h1, ne_of_lt h1, hz', g1, g2, g3, g4, r1, r2, q1, q2, g5]
        exact Back_of (i + 1) [0, 3] [] rfl rfl (by simp; rw [wrap64 (by omega) (by omega)]) ⟨by omega, allB_succ hall (by subst hz; simp [celAt, cellOk', g1, g2, g3, g4, r1, r2, q1, q2, g5])⟩ (by omega)
      · simp -dsimp [h1, ne_of_lt h1, hz', g1, g2, g3, g4, r1, r2, q1, q2]
        refine ACallK_of (f111_ok _) ?_
        cases g5 : dotOk (nth l i).ref
        · simp -dsimp [h1, ne_of_lt h1, hz', g1, g2, g3, g4, r1, r2, q1, q2]
          exact celsOk_false h1 (by simp [celAt, cellOk', g5, r2, q2])
        simp -dsimp [h1, ne_of_lt h1, hz', g1, g2, g3, g4, r1, r2, q1, q2, g5]
        exact Back_of (i + 1) [0, 3] [] rfl rfl (by simp; rw [wrap64 (by omega) (by omega)]) ⟨by omega, allB_succ hall (by subst hz; simp [celAt, cellOk', g1, g2, g3, g4, r1, r2, q1, q2, g5])⟩ (by omega)
      · simp -dsimp [h1, ne_of_lt h1, hz', g1, g2, g3, g4, r1, r2, q1, q2]
        exact Back_of (i + 1) [0, 3] [] rfl rfl (by simp; rw [wrap64 (by omega) (by omega)]) ⟨by omega, allB_succ hall (by subst hz; simp [celAt, cellOk', g1, g2, g3, g4, r1, r2, q1, q2])⟩ (by omega)
    · have w : IntKind.i64.wrap ((i : Int) - 1) = i - 1 := wrap64 (by omega) (by omega)
      have t1 : ((i : Int) - 1).toNat = i - 1 := by omega
      have h3 : i - 1 < l.length := by omega
      have hn : ¬ i = 0 := by omega
      simp -dsimp [h1, ne_of_lt h1, hz, w, t1, h3]
      refine ⟨by omega, ?_⟩
      refine ACallK_of (f111_ok _) ?_
      cases g1 : dotOk (nth l i).dot
      · simp -dsimp [h1, ne_of_lt h1, hz, w, t1, h3]
        exact celsOk_false h1 (by simp [celAt, cellOk', g1])
      simp -dsimp [h1, ne_of_lt h1, hz, w, t1, h3, g1]
      refine ACallK_of (f170_ok _ (by omega)) ?_
      cases g2 : nameOk (nth l i).obj
      · simp -dsimp [h1, ne_of_lt h1, hz, w, t1, h3]
        exact celsOk_false h1 (by simp [celAt, cellOk', g2])
      simp -dsimp [h1, ne_of_lt h1, hz, w, t1, h3, g2]
      refine ACallK_of (f110_ok _ _ _) ?_
      cases g3 : spIn (nth l i).time 1 10000
      · simp -dsimp [h1, ne_of_lt h1, hz, w, t1, h3]
        exact celsOk_false h1 (by simp [celAt, cellOk', g3])
      simp -dsimp [h1, ne_of_lt h1, hz, w, t1, h3, g3]
      refine ACallK_of (f110_ok _ _ _) ?_
      cases g4 : spIn (nth l i).val 0 999999
      · simp -dsimp [h1, ne_of_lt h1, hz, w, t1, h3]
        exact celsOk_false h1 (by simp [celAt, cellOk', g4])
      rcases bne_cases (nth l i).ref.rep with ⟨r1, r2⟩ | ⟨r1, r2⟩ <;> rcases bne_cases (nth l i).ref.seq with ⟨q1, q2⟩ | ⟨q1, q2⟩
      · simp -dsimp [h1, ne_of_lt h1, hz, w, t1, h3, g1, g2, g3, g4, r1, r2, q1, q2]
        refine ACallK_of (f111_ok _) ?_
        cases g5 : dotOk (nth l i).ref
        · simp -dsimp [h1, ne_of_lt h1, hz, w, t1, h3, g1, g2, g3, g4, r1, r2, q1, q2]
          exact celsOk_false h1 (by simp [celAt, cellOk', g5, r2, q2])
        simp -dsimp [h1, ne_of_lt h1, hz, w, t1, h3, g1, g2, g3, g4, r1, r2, q1, q2, g5]
        repeat (first | refine ⟨by omega, ?_⟩ | refine ⟨⟨by omega, by omega⟩, ?_⟩)
        refine ACallK_of (f126_ok _ _) ?_
        simp -dsimp [h1, ne_of_lt h1, hz, w, t1, h3, g1, g2, g3, g4, r1, r2, q1, q2, g5]
        refine ⟨fun h => celsOk_false h1 (by simp [celAt, cellOk', hn, h]), fun h => Back_of (i + 1) [0, 3] [] rfl rfl (by simp; rw [wrap64 (by omega) (by omega)]) ⟨by omega, allB_succ hall (by simp [celAt, cellOk', g1, g2, g3, g4, r1, r2, q1, q2, g5, h])⟩ (by omega)⟩
      · simp -dsimp [h1, ne_of_lt h1, hz, w, t1, h3, g1, g2, g3, g4, r1, r2, q1, q2]
        refine ACallK_of (f111_ok _) ?_
        cases g5 : dotOk (nth l i).ref
        · simp -dsimp [h1, ne_of_lt h1, hz, w, t1, h3, g1, g2, g3, g4, r1, r2, q1, q2]
          exact celsOk_false h1 (by simp [celAt, cellOk', g5, r2, q2])
        simp -dsimp [h1, ne_of_lt h1, hz, w, t1, h3, g1, g2, g3, g4, r1, r2, q1, q2, g5]
        repeat (first | refine ⟨by omega, ?_⟩ | refine ⟨⟨by omega, by omega⟩, ?_⟩)
        refine ACallK_of (f126_ok _ _) ?_
        simp -dsimp [h1, ne_of_lt h1, hz, w, t1, h3, g1, g2, g3, g4, r1, r2, q1, q2, g5]
        refine ⟨fun h => celsOk_false h1 (by simp [celAt, cellOk', hn, h]), fun h => Back_of (i + 1) [0, 3] [] rfl rfl (by simp; rw [wrap64 (by omega) (by omega)]) ⟨by omega, allB_succ hall (by simp [celAt, cellOk', g1, g2, g3, g4, r1, r2, q1, q2, g5, h])⟩ (by omega)⟩
      · simp -dsimp [h1, ne_of_lt h1, hz, w, t1, h3, g1, g2, g3, g4, r1, r2, q1, q2]
        refine ACallK_of (f111_ok _) ?_
        cases g5 : dotOk (nth l i).ref
        · simp -dsimp [h1, ne_of_lt h1, hz, w, t1, h3, g1, g2, g3, g4, r1, r2, q1, q2]
          exact celsOk_false h1 (by simp [celAt, cellOk', g5, r2, q2])
        simp -dsimp [h1, ne_of_lt h1, hz, w, t1, h3, g1, g2, g3, g4, r1, r2, q1, q2, g5]
        repeat (first | refine ⟨by omega, ?_⟩ | refine ⟨⟨by omega, by omega⟩, ?_⟩)
        refine ACallK_of (f126_ok _ _) ?_
        simp -dsimp [h1, ne_of_lt h1, hz, w, t1, h3, g1, g2, g3, g4, r1, r2, q1, q2, g5]
        refine ⟨fun h => celsOk_false h1 (by simp [celAt, cellOk', hn, h]), fun h => Back_of (i + 1) [0, 3] [] rfl rfl (by simp; rw [wrap64 (by omega) (by omega)]) ⟨by omega, allB_succ hall (by simp [celAt, cellOk', g1, g2, g3, g4, r1, r2, q1, q2, g5, h])⟩ (by omega)⟩
      · simp -dsimp [h1, ne_of_lt h1, hz, w, t1, h3, g1, g2, g3, g4, r1, r2, q1, q2]
        repeat (first | refine ⟨by omega, ?_⟩ | refine ⟨⟨by omega, by omega⟩, ?_⟩)
        refine ACallK_of (f126_ok _ _) ?_
        simp -dsimp [h1, ne_of_lt h1, hz, w, t1, h3, g1, g2, g3, g4, r1, r2, q1, q2]
        refine ⟨fun h => celsOk_false h1 (by simp [celAt, cellOk', hn, h]), fun h => Back_of (i + 1) [0, 3] [] rfl rfl (by simp; rw [wrap64 (by omega) (by omega)]) ⟨by omega, allB_succ hall (by simp [celAt, cellOk', g1, g2, g3, g4, r1, r2, q1, q2, h])⟩ (by omega)⟩
  · simp -dsimp [Nat.not_lt.2 h1]
    obtain rfl : i = l.length := by omega
    rw [celsOk_end hall, Bool.eq_iff_iff]
    simp
    omega
end Am
