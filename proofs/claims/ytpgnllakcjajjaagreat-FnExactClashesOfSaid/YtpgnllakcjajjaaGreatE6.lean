/- Counters in their order. No condition. -/
import Derived.Test.YtpgnllakcjajjaaGreatT
import Derived.Test.YtpgnllakcjajjaaGreatD
import Derived.Test.YtpgnllakcjajjaaGreatE5
import Derived.Test.YtpgnllakcjajjaaGreatAm29
import Derived.Test.YtpgnllakcjajjaaGreatAm31
namespace Am
open Go Go.Proofs
open Cel (cells)
set_option maxRecDepth 100000
set_option linter.unusedSimpArgs false
set_option linter.unusedVariables false

@[simp] def h121 : Hts := { merge := fun t => decide (t < 34), mergeF := fun f => f == 110 || f == 170, dr := fun id => if id = 7 then [{}, {}, {}, {}, {}, {}, {}, {}, {}, {}, {}, {}, {}, {}, {}, {}, {}, {}, {}, {}, {}, {}, {}, {}, {}, {}, {}, {}, {}, {}, {}, {}, {}, {}, {}] else [] }
set_option maxHeartbeats 1000000 in
theorem f121_ok (l : List GTally) (ha : l.length ≤ 1073741824) (he : ∀ x, x ∈ l → x.Ok) : FnR Tryz.prog 121 [.v (.im l.length (flat l))] (.v (.bool (talliesOk l))) := by
  refine FnW.of_AW TryzT_ok 0 (fn := Tryz.f121) (by kernel_rfl) rfl (by kernel_rfl) rfl rfl rfl ?_
  refine AW_of h121 TryzT_ok (by kernel_rfl) ?_
  simp -dsimp
  refine AWh_loop (fun i : Nat => i ≤ l.length ∧ allB (talAt l) i = true) (fun i => mkE [(0, .c (.im l.length (flat l))), (3, .c (.int .i64 i))] []) (fun i => l.length - i) 0 (Wk_to [0, 3] [] rfl rfl (by simp)) (by simp [allB]) ?_
  rintro i ⟨hi, hall⟩
  refine AW_of h121 TryzT_ok (by kernel_rfl) ?_
  rcases Nat.lt_or_ge i l.length with h1 | h1
  · have hb : (nth l i).obj.size ≤ 9223372036854775807 := by
      have := he _ (nth_mem h1)
      simp only [GTally.Ok] at this
      omega
    have ho := nth_mem h1
    rcases Nat.eq_zero_or_pos i with hz | hz
    · have hz' : ¬ 0 < i := by omega
      simp -dsimp [h1, ne_of_lt h1, hz']
      refine ⟨by omega, ?_⟩
      refine ACallK_of (f170_ok _ hb) ?_
      simp -dsimp
      refine ACallK_of (f110_ok _ _ _) ?_
      simp -dsimp
      refine ACallK_of (f110_ok _ _ _) ?_
      cases hc : (!nameOk (nth l i).obj || !spIn (nth l i).rep 0 2 || !spIn (nth l i).sum 0 999999)
      · simp only [Bool.or_eq_false_iff, Bool.not_eq_false'] at hc
        obtain ⟨⟨g1, g2⟩, g3⟩ := hc
        simp -dsimp [h1, ne_of_lt h1, hz', g1, g2, g3]
        exact Back_of (i + 1) [0, 3] [] rfl rfl (by simp; rw [wrap64 (by omega) (by omega)]) ⟨by omega, allB_succ hall (by subst hz; simp [talAt, tallyOk, g1, g2, g3])⟩ (by omega)
      · simp -dsimp [hc]
        exact talliesOk_false h1 (by simp [talAt, tallyOk]; simp at hc; intros; simp_all)
    · have w : IntKind.i64.wrap ((i : Int) - 1) = i - 1 := wrap64 (by omega) (by omega)
      have t1 : ((i : Int) - 1).toNat = i - 1 := by omega
      have h3 : i - 1 < l.length := by omega
      have hn : ¬ i = 0 := by omega
      simp -dsimp [h1, ne_of_lt h1, hz, w, t1, h3]
      refine ⟨by omega, ?_⟩
      refine ACallK_of (f170_ok _ hb) ?_
      simp -dsimp
      refine ACallK_of (f110_ok _ _ _) ?_
      simp -dsimp
      refine ACallK_of (f110_ok _ _ _) ?_
      cases hc : (!nameOk (nth l i).obj || !spIn (nth l i).rep 0 2 || !spIn (nth l i).sum 0 999999)
      · simp only [Bool.or_eq_false_iff, Bool.not_eq_false'] at hc
        obtain ⟨⟨g1, g2⟩, g3⟩ := hc
        by_cases e : (nth l (i - 1)).obj = (nth l i).obj
        · have e2 : strLt (nth l i).obj (nth l i).obj = false := strLt_self _
          simp -dsimp [h1, ne_of_lt h1, hz, w, t1, h3, e, g1, g2, g3]
          refine ⟨⟨by omega, by omega⟩, fun h => ?_, fun h => ?_⟩
          · exact talliesOk_false h1 (by simp [talAt, tallyLt, e, e2, hn, h])
          · exact Back_of (i + 1) [0, 3] [] rfl rfl (by simp; rw [wrap64 (by omega) (by omega)]) ⟨by omega, allB_succ hall (by simp [talAt, tallyOk, tallyLt, g1, g2, g3, e, e2, h])⟩ (by omega)
        · cases e2 : Op.bytesLess (nth l (i - 1)).obj.toList (nth l i).obj.toList
          · simp -dsimp [h1, ne_of_lt h1, hz, w, t1, h3, e, e2, g1, g2, g3]
            refine ⟨⟨by omega, by omega⟩, ?_⟩
            exact talliesOk_false h1 (by simp [talAt, tallyLt, e, strLt, e2, hn])
          · simp -dsimp [h1, ne_of_lt h1, hz, w, t1, h3, e, e2, g1, g2, g3]
            refine ⟨⟨by omega, by omega⟩, ?_⟩
            exact Back_of (i + 1) [0, 3] [] rfl rfl (by simp; rw [wrap64 (by omega) (by omega)]) ⟨by omega, allB_succ hall (by simp [talAt, tallyOk, tallyLt, g1, g2, g3, strLt, e2])⟩ (by omega)
      · simp -dsimp [hc]
        exact talliesOk_false h1 (by simp [talAt, tallyOk]; simp at hc; intros; simp_all)
  · simp -dsimp [Nat.not_lt.2 h1]
    obtain rfl : i = l.length := by omega
    rw [talliesOk_end hall, Bool.eq_iff_iff]
    simp
    omega
end Am
