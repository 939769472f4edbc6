/- States: the law. No condition. -/
import Derived.Test.YtonemhaagbojeaaT
import Derived.Test.YtonemhaagbojeaaD
import Derived.Test.YtonemhaagbojeaaV1
import Derived.Test.YtonemhaagbojeaaE56
import Derived.Test.YtonemhaagbojeaaE64
import Derived.Test.YtonemhaagbojeaaE93a
namespace Am
open Go Go.Proofs
open Cel (cells)
set_option maxRecDepth 100000
set_option linter.unusedSimpArgs false
set_option linter.unusedVariables false

theorem livesOf_pos {s : GState} {i : Nat} (h : i < s.lives.length) : 0 < (livesOf s (nth s.lives i).map (nth s.lives i).obj (nth s.lives i).key).length := by
  unfold livesOf
  rw [filK_filter _ _ _ (Nat.le_refl _), List.take_length]
  exact List.length_pos_of_mem (List.mem_filter.2 ⟨nth_mem h, by simp [livP]⟩)

@[simp] def h6 : Hts := {  }
theorem f6_ok (b : List UInt8) : FnR Try.prog 6 [.v (.im b.length (flat b))] (.v (.bool (decide (1048576 < b.length)))) := by
  refine FnW.of_AW TryT_ok 0 (fn := Try.f6) (by kernel_rfl) rfl (by kernel_rfl) rfl rfl rfl ?_; refine AW_of h6 TryT_ok (by kernel_rfl) ?_
  simp -dsimp
  omega

@[simp] def h3 : Hts := { merge := fun _ => false, mergeF := fun _ => false, dr := fun id => if id = 7 then [{}, {}, {}, {}, {}, {}, {}, { cr := true }, { mb := [40] }, {}] else if id = 12 then [{}, {}, {}, {}, {}, {}, {}, {}, {}, {}, {}, {}, {}, { cr := true }, { mb := [63] }, { mb := [63] }, { mb := [63] }, { mb := [63] }, { mb := [63] }, { mb := [63] }, {}] else if id = 28 then [{}, { cr := true }, {}, {}, {}, { cr := true }, {}, {}, {}, {}, {}, {}, {}, {}, {}, {}, {}, { cr := true }, { mb := [140] }, { mb := [140] }, { cr := true }, {}, {}, {}, {}, { cr := true }, { mb := [148] }, { cr := true }, {}, {}, {}, {}, {}, {}, { cr := true }, { mb := [157] }, { mb := [157] }, { mb := [157] }, { cr := true }, {}, {}, {}, {}, {}, {}, {}, { cr := true }, { mb := [175] }, { mb := [169] }, { mb := [169] }, { mb := [169] }, { mb := [169] }, { cr := true }, {}, {}, {}, {}, {}, {}, { cr := true }, { mb := [182] }, { mb := [182] }, { cr := true }, {}, {}, {}, { cr := true }, { cr := true }, {}, {}] else [] }
set_option maxHeartbeats 8000000 in
theorem f3_ok (b : List UInt8) (hb0 : b.length ≤ 9223372036854775807) : FnR Try.prog 3 [.v (.im b.length (flat b))] (.v (.bool true)) := by
  refine FnW.of_AW TryT_ok 0 (fn := Try.f3) (by kernel_rfl) rfl (by kernel_rfl) rfl rfl rfl ?_; refine AW_of h3 TryT_ok (by kernel_rfl) ?_
  simp -dsimp
  refine ACallK_of (f6_ok b) ?_
  by_cases hb : 1048576 < b.length
  · simp -dsimp [hb]
  have hb : b.length ≤ 1048576 := by omega
  have hb' : ¬ 1048576 < b.length := by omega
  simp -dsimp [hb']
  refine ACallK_of (f7_ok b hb) ?_
  have hS : SOK (drawState b) := stateD_sok _
  have hO := sok_Ok hS
  generalize drawState b = s at *
  have st := hS.t1
  have sl := hS.l1
  have sc := hS.c1
  simp -dsimp
  refine AWh_loop (fun i : Nat => i ≤ s.cs.length) (fun i => mkE [(0, .c (.im b.length (flat b))), (3, .box 192 0), (4, .c (.int .i64 i))] [(192, .box [.arr 1600, .arr 1601, .arr 1602, .arr 1603]), (1600, .arr 0 3 1 s.know.length (flat s.know)), (1601, .arr 0 38 3 s.tallies.length (flat s.tallies)), (1602, .arr 0 40 6 s.lives.length (flat s.lives)), (1603, .arr 0 35 8 s.cs.length (flat s.cs))]) (fun i => s.cs.length - i) 0 (Wk_to [0, 3, 4] [(192, 192), (1600, 1600), (1601, 1601), (1602, 1602), (1603, 1603)] rfl rfl (by simp)) (by simp) ?_
  rintro i hi
  refine AW_of h3 TryT_ok (by kernel_rfl) ?_
  rcases Nat.lt_or_ge i s.cs.length with h1 | h1
  · have hc := cellAt_self hS h1
    have wi : IntKind.i64.wrap ((i : Int) + 1) = i + 1 := wrap64 (by omega) (by omega)
    simp -dsimp [h1, ne_of_lt h1]
    repeat (first | refine ⟨by omega, ?_⟩ | refine ⟨by simp [capMax]; omega, ?_⟩ | refine ⟨⟨by omega, by omega⟩, ?_⟩)
    refine ACallK_of (f8_ok s (nth s.cs i).dot (by omega)) ?_
    rw [hc]
    simp -dsimp [wi]
    exact Back_of (i + 1) [0, 3, 4] [(192, 192), (1600, 1600), (1601, 1601), (1602, 1602), (1603, 1603)] rfl rfl (by simp) (by omega) (by omega)
  obtain rfl : i = s.cs.length := by omega
  simp -dsimp
  refine AWh_loop (fun i : Nat => i ≤ s.tallies.length) (fun i => mkE [(0, .c (.im b.length (flat b))), (3, .box 192 0), (5, .c (.int .i64 i))] [(192, .box [.arr 1600, .arr 1601, .arr 1602, .arr 1603]), (1600, .arr 0 3 1 s.know.length (flat s.know)), (1601, .arr 0 38 3 s.tallies.length (flat s.tallies)), (1602, .arr 0 40 6 s.lives.length (flat s.lives)), (1603, .arr 0 35 8 s.cs.length (flat s.cs))]) (fun i => s.tallies.length - i) 0 (Wk_to [0, 3, 5] [(192, 192), (1600, 1600), (1601, 1601), (1602, 1602), (1603, 1603)] rfl rfl (by simp)) (by simp) ?_
  rintro i hi
  refine AW_of h3 TryT_ok (by kernel_rfl) ?_
  rcases Nat.lt_or_ge i s.tallies.length with h1 | h1
  · have hc := tallyAt_self hS h1
    have wi : IntKind.i64.wrap ((i : Int) + 1) = i + 1 := wrap64 (by omega) (by omega)
    simp -dsimp [h1, ne_of_lt h1]
    repeat (first | refine ⟨by omega, ?_⟩ | refine ⟨by simp [capMax]; omega, ?_⟩ | refine ⟨⟨by omega, by omega⟩, ?_⟩)
    refine ACallK_of (f9_ok s (nth s.tallies i).obj (nth s.tallies i).rep (by omega)) ?_
    rw [hc]
    simp -dsimp [h1, ne_of_lt h1, wi]
    repeat (first | refine ⟨by omega, ?_⟩ | refine ⟨by simp [capMax]; omega, ?_⟩ | refine ⟨⟨by omega, by omega⟩, ?_⟩)
    exact Back_of (i + 1) [0, 3, 5] [(192, 192), (1600, 1600), (1601, 1601), (1602, 1602), (1603, 1603)] rfl rfl (by simp) (by omega) (by omega)
  obtain rfl : i = s.tallies.length := by omega
  simp -dsimp
  refine AWh_loop (fun p : Nat × Nat => p.1 ≤ s.lives.length ∧ p.1 ≤ p.2 ∧ p.2 ≤ p.1 * 120) (fun p => mkE [(0, .c (.im b.length (flat b))), (3, .box 192 0), (6, .c (.int .i64 p.2)), (7, .c (.int .i64 p.1))] [(192, .box [.arr 1600, .arr 1601, .arr 1602, .arr 1603]), (1600, .arr 0 3 1 s.know.length (flat s.know)), (1601, .arr 0 38 3 s.tallies.length (flat s.tallies)), (1602, .arr 0 40 6 s.lives.length (flat s.lives)), (1603, .arr 0 35 8 s.cs.length (flat s.cs))]) (fun p => s.lives.length - p.1) (0, 0) (Wk_to [0, 3, 6, 7] [(192, 192), (1600, 1600), (1601, 1601), (1602, 1602), (1603, 1603)] rfl rfl (by simp)) (by simp) ?_
  rintro ⟨i, n⟩ ⟨hi, hn1, hn2⟩
  simp only at hi hn1 hn2
  refine AW_of h3 TryT_ok (by kernel_rfl) ?_
  rcases Nat.lt_or_ge i s.lives.length with h1 | h1
  · have hc := livesOf_pos h1
    have hl := livesOf_len s (nth s.lives i).map (nth s.lives i).obj (nth s.lives i).key
    have wi : IntKind.i64.wrap ((i : Int) + 1) = i + 1 := wrap64 (by omega) (by omega)
    simp -dsimp [h1, ne_of_lt h1]
    repeat (first | refine ⟨by omega, ?_⟩ | refine ⟨by simp [capMax]; omega, ?_⟩ | refine ⟨⟨by omega, by omega⟩, ?_⟩)
    refine ACallK_of (f10_ok s (nth s.lives i).map (nth s.lives i).obj (nth s.lives i).key (by omega)) ?_
    generalize livesOf s (nth s.lives i).map (nth s.lives i).obj (nth s.lives i).key = l at *
    have hl0 : ¬ l = [] := fun e => by rw [e] at hc; simp at hc
    have wn : IntKind.i64.wrap ((n : Int) + l.length) = n + l.length := wrap64 (by omega) (by omega)
    simp -dsimp [hl0, wi, wn]
    exact Back_of (i + 1, n + l.length) [0, 3, 6, 7] [(192, 192), (1600, 1600), (1601, 1601), (1602, 1602), (1603, 1603)] rfl rfl (by simp) ⟨by simp only; omega, by simp only; omega, by simp only; omega⟩ (by simp only; omega)
  obtain rfl : i = s.lives.length := by omega
  simp -dsimp
  refine ACallK_of (f11_ok b hb) ?_
  have ha1 := anyD_Ok (curNew b)
  generalize (anyD (curNew b)).1 = sa at *
  generalize sameB b = sb at *
  simp -dsimp
  refine ACallK_of (f12_ok b hb) ?_
  have hc1 : (drawStateOk b).Ok := anyD_Ok _
  generalize drawStateOk b = sk at *
  simp -dsimp
  refine ACallK_of (f13_ok b hb) ?_
  have hd1 := anyD_Ok (curPick (curN (curNew b) 5).2 objs).2
  generalize (anyD (curPick (curN (curNew b) 5).2 objs).2).1 = sd at *
  simp -dsimp
  refine ACallK_of (f14_ok b hb) ?_
  have he1 := anyD_Ok (curPick (curPick (curN (curNew b) 2).2 objs).2 keys).2
  generalize (anyD (curPick (curPick (curN (curNew b) 2).2 objs).2 keys).2).1 = se at *
  simp -dsimp
  refine ACallK_of (f15_ok b hb) ?_
  have hf1 := anyD_Ok (dotD (curNew b)).2
  generalize (anyD (dotD (curNew b)).2).1 = sf at *
  simp only [GState.Ok] at hd1 he1 hf1
  simp -dsimp
  refine ACallK_of (f16_ok s hO) ?_
  rw [stateOkM_eq, of_sok hS]
  simp -dsimp
  refine ACallK_of (f17_ok s s hO) ?_
  simp -dsimp [hn1]
  refine ACallK_of (f17_ok sa sb ha1) ?_
  simp -dsimp
  refine ACallK_of (f18_ok sa sb ha1) ?_
  simp -dsimp
  refine ACallK_of (f16_ok sk hc1) ?_
  rw [stateOkM_eq]
  simp -dsimp
  refine ACallK_of (f19_ok sk hc1) ?_
  rw [stateOkS_eq]
  simp -dsimp
  refine ACallK_of (f9_ok sd _ _ (by omega)) ?_
  simp -dsimp
  refine ACallK_of (f20_ok sd _ _ (by omega)) ?_
  simp -dsimp
  refine ACallK_of (f10_ok se _ _ _ (by omega)) ?_
  simp -dsimp
  refine ACallK_of (f21_ok se _ _ _ (by omega)) ?_
  simp -dsimp
  refine ACallK_of (f8_ok sf _ (by omega)) ?_
  simp -dsimp
  refine ACallK_of (f22_ok sf _ (by omega)) ?_
  simp -dsimp
  refine ACallK_of (f23_ok) ?_
  simp -dsimp
  have hz : SOK stateNew := stateNew_sok
  refine ACallK_of (f16_ok stateNew (sok_Ok hz)) ?_
  rw [stateOkM_eq, of_sok hz]
  simp -dsimp
end Am
