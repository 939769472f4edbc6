/- What is put in its place: the reference's. No condition. -/
import Derived.Test.YtpgnllakcjajjaaGreatT
import Derived.Test.YtpgnllakcjajjaaGreatD
import Derived.Test.YtpgnllakcjajjaaGreatE51
import Derived.Test.YtpgnllakcjajjaaGreatE3
import Derived.Test.YtpgnllakcjajjaaGreatAm31
namespace Am
open Go Go.Proofs
open Cel (cells)
set_option maxRecDepth 100000
set_option linter.unusedSimpArgs false
set_option linter.unusedVariables false

@[simp] def h48 : Hts := { merge := fun _ => false, mergeF := fun f => f == 126, dr := fun id => if id = 6 then [{}, {}, {}, {}, {}, {}, {}, {}, {}, {}, { cr := true }, {}] else [] }
set_option maxHeartbeats 1000000 in
theorem f48_ok (l : List GLive) (x : GLive) (ha : l.length ≤ 1000000000) : FnR Tryz.prog 48 [.v (.im l.length (flat l)), .agg [.bool x.map, .str x.obj, .str x.key, .int .i64 x.val, .int .i64 x.dot.rep, .int .i64 x.dot.seq]] (.v (.ow 82 6 (insF liveLt x l).length (flat (insF liveLt x l)))) := by
  refine FnW.of_AW TryzT_ok 0 (fn := Tryz.f48) (by kernel_rfl) rfl (by kernel_rfl) rfl rfl rfl ?_
  refine AW_of h48 TryzT_ok (by kernel_rfl) ?_
  simp -dsimp
  refine AWh_loop (fun i : Nat => i ≤ l.length) (fun i => mkE [(0, .c (.im l.length (flat l))), (3, .box 192 0), (5, .arr 512), (6, .c (.bool (insK liveLt x l i).2)), (7, .c (.int .i64 i))] [(192, .box [.c (.bool x.map), .c (.str x.obj), .c (.str x.key), .c (.int .i64 x.val), .c (.int .i64 x.dot.rep), .c (.int .i64 x.dot.seq)]), (512, .arr 0 82 6 (insK liveLt x l i).1.length (flat (insK liveLt x l i).1))]) (fun i => l.length - i) 0 (Wk_to [0, 3, 5, 6, 7] [(192, 192), (512, 512)] rfl rfl (by simp [insK])) (by simp) ?_
  rintro i hi
  have hkl := insK_len (lt := liveLt) x l i
  have hkl' : (insK liveLt x l i).1.length ≤ i + 1 := by split at hkl <;> omega
  refine AW_of h48 TryzT_ok (by kernel_rfl) ?_
  rcases Nat.lt_or_ge i l.length with h1 | h1
  · cases g : (insK liveLt x l i).2
    · simp -dsimp [h1, ne_of_lt h1]
      repeat (first | refine ⟨by omega, ?_⟩ | refine ⟨by simp [capMax]; omega, ?_⟩ | refine ⟨⟨by omega, by omega⟩, ?_⟩)
      refine ACallK_of (f126_ok _ _) ?_
      cases g2 : liveLt x (nth l i)
      · have g3 := g2
        simp only [liveLt] at g3
        simp -dsimp [g3, h1, ne_of_lt h1]
        repeat (first | refine ⟨by omega, ?_⟩ | refine ⟨by simp [capMax]; omega, ?_⟩ | refine ⟨⟨by omega, by omega⟩, ?_⟩)
        exact Back_of (i + 1) [0, 3, 5, 6, 7] [(192, 192), (512, 2368)] rfl rfl (by simp [insK, g, g2]; rw [wrap64 (by omega) (by omega)]) (by omega) (by omega)
      · have g3 := g2
        simp only [liveLt] at g3
        simp -dsimp [g3, h1, ne_of_lt h1]
        repeat (first | refine ⟨by omega, ?_⟩ | refine ⟨by simp [capMax]; omega, ?_⟩ | refine ⟨⟨by omega, by omega⟩, ?_⟩)
        exact Back_of (i + 1) [0, 3, 5, 6, 7] [(192, 192), (512, 2368)] rfl rfl (by simp [insK, g, g2]; rw [wrap64 (by omega) (by omega)]) (by omega) (by omega)
    · simp -dsimp [h1, ne_of_lt h1]
      repeat (first | refine ⟨by omega, ?_⟩ | refine ⟨by simp [capMax]; omega, ?_⟩ | refine ⟨⟨by omega, by omega⟩, ?_⟩)
      exact Back_of (i + 1) [0, 3, 5, 6, 7] [(192, 192), (512, 2368)] rfl rfl (by simp [insK, g]; rw [wrap64 (by omega) (by omega)]) (by omega) (by omega)
  · obtain rfl : i = l.length := by omega
    cases g : (insK liveLt x l l.length).2
    · simp -dsimp [g]
      repeat (first | refine ⟨by omega, ?_⟩ | refine ⟨by simp [capMax]; omega, ?_⟩ | refine ⟨⟨by omega, by omega⟩, ?_⟩)
      simp [insF, g]
    · simp -dsimp [g]
      repeat (first | refine ⟨by omega, ?_⟩ | refine ⟨by simp [capMax]; omega, ?_⟩ | refine ⟨⟨by omega, by omega⟩, ?_⟩)
      simp [insF, g]

@[simp] def h125 : Hts := { merge := fun _ => false, mergeF := fun f => f == 126, dr := fun id => if id = 6 then [{}, {}, {}, {}, {}, {}, {}, {}, {}, {}, { cr := true }, {}] else [] }
set_option maxHeartbeats 1000000 in
theorem f125_ok (l : List GCell) (x : GCell) (ha : l.length ≤ 1000000000) : FnR Tryz.prog 125 [.v (.im l.length (flat l)), .agg [.str x.obj, .int .i64 x.dot.rep, .int .i64 x.dot.seq, .int .i64 x.time, .int .i64 x.ref.rep, .int .i64 x.ref.seq, .int .i64 x.val, .bool x.gone]] (.v (.ow 121 8 (insF cellLt x l).length (flat (insF cellLt x l)))) := by
  refine FnW.of_AW TryzT_ok 0 (fn := Tryz.f125) (by kernel_rfl) rfl (by kernel_rfl) rfl rfl rfl ?_
  refine AW_of h125 TryzT_ok (by kernel_rfl) ?_
  simp -dsimp
  refine AWh_loop (fun i : Nat => i ≤ l.length) (fun i => mkE [(0, .c (.im l.length (flat l))), (3, .box 192 0), (5, .arr 512), (6, .c (.bool (insK cellLt x l i).2)), (7, .c (.int .i64 i))] [(192, .box [.c (.str x.obj), .c (.int .i64 x.dot.rep), .c (.int .i64 x.dot.seq), .c (.int .i64 x.time), .c (.int .i64 x.ref.rep), .c (.int .i64 x.ref.seq), .c (.int .i64 x.val), .c (.bool x.gone)]), (512, .arr 0 121 8 (insK cellLt x l i).1.length (flat (insK cellLt x l i).1))]) (fun i => l.length - i) 0 (Wk_to [0, 3, 5, 6, 7] [(192, 192), (512, 512)] rfl rfl (by simp [insK])) (by simp) ?_
  rintro i hi
  have hkl := insK_len (lt := cellLt) x l i
  have hkl' : (insK cellLt x l i).1.length ≤ i + 1 := by split at hkl <;> omega
  refine AW_of h125 TryzT_ok (by kernel_rfl) ?_
  rcases Nat.lt_or_ge i l.length with h1 | h1
  · cases g : (insK cellLt x l i).2
    · simp -dsimp [h1, ne_of_lt h1]
      repeat (first | refine ⟨by omega, ?_⟩ | refine ⟨by simp [capMax]; omega, ?_⟩ | refine ⟨⟨by omega, by omega⟩, ?_⟩)
      refine ACallK_of (f126_ok _ _) ?_
      cases g2 : cellLt x (nth l i)
      · have g3 := g2
        simp only [cellLt] at g3
        simp -dsimp [g3, h1, ne_of_lt h1]
        repeat (first | refine ⟨by omega, ?_⟩ | refine ⟨by simp [capMax]; omega, ?_⟩ | refine ⟨⟨by omega, by omega⟩, ?_⟩)
        exact Back_of (i + 1) [0, 3, 5, 6, 7] [(192, 192), (512, 2368)] rfl rfl (by simp [insK, g, g2]; rw [wrap64 (by omega) (by omega)]) (by omega) (by omega)
      · have g3 := g2
        simp only [cellLt] at g3
        simp -dsimp [g3, h1, ne_of_lt h1]
        repeat (first | refine ⟨by omega, ?_⟩ | refine ⟨by simp [capMax]; omega, ?_⟩ | refine ⟨⟨by omega, by omega⟩, ?_⟩)
        exact Back_of (i + 1) [0, 3, 5, 6, 7] [(192, 192), (512, 2368)] rfl rfl (by simp [insK, g, g2]; rw [wrap64 (by omega) (by omega)]) (by omega) (by omega)
    · simp -dsimp [h1, ne_of_lt h1]
      repeat (first | refine ⟨by omega, ?_⟩ | refine ⟨by simp [capMax]; omega, ?_⟩ | refine ⟨⟨by omega, by omega⟩, ?_⟩)
      exact Back_of (i + 1) [0, 3, 5, 6, 7] [(192, 192), (512, 2368)] rfl rfl (by simp [insK, g]; rw [wrap64 (by omega) (by omega)]) (by omega) (by omega)
  · obtain rfl : i = l.length := by omega
    cases g : (insK cellLt x l l.length).2
    · simp -dsimp [g]
      repeat (first | refine ⟨by omega, ?_⟩ | refine ⟨by simp [capMax]; omega, ?_⟩ | refine ⟨⟨by omega, by omega⟩, ?_⟩)
      simp [insF, g]
    · simp -dsimp [g]
      repeat (first | refine ⟨by omega, ?_⟩ | refine ⟨by simp [capMax]; omega, ?_⟩ | refine ⟨⟨by omega, by omega⟩, ?_⟩)
      simp [insF, g]
end Am
