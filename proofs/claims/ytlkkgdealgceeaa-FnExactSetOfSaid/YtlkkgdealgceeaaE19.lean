/- Keys in order, each once: by the library's sort. No condition. -/
import Derived.Test.YtlkkgdealgceeaaT
import Derived.Test.YtlkkgdealgceeaaD
import Derived.Test.YtlkkgdealgceeaaE18
import Derived.Test.YtlkkgdealgceeaaY
namespace Am
open Go Go.Proofs
open Cel (cells)
set_option maxRecDepth 100000
set_option linter.unusedSimpArgs false
set_option linter.unusedVariables false

def rawUpto (s : GState) (m : Bool) (o : ByteArray) : Nat → List ByteArray
  | 0 => []
  | n + 1 => if keyIn m o (nth s.lives n) then rawUpto s m o n ++ [(nth s.lives n).key] else rawUpto s m o n
theorem rawUpto_len (s : GState) (m : Bool) (o : ByteArray) : ∀ n, (rawUpto s m o n).length ≤ n
  | 0 => by simp [rawUpto]
  | n + 1 => by
    have := rawUpto_len s m o n
    simp only [rawUpto]
    split
    · simp; omega
    · omega
def keysM (s : GState) (m : Bool) (o : ByteArray) : List ByteArray := compactS (sortS (rawUpto s m o s.lives.length))

@[simp] def h84 : Hts := { merge := fun _ => false, lend := fun f => if f = 133 then [.lend] else if f = 134 then [.lend] else [] }
set_option maxHeartbeats 1000000 in
theorem f84_ok (s : GState) (m : Bool) (o : ByteArray) (ha : s.lives.length ≤ 1073741824) : FnR Try.prog 84 [.agg [.im s.know.length (flat s.know), .im s.tallies.length (flat s.tallies), .im s.lives.length (flat s.lives), .im s.cs.length (flat s.cs)], .v (.bool m), .v (.str o)] (.v (.ow 9 1 (keysM s m o).length (flat (keysM s m o)))) := by
  refine FnW.of_AW TryT_ok 0 (fn := Try.f84) (by kernel_rfl) rfl (by kernel_rfl) rfl rfl rfl ?_
  refine AW_of h84 TryT_ok (by kernel_rfl) ?_
  simp -dsimp
  refine AWh_loop (fun i : Nat => i ≤ s.lives.length) (fun i => mkE [(1, .c (.bool m)), (2, .c (.str o)), (7, .arr 448), (12, .c (.im s.lives.length (flat s.lives))), (13, .c (.int .i64 s.lives.length)), (14, .c (.int .i64 i))] [(448, .arr 0 9 1 (rawUpto s m o i).length (flat (rawUpto s m o i)))]) (fun i => s.lives.length - i) 0 (Wk_to [1, 2, 7, 12, 13, 14] [(448, 640)] rfl rfl (by simp [rawUpto])) (by simp) ?_
  rintro i hi
  have hkl := rawUpto_len s m o i
  refine AW_of h84 TryT_ok (by kernel_rfl) ?_
  rcases Nat.lt_or_ge i s.lives.length with h1 | h1
  · by_cases e1 : (nth s.lives i).map = m
    · have b1 : ((nth s.lives i).map == m) = true := by simp [e1]
      by_cases e2 : (nth s.lives i).obj = o
      · have hk : rawUpto s m o (i + 1) = rawUpto s m o i ++ [(nth s.lives i).key] := by simp [rawUpto, keyIn, e1, e2]
        simp -dsimp [h1, ne_of_lt h1, b1, e1, e2]
        repeat (first | refine ⟨by omega, ?_⟩ | refine ⟨by simp [capMax]; omega, ?_⟩)
        exact Back_of (i + 1) [1, 2, 7, 12, 13, 14] [(448, 2048)] rfl rfl (by simp [hk]; rw [wrap64 (by omega) (by omega)]) (by omega) (by omega)
      · have hk : rawUpto s m o (i + 1) = rawUpto s m o i := by simp [rawUpto, keyIn, e1, e2]
        simp -dsimp [h1, ne_of_lt h1, b1, e1, e2]
        repeat (first | refine ⟨by omega, ?_⟩ | refine ⟨by simp [capMax]; omega, ?_⟩)
        exact Back_of (i + 1) [1, 2, 7, 12, 13, 14] [(448, 448)] rfl rfl (by simp [hk]; rw [wrap64 (by omega) (by omega)]) (by omega) (by omega)
    · have b1 : ((nth s.lives i).map == m) = false := by simp [e1]
      have hk : rawUpto s m o (i + 1) = rawUpto s m o i := by simp [rawUpto, keyIn, e1]
      simp -dsimp [h1, ne_of_lt h1, b1, e1]
      repeat (first | refine ⟨by omega, ?_⟩ | refine ⟨by simp [capMax]; omega, ?_⟩)
      exact Back_of (i + 1) [1, 2, 7, 12, 13, 14] [(448, 448)] rfl rfl (by simp [hk]; rw [wrap64 (by omega) (by omega)]) (by omega) (by omega)
  · obtain rfl : i = s.lives.length := by omega
    simp -dsimp
    refine ACallW_args (by intro us; simp -dsimp; exact ⟨rfl, rfl, rfl⟩) ?_
    refine ACallC_of (fun us => f133_ok _ (by omega)) (by intro us; simp -dsimp; exact ⟨rfl, rfl⟩) ?_
    simp -dsimp
    have hc := f134_ok (sortS (rawUpto s m o s.lives.length)) (by rw [sortS_len]; omega)
    rw [sortS_len] at hc
    refine ACallW_args (by intro us; simp -dsimp; exact ⟨rfl, rfl, rfl⟩) ?_
    refine ACallC_of (fun us => hc) (by intro us; simp -dsimp; exact ⟨rfl, rfl⟩) ?_
    simp -dsimp
    exact ⟨rfl, rfl⟩
end Am
