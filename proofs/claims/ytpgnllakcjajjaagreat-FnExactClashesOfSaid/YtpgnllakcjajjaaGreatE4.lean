/- What compares. No condition. -/
import Derived.Test.YtpgnllakcjajjaaGreatT
import Derived.Test.YtpgnllakcjajjaaGreatD
import Derived.Test.YtpgnllakcjajjaaGreatE3
import Derived.Test.YtpgnllakcjajjaaGreatAm29
namespace Am
open Go Go.Proofs
open Cel (cells)
set_option maxRecDepth 100000
set_option linter.unusedSimpArgs false
set_option linter.unusedVariables false

def cmpInt (a b : Int) : Int := if a < b then -1 else if b < a then 1 else 0
def orInt : List Int → Int
  | [] => 0
  | x :: xs => if x = 0 then orInt xs else x
@[simp] def h197 : Hts := {  }
theorem f197_ok (x : Int) : FnR Tryz.prog 197 [.v (.int .i64 x)] (.v (.bool false)) := by
  refine FnW.of_AW TryzT_ok 0 (fn := Tryz.f197) (by kernel_rfl) rfl (by kernel_rfl) rfl rfl rfl ?_
  refine AW_of h197 TryzT_ok (by kernel_rfl) ?_
  simp -dsimp

@[simp] def h173 : Hts := {  }
theorem f173_ok (a b : Int) : FnR Tryz.prog 173 [.v (.int .i64 a), .v (.int .i64 b)] (.v (.int .i64 (cmpInt a b))) := by
  refine FnW.of_AW TryzT_ok 0 (fn := Tryz.f173) (by kernel_rfl) rfl (by kernel_rfl) rfl rfl rfl ?_
  refine AW_of h173 TryzT_ok (by kernel_rfl) ?_
  simp -dsimp
  refine ACallK_of (f197_ok _) ?_
  simp -dsimp
  refine ACallK_of (f197_ok _) ?_
  simp -dsimp
  unfold cmpInt
  refine ⟨fun h => by rw [if_pos h], fun h => ⟨fun h' => ?_, fun h' => ?_⟩⟩
  · rw [if_neg (by omega), if_pos h']
  · rw [if_neg (by omega), if_neg (by omega)]

@[simp] def h87 : Hts := {  }
theorem f87_ok (xs : List Int) (ha : xs.length ≤ 1073741824) : FnR Tryz.prog 87 [.v (.im xs.length (flat xs))] (.v (.int .i64 (orInt xs))) := by
  refine FnW.of_AW TryzT_ok 0 (fn := Tryz.f87) (by kernel_rfl) rfl (by kernel_rfl) rfl rfl rfl ?_
  refine AW_of h87 TryzT_ok (by kernel_rfl) ?_
  simp -dsimp
  refine AWh_loop (fun i : Nat => i ≤ xs.length ∧ orInt (xs.drop i) = orInt xs) (fun i => mkE [(3, .c (.int .i64 0)), (6, .c (.im xs.length (flat xs))), (7, .c (.int .i64 xs.length)), (8, .c (.int .i64 i))] []) (fun i => xs.length - i) 0 (Wk_to [3, 6, 7, 8] [] rfl rfl (by simp)) (by simp) ?_
  rintro i ⟨hi, hinv⟩
  refine AW_of h87 TryzT_ok (by kernel_rfl) ?_
  rcases Nat.lt_or_ge i xs.length with h1 | h1
  · simp -dsimp [h1, ne_of_lt h1]
    rw [List.drop_eq_getElem_cons h1, ← nth_eq h1, orInt] at hinv
    refine ⟨fun h => by rw [← hinv, if_neg h], fun h => ?_⟩
    rw [if_pos h] at hinv
    exact Back_of (i + 1) [3, 6, 7, 8] [] rfl rfl (by simp; rw [wrap64 (by omega) (by omega)]) ⟨by omega, hinv⟩ (by omega)
  · simp -dsimp [Nat.not_lt.2 h1]
    rw [← hinv, List.drop_of_length_le h1]
    rfl

def cmpDot (a b : GDot) : Int := orInt [cmpInt a.rep b.rep, cmpInt a.seq b.seq]
@[simp] def h140 : Hts := { dr := fun id => if id = 1 then [{}, {}, {}, {}, { cr := true }, { mb := [9] }, { mb := [9] }, { mb := [9] }, { mb := [9] }, { cr := true }, { cr := true }, { cr := true }, {}] else [] }
theorem f140_ok (a b : GDot) : FnR Tryz.prog 140 [.agg [.int .i64 a.rep, .int .i64 a.seq], .agg [.int .i64 b.rep, .int .i64 b.seq]] (.v (.int .i64 (cmpDot a b))) := by
  refine FnW.of_AW TryzT_ok 0 (fn := Tryz.f140) (by kernel_rfl) rfl (by kernel_rfl) rfl rfl rfl ?_
  refine AW_of h140 TryzT_ok (by kernel_rfl) ?_
  simp -dsimp
  refine ACallK_of (f173_ok _ _) ?_
  simp -dsimp
  refine ACallK_of (f173_ok _ _) ?_
  simp -dsimp
  refine ACallK_of (f87_ok [cmpInt a.rep b.rep, cmpInt a.seq b.seq] (by simp)) ?_
  simp -dsimp
  rfl
theorem cmpDot_before (a b : GDot) : (0 ≤ cmpDot a b) ↔ before a b = false := by
  unfold cmpDot orInt orInt orInt cmpInt before
  simp
  split <;> split <;> (try split) <;> omega
end Am
