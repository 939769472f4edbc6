/- What is new: of both. No condition. -/
import Derived.Test.YtonemhaagbojeaaT
import Derived.Test.YtonemhaagbojeaaD
import Derived.Test.YtonemhaagbojeaaE56
import Derived.Test.YtonemhaagbojeaaAm31
import Derived.Test.YtonemhaagbojeaaE2
import Derived.Test.YtonemhaagbojeaaU1
import Derived.Test.YtonemhaagbojeaaAm29
namespace Am
open Go Go.Proofs
open Cel (cells)
set_option maxRecDepth 100000
set_option linter.unusedSimpArgs false
set_option linter.unusedVariables false

def stateNew : GState := ⟨[0, 0, 0], [], [], []⟩
theorem stateNew_ok : stateNew.Ok := by simp [stateNew, GState.Ok]

@[simp] def h108 : Hts := {  }
theorem f108_ok : FnR Try.prog 108 [] (.v (.ow 3 1 (([0, 0, 0] : List Int)).length (flat (([0, 0, 0] : List Int))))) := by
  refine FnW.of_AW TryT_ok 0 (fn := Try.f108) (by kernel_rfl) rfl (by kernel_rfl) rfl rfl rfl ?_; refine AW_of h108 TryT_ok (by kernel_rfl) ?_
  simp -dsimp
  exact ⟨by decide, rfl⟩
@[simp] def h62 : Hts := {  }
theorem f62_ok : FnR Try.prog 62 [] (.v (.ow 3 1 (([0, 0, 0] : List Int)).length (flat (([0, 0, 0] : List Int))))) := by
  refine FnW.of_AW TryT_ok 0 (fn := Try.f62) (by kernel_rfl) rfl (by kernel_rfl) rfl rfl rfl ?_; refine AW_of h62 TryT_ok (by kernel_rfl) ?_
  simp -dsimp
  exact ⟨by decide, rfl⟩
@[simp] def h81 : Hts := {  }
theorem f81_ok : FnR Try.prog 81 [] (.agg [.ow 3 1 stateNew.know.length (flat stateNew.know), .ow 38 3 stateNew.tallies.length (flat stateNew.tallies), .ow 40 6 stateNew.lives.length (flat stateNew.lives), .ow 35 8 stateNew.cs.length (flat stateNew.cs)]) := by
  rw [stateNew]
  refine FnW.of_AW TryT_ok 0 (fn := Try.f81) (by kernel_rfl) rfl (by kernel_rfl) rfl rfl rfl ?_; refine AW_of h81 TryT_ok (by kernel_rfl) ?_
  simp -dsimp
  refine ACallK_of (f108_ok) ?_
  simp -dsimp
@[simp] def h23 : Hts := {  }
theorem f23_ok : FnR Try.prog 23 [] (.agg [.ow 3 1 stateNew.know.length (flat stateNew.know), .ow 38 3 stateNew.tallies.length (flat stateNew.tallies), .ow 40 6 stateNew.lives.length (flat stateNew.lives), .ow 35 8 stateNew.cs.length (flat stateNew.cs)]) := by
  rw [stateNew]
  refine FnW.of_AW TryT_ok 0 (fn := Try.f23) (by kernel_rfl) rfl (by kernel_rfl) rfl rfl rfl ?_; refine AW_of h23 TryT_ok (by kernel_rfl) ?_
  simp -dsimp
  refine ACallK_of (f62_ok) ?_
  simp -dsimp
end Am
namespace Am
open Go Go.Proofs
open Cel (cells)
set_option maxRecDepth 100000
set_option linter.unusedSimpArgs false
set_option linter.unusedVariables false

def livP (m : Bool) (o k : ByteArray) (x : GLive) : Bool := (x.map == m) && (decide (x.obj = o) && decide (x.key = k))
def livesOf (s : GState) (m : Bool) (o k : ByteArray) : List GLive := filK (livP m o k) [] s.lives s.lives.length
theorem livesOf_len (s : GState) (m : Bool) (o k : ByteArray) : (livesOf s m o k).length ≤ s.lives.length := by
  have := filK_len (livP m o k) [] s.lives s.lives.length
  simpa [livesOf] using this

@[simp] def h21 : Hts := { merge := fun _ => false, mergeF := fun _ => false }
set_option maxHeartbeats 2000000 in
theorem f21_ok (s : GState) (m : Bool) (o k : ByteArray) (ha : s.lives.length ≤ 1073741824) : FnR Try.prog 21 [.agg [.im s.know.length (flat s.know), .im s.tallies.length (flat s.tallies), .im s.lives.length (flat s.lives), .im s.cs.length (flat s.cs)], .v (.bool m), .v (.str o), .v (.str k)] (.v (.ow 40 6 (livesOf s m o k).length (flat (livesOf s m o k)))) := by
  refine FnW.of_AW TryT_ok 0 (fn := Try.f21) (by kernel_rfl) rfl (by kernel_rfl) rfl rfl rfl ?_; refine AW_of h21 TryT_ok (by kernel_rfl) ?_
  simp -dsimp
  refine AWh_loop (fun i : Nat => i ≤ s.lives.length) (fun i => mkE [(1, .c (.bool m)), (2, .c (.str o)), (3, .c (.str k)), (4, .box 256 0), (9, .arr 576), (10, .c (.int .i64 i))] [(256, .box [.c (.im s.know.length (flat s.know)), .c (.im s.tallies.length (flat s.tallies)), .c (.im s.lives.length (flat s.lives)), .c (.im s.cs.length (flat s.cs))]), (576, .arr 0 40 6 (filK (livP m o k) [] s.lives i).length (flat (filK (livP m o k) [] s.lives i)))]) (fun i => s.lives.length - i) 0 (Wk_to [1, 2, 3, 4, 9, 10] [(256, 256), (576, 768)] rfl rfl (by simp [filK])) (by simp) ?_
  rintro i hi
  have hl := filK_len (livP m o k) [] s.lives i
  simp only [List.length_nil] at hl
  refine AW_of h21 TryT_ok (by kernel_rfl) ?_
  rcases Nat.lt_or_ge i s.lives.length with h1 | h1
  · by_cases e1 : (nth s.lives i).map = m
    · have b1 : ((nth s.lives i).map == m) = true := by simp [e1]
      by_cases e2 : (nth s.lives i).obj = o
      · by_cases e3 : (nth s.lives i).key = k
        · have hs : filK (livP m o k) [] s.lives (i + 1) = filK (livP m o k) [] s.lives i ++ [nth s.lives i] := by simp [filK, livP, b1, e2, e3]
          simp -dsimp [h1, ne_of_lt h1, b1, eq_true e2, eq_true e3]
          repeat (first | refine ⟨by omega, ?_⟩ | refine ⟨by simp [capMax]; omega, ?_⟩ | refine ⟨⟨by omega, by omega⟩, ?_⟩)
          exact Back_of (i + 1) [1, 2, 3, 4, 9, 10] [(256, 256), (576, 2816)] rfl rfl (by simp [hs]; rw [wrap64 (by omega) (by omega)]) (by omega) (by omega)
        · have hs : filK (livP m o k) [] s.lives (i + 1) = filK (livP m o k) [] s.lives i := by simp [filK, livP, e3]
          simp -dsimp [h1, ne_of_lt h1, b1, eq_true e2, eq_false e3]
          repeat (first | refine ⟨by omega, ?_⟩ | refine ⟨by simp [capMax]; omega, ?_⟩ | refine ⟨⟨by omega, by omega⟩, ?_⟩)
          exact Back_of (i + 1) [1, 2, 3, 4, 9, 10] [(256, 256), (576, 576)] rfl rfl (by simp [hs]; rw [wrap64 (by omega) (by omega)]) (by omega) (by omega)
      · have hs : filK (livP m o k) [] s.lives (i + 1) = filK (livP m o k) [] s.lives i := by simp [filK, livP, e2]
        simp -dsimp [h1, ne_of_lt h1, b1, eq_false e2]
        repeat (first | refine ⟨by omega, ?_⟩ | refine ⟨by simp [capMax]; omega, ?_⟩ | refine ⟨⟨by omega, by omega⟩, ?_⟩)
        exact Back_of (i + 1) [1, 2, 3, 4, 9, 10] [(256, 256), (576, 576)] rfl rfl (by simp [hs]; rw [wrap64 (by omega) (by omega)]) (by omega) (by omega)
    · have b1 : ((nth s.lives i).map == m) = false := by simp [e1]
      have hs : filK (livP m o k) [] s.lives (i + 1) = filK (livP m o k) [] s.lives i := by simp [filK, livP, e1]
      simp -dsimp [h1, ne_of_lt h1, b1]
      repeat (first | refine ⟨by omega, ?_⟩ | refine ⟨by simp [capMax]; omega, ?_⟩ | refine ⟨⟨by omega, by omega⟩, ?_⟩)
      exact Back_of (i + 1) [1, 2, 3, 4, 9, 10] [(256, 256), (576, 576)] rfl rfl (by simp [hs]; rw [wrap64 (by omega) (by omega)]) (by omega) (by omega)
  · obtain rfl : i = s.lives.length := by omega
    simp -dsimp
    simp [livesOf]

@[simp] def h10 : Hts := { merge := fun _ => false, mergeF := fun _ => false }
set_option maxHeartbeats 2000000 in
theorem f10_ok (s : GState) (m : Bool) (o k : ByteArray) (ha : s.lives.length ≤ 1073741824) : FnR Try.prog 10 [.agg [.im s.know.length (flat s.know), .im s.tallies.length (flat s.tallies), .im s.lives.length (flat s.lives), .im s.cs.length (flat s.cs)], .v (.bool m), .v (.str o), .v (.str k)] (.v (.ow 40 6 (livesOf s m o k).length (flat (livesOf s m o k)))) := by
  refine FnW.of_AW TryT_ok 0 (fn := Try.f10) (by kernel_rfl) rfl (by kernel_rfl) rfl rfl rfl ?_; refine AW_of h10 TryT_ok (by kernel_rfl) ?_
  simp -dsimp
  refine AWh_loop (fun i : Nat => i ≤ s.lives.length) (fun i => mkE [(1, .c (.bool m)), (2, .c (.str o)), (3, .c (.str k)), (9, .arr 576), (14, .c (.im s.lives.length (flat s.lives))), (15, .c (.int .i64 s.lives.length)), (16, .c (.int .i64 i))] [(576, .arr 0 40 6 (filK (livP m o k) [] s.lives i).length (flat (filK (livP m o k) [] s.lives i)))]) (fun i => s.lives.length - i) 0 (Wk_to [1, 2, 3, 9, 14, 15, 16] [(576, 768)] rfl rfl (by simp [filK])) (by simp) ?_
  rintro i hi
  have hl := filK_len (livP m o k) [] s.lives i
  simp only [List.length_nil] at hl
  refine AW_of h10 TryT_ok (by kernel_rfl) ?_
  rcases Nat.lt_or_ge i s.lives.length with h1 | h1
  · by_cases e1 : (nth s.lives i).map = m
    · have b1 : ((nth s.lives i).map == m) = true := by simp [e1]
      by_cases e2 : (nth s.lives i).obj = o
      · by_cases e3 : (nth s.lives i).key = k
        · have hs : filK (livP m o k) [] s.lives (i + 1) = filK (livP m o k) [] s.lives i ++ [nth s.lives i] := by simp [filK, livP, b1, e2, e3]
          simp -dsimp [h1, ne_of_lt h1, b1, eq_true e2, eq_true e3]
          repeat (first | refine ⟨by omega, ?_⟩ | refine ⟨by simp [capMax]; omega, ?_⟩ | refine ⟨⟨by omega, by omega⟩, ?_⟩)
          exact Back_of (i + 1) [1, 2, 3, 9, 14, 15, 16] [(576, 2496)] rfl rfl (by simp [hs]; rw [wrap64 (by omega) (by omega)]) (by omega) (by omega)
        · have hs : filK (livP m o k) [] s.lives (i + 1) = filK (livP m o k) [] s.lives i := by simp [filK, livP, e3]
          simp -dsimp [h1, ne_of_lt h1, b1, eq_true e2, eq_false e3]
          repeat (first | refine ⟨by omega, ?_⟩ | refine ⟨by simp [capMax]; omega, ?_⟩ | refine ⟨⟨by omega, by omega⟩, ?_⟩)
          exact Back_of (i + 1) [1, 2, 3, 9, 14, 15, 16] [(576, 576)] rfl rfl (by simp [hs]; rw [wrap64 (by omega) (by omega)]) (by omega) (by omega)
      · have hs : filK (livP m o k) [] s.lives (i + 1) = filK (livP m o k) [] s.lives i := by simp [filK, livP, e2]
        simp -dsimp [h1, ne_of_lt h1, b1, eq_false e2]
        repeat (first | refine ⟨by omega, ?_⟩ | refine ⟨by simp [capMax]; omega, ?_⟩ | refine ⟨⟨by omega, by omega⟩, ?_⟩)
        exact Back_of (i + 1) [1, 2, 3, 9, 14, 15, 16] [(576, 576)] rfl rfl (by simp [hs]; rw [wrap64 (by omega) (by omega)]) (by omega) (by omega)
    · have b1 : ((nth s.lives i).map == m) = false := by simp [e1]
      have hs : filK (livP m o k) [] s.lives (i + 1) = filK (livP m o k) [] s.lives i := by simp [filK, livP, e1]
      simp -dsimp [h1, ne_of_lt h1, b1]
      repeat (first | refine ⟨by omega, ?_⟩ | refine ⟨by simp [capMax]; omega, ?_⟩ | refine ⟨⟨by omega, by omega⟩, ?_⟩)
      exact Back_of (i + 1) [1, 2, 3, 9, 14, 15, 16] [(576, 576)] rfl rfl (by simp [hs]; rw [wrap64 (by omega) (by omega)]) (by omega) (by omega)
  · obtain rfl : i = s.lives.length := by omega
    simp -dsimp
    simp [livesOf]
end Am
namespace Am
open Go Go.Proofs
open Cel (cells)
set_option maxRecDepth 100000
set_option linter.unusedSimpArgs false
set_option linter.unusedVariables false

theorem tallyAt_none {s : GState} {o : ByteArray} {r : Int} (h : ∀ j : Nat, j < s.tallies.length → talIs o r (nth s.tallies j) = false) : tallyAt s o r = 0 := by
  unfold tallyAt
  rcases idx_cases (talIs o r) s.tallies with ⟨j, hj, h1, _, c1⟩ | ⟨_, c1⟩
  · rw [h j hj] at h1; cases h1
  · rw [if_neg (by omega)]
theorem tallyAt_here {s : GState} {o : ByteArray} {r : Int} {i : Nat} (hi : i < s.tallies.length) (h : ∀ j : Nat, j < i → talIs o r (nth s.tallies j) = false) (hh : talIs o r (nth s.tallies i) = true) : tallyAt s o r = (nth s.tallies i).sum := by
  have c1 := idx_here hi h hh
  unfold tallyAt
  rw [c1, if_pos (by omega), Int.toNat_natCast]

@[simp] def h20 : Hts := { merge := fun _ => false }
set_option maxHeartbeats 1000000 in
theorem f20_ok (s : GState) (o : ByteArray) (r : Int) (hs : s.tallies.length ≤ 1073741824) : FnR Try.prog 20 [.agg [.im s.know.length (flat s.know), .im s.tallies.length (flat s.tallies), .im s.lives.length (flat s.lives), .im s.cs.length (flat s.cs)], .v (.str o), .v (.int .i64 r)] (.v (.int .i64 (tallyAt s o r))) := by
  refine FnW.of_AW TryT_ok 0 (fn := Try.f20) (by kernel_rfl) rfl (by kernel_rfl) rfl rfl rfl ?_; refine AW_of h20 TryT_ok (by kernel_rfl) ?_
  simp -dsimp
  refine AWh_loop (fun i : Nat => i ≤ s.tallies.length ∧ ∀ j : Nat, j < i → talIs o r (nth s.tallies j) = false) (fun i => mkE [(1, .c (.str o)), (2, .c (.int .i64 r)), (3, .box 192 0), (7, .c (.int .i64 i))] [(192, .box [.c (.im s.know.length (flat s.know)), .c (.im s.tallies.length (flat s.tallies)), .c (.im s.lives.length (flat s.lives)), .c (.im s.cs.length (flat s.cs))])]) (fun i => s.tallies.length - i) 0 (Wk_to [1, 2, 3, 7] [(192, 192)] rfl rfl (by simp)) (by simp) ?_
  rintro i ⟨hi, hall⟩
  refine AW_of h20 TryT_ok (by kernel_rfl) ?_
  have wi : IntKind.i64.wrap ((i : Int) + 1) = i + 1 := wrap64 (by omega) (by omega)
  rcases Nat.lt_or_ge i s.tallies.length with h1 | h1
  · have fin : talIs o r (nth s.tallies i) = false → ∀ j : Nat, j < i + 1 → talIs o r (nth s.tallies j) = false := fun hf j hj => by
      by_cases e : j = i
      · subst e; exact hf
      · exact hall j (by omega)
    by_cases e1 : (nth s.tallies i).obj = o
    · by_cases e2 : (nth s.tallies i).rep = r
      · have hh : talIs o r (nth s.tallies i) = true := by simp [talIs, e1, e2]
        have b2 : ((nth s.tallies i).rep == r) = true := by simp [e2]
        simp -dsimp [h1, ne_of_lt h1, eq_true e1, b2]
        simp [tallyAt_here h1 hall hh]
      · have b2 : ((nth s.tallies i).rep == r) = false := by simp [e2]
        simp -dsimp [h1, ne_of_lt h1, eq_true e1, b2, wi]
        exact Back_of (i + 1) [1, 2, 3, 7] [(192, 192)] rfl rfl (by simp) ⟨by omega, fin (by simp [talIs, e2])⟩ (by omega)
    · simp -dsimp [h1, ne_of_lt h1, eq_false e1, wi]
      exact Back_of (i + 1) [1, 2, 3, 7] [(192, 192)] rfl rfl (by simp) ⟨by omega, fin (by simp [talIs, e1])⟩ (by omega)
  · simp -dsimp [Nat.not_lt.2 h1, h1]
    simp [tallyAt_none (fun j hj => hall j (by omega))]
@[simp] def h9 : Hts := { merge := fun _ => false }
set_option maxHeartbeats 1000000 in
theorem f9_ok (s : GState) (o : ByteArray) (r : Int) (hs : s.tallies.length ≤ 1073741824) : FnR Try.prog 9 [.agg [.im s.know.length (flat s.know), .im s.tallies.length (flat s.tallies), .im s.lives.length (flat s.lives), .im s.cs.length (flat s.cs)], .v (.str o), .v (.int .i64 r)] (.v (.int .i64 (tallyAt s o r))) := by
  refine FnW.of_AW TryT_ok 0 (fn := Try.f9) (by kernel_rfl) rfl (by kernel_rfl) rfl rfl rfl ?_; refine AW_of h9 TryT_ok (by kernel_rfl) ?_
  simp -dsimp
  refine AWh_loop (fun i : Nat => i ≤ s.tallies.length ∧ ∀ j : Nat, j < i → talIs o r (nth s.tallies j) = false) (fun i => mkE [(1, .c (.str o)), (2, .c (.int .i64 r)), (10, .c (.im s.tallies.length (flat s.tallies))), (11, .c (.int .i64 s.tallies.length)), (12, .c (.int .i64 i))] []) (fun i => s.tallies.length - i) 0 (Wk_to [1, 2, 10, 11, 12] [] rfl rfl (by simp)) (by simp) ?_
  rintro i ⟨hi, hall⟩
  refine AW_of h9 TryT_ok (by kernel_rfl) ?_
  have wi : IntKind.i64.wrap ((i : Int) + 1) = i + 1 := wrap64 (by omega) (by omega)
  rcases Nat.lt_or_ge i s.tallies.length with h1 | h1
  · have fin : talIs o r (nth s.tallies i) = false → ∀ j : Nat, j < i + 1 → talIs o r (nth s.tallies j) = false := fun hf j hj => by
      by_cases e : j = i
      · subst e; exact hf
      · exact hall j (by omega)
    by_cases e1 : (nth s.tallies i).obj = o
    · by_cases e2 : (nth s.tallies i).rep = r
      · have hh : talIs o r (nth s.tallies i) = true := by simp [talIs, e1, e2]
        have b2 : ((nth s.tallies i).rep == r) = true := by simp [e2]
        simp -dsimp [h1, ne_of_lt h1, eq_true e1, b2]
        repeat (first | refine ⟨by omega, ?_⟩ | refine ⟨by simp [capMax]; omega, ?_⟩ | refine ⟨⟨by omega, by omega⟩, ?_⟩)
        simp [tallyAt_here h1 hall hh]
      · have b2 : ((nth s.tallies i).rep == r) = false := by simp [e2]
        simp -dsimp [h1, ne_of_lt h1, eq_true e1, b2, wi]
        repeat (first | refine ⟨by omega, ?_⟩ | refine ⟨by simp [capMax]; omega, ?_⟩ | refine ⟨⟨by omega, by omega⟩, ?_⟩)
        exact Back_of (i + 1) [1, 2, 10, 11, 12] [] rfl rfl (by simp) ⟨by omega, fin (by simp [talIs, e2])⟩ (by omega)
    · simp -dsimp [h1, ne_of_lt h1, eq_false e1, wi]
      repeat (first | refine ⟨by omega, ?_⟩ | refine ⟨by simp [capMax]; omega, ?_⟩ | refine ⟨⟨by omega, by omega⟩, ?_⟩)
      exact Back_of (i + 1) [1, 2, 10, 11, 12] [] rfl rfl (by simp) ⟨by omega, fin (by simp [talIs, e1])⟩ (by omega)
  · simp -dsimp [Nat.not_lt.2 h1, h1]
    simp [tallyAt_none (fun j hj => hall j (by omega))]
end Am
