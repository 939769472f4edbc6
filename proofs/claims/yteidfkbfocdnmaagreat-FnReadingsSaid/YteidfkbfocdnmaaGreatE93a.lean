/- What is new: of both. No condition. -/
import Derived.Test.YteidfkbfocdnmaaGreatT
import Derived.Test.YteidfkbfocdnmaaGreatD
import Derived.Test.YteidfkbfocdnmaaGreatE56
import Derived.Test.YteidfkbfocdnmaaGreatAm31
import Derived.Test.YteidfkbfocdnmaaGreatAm32
import Derived.Test.YteidfkbfocdnmaaGreatAm29
import Derived.Test.YteidfkbfocdnmaaGreatE2
namespace Am
open Go Go.Proofs
open Cel (cells)
set_option maxRecDepth 100000
set_option linter.unusedSimpArgs false
set_option linter.unusedVariables false

def stateNew : GState := ⟨[0, 0, 0], [], [], []⟩
@[simp] def h255 : Hts := {  }
theorem f255_ok : FnR Tryz.prog 255 [] (.v (.ow 3 1 (([0, 0, 0] : List Int)).length (flat (([0, 0, 0] : List Int))))) := by
  refine FnW.of_AW TryzT_ok 0 (fn := Tryz.f255) (by kernel_rfl) rfl (by kernel_rfl) rfl rfl rfl ?_; refine AW_of h255 TryzT_ok (by kernel_rfl) ?_
  simp -dsimp
  exact ⟨by decide, rfl⟩
@[simp] def h118 : Hts := {  }
theorem f118_ok : FnR Tryz.prog 118 [] (.agg [.ow 3 1 stateNew.know.length (flat stateNew.know), .ow 179 3 stateNew.tallies.length (flat stateNew.tallies), .ow 159 6 stateNew.lives.length (flat stateNew.lives), .ow 72 8 stateNew.cs.length (flat stateNew.cs)]) := by
  rw [stateNew]
  refine FnW.of_AW TryzT_ok 0 (fn := Tryz.f118) (by kernel_rfl) rfl (by kernel_rfl) rfl rfl rfl ?_; refine AW_of h118 TryzT_ok (by kernel_rfl) ?_
  simp -dsimp
  refine ACallK_of (f255_ok) ?_
  simp -dsimp
end Am
namespace Am
open Go Go.Proofs
open Cel (cells)
set_option maxRecDepth 100000
set_option linter.unusedSimpArgs false
set_option linter.unusedVariables false

@[simp] def h12 : Hts := {  }
theorem f12_ok (b : List UInt8) : FnR Tryz.prog 12 [.v (.im b.length (flat b))] (.v (.bool (decide (1048576 < b.length)))) := by
  refine FnW.of_AW TryzT_ok 0 (fn := Tryz.f12) (by kernel_rfl) rfl (by kernel_rfl) rfl rfl rfl ?_; refine AW_of h12 TryzT_ok (by kernel_rfl) ?_
  simp -dsimp
  omega
@[simp] def h40 : Hts := { merge := fun _ => false, dr := fun id => if id = 6 then [{}, {}, {}, {}, {}, {}, {}, {}, {}] else [] }
theorem f40_ok (l : List Int) (hl : l.length ≤ 1073741824) : FnR Tryz.prog 40 [.v (.im l.length (flat l)), .v (.im l.length (flat l))] (.v (.bool true)) := by
  refine FnW.of_AW TryzT_ok 0 (fn := Tryz.f40) (by kernel_rfl) rfl (by kernel_rfl) rfl rfl rfl ?_; refine AW_of h40 TryzT_ok (by kernel_rfl) ?_
  simp -dsimp
  refine AWh_loop (fun i : Nat => i ≤ l.length) (fun i => mkE [(0, .c (.im l.length (flat l))), (1, .c (.im l.length (flat l))), (5, .c (.int .i64 i))] []) (fun i => l.length - i) 0 (Wk_to [0, 1, 5] [] rfl rfl (by simp)) (by simp) ?_
  rintro i hi
  refine AW_of h40 TryzT_ok (by kernel_rfl) ?_
  have wi : IntKind.i64.wrap ((i : Int) + 1) = i + 1 := wrap64 (by omega) (by omega)
  rcases Nat.lt_or_ge i l.length with h1 | h1
  · simp -dsimp [h1, ne_of_lt h1, wi]
    exact Back_of (i + 1) [0, 1, 5] [] rfl rfl (by simp) (by omega) (by omega)
  · simp -dsimp [Nat.not_lt.2 h1, h1]
end Am
namespace Am
open Go Go.Proofs
open Cel (cells)
set_option maxRecDepth 100000
set_option linter.unusedSimpArgs false
set_option linter.unusedVariables false

def livP (m : Bool) (o k : ByteArray) (x : GLive) : Bool := (x.map == m) && (decide (x.obj = o) && decide (x.key = k))
def livesOf (s : GState) (m : Bool) (o k : ByteArray) : List GLive := filK (livP m o k) [] s.lives s.lives.length
theorem livesOf_len (s : GState) (m : Bool) (o k : ByteArray) : (livesOf s m o k).length ≤ s.lives.length := by
  have := filK_len (livP m o k) [] s.lives s.lives.length
  simpa [livesOf] using this

@[simp] def h39 : Hts := { merge := fun _ => false, mergeF := fun _ => false }
set_option maxHeartbeats 2000000 in
theorem f39_ok (s : GState) (m : Bool) (o k : ByteArray) (ha : s.lives.length ≤ 1073741824) : FnR Tryz.prog 39 [.agg [.im s.know.length (flat s.know), .im s.tallies.length (flat s.tallies), .im s.lives.length (flat s.lives), .im s.cs.length (flat s.cs)], .v (.bool m), .v (.str o), .v (.str k)] (.v (.ow 159 6 (livesOf s m o k).length (flat (livesOf s m o k)))) := by
  refine FnW.of_AW TryzT_ok 0 (fn := Tryz.f39) (by kernel_rfl) rfl (by kernel_rfl) rfl rfl rfl ?_; refine AW_of h39 TryzT_ok (by kernel_rfl) ?_
  simp -dsimp
  refine AWh_loop (fun i : Nat => i ≤ s.lives.length) (fun i => mkE [(1, .c (.bool m)), (2, .c (.str o)), (3, .c (.str k)), (4, .box 256 0), (9, .arr 576), (10, .c (.int .i64 i))] [(256, .box [.c (.im s.know.length (flat s.know)), .c (.im s.tallies.length (flat s.tallies)), .c (.im s.lives.length (flat s.lives)), .c (.im s.cs.length (flat s.cs))]), (576, .arr 0 159 6 (filK (livP m o k) [] s.lives i).length (flat (filK (livP m o k) [] s.lives i)))]) (fun i => s.lives.length - i) 0 (Wk_to [1, 2, 3, 4, 9, 10] [(256, 256), (576, 768)] rfl rfl (by simp [filK])) (by simp) ?_
  rintro i hi
  have hl := filK_len (livP m o k) [] s.lives i
  simp only [List.length_nil] at hl
  refine AW_of h39 TryzT_ok (by kernel_rfl) ?_
  rcases Nat.lt_or_ge i s.lives.length with h1 | h1
  · by_cases e1 : (nth s.lives i).map = m
    · have b1 : ((nth s.lives i).map == m) = true := by simp [e1]
      by_cases e2 : (nth s.lives i).obj = o
      · by_cases e3 : (nth s.lives i).key = k
        · have hs : filK (livP m o k) [] s.lives (i + 1) = filK (livP m o k) [] s.lives i ++ [nth s.lives i] := by simp [filK, livP, b1, e2, e3]
          simp -dsimp [h1, ne_of_lt h1, b1, eq_true e2, eq_true e3]
          repeat (first | refine ⟨by omega, ?_⟩ | refine ⟨by simp [capMax]; omega, ?_⟩ | refine ⟨⟨by omega, by omega⟩, ?_⟩)
          exact Back_of (i + 1) [1, 2, 3, 4, 9, 10] [(256, 256), (576, 2816)] rfl rfl (by simp [hs]; rw [wrap64 (by omega) (by omega)]) (by omega) (by omega)
        · have hs : filK (livP m o k) [] s.lives (i + 1) = filK (livP m o k) [] s.lives i := by simp [filK, livP, e3]
          simp -dsimp [h1, ne_of_lt h1, b1, eq_true e2, eq_false e3]
          repeat (first | refine ⟨by omega, ?_⟩ | refine ⟨by simp [capMax]; omega, ?_⟩ | refine ⟨⟨by omega, by omega⟩, ?_⟩)
          exact Back_of (i + 1) [1, 2, 3, 4, 9, 10] [(256, 256), (576, 576)] rfl rfl (by simp [hs]; rw [wrap64 (by omega) (by omega)]) (by omega) (by omega)
      · have hs : filK (livP m o k) [] s.lives (i + 1) = filK (livP m o k) [] s.lives i := by simp [filK, livP, e2]
        simp -dsimp [h1, ne_of_lt h1, b1, eq_false e2]
        repeat (first | refine ⟨by omega, ?_⟩ | refine ⟨by simp [capMax]; omega, ?_⟩ | refine ⟨⟨by omega, by omega⟩, ?_⟩)
        exact Back_of (i + 1) [1, 2, 3, 4, 9, 10] [(256, 256), (576, 576)] rfl rfl (by simp [hs]; rw [wrap64 (by omega) (by omega)]) (by omega) (by omega)
    · have b1 : ((nth s.lives i).map == m) = false := by simp [e1]
      have hs : filK (livP m o k) [] s.lives (i + 1) = filK (livP m o k) [] s.lives i := by simp [filK, livP, e1]
      simp -dsimp [h1, ne_of_lt h1, b1]
      repeat (first | refine ⟨by omega, ?_⟩ | refine ⟨by simp [capMax]; omega, ?_⟩ | refine ⟨⟨by omega, by omega⟩, ?_⟩)
      exact Back_of (i + 1) [1, 2, 3, 4, 9, 10] [(256, 256), (576, 576)] rfl rfl (by simp [hs]; rw [wrap64 (by omega) (by omega)]) (by omega) (by omega)
  · obtain rfl : i = s.lives.length := by omega
    simp -dsimp
    simp [livesOf]

@[simp] def h175 : Hts := { merge := fun _ => false, mergeF := fun _ => false }
set_option maxHeartbeats 2000000 in
theorem f175_ok (s : GState) (m : Bool) (o k : ByteArray) (ha : s.lives.length ≤ 1073741824) : FnR Tryz.prog 175 [.agg [.im s.know.length (flat s.know), .im s.tallies.length (flat s.tallies), .im s.lives.length (flat s.lives), .im s.cs.length (flat s.cs)], .v (.bool m), .v (.str o), .v (.str k)] (.v (.ow 159 6 (livesOf s m o k).length (flat (livesOf s m o k)))) := by
  refine FnW.of_AW TryzT_ok 0 (fn := Tryz.f175) (by kernel_rfl) rfl (by kernel_rfl) rfl rfl rfl ?_; refine AW_of h175 TryzT_ok (by kernel_rfl) ?_
  simp -dsimp
  refine AWh_loop (fun i : Nat => i ≤ s.lives.length) (fun i => mkE [(1, .c (.bool m)), (2, .c (.str o)), (3, .c (.str k)), (9, .arr 576), (14, .c (.im s.lives.length (flat s.lives))), (15, .c (.int .i64 s.lives.length)), (16, .c (.int .i64 i))] [(576, .arr 0 159 6 (filK (livP m o k) [] s.lives i).length (flat (filK (livP m o k) [] s.lives i)))]) (fun i => s.lives.length - i) 0 (Wk_to [1, 2, 3, 9, 14, 15, 16] [(576, 768)] rfl rfl (by simp [filK])) (by simp) ?_
  rintro i hi
  have hl := filK_len (livP m o k) [] s.lives i
  simp only [List.length_nil] at hl
  refine AW_of h175 TryzT_ok (by kernel_rfl) ?_
  rcases Nat.lt_or_ge i s.lives.length with h1 | h1
  · by_cases e1 : (nth s.lives i).map = m
    · have b1 : ((nth s.lives i).map == m) = true := by simp [e1]
      by_cases e2 : (nth s.lives i).obj = o
      · by_cases e3 : (nth s.lives i).key = k
        · have hs : filK (livP m o k) [] s.lives (i + 1) = filK (livP m o k) [] s.lives i ++ [nth s.lives i] := by simp [filK, livP, b1, e2, e3]
          simp -dsimp [h1, ne_of_lt h1, b1, eq_true e2, eq_true e3]
          repeat (first | refine ⟨by omega, ?_⟩ | refine ⟨by simp [capMax]; omega, ?_⟩ | refine ⟨⟨by omega, by omega⟩, ?_⟩)
          exact Back_of (i + 1) [1, 2, 3, 9, 14, 15, 16] [(576, 2496)] rfl rfl (by simp [hs]; rw [wrap64 (by omega) (by omega)]) (by omega) (by omega)
        · have hs : filK (livP m o k) [] s.lives (i + 1) = filK (livP m o k) [] s.lives i := by simp [filK, livP, e3]
          simp -dsimp [h1, ne_of_lt h1, b1, eq_true e2, eq_false e3]
          repeat (first | refine ⟨by omega, ?_⟩ | refine ⟨by simp [capMax]; omega, ?_⟩ | refine ⟨⟨by omega, by omega⟩, ?_⟩)
          exact Back_of (i + 1) [1, 2, 3, 9, 14, 15, 16] [(576, 576)] rfl rfl (by simp [hs]; rw [wrap64 (by omega) (by omega)]) (by omega) (by omega)
      · have hs : filK (livP m o k) [] s.lives (i + 1) = filK (livP m o k) [] s.lives i := by simp [filK, livP, e2]
        simp -dsimp [h1, ne_of_lt h1, b1, eq_false e2]
        repeat (first | refine ⟨by omega, ?_⟩ | refine ⟨by simp [capMax]; omega, ?_⟩ | refine ⟨⟨by omega, by omega⟩, ?_⟩)
        exact Back_of (i + 1) [1, 2, 3, 9, 14, 15, 16] [(576, 576)] rfl rfl (by simp [hs]; rw [wrap64 (by omega) (by omega)]) (by omega) (by omega)
    · have b1 : ((nth s.lives i).map == m) = false := by simp [e1]
      have hs : filK (livP m o k) [] s.lives (i + 1) = filK (livP m o k) [] s.lives i := by simp [filK, livP, e1]
      simp -dsimp [h1, ne_of_lt h1, b1]
      repeat (first | refine ⟨by omega, ?_⟩ | refine ⟨by simp [capMax]; omega, ?_⟩ | refine ⟨⟨by omega, by omega⟩, ?_⟩)
      exact Back_of (i + 1) [1, 2, 3, 9, 14, 15, 16] [(576, 576)] rfl rfl (by simp [hs]; rw [wrap64 (by omega) (by omega)]) (by omega) (by omega)
  · obtain rfl : i = s.lives.length := by omega
    simp -dsimp
    simp [livesOf]
end Am
