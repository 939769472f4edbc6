/- What is new: of both. No condition. -/
import Derived.Test.YtmedpldnoehoiaaGreatT
import Derived.Test.YtmedpldnoehoiaaGreatD
import Derived.Test.YtmedpldnoehoiaaGreatE56
import Derived.Test.YtmedpldnoehoiaaGreatAm31
import Derived.Test.YtmedpldnoehoiaaGreatAm32
import Derived.Test.YtmedpldnoehoiaaGreatAm29
namespace Am
open Go Go.Proofs
open Cel (cells)
set_option maxRecDepth 100000
set_option linter.unusedSimpArgs false
set_option linter.unusedVariables false

def stateNew : GState := ⟨[0, 0, 0], [], [], []⟩
theorem stateNew_ok : stateNew.Ok := by simp [stateNew, GState.Ok]

@[simp] def h31 : Hts := {  }
theorem f31_ok : FnR Tryz.prog 31 [] (.v (.ow 3 1 (([0, 0, 0] : List Int)).length (flat (([0, 0, 0] : List Int))))) := by
  refine FnW.of_AW TryzT_ok 0 (fn := Tryz.f31) (by kernel_rfl) rfl (by kernel_rfl) rfl rfl rfl ?_; refine AW_of h31 TryzT_ok (by kernel_rfl) ?_
  simp -dsimp
  exact ⟨by decide, rfl⟩
@[simp] def h33 : Hts := {  }
theorem f33_ok : FnR Tryz.prog 33 [] (.agg [.ow 3 1 stateNew.know.length (flat stateNew.know), .ow 117 3 stateNew.tallies.length (flat stateNew.tallies), .ow 107 6 stateNew.lives.length (flat stateNew.lives), .ow 88 8 stateNew.cs.length (flat stateNew.cs)]) := by
  rw [stateNew]
  refine FnW.of_AW TryzT_ok 0 (fn := Tryz.f33) (by kernel_rfl) rfl (by kernel_rfl) rfl rfl rfl ?_; refine AW_of h33 TryzT_ok (by kernel_rfl) ?_
  simp -dsimp
  refine ACallK_of (f31_ok) ?_
  simp -dsimp
end Am
namespace Am
open Go Go.Proofs
open Cel (cells)
set_option maxRecDepth 100000
set_option linter.unusedSimpArgs false
set_option linter.unusedVariables false

@[simp] def h9 : Hts := {  }
theorem f9_ok (b : List UInt8) : FnR Tryz.prog 9 [.v (.im b.length (flat b))] (.v (.bool (decide (1048576 < b.length)))) := by
  refine FnW.of_AW TryzT_ok 0 (fn := Tryz.f9) (by kernel_rfl) rfl (by kernel_rfl) rfl rfl rfl ?_; refine AW_of h9 TryzT_ok (by kernel_rfl) ?_
  simp -dsimp
  omega
@[simp] def h15 : Hts := { merge := fun _ => false, dr := fun id => if id = 6 then [{}, {}, {}, {}, {}, {}, {}, {}, {}] else [] }
theorem f15_ok (l : List Int) (hl : l.length ≤ 1073741824) : FnR Tryz.prog 15 [.v (.im l.length (flat l)), .v (.im l.length (flat l))] (.v (.bool true)) := by
  refine FnW.of_AW TryzT_ok 0 (fn := Tryz.f15) (by kernel_rfl) rfl (by kernel_rfl) rfl rfl rfl ?_; refine AW_of h15 TryzT_ok (by kernel_rfl) ?_
  simp -dsimp
  refine AWh_loop (fun i : Nat => i ≤ l.length) (fun i => mkE [(0, .c (.im l.length (flat l))), (1, .c (.im l.length (flat l))), (5, .c (.int .i64 i))] []) (fun i => l.length - i) 0 (Wk_to [0, 1, 5] [] rfl rfl (by simp)) (by simp) ?_
  rintro i hi
  refine AW_of h15 TryzT_ok (by kernel_rfl) ?_
  have wi : IntKind.i64.wrap ((i : Int) + 1) = i + 1 := wrap64 (by omega) (by omega)
  rcases Nat.lt_or_ge i l.length with h1 | h1
  · simp -dsimp [h1, ne_of_lt h1, wi]
    exact Back_of (i + 1) [0, 1, 5] [] rfl rfl (by simp) (by omega) (by omega)
  · simp -dsimp [Nat.not_lt.2 h1, h1]
end Am
namespace Am
open Go Go.Proofs
open Cel (cells)
set_option maxRecDepth 100000
set_option linter.unusedSimpArgs false
set_option linter.unusedVariables false

@[simp] def h71 : Hts := { merge := fun _ => false, dr := fun id => if id = 6 then [{}, {}, {}, {}, {}, {}, {}, {}, {}] else [] }
set_option maxHeartbeats 1000000 in
theorem f71_ok (l : List GDot) (hl : l.length ≤ 1073741824) : FnR Tryz.prog 71 [.v (.im l.length (flat l)), .v (.im l.length (flat l))] (.v (.bool true)) := by
  refine FnW.of_AW TryzT_ok 0 (fn := Tryz.f71) (by kernel_rfl) rfl (by kernel_rfl) rfl rfl rfl ?_; refine AW_of h71 TryzT_ok (by kernel_rfl) ?_
  simp -dsimp
  refine AWh_loop (fun i : Nat => i ≤ l.length) (fun i => mkE [(0, .c (.im l.length (flat l))), (1, .c (.im l.length (flat l))), (5, .c (.int .i64 i))] []) (fun i => l.length - i) 0 (Wk_to [0, 1, 5] [] rfl rfl (by simp)) (by simp) ?_
  rintro i hi
  refine AW_of h71 TryzT_ok (by kernel_rfl) ?_
  have wi : IntKind.i64.wrap ((i : Int) + 1) = i + 1 := wrap64 (by omega) (by omega)
  rcases Nat.lt_or_ge i l.length with h1 | h1
  · simp -dsimp [h1, ne_of_lt h1, wi]
    repeat (first | refine ⟨by omega, ?_⟩ | refine ⟨by simp [capMax]; omega, ?_⟩ | refine ⟨⟨by omega, by omega⟩, ?_⟩)
    exact Back_of (i + 1) [0, 1, 5] [] rfl rfl (by simp) (by omega) (by omega)
  · simp -dsimp [Nat.not_lt.2 h1, h1]

@[simp] def h39 : Hts := { merge := fun _ => false, mergeF := fun _ => false }
set_option maxHeartbeats 1000000 in
theorem f39_ok (d : GDelta) (hd : d.Ok) : FnR Tryz.prog 39 [.agg [.im d.base.length (flat d.base), .im d.know.length (flat d.know), .im d.tallies.length (flat d.tallies), .im d.lives.length (flat d.lives), .im d.dead.length (flat d.dead), .im d.cs.length (flat d.cs)], .agg [.im d.base.length (flat d.base), .im d.know.length (flat d.know), .im d.tallies.length (flat d.tallies), .im d.lives.length (flat d.lives), .im d.dead.length (flat d.dead), .im d.cs.length (flat d.cs)]] (.v (.bool true)) := by
  simp only [GDelta.Ok] at hd
  obtain ⟨o0, o1, o2, o3, o4, o5, o6, o7, o8⟩ := hd
  refine FnW.of_AW TryzT_ok 0 (fn := Tryz.f39) (by kernel_rfl) rfl (by kernel_rfl) rfl rfl rfl ?_; refine AW_of h39 TryzT_ok (by kernel_rfl) ?_
  simp -dsimp
  refine ACallK_of (f15_ok d.base o0) ?_
  simp -dsimp
  refine ACallK_of (f71_ok d.dead o6) ?_
  simp -dsimp
  refine ACallK_of (f13_ok ⟨d.know, d.tallies, d.lives, d.cs⟩ ⟨d.know, d.tallies, d.lives, d.cs⟩ (by simp only [GState.Ok]; exact ⟨o1, o2, o3, o4, o5, o7, o8⟩)) ?_
  simp -dsimp
end Am
