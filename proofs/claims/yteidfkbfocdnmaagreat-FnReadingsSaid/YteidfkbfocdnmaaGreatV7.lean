/- Drawn: acts, right or not. No condition. -/
import Derived.Test.YteidfkbfocdnmaaGreatT
import Derived.Test.YteidfkbfocdnmaaGreatD
import Derived.Test.YteidfkbfocdnmaaGreatV1
import Derived.Test.YteidfkbfocdnmaaGreatE16
import Derived.Test.YteidfkbfocdnmaaGreatU1
import Derived.Test.YteidfkbfocdnmaaGreatE93a
import Derived.Test.YteidfkbfocdnmaaGreatAm29
import Derived.Test.YteidfkbfocdnmaaGreatAm31
import Derived.Test.YteidfkbfocdnmaaGreatE76
import Derived.Test.YteidfkbfocdnmaaGreatAm37
namespace Am
open Go Go.Proofs
open Cel (cells)
set_option maxRecDepth 100000
set_option linter.unusedSimpArgs false
set_option linter.unusedVariables false

end Am
namespace Am
open Go Go.Proofs
open Cel (cells)
set_option maxRecDepth 100000
set_option linter.unusedSimpArgs false
set_option linter.unusedVariables false

noncomputable def endK (l : List GAct) : Nat := Classical.choose (roundK_end l)
noncomputable def settled (l : List GAct) : GState × Int := ((roundK l (endK l)).1, (roundK l (endK l)).2.1)


end Am
namespace Am
open Go Go.Proofs
open Cel (cells)
set_option maxRecDepth 100000
set_option linter.unusedSimpArgs false
set_option linter.unusedVariables false

end Am
namespace Am
open Go Go.Proofs
open Cel (cells)
set_option maxRecDepth 100000
set_option linter.unusedSimpArgs false
set_option linter.unusedVariables false

@[simp] def h13 : Hts := { merge := fun _ => false, mergeF := fun _ => false, lend := fun f => if f = 114 then [.box []] else [] }
@[simp] def h14 : Hts := { merge := fun _ => false, mergeF := fun _ => false, lend := fun f => if f = 117 || f = 116 then [.box []] else [] }
set_option maxHeartbeats 1000000 in
theorem f14_ok (b : List UInt8) (hb : b.length ≤ 1048576) : FnR Tryz.prog 14 [.v (.im b.length (flat b))] (.v (.ow 3 1 ((drawsK (curB (curNew b)).2 10000 12).1).length (flat ((drawsK (curB (curNew b)).2 10000 12).1)))) := by
  refine FnW.of_AW TryzT_ok 0 (fn := Tryz.f14) (by kernel_rfl) rfl (by kernel_rfl) rfl rfl rfl ?_; refine AW_of h14 TryzT_ok (by kernel_rfl) ?_
  simp -dsimp
  refine ACallK_of (f115_ok b hb) ?_
  simp -dsimp
  refine ACallW_args (by intro us; simp -dsimp; exact ⟨rfl, rfl, rfl⟩) ?_
  refine ACallC_of (fun us => f116_ok (curNew b) (curNew_ok hb)) (by intro us; simp -dsimp; exact ⟨rfl, rfl⟩) ?_
  have hc : (curB (curNew b)).2.Ok := curB_ok (curNew_ok hb)
  generalize (curB (curNew b)).2 = c at *
  simp -dsimp
  refine AWh_loop (fun i : Nat => i ≤ 12) (fun i => mkE [(3, .box 448 0), (4, .arr 256), (5, .c (.int .i64 i))] [(448, .box [.c (.im ((drawsK c 10000 i).2).b.length (flat ((drawsK c 10000 i).2).b)), .c (.int .i64 ((drawsK c 10000 i).2).i), .c (.int .i64 ((drawsK c 10000 i).2).h)]), (256, .arr 0 3 1 (drawsK c 10000 i).1.length (flat (drawsK c 10000 i).1))]) (fun i => 12 - i) 0 (Wk_to [3, 4, 5] [(448, 448), (256, 640)] rfl rfl (by simp [drawsK])) (by simp) ?_
  rintro i hi
  refine AW_of h14 TryzT_ok (by kernel_rfl) ?_
  have wi : IntKind.i64.wrap ((i : Int) + 1) = i + 1 := wrap64 (by omega) (by omega)
  have hl := drawsK_len c 10000 i
  rcases Nat.lt_or_ge i 12 with q1 | q1
  · have q1' : (i : Int) < 12 := by omega
    simp -dsimp [q1']
    refine ACallW_args (by intro us; simp -dsimp; exact ⟨rfl, rfl, rfl⟩) ?_
    refine ACallC_of (fun us => f117_ok (drawsK c 10000 i).2 (drawsK_ok hc 10000 i) 10000) (by intro us; simp -dsimp; exact ⟨rfl, rfl⟩) ?_
    simp -dsimp [wi]
    repeat (first | refine ⟨by omega, ?_⟩ | refine ⟨by simp [capMax]; omega, ?_⟩ | refine ⟨⟨by omega, by omega⟩, ?_⟩)
    exact Back_of (i + 1) [3, 4, 5] [(448, 448), (256, 1216)] rfl rfl (by simp [drawsK]) (by omega) (by omega)
  · obtain rfl : i = 12 := by omega
    simp -dsimp

end Am
