/- Drawn: what readings are asked at. No condition. -/
import Derived.Test.YteidfkbfocdnmaaGreatT
import Derived.Test.YteidfkbfocdnmaaGreatD
import Derived.Test.YteidfkbfocdnmaaGreatV1
import Derived.Test.YteidfkbfocdnmaaGreatE93a
import Derived.Test.YteidfkbfocdnmaaGreatU24
import Derived.Test.YteidfkbfocdnmaaGreatAm29
import Derived.Test.YteidfkbfocdnmaaGreatAm31
import Derived.Test.YteidfkbfocdnmaaGreatE56
namespace Am
open Go Go.Proofs
open Cel (cells)
set_option maxRecDepth 100000
set_option linter.unusedSimpArgs false
set_option linter.unusedVariables false

@[simp] def h52 : Hts := { merge := fun _ => false, dr := fun id => if id = 6 then [{}, {}, {}, {}, {}, {}, {}, {}, {}] else [] }
theorem f52_ok (l : List ByteArray) (hl : l.length ≤ 1073741824) : FnR Tryz.prog 52 [.v (.im l.length (flat l)), .v (.im l.length (flat l))] (.v (.bool true)) := by
  refine FnW.of_AW TryzT_ok 0 (fn := Tryz.f52) (by kernel_rfl) rfl (by kernel_rfl) rfl rfl rfl ?_; refine AW_of h52 TryzT_ok (by kernel_rfl) ?_
  simp -dsimp
  refine AWh_loop (fun i : Nat => i ≤ l.length) (fun i => mkE [(0, .c (.im l.length (flat l))), (1, .c (.im l.length (flat l))), (5, .c (.int .i64 i))] []) (fun i => l.length - i) 0 (Wk_to [0, 1, 5] [] rfl rfl (by simp)) (by simp) ?_
  rintro i hi
  refine AW_of h52 TryzT_ok (by kernel_rfl) ?_
  have wi : IntKind.i64.wrap ((i : Int) + 1) = i + 1 := wrap64 (by omega) (by omega)
  rcases Nat.lt_or_ge i l.length with h1 | h1
  · simp -dsimp [h1, ne_of_lt h1, wi]
    exact Back_of (i + 1) [0, 1, 5] [] rfl rfl (by simp) (by omega) (by omega)
  · simp -dsimp [Nat.not_lt.2 h1, h1]

def pairS (b : List UInt8) : GState := (anyD (curPick (curNew b) objs).2).1
def pairO (b : List UInt8) : ByteArray := (curPick (curNew b) objs).1
theorem pairS_Ok (b : List UInt8) : (pairS b).Ok := anyD_Ok _
@[simp] def h172 : Hts := { merge := fun _ => false, lend := fun f => if f = 131 || f = 133 then [.box []] else [] }
set_option maxHeartbeats 1000000 in
theorem f172_ok (b : List UInt8) (hb : b.length ≤ 1048576) : FnR Tryz.prog 172 [.v (.im b.length (flat b))] (.tup [.agg [.ow 3 1 (pairS b).know.length (flat (pairS b).know), .ow 179 3 (pairS b).tallies.length (flat (pairS b).tallies), .ow 159 6 (pairS b).lives.length (flat (pairS b).lives), .ow 72 8 (pairS b).cs.length (flat (pairS b).cs)], .v (.str (pairO b))]) := by
  refine FnW.of_AW TryzT_ok 0 (fn := Tryz.f172) (by kernel_rfl) rfl (by kernel_rfl) rfl rfl rfl ?_; refine AW_of h172 TryzT_ok (by kernel_rfl) ?_
  simp -dsimp
  refine ACallK_of (f115_ok b hb) ?_
  simp -dsimp
  refine ACallW_args (by intro us; simp -dsimp; exact ⟨rfl, rfl, rfl⟩) ?_
  refine ACallC_of (fun us => f133_ok (curNew b) (curNew_ok hb)) (by intro us; simp -dsimp; exact ⟨rfl, rfl⟩) ?_
  simp -dsimp
  refine ACallW_args (by intro us; simp -dsimp; exact ⟨rfl, rfl, rfl⟩) ?_
  refine ACallC_of (fun us => f131_ok (curPick (curNew b) objs).2 (curPick_ok (curNew_ok hb) _)) (by intro us; simp -dsimp; exact ⟨rfl, rfl⟩) ?_
  simp -dsimp
  simp [pairS, pairO]
@[simp] def h47 : Hts := { merge := fun _ => false }
set_option maxHeartbeats 1000000 in
theorem f47_ok (b : List UInt8) (hb : b.length ≤ 1048576) : FnR Tryz.prog 47 [.v (.im b.length (flat b))] (.tup [.agg [.ow 3 1 (pairS b).know.length (flat (pairS b).know), .ow 179 3 (pairS b).tallies.length (flat (pairS b).tallies), .ow 159 6 (pairS b).lives.length (flat (pairS b).lives), .ow 72 8 (pairS b).cs.length (flat (pairS b).cs)], .v (.str (pairO b))]) := by
  refine FnW.of_AW TryzT_ok 0 (fn := Tryz.f47) (by kernel_rfl) rfl (by kernel_rfl) rfl rfl rfl ?_; refine AW_of h47 TryzT_ok (by kernel_rfl) ?_
  simp -dsimp
  refine ACallK_of (f172_ok b hb) ?_
  simp -dsimp
@[simp] def h48 : Hts := { merge := fun _ => false, lend := fun f => if f = 134 then [.box []] else [] }
set_option maxHeartbeats 1000000 in
theorem f48_ok (b : List UInt8) (hb : b.length ≤ 1048576) : FnR Tryz.prog 48 [.v (.im b.length (flat b))] (.tup [.agg [.ow 3 1 (pairS b).know.length (flat (pairS b).know), .ow 179 3 (pairS b).tallies.length (flat (pairS b).tallies), .ow 159 6 (pairS b).lives.length (flat (pairS b).lives), .ow 72 8 (pairS b).cs.length (flat (pairS b).cs)], .v (.str (pairO b)), .v (.str ((curPick (curNew b) keys).1))]) := by
  refine FnW.of_AW TryzT_ok 0 (fn := Tryz.f48) (by kernel_rfl) rfl (by kernel_rfl) rfl rfl rfl ?_; refine AW_of h48 TryzT_ok (by kernel_rfl) ?_
  simp -dsimp
  refine ACallK_of (f115_ok b hb) ?_
  simp -dsimp
  refine ACallW_args (by intro us; simp -dsimp; exact ⟨rfl, rfl, rfl⟩) ?_
  refine ACallC_of (fun us => f134_ok (curNew b) (curNew_ok hb)) (by intro us; simp -dsimp; exact ⟨rfl, rfl⟩) ?_
  simp -dsimp
  refine ACallK_of (f172_ok b hb) ?_
  simp -dsimp
@[simp] def h49 : Hts := { merge := fun _ => false, lend := fun f => if f = 117 then [.box []] else [] }
set_option maxHeartbeats 1000000 in
theorem f49_ok (b : List UInt8) (hb : b.length ≤ 1048576) : FnR Tryz.prog 49 [.v (.im b.length (flat b))] (.tup [.agg [.ow 3 1 (pairS b).know.length (flat (pairS b).know), .ow 179 3 (pairS b).tallies.length (flat (pairS b).tallies), .ow 159 6 (pairS b).lives.length (flat (pairS b).lives), .ow 72 8 (pairS b).cs.length (flat (pairS b).cs)], .v (.str (pairO b)), .v (.int .i64 (((curN (curNew b) 6).1 - 1)))]) := by
  have hn := curN_bd (curNew b) (n := 6) (by decide)
  have w1 : IntKind.i64.wrap ((curN (curNew b) 6).1 - 1) = (curN (curNew b) 6).1 - 1 := wrap64 (by omega) (by omega)
  refine FnW.of_AW TryzT_ok 0 (fn := Tryz.f49) (by kernel_rfl) rfl (by kernel_rfl) rfl rfl rfl ?_; refine AW_of h49 TryzT_ok (by kernel_rfl) ?_
  simp -dsimp
  refine ACallK_of (f115_ok b hb) ?_
  simp -dsimp
  refine ACallW_args (by intro us; simp -dsimp; exact ⟨rfl, rfl, rfl⟩) ?_
  refine ACallC_of (fun us => f117_ok (curNew b) (curNew_ok hb) 6) (by intro us; simp -dsimp; exact ⟨rfl, rfl⟩) ?_
  simp -dsimp [w1]
  refine ACallK_of (f172_ok b hb) ?_
  simp -dsimp
end Am
namespace Am
open Go Go.Proofs
open Cel (cells)
set_option maxRecDepth 100000
set_option linter.unusedSimpArgs false
set_option linter.unusedVariables false

@[simp] def h38 : Hts := { merge := fun _ => false }
set_option maxHeartbeats 1000000 in
theorem f38_ok (s : GState) (o : ByteArray) (hs : s.tallies.length ≤ 1073741824) : FnR Tryz.prog 38 [.agg [.im s.know.length (flat s.know), .im s.tallies.length (flat s.tallies), .im s.lives.length (flat s.lives), .im s.cs.length (flat s.cs)], .v (.str o)] (.v (.int .i64 (countOf s o))) := by
  refine FnW.of_AW TryzT_ok 0 (fn := Tryz.f38) (by kernel_rfl) rfl (by kernel_rfl) rfl rfl rfl ?_; refine AW_of h38 TryzT_ok (by kernel_rfl) ?_
  simp -dsimp
  refine AWh_loop (fun i : Nat => i ≤ s.tallies.length) (fun i => mkE [(1, .c (.str o)), (2, .box 128 0), (5, .c (.int .i64 (couK s.tallies o i))), (6, .c (.int .i64 i))] [(128, .box [.c (.im s.know.length (flat s.know)), .c (.im s.tallies.length (flat s.tallies)), .c (.im s.lives.length (flat s.lives)), .c (.im s.cs.length (flat s.cs))])]) (fun i => s.tallies.length - i) 0 (Wk_to [1, 2, 5, 6] [(128, 128)] rfl rfl (by simp [couK])) (by simp) ?_
  rintro i hi
  refine AW_of h38 TryzT_ok (by kernel_rfl) ?_
  have wi : IntKind.i64.wrap ((i : Int) + 1) = i + 1 := wrap64 (by omega) (by omega)
  rcases Nat.lt_or_ge i s.tallies.length with h1 | h1
  · by_cases e1 : (nth s.tallies i).obj = o
    · have b1 := couK_bd s.tallies o i
      have b2 := tmod_abs (nth s.tallies i).sum
      have w1 : IntKind.i64.wrap (couK s.tallies o i + (nth s.tallies i).sum.tmod 1000000) = couK s.tallies o i + (nth s.tallies i).sum.tmod 1000000 := wrap64 (by omega) (by omega)
      simp -dsimp [h1, ne_of_lt h1, eq_true e1, wi, w1]
      exact Back_of (i + 1) [1, 2, 5, 6] [(128, 128)] rfl rfl (by simp [couK, eq_true e1]) (by omega) (by omega)
    · simp -dsimp [h1, ne_of_lt h1, eq_false e1, wi]
      exact Back_of (i + 1) [1, 2, 5, 6] [(128, 128)] rfl rfl (by simp [couK, eq_false e1]) (by omega) (by omega)
  · obtain rfl : i = s.tallies.length := by omega
    simp -dsimp
    simp [countOf]
@[simp] def h51 : Hts := { merge := fun _ => false }
set_option maxHeartbeats 1000000 in
theorem f51_ok (s : GState) (o : ByteArray) (hs : s.tallies.length ≤ 1073741824) : FnR Tryz.prog 51 [.agg [.im s.know.length (flat s.know), .im s.tallies.length (flat s.tallies), .im s.lives.length (flat s.lives), .im s.cs.length (flat s.cs)], .v (.str o)] (.v (.int .i64 (countOf s o))) := by
  refine FnW.of_AW TryzT_ok 0 (fn := Tryz.f51) (by kernel_rfl) rfl (by kernel_rfl) rfl rfl rfl ?_; refine AW_of h51 TryzT_ok (by kernel_rfl) ?_
  simp -dsimp
  refine AWh_loop (fun i : Nat => i ≤ s.tallies.length) (fun i => mkE [(1, .c (.str o)), (5, .c (.int .i64 (couK s.tallies o i))), (9, .c (.im s.tallies.length (flat s.tallies))), (10, .c (.int .i64 s.tallies.length)), (11, .c (.int .i64 i))] []) (fun i => s.tallies.length - i) 0 (Wk_to [1, 5, 9, 10, 11] [] rfl rfl (by simp [couK])) (by simp) ?_
  rintro i hi
  refine AW_of h51 TryzT_ok (by kernel_rfl) ?_
  have wi : IntKind.i64.wrap ((i : Int) + 1) = i + 1 := wrap64 (by omega) (by omega)
  rcases Nat.lt_or_ge i s.tallies.length with h1 | h1
  · by_cases e1 : (nth s.tallies i).obj = o
    · have b1 := couK_bd s.tallies o i
      have b2 := tmod_abs (nth s.tallies i).sum
      have w1 : IntKind.i64.wrap (couK s.tallies o i + (nth s.tallies i).sum.tmod 1000000) = couK s.tallies o i + (nth s.tallies i).sum.tmod 1000000 := wrap64 (by omega) (by omega)
      simp -dsimp [h1, ne_of_lt h1, eq_true e1, wi, w1]
      repeat (first | refine ⟨by omega, ?_⟩ | refine ⟨by simp [capMax]; omega, ?_⟩ | refine ⟨⟨by omega, by omega⟩, ?_⟩)
      exact Back_of (i + 1) [1, 5, 9, 10, 11] [] rfl rfl (by simp [couK, eq_true e1]) (by omega) (by omega)
    · simp -dsimp [h1, ne_of_lt h1, eq_false e1, wi]
      repeat (first | refine ⟨by omega, ?_⟩ | refine ⟨by simp [capMax]; omega, ?_⟩ | refine ⟨⟨by omega, by omega⟩, ?_⟩)
      exact Back_of (i + 1) [1, 5, 9, 10, 11] [] rfl rfl (by simp [couK, eq_false e1]) (by omega) (by omega)
  · obtain rfl : i = s.tallies.length := by omega
    simp -dsimp
    simp [countOf]
end Am
namespace Am
open Go Go.Proofs
open Cel (cells)
set_option maxRecDepth 100000
set_option linter.unusedSimpArgs false
set_option linter.unusedVariables false

@[simp] def h58 : Hts := { merge := fun _ => false, dr := fun id => if id = 6 then [{}, {}, {}, {}, {}, {}, {}, {}, {}] else [] }
set_option maxHeartbeats 1000000 in
theorem f58_ok (l : List GDot) (hl : l.length ≤ 1073741824) : FnR Tryz.prog 58 [.v (.im l.length (flat l)), .v (.im l.length (flat l))] (.v (.bool true)) := by
  refine FnW.of_AW TryzT_ok 0 (fn := Tryz.f58) (by kernel_rfl) rfl (by kernel_rfl) rfl rfl rfl ?_; refine AW_of h58 TryzT_ok (by kernel_rfl) ?_
  simp -dsimp
  refine AWh_loop (fun i : Nat => i ≤ l.length) (fun i => mkE [(0, .c (.im l.length (flat l))), (1, .c (.im l.length (flat l))), (5, .c (.int .i64 i))] []) (fun i => l.length - i) 0 (Wk_to [0, 1, 5] [] rfl rfl (by simp)) (by simp) ?_
  rintro i hi
  refine AW_of h58 TryzT_ok (by kernel_rfl) ?_
  have wi : IntKind.i64.wrap ((i : Int) + 1) = i + 1 := wrap64 (by omega) (by omega)
  rcases Nat.lt_or_ge i l.length with h1 | h1
  · simp -dsimp [h1, ne_of_lt h1, wi]
    repeat (first | refine ⟨by omega, ?_⟩ | refine ⟨by simp [capMax]; omega, ?_⟩ | refine ⟨⟨by omega, by omega⟩, ?_⟩)
    exact Back_of (i + 1) [0, 1, 5] [] rfl rfl (by simp) (by omega) (by omega)
  · simp -dsimp [Nat.not_lt.2 h1, h1]

end Am
