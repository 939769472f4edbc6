/- What changed: of both. No condition. -/
import Derived.Test.YtpgnllakcjajjaaGreatT
import Derived.Test.YtpgnllakcjajjaaGreatD
import Derived.Test.YtpgnllakcjajjaaGreatE59
import Derived.Test.YtpgnllakcjajjaaGreatE16
import Derived.Test.YtpgnllakcjajjaaGreatAm31
namespace Am
open Go Go.Proofs
open Cel (cells)
set_option maxRecDepth 100000
set_option linter.unusedSimpArgs false
set_option linter.unusedVariables false

def deadK (c : GState) (l : List GLive) : Nat → List GDot
  | 0 => []
  | n + 1 => if hasX c.lives (nth l n) = true then deadK c l n else deadK c l n ++ [(nth l n).dot]
theorem deadK_len (c : GState) (l : List GLive) : ∀ n, (deadK c l n).length ≤ n
  | 0 => by simp [deadK]
  | n + 1 => by
    have := deadK_len c l n
    simp only [deadK]; split
    · omega
    · simp; omega
def newC (p : GState) (x : GCell) : Bool := decide (cellAt p.cs x.dot < 0) || (x.gone && !(nth p.cs (cellAt p.cs x.dot).toNat).gone)
def dTal (p c : GState) (i : Nat) : List GTally := filK (more p.know c.know) [] c.tallies i
def dLivs (p c : GState) (i : Nat) : List GLive := filK (newB p) [] c.lives i
def dCels (p c : GState) (i : Nat) : List GCell := filK (newC p) [] c.cs i
def deltaRaw (p c : GState) : GDelta := ⟨p.know, c.know, dTal p c c.tallies.length, dLivs p c c.lives.length, deadK c p.lives p.lives.length, dCels p c c.cs.length⟩
def noDelta : GDelta := ⟨[], [], [], [], [], []⟩
def deltaOf (p c : GState) : GDelta × Bool := if behind p c = true then (deltaRaw p c, true) else (noDelta, false)
theorem dTal_len (p c : GState) (i : Nat) : (dTal p c i).length ≤ i := by have := filK_len (more p.know c.know) [] c.tallies i; simpa [dTal] using this
theorem dLivs_len (p c : GState) (i : Nat) : (dLivs p c i).length ≤ i := by have := filK_len (newB p) [] c.lives i; simpa [dLivs] using this
theorem dCels_len (p c : GState) (i : Nat) : (dCels p c i).length ≤ i := by have := filK_len (newC p) [] c.cs i; simpa [dCels] using this
theorem behind_ok {a b : GState} (h : behind a b = true) : stateOk a = true ∧ stateOk b = true := by
  simp only [behind, Bool.and_eq_true] at h; exact ⟨h.1, h.2.1⟩

@[simp] def h158 : Hts := {  }
theorem f158_ok (x : GCell) (d : GDot) : FnR Tryz.prog 158 [.agg [.str x.obj, .int .i64 x.dot.rep, .int .i64 x.dot.seq, .int .i64 x.time, .int .i64 x.ref.rep, .int .i64 x.ref.seq, .int .i64 x.val, .bool x.gone], .pc [.int .i64 d.rep, .int .i64 d.seq]] (.v (.bool (dotIs d x))) := by
  refine FnW.of_AW TryzT_ok 0 (fn := Tryz.f158) (by kernel_rfl) rfl (by kernel_rfl) rfl rfl rfl ?_
  refine AW_of h158 TryzT_ok (by kernel_rfl) ?_
  simp -dsimp
  simp only [dotIs]
  rw [Bool.eq_iff_iff]; simp [GDot.ext_iff]
@[simp] def h157 : Hts := {  }
theorem f157_ok (xs : List GCell) (d : GDot) (hx : xs.length ≤ 1073741824) : FnR Tryz.prog 157 [.v (.im xs.length (flat xs)), .fn 158 [.pc [.int .i64 d.rep, .int .i64 d.seq]]] (.v (.int .i64 (cellAt xs d))) := by
  refine FnW.of_AW TryzT_ok 0 (fn := Tryz.f157) (by kernel_rfl) rfl (by kernel_rfl) rfl rfl rfl ?_
  refine AW_of h157 TryzT_ok (by kernel_rfl) ?_
  simp -dsimp
  refine AWh_loop (fun i : Nat => i ≤ xs.length ∧ ∀ j : Nat, j < i → dotIs d (nth xs j) = false) (fun i => mkE [(0, .c (.im xs.length (flat xs))), (1, .fn 158 [.pc [.int .i64 d.rep, .int .i64 d.seq] 0]), (7, .c (.int .i64 xs.length)), (8, .c (.int .i64 i))] []) (fun i => xs.length - i) 0 (Wk_to [0, 1, 7, 8] [] rfl rfl (by simp)) (by simp) ?_
  rintro i ⟨hi, hall⟩
  refine AW_of h157 TryzT_ok (by kernel_rfl) ?_
  have wi : IntKind.i64.wrap ((i : Int) + 1) = i + 1 := wrap64 (by omega) (by omega)
  rcases Nat.lt_or_ge i xs.length with h1 | h1
  · simp -dsimp [h1, ne_of_lt h1]
    repeat (first | refine ⟨by omega, ?_⟩ | refine ⟨by simp [capMax]; omega, ?_⟩ | refine ⟨⟨by omega, by omega⟩, ?_⟩)
    refine ACallK_of (f158_ok _ _) ?_
    cases e : dotIs d (nth xs i)
    · simp -dsimp [h1, ne_of_lt h1]
      repeat (first | refine ⟨by omega, ?_⟩ | refine ⟨by simp [capMax]; omega, ?_⟩ | refine ⟨⟨by omega, by omega⟩, ?_⟩)
      refine Back_of (i + 1) [0, 1, 7, 8] [] rfl rfl (by simp [wi]) ⟨by omega, fun j hj => ?_⟩ (by omega)
      by_cases e3 : j = i
      · subst e3; exact e
      · exact hall j (by omega)
    · simp -dsimp [h1, ne_of_lt h1]
      repeat (first | refine ⟨by omega, ?_⟩ | refine ⟨by simp [capMax]; omega, ?_⟩ | refine ⟨⟨by omega, by omega⟩, ?_⟩)
      rw [cellAt, idx_here h1 hall e]
  · simp -dsimp [Nat.not_lt.2 h1]
    rw [cellAt, idx_none (fun j hj => hall j (by omega))]
@[simp] def h94 : Hts := {  }
theorem f94_ok (s : GState) (d : GDot) (ha : s.cs.length ≤ 1073741824) : FnR Tryz.prog 94 [.agg [.im s.know.length (flat s.know), .im s.tallies.length (flat s.tallies), .im s.lives.length (flat s.lives), .im s.cs.length (flat s.cs)], .agg [.int .i64 d.rep, .int .i64 d.seq]] (.v (.int .i64 (cellAt s.cs d))) := by
  refine FnW.of_AW TryzT_ok 0 (fn := Tryz.f94) (by kernel_rfl) rfl (by kernel_rfl) rfl rfl rfl ?_
  refine AW_of h94 TryzT_ok (by kernel_rfl) ?_
  simp -dsimp
  refine ACallK_of (f157_ok _ _ ha) ?_
  simp -dsimp

@[simp] def h24 : Hts := { merge := fun _ => false, mergeF := fun _ => false, dr := fun id => if id = 3 then [{ mb := [6] }, { mb := [6] }, { cr := true, mb := [6] }, { mb := [23, 6] }, { mb := [23, 6] }, { cr := true, mb := [6] }, { mb := [6] }, { cr := true, mb := [23, 26] }, { wr := [384] }] else if id = 7 then [{}, {}, {}, {}, {}, {}, {}, {}, {}, {}, {}, {}, {}] else [] }
set_option maxHeartbeats 8000000 in
theorem f24_ok (p c : GState) (hp : p.Ok) (hc : c.Ok) : FnR Tryz.prog 24 [.agg [.im p.know.length (flat p.know), .im p.tallies.length (flat p.tallies), .im p.lives.length (flat p.lives), .im p.cs.length (flat p.cs)], .agg [.im c.know.length (flat c.know), .im c.tallies.length (flat c.tallies), .im c.lives.length (flat c.lives), .im c.cs.length (flat c.cs)]] (.tup [.agg [.ow 3 1 ((deltaOf p c).1).base.length (flat ((deltaOf p c).1).base), .ow 3 1 ((deltaOf p c).1).know.length (flat ((deltaOf p c).1).know), .ow 118 3 ((deltaOf p c).1).tallies.length (flat ((deltaOf p c).1).tallies), .ow 82 6 ((deltaOf p c).1).lives.length (flat ((deltaOf p c).1).lives), .ow 80 2 ((deltaOf p c).1).dead.length (flat ((deltaOf p c).1).dead), .ow 121 8 ((deltaOf p c).1).cs.length (flat ((deltaOf p c).1).cs)], .v (.bool ((deltaOf p c).2))]) := by
  refine FnW.of_AW TryzT_ok 0 (fn := Tryz.f24) (by kernel_rfl) rfl (by kernel_rfl) rfl rfl rfl ?_
  refine AW_of h24 TryzT_ok (by kernel_rfl) ?_
  simp -dsimp
  refine ACallK_of (f17_ok _ _ hp hc) ?_
  cases g : behind p c
  · simp -dsimp
    simp [deltaOf, g, noDelta]
  obtain ⟨okp, okc⟩ := behind_ok g
  have lp := stateOk_len okp
  have lc := stateOk_len okc
  have kp := stateOk_know okp
  have kc := stateOk_know okc
  have hr := stateOk_reps okc
  simp only [GState.Ok] at hp hc
  simp -dsimp
  refine ACallK_of (f93_ok _ hp.1) ?_
  simp -dsimp
  refine ACallK_of (f93_ok _ hc.1) ?_
  simp -dsimp
  refine AWh_loop (fun i : Nat => i ≤ c.tallies.length) (fun i => mkE [(2, .box 128 0), (3, .box 192 0), (4, .box 256 0), (6, .box 384 0), (29, .c (.im c.tallies.length (flat c.tallies))), (30, .c (.int .i64 c.tallies.length)), (31, .c (.int .i64 i))] [(900003, .arr 0 118 3 (dTal p c i).length (flat (dTal p c i))), (128, .box [.c (.im p.know.length (flat p.know)), .c (.im p.tallies.length (flat p.tallies)), .c (.im p.lives.length (flat p.lives)), .c (.im p.cs.length (flat p.cs))]), (192, .box [.c (.im c.know.length (flat c.know)), .c (.im c.tallies.length (flat c.tallies)), .c (.im c.lives.length (flat c.lives)), .c (.im c.cs.length (flat c.cs))]), (256, .box [.nil, .nil, .nil, .nil, .nil, .nil]), (384, .box [.arr 900001, .arr 900002, .arr 900003, .nil, .nil, .nil]), (900001, .arr 0 3 1 p.know.length (flat p.know)), (900002, .arr 0 3 1 c.know.length (flat c.know))]) (fun i => c.tallies.length - i) 0 (Wk_toA [2, 3, 4, 6, 29, 30, 31] [(128, 128), (192, 192), (256, 256), (384, 384), (900001, 1472), (900002, 1664)] [.cell 384 2 900003 118 3] rfl rfl (by simp [dTal, dLivs, dCels, deadK, filK])) (by simp) ?_
  rintro i hi
  have hal := dTal_len p c i
  refine AW_of h24 TryzT_ok (by kernel_rfl) ?_
  rcases Nat.lt_or_ge i c.tallies.length with h1 | h1
  · have hri := hr i h1
    have q1 : (nth c.tallies i).rep.toNat < c.know.length := by omega
    have q2 : (nth c.tallies i).rep.toNat < p.know.length := by omega
    by_cases g1 : nth p.know (nth c.tallies i).rep.toNat < nth c.know (nth c.tallies i).rep.toNat
    · have hs : dTal p c (i + 1) = dTal p c i ++ [(nth c.tallies i)] := by simp [dTal, filK, more, g1]
      simp -dsimp [h1, ne_of_lt h1, q1, q2, ne_of_lt q1, ne_of_lt q2, g1]
      repeat (first | refine ⟨by omega, ?_⟩ | refine ⟨by simp [capMax]; omega, ?_⟩ | refine ⟨⟨by omega, by omega⟩, ?_⟩)
      exact Back_of (i + 1) [2, 3, 4, 6, 29, 30, 31] [(900003, 3328), (128, 128), (192, 192), (256, 256), (384, 384), (900001, 900001), (900002, 900002)] rfl rfl (by simp [hs]; rw [wrap64 (by omega) (by omega)]) (by omega) (by omega)
    · have hs : dTal p c (i + 1) = dTal p c i := by simp [dTal, filK, more, g1]
      simp -dsimp [h1, ne_of_lt h1, q1, q2, ne_of_lt q1, ne_of_lt q2, g1]
      repeat (first | refine ⟨by omega, ?_⟩ | refine ⟨by simp [capMax]; omega, ?_⟩ | refine ⟨⟨by omega, by omega⟩, ?_⟩)
      exact Back_of (i + 1) [2, 3, 4, 6, 29, 30, 31] [(900003, 900003), (128, 128), (192, 192), (256, 256), (384, 384), (900001, 900001), (900002, 900002)] rfl rfl (by simp [hs]; rw [wrap64 (by omega) (by omega)]) (by omega) (by omega)
  obtain rfl : i = c.tallies.length := by omega
  clear hi h1
  simp -dsimp
  refine AWh_loop (fun i : Nat => i ≤ c.lives.length) (fun i => mkE [(2, .box 128 0), (3, .box 192 0), (4, .box 256 0), (6, .box 384 0), (56, .c (.im c.lives.length (flat c.lives))), (57, .c (.int .i64 c.lives.length)), (58, .c (.int .i64 i))] [(900004, .arr 0 82 6 (dLivs p c i).length (flat (dLivs p c i))), (128, .box [.c (.im p.know.length (flat p.know)), .c (.im p.tallies.length (flat p.tallies)), .c (.im p.lives.length (flat p.lives)), .c (.im p.cs.length (flat p.cs))]), (192, .box [.c (.im c.know.length (flat c.know)), .c (.im c.tallies.length (flat c.tallies)), .c (.im c.lives.length (flat c.lives)), .c (.im c.cs.length (flat c.cs))]), (256, .box [.nil, .nil, .nil, .nil, .nil, .nil]), (384, .box [.arr 900001, .arr 900002, .arr 900003, .arr 900004, .nil, .nil]), (900001, .arr 0 3 1 p.know.length (flat p.know)), (900002, .arr 0 3 1 c.know.length (flat c.know)), (900003, .arr 0 118 3 (dTal p c c.tallies.length).length (flat (dTal p c c.tallies.length)))]) (fun i => c.lives.length - i) 0 (Wk_toA [2, 3, 4, 6, 56, 57, 58] [(128, 128), (192, 192), (256, 256), (384, 384), (900001, 900001), (900002, 900002), (900003, 900003)] [.cell 384 3 900004 82 6] rfl rfl (by simp [dTal, dLivs, dCels, deadK, filK])) (by simp) ?_
  rintro i hi
  have hal := dLivs_len p c i
  refine AW_of h24 TryzT_ok (by kernel_rfl) ?_
  rcases Nat.lt_or_ge i c.lives.length with h1 | h1
  · simp -dsimp [h1, ne_of_lt h1]
    repeat (first | refine ⟨by omega, ?_⟩ | refine ⟨by simp [capMax]; omega, ?_⟩ | refine ⟨⟨by omega, by omega⟩, ?_⟩)
    refine ACallK_of (f59_ok _ _ hp.1) ?_
    cases g1 : knows p.know (nth c.lives i).dot
    · have hs : dLivs p c (i + 1) = dLivs p c i ++ [(nth c.lives i)] := by simp [dLivs, filK, newB, g1]
      simp -dsimp [h1, ne_of_lt h1]
      repeat (first | refine ⟨by omega, ?_⟩ | refine ⟨by simp [capMax]; omega, ?_⟩ | refine ⟨⟨by omega, by omega⟩, ?_⟩)
      exact Back_of (i + 1) [2, 3, 4, 6, 56, 57, 58] [(900004, 4608), (128, 128), (192, 192), (256, 256), (384, 384), (900001, 900001), (900002, 900002), (900003, 900003)] rfl rfl (by simp [hs]; rw [wrap64 (by omega) (by omega)]) (by omega) (by omega)
    · have hs : dLivs p c (i + 1) = dLivs p c i := by simp [dLivs, filK, newB, g1]
      simp -dsimp [h1, ne_of_lt h1]
      repeat (first | refine ⟨by omega, ?_⟩ | refine ⟨by simp [capMax]; omega, ?_⟩ | refine ⟨⟨by omega, by omega⟩, ?_⟩)
      exact Back_of (i + 1) [2, 3, 4, 6, 56, 57, 58] [(900004, 900004), (128, 128), (192, 192), (256, 256), (384, 384), (900001, 900001), (900002, 900002), (900003, 900003)] rfl rfl (by simp [hs]; rw [wrap64 (by omega) (by omega)]) (by omega) (by omega)
  obtain rfl : i = c.lives.length := by omega
  clear hi h1
  simp -dsimp
  refine AWh_loop (fun i : Nat => i ≤ p.lives.length) (fun i => mkE [(2, .box 128 0), (3, .box 192 0), (4, .box 256 0), (6, .box 384 0), (76, .c (.im p.lives.length (flat p.lives))), (77, .c (.int .i64 p.lives.length)), (78, .c (.int .i64 i))] [(900005, .arr 0 80 2 (deadK c p.lives i).length (flat (deadK c p.lives i))), (128, .box [.c (.im p.know.length (flat p.know)), .c (.im p.tallies.length (flat p.tallies)), .c (.im p.lives.length (flat p.lives)), .c (.im p.cs.length (flat p.cs))]), (192, .box [.c (.im c.know.length (flat c.know)), .c (.im c.tallies.length (flat c.tallies)), .c (.im c.lives.length (flat c.lives)), .c (.im c.cs.length (flat c.cs))]), (256, .box [.nil, .nil, .nil, .nil, .nil, .nil]), (384, .box [.arr 900001, .arr 900002, .arr 900003, .arr 900004, .arr 900005, .nil]), (900001, .arr 0 3 1 p.know.length (flat p.know)), (900002, .arr 0 3 1 c.know.length (flat c.know)), (900003, .arr 0 118 3 (dTal p c c.tallies.length).length (flat (dTal p c c.tallies.length))), (900004, .arr 0 82 6 (dLivs p c c.lives.length).length (flat (dLivs p c c.lives.length)))]) (fun i => p.lives.length - i) 0 (Wk_toA [2, 3, 4, 6, 76, 77, 78] [(128, 128), (192, 192), (256, 256), (384, 384), (900001, 900001), (900002, 900002), (900003, 900003), (900004, 900004)] [.cell 384 4 900005 80 2] rfl rfl (by simp [dTal, dLivs, dCels, deadK, filK])) (by simp) ?_
  rintro i hi
  have hal := deadK_len c p.lives i
  refine AW_of h24 TryzT_ok (by kernel_rfl) ?_
  rcases Nat.lt_or_ge i p.lives.length with h1 | h1
  · simp -dsimp [h1, ne_of_lt h1]
    repeat (first | refine ⟨by omega, ?_⟩ | refine ⟨by simp [capMax]; omega, ?_⟩ | refine ⟨⟨by omega, by omega⟩, ?_⟩)
    refine ACallK_of (f58_ok _ _ hc.2.2.2.1) ?_
    cases g1 : hasX c.lives (nth p.lives i)
    · have hs : deadK c p.lives (i + 1) = deadK c p.lives i ++ [(nth p.lives i).dot] := by simp [deadK, g1]
      simp -dsimp [h1, ne_of_lt h1]
      repeat (first | refine ⟨by omega, ?_⟩ | refine ⟨by simp [capMax]; omega, ?_⟩ | refine ⟨⟨by omega, by omega⟩, ?_⟩)
      exact Back_of (i + 1) [2, 3, 4, 6, 76, 77, 78] [(900005, 5824), (128, 128), (192, 192), (256, 256), (384, 384), (900001, 900001), (900002, 900002), (900003, 900003), (900004, 900004)] rfl rfl (by simp [hs]; rw [wrap64 (by omega) (by omega)]) (by omega) (by omega)
    · have hs : deadK c p.lives (i + 1) = deadK c p.lives i := by simp [deadK, g1]
      simp -dsimp [h1, ne_of_lt h1]
      repeat (first | refine ⟨by omega, ?_⟩ | refine ⟨by simp [capMax]; omega, ?_⟩ | refine ⟨⟨by omega, by omega⟩, ?_⟩)
      exact Back_of (i + 1) [2, 3, 4, 6, 76, 77, 78] [(900005, 900005), (128, 128), (192, 192), (256, 256), (384, 384), (900001, 900001), (900002, 900002), (900003, 900003), (900004, 900004)] rfl rfl (by simp [hs]; rw [wrap64 (by omega) (by omega)]) (by omega) (by omega)
  obtain rfl : i = p.lives.length := by omega
  clear hi h1
  simp -dsimp
  refine AWh_loop (fun i : Nat => i ≤ c.cs.length) (fun i => mkE [(2, .box 128 0), (4, .box 256 0), (6, .box 384 0), (95, .c (.im c.cs.length (flat c.cs))), (96, .c (.int .i64 c.cs.length)), (97, .c (.int .i64 i))] [(900006, .arr 0 121 8 (dCels p c i).length (flat (dCels p c i))), (128, .box [.c (.im p.know.length (flat p.know)), .c (.im p.tallies.length (flat p.tallies)), .c (.im p.lives.length (flat p.lives)), .c (.im p.cs.length (flat p.cs))]), (256, .box [.nil, .nil, .nil, .nil, .nil, .nil]), (384, .box [.arr 900001, .arr 900002, .arr 900003, .arr 900004, .arr 900005, .arr 900006]), (900001, .arr 0 3 1 p.know.length (flat p.know)), (900002, .arr 0 3 1 c.know.length (flat c.know)), (900003, .arr 0 118 3 (dTal p c c.tallies.length).length (flat (dTal p c c.tallies.length))), (900004, .arr 0 82 6 (dLivs p c c.lives.length).length (flat (dLivs p c c.lives.length))), (900005, .arr 0 80 2 (deadK c p.lives p.lives.length).length (flat (deadK c p.lives p.lives.length)))]) (fun i => c.cs.length - i) 0 (Wk_toA [2, 4, 6, 95, 96, 97] [(128, 128), (256, 256), (384, 384), (900001, 900001), (900002, 900002), (900003, 900003), (900004, 900004), (900005, 900005)] [.cell 384 5 900006 121 8] rfl rfl (by simp [dTal, dLivs, dCels, deadK, filK])) (by simp) ?_
  rintro i hi
  have hal := dCels_len p c i
  refine AW_of h24 TryzT_ok (by kernel_rfl) ?_
  rcases Nat.lt_or_ge i c.cs.length with h1 | h1
  · simp -dsimp [h1, ne_of_lt h1]
    repeat (first | refine ⟨by omega, ?_⟩ | refine ⟨by simp [capMax]; omega, ?_⟩ | refine ⟨⟨by omega, by omega⟩, ?_⟩)
    refine ACallK_of (f94_ok _ _ hp.2.2.2.2.2.1) ?_
    rcases cellAt_cases p.cs (nth c.cs i).dot with g1 | ⟨j, hj, g1⟩
    · have hs : dCels p c (i + 1) = dCels p c i ++ [(nth c.cs i)] := by simp [dCels, filK, newC, g1]
      rw [g1]
      simp -dsimp [h1, ne_of_lt h1]
      repeat (first | refine ⟨by omega, ?_⟩ | refine ⟨by simp [capMax]; omega, ?_⟩ | refine ⟨⟨by omega, by omega⟩, ?_⟩)
      exact Back_of (i + 1) [2, 4, 6, 95, 96, 97] [(900006, 7936), (128, 128), (256, 256), (384, 384), (900001, 900001), (900002, 900002), (900003, 900003), (900004, 900004), (900005, 900005)] rfl rfl (by simp [hs]; rw [wrap64 (by omega) (by omega)]) (by omega) (by omega)
    · rw [g1]
      have jn : ¬ (j : Int) < 0 := by omega
      cases g2 : (nth c.cs i).gone
      · have hs : dCels p c (i + 1) = dCels p c i := by simp [dCels, filK, newC, g1, g2, jn]
        simp -dsimp [h1, ne_of_lt h1, jn, hj, ne_of_lt hj, g2]
        repeat (first | refine ⟨by omega, ?_⟩ | refine ⟨by simp [capMax]; omega, ?_⟩ | refine ⟨⟨by omega, by omega⟩, ?_⟩)
        exact Back_of (i + 1) [2, 4, 6, 95, 96, 97] [(900006, 900006), (128, 128), (256, 256), (384, 384), (900001, 900001), (900002, 900002), (900003, 900003), (900004, 900004), (900005, 900005)] rfl rfl (by simp [hs]; rw [wrap64 (by omega) (by omega)]) (by omega) (by omega)
      · cases g3 : (nth p.cs j).gone
        · have he : (nth c.cs i) = ⟨(nth c.cs i).obj, (nth c.cs i).dot, (nth c.cs i).time, (nth c.cs i).ref, (nth c.cs i).val, true⟩ := by rw [← g2]
          have hs : dCels p c (i + 1) = dCels p c i ++ [⟨(nth c.cs i).obj, (nth c.cs i).dot, (nth c.cs i).time, (nth c.cs i).ref, (nth c.cs i).val, true⟩] := by rw [← he]; simp [dCels, filK, newC, g1, g2, g3, jn]
          clear he
          simp -dsimp [h1, ne_of_lt h1, jn, hj, ne_of_lt hj, g2, g3]
          repeat (first | refine ⟨by omega, ?_⟩ | refine ⟨by simp [capMax]; omega, ?_⟩ | refine ⟨⟨by omega, by omega⟩, ?_⟩)
          exact Back_of (i + 1) [2, 4, 6, 95, 96, 97] [(900006, 7936), (128, 128), (256, 256), (384, 384), (900001, 900001), (900002, 900002), (900003, 900003), (900004, 900004), (900005, 900005)] rfl rfl (by simp [hs]; rw [wrap64 (by omega) (by omega)]) (by omega) (by omega)
        · have hs : dCels p c (i + 1) = dCels p c i := by simp [dCels, filK, newC, g1, g2, g3, jn]
          simp -dsimp [h1, ne_of_lt h1, jn, hj, ne_of_lt hj, g2, g3]
          repeat (first | refine ⟨by omega, ?_⟩ | refine ⟨by simp [capMax]; omega, ?_⟩ | refine ⟨⟨by omega, by omega⟩, ?_⟩)
          exact Back_of (i + 1) [2, 4, 6, 95, 96, 97] [(900006, 900006), (128, 128), (256, 256), (384, 384), (900001, 900001), (900002, 900002), (900003, 900003), (900004, 900004), (900005, 900005)] rfl rfl (by simp [hs]; rw [wrap64 (by omega) (by omega)]) (by omega) (by omega)
  obtain rfl : i = c.cs.length := by omega
  clear hi h1
  simp -dsimp
  simp [deltaOf, g, deltaRaw]

@[simp] def h23 : Hts := { merge := fun _ => false, mergeF := fun _ => false, dr := fun id => if id = 3 then [{ cr := true, mb := [22, 6] }, { mb := [18, 22, 6] }, { mb := [18, 22, 6] }, { wr := [1152], cr := true, mb := [22, 6] }, { mn := [1152], cr := true, mb := [18, 21, 6] }, { mn := [1152], mb := [18, 21, 22, 6] }, { mn := [1152], mb := [18, 21, 22, 6] }, { wr := [1408], cr := true, mb := [6] }, { mb := [6] }, { mn := [1152, 1408], cr := true, mb := [18, 21, 22, 25] }, { wr := [384] }] else if id = 8 then [{}, {}, {}, {}, {}, {}, {}, {}, {}, {}, {}] else if id = 9 then [{ mb := [58] }, { mb := [58] }, {}, {}, {}, {}, {}, { cr := true }, { wr := [3328, 900003], cr := true }, {}, { wr := [384] }] else if id = 13 then [{}, {}, {}, {}, {}, {}, {}, {}, { cr := true }, {}] else if id = 14 then [{ mb := [85] }, { mb := [85] }, {}, {}, {}, {}, {}, { cr := true }, { wr := [5056, 900004], cr := true }, {}, { wr := [384] }] else if id = 18 then [{}, {}, {}, {}, {}, {}, {}, { cr := true }, {}] else if id = 19 then [{ mb := [112] }, { mb := [112] }, {}, {}, {}, {}, {}, {}, { cr := true }, { wr := [6720, 900005], cr := true }, {}, { wr := [384] }] else if id = 23 then [{}, {}, {}, {}, {}, {}, {}, { cr := true }, {}] else if id = 25 then [{ mb := [156] }, { mb := [156] }, {}, {}, {}, {}, {}, { cr := true }, { wr := [9600, 900006], cr := true }, {}, { wr := [384] }] else [] }
set_option maxHeartbeats 8000000 in
theorem f23_ok (p c : GState) (hp : p.Ok) (hc : c.Ok) : FnR Tryz.prog 23 [.agg [.im p.know.length (flat p.know), .im p.tallies.length (flat p.tallies), .im p.lives.length (flat p.lives), .im p.cs.length (flat p.cs)], .agg [.im c.know.length (flat c.know), .im c.tallies.length (flat c.tallies), .im c.lives.length (flat c.lives), .im c.cs.length (flat c.cs)]] (.tup [.agg [.ow 3 1 ((deltaOf p c).1).base.length (flat ((deltaOf p c).1).base), .ow 3 1 ((deltaOf p c).1).know.length (flat ((deltaOf p c).1).know), .ow 118 3 ((deltaOf p c).1).tallies.length (flat ((deltaOf p c).1).tallies), .ow 82 6 ((deltaOf p c).1).lives.length (flat ((deltaOf p c).1).lives), .ow 80 2 ((deltaOf p c).1).dead.length (flat ((deltaOf p c).1).dead), .ow 121 8 ((deltaOf p c).1).cs.length (flat ((deltaOf p c).1).cs)], .v (.bool ((deltaOf p c).2))]) := by
  refine FnW.of_AW TryzT_ok 0 (fn := Tryz.f23) (by kernel_rfl) rfl (by kernel_rfl) rfl rfl rfl ?_
  refine AW_of h23 TryzT_ok (by kernel_rfl) ?_
  simp -dsimp
  refine ACallK_of (f16_ok _ _ hp hc) ?_
  cases g : behind p c
  · simp -dsimp
    simp [deltaOf, g, noDelta]
  obtain ⟨okp, okc⟩ := behind_ok g
  have lp := stateOk_len okp
  have lc := stateOk_len okc
  have kp := stateOk_know okp
  have kc := stateOk_know okc
  have hr := stateOk_reps okc
  simp only [GState.Ok] at hp hc
  simp -dsimp
  repeat (first | refine ⟨by omega, ?_⟩ | refine ⟨by simp [capMax]; omega, ?_⟩ | refine ⟨⟨by omega, by omega⟩, ?_⟩)
  refine AWh_loop (fun i : Nat => i ≤ c.tallies.length) (fun i => mkE [(2, .box 128 0), (3, .box 192 0), (4, .box 256 0), (6, .box 384 0), (7, .c (.int .i64 i))] [(900003, .arr 0 118 3 (dTal p c i).length (flat (dTal p c i))), (128, .box [.c (.im p.know.length (flat p.know)), .c (.im p.tallies.length (flat p.tallies)), .c (.im p.lives.length (flat p.lives)), .c (.im p.cs.length (flat p.cs))]), (192, .box [.c (.im c.know.length (flat c.know)), .c (.im c.tallies.length (flat c.tallies)), .c (.im c.lives.length (flat c.lives)), .c (.im c.cs.length (flat c.cs))]), (256, .box [.nil, .nil, .nil, .nil, .nil, .nil]), (384, .box [.arr 900001, .arr 900002, .arr 900003, .nil, .nil, .nil]), (900001, .arr 0 3 1 p.know.length (flat p.know)), (900002, .arr 0 3 1 c.know.length (flat c.know))]) (fun i => c.tallies.length - i) 0 (Wk_toA [2, 3, 4, 6, 7] [(128, 128), (192, 192), (256, 256), (384, 384), (900001, 1344), (900002, 1600)] [.cell 384 2 900003 118 3] rfl rfl (by simp [dTal, dLivs, dCels, deadK, filK])) (by simp) ?_
  rintro i hi
  have hal := dTal_len p c i
  refine AW_of h23 TryzT_ok (by kernel_rfl) ?_
  rcases Nat.lt_or_ge i c.tallies.length with h1 | h1
  · have hri := hr i h1
    have q1 : (nth c.tallies i).rep.toNat < c.know.length := by omega
    have q2 : (nth c.tallies i).rep.toNat < p.know.length := by omega
    by_cases g1 : nth p.know (nth c.tallies i).rep.toNat < nth c.know (nth c.tallies i).rep.toNat
    · have hs : dTal p c (i + 1) = dTal p c i ++ [(nth c.tallies i)] := by simp [dTal, filK, more, g1]
      simp -dsimp [h1, ne_of_lt h1, q1, q2, ne_of_lt q1, ne_of_lt q2, g1]
      repeat (first | refine ⟨by omega, ?_⟩ | refine ⟨by simp [capMax]; omega, ?_⟩ | refine ⟨⟨by omega, by omega⟩, ?_⟩)
      exact Back_of (i + 1) [2, 3, 4, 6, 7] [(900003, 3776), (128, 128), (192, 192), (256, 256), (384, 384), (900001, 900001), (900002, 900002)] rfl rfl (by simp [hs]; rw [wrap64 (by omega) (by omega)]) (by omega) (by omega)
    · have hs : dTal p c (i + 1) = dTal p c i := by simp [dTal, filK, more, g1]
      simp -dsimp [h1, ne_of_lt h1, q1, q2, ne_of_lt q1, ne_of_lt q2, g1]
      repeat (first | refine ⟨by omega, ?_⟩ | refine ⟨by simp [capMax]; omega, ?_⟩ | refine ⟨⟨by omega, by omega⟩, ?_⟩)
      exact Back_of (i + 1) [2, 3, 4, 6, 7] [(900003, 900003), (128, 128), (192, 192), (256, 256), (384, 384), (900001, 900001), (900002, 900002)] rfl rfl (by simp [hs]; rw [wrap64 (by omega) (by omega)]) (by omega) (by omega)
  obtain rfl : i = c.tallies.length := by omega
  clear hi h1
  simp -dsimp
  refine AWh_loop (fun i : Nat => i ≤ c.lives.length) (fun i => mkE [(2, .box 128 0), (3, .box 192 0), (4, .box 256 0), (6, .box 384 0), (9, .c (.int .i64 i))] [(900004, .arr 0 82 6 (dLivs p c i).length (flat (dLivs p c i))), (128, .box [.c (.im p.know.length (flat p.know)), .c (.im p.tallies.length (flat p.tallies)), .c (.im p.lives.length (flat p.lives)), .c (.im p.cs.length (flat p.cs))]), (192, .box [.c (.im c.know.length (flat c.know)), .c (.im c.tallies.length (flat c.tallies)), .c (.im c.lives.length (flat c.lives)), .c (.im c.cs.length (flat c.cs))]), (256, .box [.nil, .nil, .nil, .nil, .nil, .nil]), (384, .box [.arr 900001, .arr 900002, .arr 900003, .arr 900004, .nil, .nil]), (900001, .arr 0 3 1 p.know.length (flat p.know)), (900002, .arr 0 3 1 c.know.length (flat c.know)), (900003, .arr 0 118 3 (dTal p c c.tallies.length).length (flat (dTal p c c.tallies.length)))]) (fun i => c.lives.length - i) 0 (Wk_toA [2, 3, 4, 6, 9] [(128, 128), (192, 192), (256, 256), (384, 384), (900001, 900001), (900002, 900002), (900003, 900003)] [.cell 384 3 900004 82 6] rfl rfl (by simp [dTal, dLivs, dCels, deadK, filK])) (by simp) ?_
  rintro i hi
  have hal := dLivs_len p c i
  refine AW_of h23 TryzT_ok (by kernel_rfl) ?_
  rcases Nat.lt_or_ge i c.lives.length with h1 | h1
  · simp -dsimp [h1, ne_of_lt h1]
    repeat (first | refine ⟨by omega, ?_⟩ | refine ⟨by simp [capMax]; omega, ?_⟩ | refine ⟨⟨by omega, by omega⟩, ?_⟩)
    refine ACallK_of (f46_ok _ _ hp.1) ?_
    cases g1 : knows p.know (nth c.lives i).dot
    · have hs : dLivs p c (i + 1) = dLivs p c i ++ [(nth c.lives i)] := by simp [dLivs, filK, newB, g1]
      simp -dsimp [h1, ne_of_lt h1]
      repeat (first | refine ⟨by omega, ?_⟩ | refine ⟨by simp [capMax]; omega, ?_⟩ | refine ⟨⟨by omega, by omega⟩, ?_⟩)
      exact Back_of (i + 1) [2, 3, 4, 6, 9] [(900004, 5504), (128, 128), (192, 192), (256, 256), (384, 384), (900001, 900001), (900002, 900002), (900003, 900003)] rfl rfl (by simp [hs]; rw [wrap64 (by omega) (by omega)]) (by omega) (by omega)
    · have hs : dLivs p c (i + 1) = dLivs p c i := by simp [dLivs, filK, newB, g1]
      simp -dsimp [h1, ne_of_lt h1]
      repeat (first | refine ⟨by omega, ?_⟩ | refine ⟨by simp [capMax]; omega, ?_⟩ | refine ⟨⟨by omega, by omega⟩, ?_⟩)
      exact Back_of (i + 1) [2, 3, 4, 6, 9] [(900004, 900004), (128, 128), (192, 192), (256, 256), (384, 384), (900001, 900001), (900002, 900002), (900003, 900003)] rfl rfl (by simp [hs]; rw [wrap64 (by omega) (by omega)]) (by omega) (by omega)
  obtain rfl : i = c.lives.length := by omega
  clear hi h1
  simp -dsimp
  refine AWh_loop (fun i : Nat => i ≤ p.lives.length) (fun i => mkE [(2, .box 128 0), (3, .box 192 0), (4, .box 256 0), (6, .box 384 0), (10, .c (.int .i64 i))] [(900005, .arr 0 80 2 (deadK c p.lives i).length (flat (deadK c p.lives i))), (128, .box [.c (.im p.know.length (flat p.know)), .c (.im p.tallies.length (flat p.tallies)), .c (.im p.lives.length (flat p.lives)), .c (.im p.cs.length (flat p.cs))]), (192, .box [.c (.im c.know.length (flat c.know)), .c (.im c.tallies.length (flat c.tallies)), .c (.im c.lives.length (flat c.lives)), .c (.im c.cs.length (flat c.cs))]), (256, .box [.nil, .nil, .nil, .nil, .nil, .nil]), (384, .box [.arr 900001, .arr 900002, .arr 900003, .arr 900004, .arr 900005, .nil]), (900001, .arr 0 3 1 p.know.length (flat p.know)), (900002, .arr 0 3 1 c.know.length (flat c.know)), (900003, .arr 0 118 3 (dTal p c c.tallies.length).length (flat (dTal p c c.tallies.length))), (900004, .arr 0 82 6 (dLivs p c c.lives.length).length (flat (dLivs p c c.lives.length)))]) (fun i => p.lives.length - i) 0 (Wk_toA [2, 3, 4, 6, 10] [(128, 128), (192, 192), (256, 256), (384, 384), (900001, 900001), (900002, 900002), (900003, 900003), (900004, 900004)] [.cell 384 4 900005 80 2] rfl rfl (by simp [dTal, dLivs, dCels, deadK, filK])) (by simp) ?_
  rintro i hi
  have hal := deadK_len c p.lives i
  refine AW_of h23 TryzT_ok (by kernel_rfl) ?_
  rcases Nat.lt_or_ge i p.lives.length with h1 | h1
  · simp -dsimp [h1, ne_of_lt h1]
    repeat (first | refine ⟨by omega, ?_⟩ | refine ⟨by simp [capMax]; omega, ?_⟩ | refine ⟨⟨by omega, by omega⟩, ?_⟩)
    refine ACallK_of (f47_ok _ _ hc.2.2.2.1) ?_
    cases g1 : hasX c.lives (nth p.lives i)
    · have hs : deadK c p.lives (i + 1) = deadK c p.lives i ++ [(nth p.lives i).dot] := by simp [deadK, g1]
      simp -dsimp [h1, ne_of_lt h1]
      repeat (first | refine ⟨by omega, ?_⟩ | refine ⟨by simp [capMax]; omega, ?_⟩ | refine ⟨⟨by omega, by omega⟩, ?_⟩)
      exact Back_of (i + 1) [2, 3, 4, 6, 10] [(900005, 7232), (128, 128), (192, 192), (256, 256), (384, 384), (900001, 900001), (900002, 900002), (900003, 900003), (900004, 900004)] rfl rfl (by simp [hs]; rw [wrap64 (by omega) (by omega)]) (by omega) (by omega)
    · have hs : deadK c p.lives (i + 1) = deadK c p.lives i := by simp [deadK, g1]
      simp -dsimp [h1, ne_of_lt h1]
      repeat (first | refine ⟨by omega, ?_⟩ | refine ⟨by simp [capMax]; omega, ?_⟩ | refine ⟨⟨by omega, by omega⟩, ?_⟩)
      exact Back_of (i + 1) [2, 3, 4, 6, 10] [(900005, 900005), (128, 128), (192, 192), (256, 256), (384, 384), (900001, 900001), (900002, 900002), (900003, 900003), (900004, 900004)] rfl rfl (by simp [hs]; rw [wrap64 (by omega) (by omega)]) (by omega) (by omega)
  obtain rfl : i = p.lives.length := by omega
  clear hi h1
  simp -dsimp
  refine AWh_loop (fun i : Nat => i ≤ c.cs.length) (fun i => mkE [(2, .box 128 0), (3, .box 192 0), (4, .box 256 0), (6, .box 384 0), (11, .c (.int .i64 i))] [(900006, .arr 0 121 8 (dCels p c i).length (flat (dCels p c i))), (128, .box [.c (.im p.know.length (flat p.know)), .c (.im p.tallies.length (flat p.tallies)), .c (.im p.lives.length (flat p.lives)), .c (.im p.cs.length (flat p.cs))]), (192, .box [.c (.im c.know.length (flat c.know)), .c (.im c.tallies.length (flat c.tallies)), .c (.im c.lives.length (flat c.lives)), .c (.im c.cs.length (flat c.cs))]), (256, .box [.nil, .nil, .nil, .nil, .nil, .nil]), (384, .box [.arr 900001, .arr 900002, .arr 900003, .arr 900004, .arr 900005, .arr 900006]), (900001, .arr 0 3 1 p.know.length (flat p.know)), (900002, .arr 0 3 1 c.know.length (flat c.know)), (900003, .arr 0 118 3 (dTal p c c.tallies.length).length (flat (dTal p c c.tallies.length))), (900004, .arr 0 82 6 (dLivs p c c.lives.length).length (flat (dLivs p c c.lives.length))), (900005, .arr 0 80 2 (deadK c p.lives p.lives.length).length (flat (deadK c p.lives p.lives.length)))]) (fun i => c.cs.length - i) 0 (Wk_toA [2, 3, 4, 6, 11] [(128, 128), (192, 192), (256, 256), (384, 384), (900001, 900001), (900002, 900002), (900003, 900003), (900004, 900004), (900005, 900005)] [.cell 384 5 900006 121 8] rfl rfl (by simp [dTal, dLivs, dCels, deadK, filK])) (by simp) ?_
  rintro i hi
  have hal := dCels_len p c i
  refine AW_of h23 TryzT_ok (by kernel_rfl) ?_
  rcases Nat.lt_or_ge i c.cs.length with h1 | h1
  · simp -dsimp [h1, ne_of_lt h1]
    repeat (first | refine ⟨by omega, ?_⟩ | refine ⟨by simp [capMax]; omega, ?_⟩ | refine ⟨⟨by omega, by omega⟩, ?_⟩)
    refine ACallK_of (f92_ok _ _ hp.2.2.2.2.2.1) ?_
    rcases cellAt_cases p.cs (nth c.cs i).dot with g1 | ⟨j, hj, g1⟩
    · have hs : dCels p c (i + 1) = dCels p c i ++ [(nth c.cs i)] := by simp [dCels, filK, newC, g1]
      rw [g1]
      simp -dsimp [h1, ne_of_lt h1]
      repeat (first | refine ⟨by omega, ?_⟩ | refine ⟨by simp [capMax]; omega, ?_⟩ | refine ⟨⟨by omega, by omega⟩, ?_⟩)
      exact Back_of (i + 1) [2, 3, 4, 6, 11] [(900006, 10048), (128, 128), (192, 192), (256, 256), (384, 384), (900001, 900001), (900002, 900002), (900003, 900003), (900004, 900004), (900005, 900005)] rfl rfl (by simp [hs]; rw [wrap64 (by omega) (by omega)]) (by omega) (by omega)
    · rw [g1]
      have jn : ¬ (j : Int) < 0 := by omega
      cases g2 : (nth c.cs i).gone
      · have hs : dCels p c (i + 1) = dCels p c i := by simp [dCels, filK, newC, g1, g2, jn]
        simp -dsimp [h1, ne_of_lt h1, jn, hj, ne_of_lt hj, g2]
        repeat (first | refine ⟨by omega, ?_⟩ | refine ⟨by simp [capMax]; omega, ?_⟩ | refine ⟨⟨by omega, by omega⟩, ?_⟩)
        exact Back_of (i + 1) [2, 3, 4, 6, 11] [(900006, 900006), (128, 128), (192, 192), (256, 256), (384, 384), (900001, 900001), (900002, 900002), (900003, 900003), (900004, 900004), (900005, 900005)] rfl rfl (by simp [hs]; rw [wrap64 (by omega) (by omega)]) (by omega) (by omega)
      · cases g3 : (nth p.cs j).gone
        · have he : (nth c.cs i) = ⟨(nth c.cs i).obj, (nth c.cs i).dot, (nth c.cs i).time, (nth c.cs i).ref, (nth c.cs i).val, true⟩ := by rw [← g2]
          have hs : dCels p c (i + 1) = dCels p c i ++ [⟨(nth c.cs i).obj, (nth c.cs i).dot, (nth c.cs i).time, (nth c.cs i).ref, (nth c.cs i).val, true⟩] := by rw [← he]; simp [dCels, filK, newC, g1, g2, g3, jn]
          clear he
          simp -dsimp [h1, ne_of_lt h1, jn, hj, ne_of_lt hj, g2, g3]
          repeat (first | refine ⟨by omega, ?_⟩ | refine ⟨by simp [capMax]; omega, ?_⟩ | refine ⟨⟨by omega, by omega⟩, ?_⟩)
          exact Back_of (i + 1) [2, 3, 4, 6, 11] [(900006, 10048), (128, 128), (192, 192), (256, 256), (384, 384), (900001, 900001), (900002, 900002), (900003, 900003), (900004, 900004), (900005, 900005)] rfl rfl (by simp [hs]; rw [wrap64 (by omega) (by omega)]) (by omega) (by omega)
        · have hs : dCels p c (i + 1) = dCels p c i := by simp [dCels, filK, newC, g1, g2, g3, jn]
          simp -dsimp [h1, ne_of_lt h1, jn, hj, ne_of_lt hj, g2, g3]
          repeat (first | refine ⟨by omega, ?_⟩ | refine ⟨by simp [capMax]; omega, ?_⟩ | refine ⟨⟨by omega, by omega⟩, ?_⟩)
          exact Back_of (i + 1) [2, 3, 4, 6, 11] [(900006, 900006), (128, 128), (192, 192), (256, 256), (384, 384), (900001, 900001), (900002, 900002), (900003, 900003), (900004, 900004), (900005, 900005)] rfl rfl (by simp [hs]; rw [wrap64 (by omega) (by omega)]) (by omega) (by omega)
  obtain rfl : i = c.cs.length := by omega
  clear hi h1
  simp -dsimp
  simp [deltaOf, g, deltaRaw]
end Am
