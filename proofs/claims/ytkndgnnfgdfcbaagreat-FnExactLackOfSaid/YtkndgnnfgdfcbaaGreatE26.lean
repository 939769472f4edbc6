/- What one lacks: of both. No condition. -/
import Derived.Test.YtkndgnnfgdfcbaaGreatT
import Derived.Test.YtkndgnnfgdfcbaaGreatD
import Derived.Test.YtkndgnnfgdfcbaaGreatE25
import Derived.Test.YtkndgnnfgdfcbaaGreatAm31
namespace Am
open Go Go.Proofs
open Cel (cells)
set_option maxRecDepth 100000
set_option linter.unusedSimpArgs false
set_option linter.unusedVariables false

def knowAt (k : List Int) (u : GUnit) (j : Nat) : Bool := knows k (nth (coversD u) j)
def knowAll (k : List Int) (u : GUnit) : Bool := allB (knowAt k u) (coversD u).length
def lackK (l : GLog) (k : List Int) : Nat → List GUnit
  | 0 => []
  | n + 1 => if knowAll k (nth l.units n) = true then lackK l k n else lackK l k n ++ [nth l.units n]
def lackOf (l : GLog) (k : List Int) : List GUnit := if knowOk k = true then lackK l k l.units.length else []
theorem dotsIn_len (a b : List Int) : (dotsIn a b).length ≤ 3000 := by
  unfold dotsIn
  split
  · rename_i h
    simp only [Bool.and_eq_true] at h
    have h3 : a.length = 3 := by have := h.1; simp [knowOk] at this; exact this.1
    have := rowsK_len h.1 h.2 a.length (by omega)
    omega
  · simp
theorem coversD_len (u : GUnit) : (coversD u).length ≤ 3000 := by
  have := dotsIn_len u.delta.base u.delta.know
  unfold coversD
  split
  · split
    · omega
    · simp
  · simp
theorem lackK_len (l : GLog) (k : List Int) : ∀ n, (lackK l k n).length ≤ n
  | 0 => by simp [lackK]
  | n + 1 => by
    have := lackK_len l k n
    simp only [lackK]
    split
    · omega
    · simp; omega

@[simp] def h12 : Hts := { merge := fun _ => false, mergeF := fun _ => false }
set_option maxHeartbeats 2000000 in
theorem f12_ok (l : GLog) (k : List Int) (h : l.Ok) (hk : k.length ≤ 1073741824) : FnR Tryz.prog 12 [.agg [.int .i64 l.rep, .int .i64 l.time, .im l.state.know.length (flat l.state.know), .im l.state.tallies.length (flat l.state.tallies), .im l.state.lives.length (flat l.state.lives), .im l.state.cs.length (flat l.state.cs), .im l.units.length (flat l.units), .im l.waits.length (flat l.waits)], .v (.im k.length (flat k))] (.v (.ow 48 17 (lackOf l k).length (flatO (lackOf l k)))) := by
  simp only [GLog.Ok] at h
  obtain ⟨h0, h1, h2, h3, h4⟩ := h
  refine FnW.of_AW TryzT_ok 0 (fn := Tryz.f12) (by kernel_rfl) rfl (by kernel_rfl) rfl rfl rfl ?_
  refine AW_of h12 TryzT_ok (by kernel_rfl) ?_
  simp -dsimp
  refine ACallK_of (f45_ok _ hk) ?_
  cases g : knowOk k
  · simp -dsimp
    simp [lackOf, g]
  simp -dsimp
  refine AWh_loop (fun i : Nat => i ≤ l.units.length) (fun i => mkE [(1, .c (.im k.length (flat k))), (2, .box 128 0), (5, .arr 320), (6, .c (.int .i64 i))] [(128, .box [.c (.int .i64 l.rep), .c (.int .i64 l.time), .c (.im l.state.know.length (flat l.state.know)), .c (.im l.state.tallies.length (flat l.state.tallies)), .c (.im l.state.lives.length (flat l.state.lives)), .c (.im l.state.cs.length (flat l.state.cs)), .c (.im l.units.length (flat l.units)), .c (.im l.waits.length (flat l.waits))]), (320, .arr 0 48 17 (lackK l k i).length (flatO (lackK l k i)))]) (fun i => l.units.length - i) 0 (Wk_to [1, 2, 5, 6] [(128, 128), (320, 640)] rfl rfl (by simp [lackK])) (by simp) ?_
  rintro i hi
  have hll := lackK_len l k i
  refine AW_of h12 TryzT_ok (by kernel_rfl) ?_
  rcases Nat.lt_or_ge i l.units.length with p1 | p1
  · have hu := h2 _ (nth_mem p1)
    have hcl : (coversD (nth l.units i)).length ≤ 3000 := coversD_len _
    simp -dsimp [p1, ne_of_lt p1]
    repeat (first | refine ⟨by omega, ?_⟩ | refine ⟨by simp [capMax]; omega, ?_⟩ | refine ⟨⟨by omega, by omega⟩, ?_⟩)
    refine ACallK_of (f46_ok _ hu) ?_
    simp -dsimp
    refine AWh_loop (fun j : Nat => j ≤ (coversD (nth l.units i)).length) (fun j => mkE [(1, .c (.im k.length (flat k))), (2, .box 128 0), (5, .arr 320), (6, .c (.int .i64 i)), (7, .arr 448), (8, .c (.bool (allB (knowAt k (nth l.units i)) j))), (9, .c (.int .i64 j))] [(128, .box [.c (.int .i64 l.rep), .c (.int .i64 l.time), .c (.im l.state.know.length (flat l.state.know)), .c (.im l.state.tallies.length (flat l.state.tallies)), .c (.im l.state.lives.length (flat l.state.lives)), .c (.im l.state.cs.length (flat l.state.cs)), .c (.im l.units.length (flat l.units)), .c (.im l.waits.length (flat l.waits))]), (320, .arr 0 48 17 (lackK l k i).length (flatO (lackK l k i))), (448, .arr 0 38 2 (coversD (nth l.units i)).length (flat (coversD (nth l.units i))))]) (fun j => (coversD (nth l.units i)).length - j) 0 (Wk_to [1, 2, 5, 6, 7, 8, 9] [(128, 128), (320, 320), (448, 1728)] rfl rfl (by simp [allB])) (by simp) ?_
    rintro j hj
    refine AW_of h12 TryzT_ok (by kernel_rfl) ?_
    rcases Nat.lt_or_ge j (coversD (nth l.units i)).length with q1 | q1
    · cases ga : allB (knowAt k (nth l.units i)) j
      · simp -dsimp [p1, ne_of_lt p1, q1, ne_of_lt q1]
        exact Back_of (j + 1) [1, 2, 5, 6, 7, 8, 9] [(128, 128), (320, 320), (448, 448)] rfl rfl (by simp [allB, ga]; rw [wrap64 (by omega) (by omega)]) (by omega) (by omega)
      · simp -dsimp [p1, ne_of_lt p1, q1, ne_of_lt q1]
        repeat (first | refine ⟨by omega, ?_⟩ | refine ⟨by simp [capMax]; omega, ?_⟩ | refine ⟨⟨by omega, by omega⟩, ?_⟩)
        refine ACallK_of (f47_ok _ _ hk) ?_
        simp -dsimp
        exact Back_of (j + 1) [1, 2, 5, 6, 7, 8, 9] [(128, 128), (320, 320), (448, 448)] rfl rfl (by simp [allB, ga, knowAt]; rw [wrap64 (by omega) (by omega)]) (by omega) (by omega)
    · obtain rfl : j = (coversD (nth l.units i)).length := by omega
      cases ga : allB (knowAt k (nth l.units i)) (coversD (nth l.units i)).length
      · have hs : lackK l k (i + 1) = lackK l k i ++ [nth l.units i] := by simp [lackK, knowAll, ga]
        simp -dsimp [p1, ne_of_lt p1, ga]
        repeat (first | refine ⟨by omega, ?_⟩ | refine ⟨by simp [capMax]; omega, ?_⟩ | refine ⟨⟨by omega, by omega⟩, ?_⟩)
        refine ACallK_of (f48_ok _ hu) ?_
        simp -dsimp
        repeat (first | refine ⟨by omega, ?_⟩ | refine ⟨by simp [capMax]; omega, ?_⟩ | refine ⟨⟨by omega, by omega⟩, ?_⟩)
        have ha : flatO (lackK l k i ++ [nth l.units i]) = flatO (lackK l k i) ++ CelO.cellsO (nth l.units i) := by rw [flatO_append, flatO_cons, flatO_nil, List.append_nil]
        exact Back_of (i + 1) [1, 2, 5, 6] [(128, 128), (320, 3392)] rfl rfl (by simp [hs, ha]; rw [wrap64 (by omega) (by omega)]) (by omega) (by omega)
      · have hs : lackK l k (i + 1) = lackK l k i := by simp [lackK, knowAll, ga]
        simp -dsimp [p1, ne_of_lt p1, ga]
        exact Back_of (i + 1) [1, 2, 5, 6] [(128, 128), (320, 320)] rfl rfl (by simp [hs]; rw [wrap64 (by omega) (by omega)]) (by omega) (by omega)
  · obtain rfl : i = l.units.length := by omega
    simp -dsimp
    simp [lackOf, g]

@[simp] def h15 : Hts := { merge := fun _ => false, mergeF := fun _ => false }
set_option maxHeartbeats 2000000 in
theorem f15_ok (l : GLog) (k : List Int) (h : l.Ok) (hk : k.length ≤ 1073741824) : FnR Tryz.prog 15 [.agg [.int .i64 l.rep, .int .i64 l.time, .im l.state.know.length (flat l.state.know), .im l.state.tallies.length (flat l.state.tallies), .im l.state.lives.length (flat l.state.lives), .im l.state.cs.length (flat l.state.cs), .im l.units.length (flat l.units), .im l.waits.length (flat l.waits)], .v (.im k.length (flat k))] (.v (.ow 48 17 (lackOf l k).length (flatO (lackOf l k)))) := by
  simp only [GLog.Ok] at h
  obtain ⟨h0, h1, h2, h3, h4⟩ := h
  refine FnW.of_AW TryzT_ok 0 (fn := Tryz.f15) (by kernel_rfl) rfl (by kernel_rfl) rfl rfl rfl ?_
  refine AW_of h15 TryzT_ok (by kernel_rfl) ?_
  simp -dsimp
  refine ACallK_of (f51_ok _ hk) ?_
  cases g : knowOk k
  · simp -dsimp
    simp [lackOf, g]
  simp -dsimp
  refine AWh_loop (fun i : Nat => i ≤ l.units.length) (fun i => mkE [(1, .c (.im k.length (flat k))), (5, .arr 320), (16, .c (.im l.units.length (flat l.units))), (17, .c (.int .i64 l.units.length)), (18, .c (.int .i64 i))] [(320, .arr 0 48 17 (lackK l k i).length (flatO (lackK l k i)))]) (fun i => l.units.length - i) 0 (Wk_to [1, 5, 16, 17, 18] [(320, 640)] rfl rfl (by simp [lackK])) (by simp) ?_
  rintro i hi
  have hll := lackK_len l k i
  refine AW_of h15 TryzT_ok (by kernel_rfl) ?_
  rcases Nat.lt_or_ge i l.units.length with p1 | p1
  · have hu := h2 _ (nth_mem p1)
    have hcl : (coversD (nth l.units i)).length ≤ 3000 := coversD_len _
    simp -dsimp [p1, ne_of_lt p1]
    repeat (first | refine ⟨by omega, ?_⟩ | refine ⟨by simp [capMax]; omega, ?_⟩ | refine ⟨⟨by omega, by omega⟩, ?_⟩)
    refine ACallK_of (f52_ok _ hu) ?_
    simp -dsimp
    refine AWh_loop (fun j : Nat => j ≤ (coversD (nth l.units i)).length ∧ allB (knowAt k (nth l.units i)) j = true) (fun j => mkE [(1, .c (.im k.length (flat k))), (5, .arr 320), (7, .box 448 0), (16, .c (.im l.units.length (flat l.units))), (17, .c (.int .i64 l.units.length)), (18, .c (.int .i64 i)), (23, .arr 1472), (24, .c (.int .i64 (coversD (nth l.units i)).length)), (25, .c (.int .i64 j))] [(448, .box [.c (.bool (nth l.units i).batch), .c (.int .i64 (nth l.units i).act.dot.rep), .c (.int .i64 (nth l.units i).act.dot.seq), .c (.int .i64 (nth l.units i).act.time), .c (.im (nth l.units i).act.knew.length (flat (nth l.units i).act.knew)), .c (.int .i64 (nth l.units i).act.kind), .c (.str (nth l.units i).act.obj), .c (.str (nth l.units i).act.key), .c (.int .i64 (nth l.units i).act.val), .c (.int .i64 (nth l.units i).act.ref.rep), .c (.int .i64 (nth l.units i).act.ref.seq), .c (.im (nth l.units i).delta.base.length (flat (nth l.units i).delta.base)), .c (.im (nth l.units i).delta.know.length (flat (nth l.units i).delta.know)), .c (.im (nth l.units i).delta.tallies.length (flat (nth l.units i).delta.tallies)), .c (.im (nth l.units i).delta.lives.length (flat (nth l.units i).delta.lives)), .c (.im (nth l.units i).delta.dead.length (flat (nth l.units i).delta.dead)), .c (.im (nth l.units i).delta.cs.length (flat (nth l.units i).delta.cs))]), (320, .arr 0 48 17 (lackK l k i).length (flatO (lackK l k i))), (1472, .arr 0 38 2 (coversD (nth l.units i)).length (flat (coversD (nth l.units i))))]) (fun j => (coversD (nth l.units i)).length - j) 0 (Wk_to [1, 5, 7, 16, 17, 18, 23, 24, 25] [(448, 448), (320, 320), (1472, 1472)] rfl rfl (by simp)) (by simp [allB]) ?_
    rintro j ⟨hj, hall⟩
    refine AW_of h15 TryzT_ok (by kernel_rfl) ?_
    rcases Nat.lt_or_ge j (coversD (nth l.units i)).length with q1 | q1
    · simp -dsimp [p1, ne_of_lt p1, q1, ne_of_lt q1]
      repeat (first | refine ⟨by omega, ?_⟩ | refine ⟨by simp [capMax]; omega, ?_⟩ | refine ⟨⟨by omega, by omega⟩, ?_⟩)
      refine ACallK_of (f53_ok _ _ hk) ?_
      cases gk : knows k (nth (coversD (nth l.units i)) j)
      · have hs : lackK l k (i + 1) = lackK l k i ++ [nth l.units i] := by
          have : knowAll k (nth l.units i) = false := allB_false q1 gk
          simp [lackK, this]
        simp -dsimp
        refine ACallK_of (f54_ok _ hu) ?_
        simp -dsimp
        repeat (first | refine ⟨by omega, ?_⟩ | refine ⟨by simp [capMax]; omega, ?_⟩ | refine ⟨⟨by omega, by omega⟩, ?_⟩)
        have ha : flatO (lackK l k i ++ [nth l.units i]) = flatO (lackK l k i) ++ CelO.cellsO (nth l.units i) := by rw [flatO_append, flatO_cons, flatO_nil, List.append_nil]
        exact Back_of (i + 1) [1, 5, 16, 17, 18] [(320, 2368)] rfl rfl (by simp [hs, ha]; rw [wrap64 (by omega) (by omega)]) (by omega) (by omega)
      · simp -dsimp
        exact Back_of (j + 1) [1, 5, 7, 16, 17, 18, 23, 24, 25] [(448, 448), (320, 320), (1472, 1472)] rfl rfl (by simp; rw [wrap64 (by omega) (by omega)]) ⟨by omega, allB_succ hall gk⟩ (by omega)
    · obtain rfl : j = (coversD (nth l.units i)).length := by omega
      have hs : lackK l k (i + 1) = lackK l k i := by simp [lackK, knowAll, hall]
      simp -dsimp [p1, ne_of_lt p1]
      exact Back_of (i + 1) [1, 5, 16, 17, 18] [(320, 320)] rfl rfl (by simp [hs]; rw [wrap64 (by omega) (by omega)]) (by omega) (by omega)
  · obtain rfl : i = l.units.length := by omega
    simp -dsimp
    simp [lackOf, g]
end Am
