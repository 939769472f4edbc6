/- Rows told and their values: the rest. No condition. -/
import Derived.Test.YtkkaogfjlbigmaaT
import Derived.Test.YtkkaogfjlbigmaaD
import Derived.Test.YtkkaogfjlbigmaaE73
import Derived.Test.YtkkaogfjlbigmaaAm31
namespace Am
open Go Go.Proofs
open Cel (cells)
set_option maxRecDepth 100000
set_option linter.unusedSimpArgs false
set_option linter.unusedVariables false

def valK (l : List GCell) (i : Nat) : List Int := (l.take i).map (·.val)
def dotK (l : List GCell) (i : Nat) : List GDot := (l.take i).map (·.dot)
theorem valK_len (l : List GCell) (i : Nat) : (valK l i).length ≤ i := by simp [valK]; omega
theorem dotK_len (l : List GCell) (i : Nat) : (dotK l i).length ≤ i := by simp [dotK]; omega
theorem valK_succ {l : List GCell} {i : Nat} (h : i < l.length) : valK l (i + 1) = valK l i ++ [(nth l i).val] := by
  unfold valK; rw [take_snoc h]; simp
theorem dotK_succ {l : List GCell} {i : Nat} (h : i < l.length) : dotK l (i + 1) = dotK l i ++ [(nth l i).dot] := by
  unfold dotK; rw [take_snoc h]; simp

@[simp] def h19 : Hts := {  }
set_option maxHeartbeats 2000000 in
theorem f19_ok (s : GState) (o : ByteArray) (hs : s.Ok) : FnR Try.prog 19 [.agg [.im s.know.length (flat s.know), .im s.tallies.length (flat s.tallies), .im s.lives.length (flat s.lives), .im s.cs.length (flat s.cs)], .v (.str o)] (.v (.ow 3 1 (rowOf s o).length (flat (rowOf s o)))) := by
  have hrl := rowLive_len s o
  refine FnW.of_AW TryT_ok 0 (fn := Try.f19) (by kernel_rfl) rfl (by kernel_rfl) rfl rfl rfl ?_; refine AW_of h19 TryT_ok (by kernel_rfl) ?_
  simp -dsimp
  refine ACallK_of (f33_ok _ _ hs) ?_
  simp -dsimp
  refine AWh_loop (fun i : Nat => i ≤ (rowLive s o).length) (fun i => mkE [(5, .arr 900001), (11, .arr 704), (12, .c (.int .i64 (rowLive s o).length)), (13, .c (.int .i64 i))] [(900001, .arr 0 3 1 (valK (rowLive s o) i).length (flat (valK (rowLive s o) i))), (704, .arr 0 57 8 (rowLive s o).length (flat (rowLive s o)))]) (fun i => (rowLive s o).length - i) 0 (Wk_to [5, 11, 12, 13] [(900001, 512), (704, 704)] rfl rfl (by simp [valK])) (by simp) ?_
  rintro i hi
  have hll := valK_len (rowLive s o) i
  refine AW_of h19 TryT_ok (by kernel_rfl) ?_
  rcases Nat.lt_or_ge i (rowLive s o).length with h1 | h1
  · have hn := valK_succ h1
    simp -dsimp [h1, ne_of_lt h1]
    repeat (first | refine ⟨by omega, ?_⟩ | refine ⟨by simp [capMax]; omega, ?_⟩ | refine ⟨⟨by omega, by omega⟩, ?_⟩)
    exact Back_of (i + 1) [5, 11, 12, 13] [(900001, 1344), (704, 704)] rfl rfl (by simp [hn]; rw [wrap64 (by omega) (by omega)]) (by omega) (by omega)
  · obtain rfl : i = (rowLive s o).length := by omega
    simp -dsimp
    have e : valK (rowLive s o) (rowLive s o).length = rowOf s o := by simp [valK, rowOf]
    rw [e]
    exact ⟨rfl, rfl⟩

@[simp] def h12 : Hts := { merge := fun _ => false }
set_option maxHeartbeats 2000000 in
theorem f12_ok (s : GState) (o : ByteArray) (hs : s.Ok) : FnR Try.prog 12 [.agg [.im s.know.length (flat s.know), .im s.tallies.length (flat s.tallies), .im s.lives.length (flat s.lives), .im s.cs.length (flat s.cs)], .v (.str o)] (.v (.ow 30 2 (rowDots s o).length (flat (rowDots s o)))) := by
  refine FnW.of_AW TryT_ok 0 (fn := Try.f12) (by kernel_rfl) rfl (by kernel_rfl) rfl rfl rfl ?_; refine AW_of h12 TryT_ok (by kernel_rfl) ?_
  simp -dsimp
  refine ACallK_of (f27_ok _ hs) ?_
  rw [stateOkS_eq]
  cases ks : stateOk s
  · simp -dsimp
    simp [rowDots, row, ks]
  have hR := rowF_of ks
  have hrow : preO s.cs o zeroDot = row s o := by simp [row, ks]
  have hrl := row_len s o
  simp -dsimp
  refine ACallK_of (f28_ok _ _ hR) ?_
  rw [hrow]
  simp -dsimp
  refine AWh_loop (fun i : Nat => i ≤ (row s o).length) (fun i => mkE [(5, .arr 900001), (6, .arr 900002), (7, .c (.int .i64 i))] [(900001, .arr 0 30 2 (dotK (row s o) i).length (flat (dotK (row s o) i))), (900002, .arr 0 57 8 (row s o).length (flat (row s o)))]) (fun i => (row s o).length - i) 0 (Wk_to [5, 6, 7] [(900001, 512), (900002, 960)] rfl rfl (by simp [dotK])) (by simp) ?_
  rintro i hi
  have hll := dotK_len (row s o) i
  refine AW_of h12 TryT_ok (by kernel_rfl) ?_
  rcases Nat.lt_or_ge i (row s o).length with h1 | h1
  · have hn := dotK_succ h1
    simp -dsimp [h1, ne_of_lt h1]
    repeat (first | refine ⟨by omega, ?_⟩ | refine ⟨by simp [capMax]; omega, ?_⟩ | refine ⟨⟨by omega, by omega⟩, ?_⟩)
    exact Back_of (i + 1) [5, 6, 7] [(900001, 1856), (900002, 900002)] rfl rfl (by simp [hn]; rw [wrap64 (by omega) (by omega)]) (by omega) (by omega)
  · obtain rfl : i = (row s o).length := by omega
    simp -dsimp
    have e : dotK (row s o) (row s o).length = rowDots s o := by simp [dotK, rowDots]
    rw [e]
    exact ⟨rfl, rfl⟩

@[simp] def h18 : Hts := { merge := fun _ => false }
set_option maxHeartbeats 2000000 in
theorem f18_ok (s : GState) (o : ByteArray) (hs : s.Ok) : FnR Try.prog 18 [.agg [.im s.know.length (flat s.know), .im s.tallies.length (flat s.tallies), .im s.lives.length (flat s.lives), .im s.cs.length (flat s.cs)], .v (.str o)] (.v (.ow 3 1 (rowOf s o).length (flat (rowOf s o)))) := by
  refine FnW.of_AW TryT_ok 0 (fn := Try.f18) (by kernel_rfl) rfl (by kernel_rfl) rfl rfl rfl ?_; refine AW_of h18 TryT_ok (by kernel_rfl) ?_
  simp -dsimp
  refine ACallK_of (f27_ok _ hs) ?_
  rw [stateOkS_eq]
  cases ks : stateOk s
  · simp -dsimp
    simp [rowOf, rowLive, row, ks]
  have hR := rowF_of ks
  have hrow : preO s.cs o zeroDot = row s o := by simp [row, ks]
  have hrl := row_len s o
  simp -dsimp
  refine ACallK_of (f28_ok _ _ hR) ?_
  rw [hrow]
  simp -dsimp
  refine AWh_loop (fun i : Nat => i ≤ (row s o).length) (fun i => mkE [(5, .arr 900001), (6, .arr 900002), (7, .c (.int .i64 i))] [(900001, .arr 0 3 1 ((liveK s o i).map (·.val)).length (flat ((liveK s o i).map (·.val)))), (900002, .arr 0 57 8 (row s o).length (flat (row s o)))]) (fun i => (row s o).length - i) 0 (Wk_to [5, 6, 7] [(900001, 512), (900002, 960)] rfl rfl (by simp [liveK, filK])) (by simp) ?_
  rintro i hi
  have hll := liveK_len s o i
  have hlm : ((liveK s o i).map (·.val)).length = (liveK s o i).length := by simp
  refine AW_of h18 TryT_ok (by kernel_rfl) ?_
  generalize hL : (liveK s o i).map (·.val) = L at *
  rcases Nat.lt_or_ge i (row s o).length with h1 | h1
  · cases g : (nth (row s o) i).gone
    · have hn : (liveK s o (i + 1)).map (·.val) = L ++ [(nth (row s o) i).val] := by rw [← hL]; simp [liveK, filK, g]
      simp -dsimp [h1, ne_of_lt h1, g]
      repeat (first | refine ⟨by omega, ?_⟩ | refine ⟨by simp [capMax]; omega, ?_⟩ | refine ⟨⟨by omega, by omega⟩, ?_⟩)
      exact Back_of (i + 1) [5, 6, 7] [(900001, 2240), (900002, 900002)] rfl rfl (by simp only [hn]; simp; rw [wrap64 (by omega) (by omega)]) (by omega) (by omega)
    · have hn : (liveK s o (i + 1)).map (·.val) = L := by rw [← hL]; simp [liveK, filK, g]
      simp -dsimp [h1, ne_of_lt h1, g]
      repeat (first | refine ⟨by omega, ?_⟩ | refine ⟨by simp [capMax]; omega, ?_⟩ | refine ⟨⟨by omega, by omega⟩, ?_⟩)
      exact Back_of (i + 1) [5, 6, 7] [(900001, 900001), (900002, 900002)] rfl rfl (by simp only [hn]; simp; rw [wrap64 (by omega) (by omega)]) (by omega) (by omega)
  · obtain rfl : i = (row s o).length := by omega
    simp -dsimp
    have e : L = rowOf s o := by rw [← hL, liveK_all]; rfl
    rw [e]
    exact ⟨rfl, rfl⟩
end Am
