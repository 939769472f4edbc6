/- Rows told and their values: the rest. No condition. -/
import Derived.Test.YteidfkbfocdnmaaGreatT
import Derived.Test.YteidfkbfocdnmaaGreatD
import Derived.Test.YteidfkbfocdnmaaGreatE70
import Derived.Test.YteidfkbfocdnmaaGreatAm31
import Derived.Test.YteidfkbfocdnmaaGreatE2
import Derived.Test.YteidfkbfocdnmaaGreatE56
import Derived.Test.YteidfkbfocdnmaaGreatE93a
import Derived.Test.YteidfkbfocdnmaaGreatY3
namespace Am
open Go Go.Proofs
open Cel (cells)
set_option maxRecDepth 100000
set_option linter.unusedSimpArgs false
set_option linter.unusedVariables false

def valK (l : List GCell) (i : Nat) : List Int := (l.take i).map (·.val)
def dotK (l : List GCell) (i : Nat) : List GDot := (l.take i).map (·.dot)
theorem valK_len (l : List GCell) (i : Nat) : (valK l i).length ≤ i := by simp [valK]; omega
theorem dotK_len (l : List GCell) (i : Nat) : (dotK l i).length ≤ i := by simp [dotK]; omega
theorem valK_succ {l : List GCell} {i : Nat} (h : i < l.length) : valK l (i + 1) = valK l i ++ [(nth l i).val] := by
  unfold valK; rw [take_snoc h]; simp
theorem dotK_succ {l : List GCell} {i : Nat} (h : i < l.length) : dotK l (i + 1) = dotK l i ++ [(nth l i).dot] := by
  unfold dotK; rw [take_snoc h]; simp

@[simp] def h44 : Hts := {  }
set_option maxHeartbeats 2000000 in
theorem f44_ok (s : GState) (o : ByteArray) (hs : s.Ok) : FnR Tryz.prog 44 [.agg [.im s.know.length (flat s.know), .im s.tallies.length (flat s.tallies), .im s.lives.length (flat s.lives), .im s.cs.length (flat s.cs)], .v (.str o)] (.v (.ow 3 1 (rowOf s o).length (flat (rowOf s o)))) := by
  have hrl := rowLive_len s o
  refine FnW.of_AW TryzT_ok 0 (fn := Tryz.f44) (by kernel_rfl) rfl (by kernel_rfl) rfl rfl rfl ?_; refine AW_of h44 TryzT_ok (by kernel_rfl) ?_
  simp -dsimp
  refine ACallK_of (f171_ok _ _ hs) ?_
  simp -dsimp
  refine AWh_loop (fun i : Nat => i ≤ (rowLive s o).length) (fun i => mkE [(5, .arr 900001), (11, .arr 704), (12, .c (.int .i64 (rowLive s o).length)), (13, .c (.int .i64 i))] [(900001, .arr 0 3 1 (valK (rowLive s o) i).length (flat (valK (rowLive s o) i))), (704, .arr 0 72 8 (rowLive s o).length (flat (rowLive s o)))]) (fun i => (rowLive s o).length - i) 0 (Wk_to [5, 11, 12, 13] [(900001, 512), (704, 704)] rfl rfl (by simp [valK])) (by simp) ?_
  rintro i hi
  have hll := valK_len (rowLive s o) i
  refine AW_of h44 TryzT_ok (by kernel_rfl) ?_
  rcases Nat.lt_or_ge i (rowLive s o).length with h1 | h1
  · have hn := valK_succ h1
    simp -dsimp [h1, ne_of_lt h1]
    repeat (first | refine ⟨by omega, ?_⟩ | refine ⟨by simp [capMax]; omega, ?_⟩ | refine ⟨⟨by omega, by omega⟩, ?_⟩)
    exact Back_of (i + 1) [5, 11, 12, 13] [(900001, 1344), (704, 704)] rfl rfl (by simp [hn]; rw [wrap64 (by omega) (by omega)]) (by omega) (by omega)
  · obtain rfl : i = (rowLive s o).length := by omega
    simp -dsimp
    have e : valK (rowLive s o) (rowLive s o).length = rowOf s o := by simp [valK, rowOf]
    rw [e]
    exact ⟨rfl, rfl⟩

@[simp] def h59 : Hts := { merge := fun _ => false }
set_option maxHeartbeats 2000000 in
theorem f59_ok (s : GState) (o : ByteArray) (hs : s.Ok) : FnR Tryz.prog 59 [.agg [.im s.know.length (flat s.know), .im s.tallies.length (flat s.tallies), .im s.lives.length (flat s.lives), .im s.cs.length (flat s.cs)], .v (.str o)] (.v (.ow 29 2 (rowDots s o).length (flat (rowDots s o)))) := by
  refine FnW.of_AW TryzT_ok 0 (fn := Tryz.f59) (by kernel_rfl) rfl (by kernel_rfl) rfl rfl rfl ?_; refine AW_of h59 TryzT_ok (by kernel_rfl) ?_
  simp -dsimp
  refine ACallK_of (f70_ok _ hs) ?_
  rw [stateOkS_eq]
  cases ks : stateOk s
  · simp -dsimp
    simp [rowDots, row, ks]
  have hR := rowF_of ks
  have hrow : preO s.cs o zeroDot = row s o := by simp [row, ks]
  have hrl := row_len s o
  simp -dsimp
  refine ACallK_of (f168_ok _ _ hR) ?_
  rw [hrow]
  simp -dsimp
  refine AWh_loop (fun i : Nat => i ≤ (row s o).length) (fun i => mkE [(5, .arr 900001), (6, .arr 900002), (7, .c (.int .i64 i))] [(900001, .arr 0 29 2 (dotK (row s o) i).length (flat (dotK (row s o) i))), (900002, .arr 0 72 8 (row s o).length (flat (row s o)))]) (fun i => (row s o).length - i) 0 (Wk_to [5, 6, 7] [(900001, 512), (900002, 960)] rfl rfl (by simp [dotK])) (by simp) ?_
  rintro i hi
  have hll := dotK_len (row s o) i
  refine AW_of h59 TryzT_ok (by kernel_rfl) ?_
  rcases Nat.lt_or_ge i (row s o).length with h1 | h1
  · have hn := dotK_succ h1
    simp -dsimp [h1, ne_of_lt h1]
    repeat (first | refine ⟨by omega, ?_⟩ | refine ⟨by simp [capMax]; omega, ?_⟩ | refine ⟨⟨by omega, by omega⟩, ?_⟩)
    exact Back_of (i + 1) [5, 6, 7] [(900001, 1856), (900002, 900002)] rfl rfl (by simp [hn]; rw [wrap64 (by omega) (by omega)]) (by omega) (by omega)
  · obtain rfl : i = (row s o).length := by omega
    simp -dsimp
    have e : dotK (row s o) (row s o).length = rowDots s o := by simp [dotK, rowDots]
    rw [e]
    exact ⟨rfl, rfl⟩

@[simp] def h42 : Hts := { merge := fun _ => false }
set_option maxHeartbeats 2000000 in
theorem f42_ok (s : GState) (o : ByteArray) (hs : s.Ok) : FnR Tryz.prog 42 [.agg [.im s.know.length (flat s.know), .im s.tallies.length (flat s.tallies), .im s.lives.length (flat s.lives), .im s.cs.length (flat s.cs)], .v (.str o)] (.v (.ow 3 1 (rowOf s o).length (flat (rowOf s o)))) := by
  refine FnW.of_AW TryzT_ok 0 (fn := Tryz.f42) (by kernel_rfl) rfl (by kernel_rfl) rfl rfl rfl ?_; refine AW_of h42 TryzT_ok (by kernel_rfl) ?_
  simp -dsimp
  refine ACallK_of (f70_ok _ hs) ?_
  rw [stateOkS_eq]
  cases ks : stateOk s
  · simp -dsimp
    simp [rowOf, rowLive, row, ks]
  have hR := rowF_of ks
  have hrow : preO s.cs o zeroDot = row s o := by simp [row, ks]
  have hrl := row_len s o
  simp -dsimp
  refine ACallK_of (f168_ok _ _ hR) ?_
  rw [hrow]
  simp -dsimp
  refine AWh_loop (fun i : Nat => i ≤ (row s o).length) (fun i => mkE [(5, .arr 900001), (6, .arr 900002), (7, .c (.int .i64 i))] [(900001, .arr 0 3 1 ((liveK s o i).map (·.val)).length (flat ((liveK s o i).map (·.val)))), (900002, .arr 0 72 8 (row s o).length (flat (row s o)))]) (fun i => (row s o).length - i) 0 (Wk_to [5, 6, 7] [(900001, 512), (900002, 960)] rfl rfl (by simp [liveK, filK])) (by simp) ?_
  rintro i hi
  have hll := liveK_len s o i
  have hlm : ((liveK s o i).map (·.val)).length = (liveK s o i).length := by simp
  refine AW_of h42 TryzT_ok (by kernel_rfl) ?_
  generalize hL : (liveK s o i).map (·.val) = L at *
  rcases Nat.lt_or_ge i (row s o).length with h1 | h1
  · cases g : (nth (row s o) i).gone
    · have hn : (liveK s o (i + 1)).map (·.val) = L ++ [(nth (row s o) i).val] := by rw [← hL]; simp [liveK, filK, g]
      simp -dsimp [h1, ne_of_lt h1, g]
      repeat (first | refine ⟨by omega, ?_⟩ | refine ⟨by simp [capMax]; omega, ?_⟩ | refine ⟨⟨by omega, by omega⟩, ?_⟩)
      exact Back_of (i + 1) [5, 6, 7] [(900001, 2240), (900002, 900002)] rfl rfl (by simp only [hn]; simp; rw [wrap64 (by omega) (by omega)]) (by omega) (by omega)
    · have hn : (liveK s o (i + 1)).map (·.val) = L := by rw [← hL]; simp [liveK, filK, g]
      simp -dsimp [h1, ne_of_lt h1, g]
      repeat (first | refine ⟨by omega, ?_⟩ | refine ⟨by simp [capMax]; omega, ?_⟩ | refine ⟨⟨by omega, by omega⟩, ?_⟩)
      exact Back_of (i + 1) [5, 6, 7] [(900001, 900001), (900002, 900002)] rfl rfl (by simp only [hn]; simp; rw [wrap64 (by omega) (by omega)]) (by omega) (by omega)
  · obtain rfl : i = (row s o).length := by omega
    simp -dsimp
    have e : L = rowOf s o := by rw [← hL, liveK_all]; rfl
    rw [e]
    exact ⟨rfl, rfl⟩
end Am
namespace Am
open Go Go.Proofs
open Cel (cells)
set_option maxRecDepth 100000
set_option linter.unusedSimpArgs false
set_option linter.unusedVariables false

end Am
namespace Am
open Go Go.Proofs
open Cel (cells)
set_option maxRecDepth 100000
set_option linter.unusedSimpArgs false
set_option linter.unusedVariables false

def vlK (l : List GLive) : Nat → List Int
  | 0 => []
  | i + 1 => vlK l i ++ [(nth l i).val]
@[simp] theorem vlK_len (l : List GLive) : ∀ i, (vlK l i).length = i
  | 0 => rfl
  | i + 1 => by simp [vlK, vlK_len l i]
def mapOf (s : GState) (o k : ByteArray) : List Int := sortI (vlK (livesOf s true o k) (livesOf s true o k).length)
theorem mapOf_len (s : GState) (o k : ByteArray) : (mapOf s o k).length ≤ s.lives.length := by
  rw [mapOf, sortI_len, vlK_len]; exact livesOf_len _ _ _ _

/-- Put before the first that is greater. -/
def insG (v : Int) : Bool → List Int → List Int
  | p, [] => if p then [] else [v]
  | p, x :: r => if !p && decide (v < x) then v :: x :: insG v true r else x :: insG v p r
theorem insG_true (v : Int) : ∀ l, insG v true l = l
  | [] => rfl
  | x :: r => by simp [insG, insG_true v r]
theorem insG_perm (v : Int) : ∀ l, (insG v false l).Perm (v :: l)
  | [] => List.Perm.refl _
  | x :: r => by
    rw [insG]
    split
    · rw [insG_true]
    · exact ((insG_perm v r).cons x).trans (List.Perm.swap v x r)
theorem insG_sorted (v : Int) : ∀ l : List Int, l.Pairwise (· ≤ ·) → (insG v false l).Pairwise (· ≤ ·)
  | [], _ => by simp [insG]
  | x :: r, h => by
    obtain ⟨h1, h2⟩ := List.pairwise_cons.1 h
    rw [insG]
    split
    · rename_i hlt
      simp only [Bool.not_false, Bool.true_and, decide_eq_true_eq] at hlt
      rw [insG_true]
      refine List.pairwise_cons.2 ⟨fun y hy => ?_, h⟩
      rcases List.mem_cons.1 hy with rfl | hy
      · omega
      · have := h1 y hy; omega
    · rename_i hlt
      simp only [Bool.not_false, Bool.true_and, decide_eq_true_eq] at hlt
      refine List.pairwise_cons.2 ⟨fun y hy => ?_, insG_sorted v r h2⟩
      rcases List.mem_cons.1 ((insG_perm v r).mem_iff.1 hy) with rfl | hy
      · omega
      · exact h1 y hy
theorem insG_len (v : Int) (p : Bool) : ∀ l : List Int, (insG v p l).length = l.length + (bif p then 0 else 1) := by
  intro l
  cases p
  · have := (insG_perm v l).length_eq
    simpa using this
  · simp [insG_true]
def insA (l : List GLive) : Nat → List Int
  | 0 => []
  | i + 1 => insG (nth l i).val false (insA l i)
@[simp] theorem insA_len (l : List GLive) : ∀ i, (insA l i).length = i
  | 0 => rfl
  | i + 1 => by simp [insA, insG_len, insA_len l i]
theorem insA_perm (l : List GLive) : ∀ i, (insA l i).Perm (vlK l i)
  | 0 => List.Perm.refl _
  | i + 1 => ((insG_perm _ _).trans ((insA_perm l i).cons _)).trans (by rw [vlK]; exact (List.perm_append_singleton _ _).symm)
theorem insA_sorted (l : List GLive) : ∀ i, (insA l i).Pairwise (· ≤ ·)
  | 0 => List.Pairwise.nil
  | i + 1 => insG_sorted _ _ (insA_sorted l i)
theorem insA_eq (l : List GLive) (i : Nat) : insA l i = sortI (vlK l i) := by
  refine List.Perm.eq_of_pairwise (le := (· ≤ ·)) (fun a b _ _ h1 h2 => Int.le_antisymm h1 h2) (insA_sorted l i) ?_ ((insA_perm l i).trans (List.mergeSort_perm _ _).symm)
  have := List.pairwise_mergeSort (le := fun x y : Int => decide (x ≤ y)) (fun a b c h1 h2 => by simp only [decide_eq_true_eq] at *; omega) (fun a b => by simp only [Bool.or_eq_true, decide_eq_true_eq]; omega) (vlK l i)
  unfold sortI
  simpa only [decide_eq_true_eq] using this

@[simp] def h57 : Hts := { merge := fun _ => false, mergeF := fun _ => false, lend := fun f => if f = 176 then [.lend] else [] }
set_option maxHeartbeats 2000000 in
theorem f57_ok (s : GState) (o k : ByteArray) (ha : s.lives.length ≤ 1073741824) : FnR Tryz.prog 57 [.agg [.im s.know.length (flat s.know), .im s.tallies.length (flat s.tallies), .im s.lives.length (flat s.lives), .im s.cs.length (flat s.cs)], .v (.str o), .v (.str k)] (.v (.ow 3 1 (mapOf s o k).length (flat (mapOf s o k)))) := by
  have hll := livesOf_len s true o k
  refine FnW.of_AW TryzT_ok 0 (fn := Tryz.f57) (by kernel_rfl) rfl (by kernel_rfl) rfl rfl rfl ?_; refine AW_of h57 TryzT_ok (by kernel_rfl) ?_
  simp -dsimp
  refine ACallK_of (f175_ok _ _ _ _ ha) ?_
  simp -dsimp
  refine AWh_loop (fun i : Nat => i ≤ (livesOf s true o k).length) (fun i => mkE [(7, .arr 448), (14, .arr 896), (15, .c (.int .i64 (livesOf s true o k).length)), (16, .c (.int .i64 i))] [(448, .arr 0 3 1 i (flat (vlK (livesOf s true o k) i))), (896, .arr 0 159 6 (livesOf s true o k).length (flat (livesOf s true o k)))]) (fun i => (livesOf s true o k).length - i) 0 (Wk_to [7, 14, 15, 16] [(448, 640), (896, 896)] rfl rfl (by simp [vlK])) (by simp) ?_
  rintro i hi
  refine AW_of h57 TryzT_ok (by kernel_rfl) ?_
  rcases Nat.lt_or_ge i (livesOf s true o k).length with h1 | h1
  · simp -dsimp [h1, ne_of_lt h1]
    repeat (first | refine ⟨by omega, ?_⟩ | refine ⟨by simp [capMax]; omega, ?_⟩ | refine ⟨⟨by omega, by omega⟩, ?_⟩)
    exact Back_of (i + 1) [7, 14, 15, 16] [(448, 1536), (896, 896)] rfl rfl (by simp [vlK]; rw [wrap64 (by omega) (by omega)]) (by omega) (by omega)
  · obtain rfl : i = (livesOf s true o k).length := by omega
    simp -dsimp
    have hc := f176_ok (vlK (livesOf s true o k) (livesOf s true o k).length) (by simp; omega)
    rw [vlK_len] at hc
    refine ACallW_args (by intro us; simp -dsimp; exact ⟨rfl, rfl, rfl⟩) ?_
    refine ACallC_of (fun us => hc) (by intro us; simp -dsimp; exact ⟨rfl, rfl⟩) ?_
    simp -dsimp
    simp [mapOf, sortI_len]

@[simp] def h41 : Hts := { merge := fun _ => false, mergeF := fun _ => false, dr := fun id => if id = 11 then [{}, {}, {}, {}, {}, {}, {}, {}, {}, {}, {}, {}, {}, {}] else [] }
set_option maxHeartbeats 4000000 in
theorem f41_ok (s : GState) (o k : ByteArray) (ha : s.lives.length ≤ 1073741824) : FnR Tryz.prog 41 [.agg [.im s.know.length (flat s.know), .im s.tallies.length (flat s.tallies), .im s.lives.length (flat s.lives), .im s.cs.length (flat s.cs)], .v (.str o), .v (.str k)] (.v (.ow 3 1 (mapOf s o k).length (flat (mapOf s o k)))) := by
  have hll := livesOf_len s true o k
  refine FnW.of_AW TryzT_ok 0 (fn := Tryz.f41) (by kernel_rfl) rfl (by kernel_rfl) rfl rfl rfl ?_; refine AW_of h41 TryzT_ok (by kernel_rfl) ?_
  simp -dsimp
  refine ACallK_of (f39_ok _ _ _ _ ha) ?_
  simp -dsimp
  generalize hL : livesOf s true o k = L at hll ⊢
  refine AWh_loop (fun i : Nat => i ≤ L.length) (fun i => mkE [(7, .arr 448), (8, .arr 1088), (9, .c (.int .i64 i))] [(448, .arr 0 3 1 i (flat (insA L i))), (1088, .arr 0 159 6 L.length (flat L))]) (fun i => L.length - i) 0 (Wk_to [7, 8, 9] [(448, 832), (1088, 1088)] rfl rfl (by simp [insA])) (by simp) ?_
  rintro i hi
  have hil := insA_len L i
  refine AW_of h41 TryzT_ok (by kernel_rfl) ?_
  rcases Nat.lt_or_ge i L.length with h1 | h1
  · simp -dsimp [h1, ne_of_lt h1]
    refine AWh_loop (fun q : Nat × Bool × List Int => q.1 ≤ i ∧ q.2.2.length ≤ q.1 + (bif q.2.1 then 1 else 0) ∧ q.2.2 ++ insG (nth L i).val q.2.1 ((insA L i).drop q.1) = insA L (i + 1)) (fun q => mkE [(7, .arr 448), (8, .arr 1088), (9, .c (.int .i64 i)), (10, .arr 640), (11, .c (.bool q.2.1)), (12, .c (.int .i64 q.1))] [(448, .arr 0 3 1 i (flat (insA L i))), (640, .arr 0 3 1 q.2.2.length (flat q.2.2)), (1088, .arr 0 159 6 L.length (flat L))]) (fun q => i - q.1) (0, false, []) (Wk_to [7, 8, 9, 10, 11, 12] [(448, 448), (640, 1536), (1088, 1088)] rfl rfl (by simp)) (by simp [insA]) ?_
    rintro ⟨j, p, out⟩ ⟨hj, hl, hgo⟩
    simp only at hj hl hgo
    refine AW_of h41 TryzT_ok (by kernel_rfl) ?_
    rcases Nat.lt_or_ge j i with p1 | p1
    · have p2 : j < (insA L i).length := by omega
      have hne := ne_of_lt p2
      have hd : (insA L i).drop j = nth (insA L i) j :: (insA L i).drop (j + 1) := by rw [List.drop_eq_getElem_cons p2, ← nth_eq p2]
      rw [hd] at hgo
      have hw : IntKind.i64.wrap ((j : Int) + 1) = (j : Int) + 1 := wrap64 (by omega) (by omega)
      cases p with
      | true =>
        simp only [cond_true] at hl
        simp -dsimp [h1, ne_of_lt h1, p1, hil, hne, hw]
        repeat (first | refine ⟨by omega, ?_⟩ | refine ⟨by simp [capMax]; omega, ?_⟩ | refine ⟨⟨by omega, by omega⟩, ?_⟩)
        exact Back_of (j + 1, true, out ++ [nth (insA L i) j]) [7, 8, 9, 10, 11, 12] [(448, 448), (640, 3776), (1088, 1088)] rfl rfl (by simp) ⟨by simp only; omega, by simp; omega, by rw [← hgo]; simp [insG]⟩ (by simp only; omega)
      | false =>
        simp only [cond_false] at hl
        by_cases g : (nth L i).val < nth (insA L i) j
        · simp -dsimp [h1, ne_of_lt h1, p1, hil, hne, hw, g]
          repeat (first | refine ⟨by omega, ?_⟩ | refine ⟨by simp [capMax]; omega, ?_⟩ | refine ⟨⟨by omega, by omega⟩, ?_⟩)
          exact Back_of (j + 1, true, out ++ [(nth L i).val] ++ [nth (insA L i) j]) [7, 8, 9, 10, 11, 12] [(448, 448), (640, 3776), (1088, 1088)] rfl rfl (by simp) ⟨by simp only; omega, by simp; omega, by rw [← hgo]; simp [insG, g]⟩ (by simp only; omega)
        · simp -dsimp [h1, ne_of_lt h1, p1, hil, hne, hw, g]
          repeat (first | refine ⟨by omega, ?_⟩ | refine ⟨by simp [capMax]; omega, ?_⟩ | refine ⟨⟨by omega, by omega⟩, ?_⟩)
          exact Back_of (j + 1, false, out ++ [nth (insA L i) j]) [7, 8, 9, 10, 11, 12] [(448, 448), (640, 3776), (1088, 1088)] rfl rfl (by simp) ⟨by simp only; omega, by simp; omega, by rw [← hgo]; simp [insG, g]⟩ (by simp only; omega)
    · obtain rfl : j = i := by omega
      rw [List.drop_of_length_le (by omega)] at hgo
      cases p with
      | true =>
        simp only [cond_true, insG, if_true, List.append_nil] at hgo
        have hol : out.length = j + 1 := by rw [hgo, insA_len]
        simp -dsimp [h1, ne_of_lt h1]
        repeat (first | refine ⟨by omega, ?_⟩ | refine ⟨by simp [capMax]; omega, ?_⟩ | refine ⟨⟨by omega, by omega⟩, ?_⟩)
        exact Back_of (j + 1) [7, 8, 9] [(448, 640), (1088, 1088)] rfl rfl (by simp [hgo, hol]; rw [wrap64 (by omega) (by omega)]) (by omega) (by omega)
      | false =>
        have hgo' : out ++ [(nth L j).val] = insA L (j + 1) := by simpa [insG] using hgo
        have hol : out.length = j := by have := congrArg List.length hgo'; simp at this; omega
        simp -dsimp [h1, ne_of_lt h1]
        repeat (first | refine ⟨by omega, ?_⟩ | refine ⟨by simp [capMax]; omega, ?_⟩ | refine ⟨⟨by omega, by omega⟩, ?_⟩)
        exact Back_of (j + 1) [7, 8, 9] [(448, 4416), (1088, 1088)] rfl rfl (by simp [← hgo', hol]; rw [wrap64 (by omega) (by omega)]) (by omega) (by omega)
  · obtain rfl : i = L.length := by omega
    simp -dsimp
    rw [insA_eq, ← hL]
    simp [mapOf, sortI_len]

end Am
