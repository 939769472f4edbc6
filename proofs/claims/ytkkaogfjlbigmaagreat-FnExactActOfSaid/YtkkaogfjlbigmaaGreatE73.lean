/- Rows told, their values and places: of both. No condition. -/
import Derived.Test.YtkkaogfjlbigmaaGreatT
import Derived.Test.YtkkaogfjlbigmaaGreatD
import Derived.Test.YtkkaogfjlbigmaaGreatE72
import Derived.Test.YtkkaogfjlbigmaaGreatE64
import Derived.Test.YtkkaogfjlbigmaaGreatAm31
namespace Am
open Go Go.Proofs
open Cel (cells)
set_option maxRecDepth 100000
set_option linter.unusedSimpArgs false
set_option linter.unusedVariables false

def liveK (s : GState) (o : ByteArray) (i : Nat) : List GCell := filK (fun c => !c.gone) [] (row s o) i
theorem liveK_all (s : GState) (o : ByteArray) : liveK s o (row s o).length = rowLive s o := by
  unfold liveK rowLive
  rw [filK_filter _ _ _ (Nat.le_refl _), List.take_length]
theorem liveK_len (s : GState) (o : ByteArray) (i : Nat) : (liveK s o i).length ≤ i := by
  have := filK_len (fun c : GCell => !c.gone) [] (row s o) i
  simpa [liveK] using this
theorem liveK_more (s : GState) (o : ByteArray) (k : Nat) : ∀ d : Nat, ∃ t, liveK s o (k + d) = liveK s o k ++ t
  | 0 => ⟨[], by simp⟩
  | d + 1 => by
    obtain ⟨t, e⟩ := liveK_more s o k d
    rw [← Nat.add_assoc]
    unfold liveK at e ⊢
    simp only [filK]
    split
    · exact ⟨t ++ [nth (row s o) (k + d)], by rw [e]; simp⟩
    · exact ⟨t, e⟩
theorem liveK_nth {s : GState} {o : ByteArray} {j : Nat} (h : j < (row s o).length) (g : (nth (row s o) j).gone = false) : (liveK s o j).length < (rowLive s o).length ∧ nth (rowLive s o) (liveK s o j).length = nth (row s o) j := by
  obtain ⟨t, e⟩ := liveK_more s o (j + 1) ((row s o).length - (j + 1))
  rw [show j + 1 + ((row s o).length - (j + 1)) = (row s o).length by omega, liveK_all] at e
  have hn : liveK s o (j + 1) = liveK s o j ++ [nth (row s o) j] := by simp [liveK, filK, g]
  rw [hn] at e
  refine ⟨by rw [e]; simp, ?_⟩
  rw [e, nth_eq (by simp)]
  simp
theorem rowLive_len (s : GState) (o : ByteArray) : (rowLive s o).length ≤ 120 := by
  have := liveK_len s o (row s o).length
  rw [liveK_all] at this
  exact Nat.le_trans this (row_len s o)
theorem row_ok {s : GState} {o : ByteArray} (h : 0 < (row s o).length) : stateOk s = true := by
  unfold row at h
  split at h
  · assumption
  · simp at h
theorem row_mem {s : GState} {o : ByteArray} {x : GCell} (h : x ∈ row s o) : x ∈ s.cs := by
  unfold row at h
  split at h
  · exact (pre_mem h).1
  · cases h
theorem row_at {s : GState} {o : ByteArray} {i : Nat} (h : i < (row s o).length) : ∃ j : Nat, j < s.cs.length ∧ cellAt s.cs (nth (row s o) i).dot = j ∧ nth s.cs j = nth (row s o) i := by
  have hR := rowF_of (row_ok (by omega : 0 < (row s o).length))
  have hm := row_mem (nth_mem h)
  rcases cellAt_cases s.cs (nth (row s o) i).dot with h1 | ⟨j, hj, h1⟩
  · exfalso
    obtain ⟨j, hj, e⟩ := mem_nth hm
    have hex : ∃ k : Nat, k ≤ j ∧ dotIs (nth (row s o) i).dot (nth s.cs k) = true ∧ ∀ m : Nat, m < k → dotIs (nth (row s o) i).dot (nth s.cs m) = false := by
      have hp : dotIs (nth (row s o) i).dot (nth s.cs j) = true := by simp [dotIs, e]
      clear hj h1 e
      induction j using Nat.strongRecOn with
      | _ j ih =>
        by_cases hall : ∀ m : Nat, m < j → dotIs (nth (row s o) i).dot (nth s.cs m) = false
        · exact ⟨j, Nat.le_refl _, hp, hall⟩
        · obtain ⟨m, hm2⟩ := Classical.not_forall.1 hall
          obtain ⟨hm3, hm4⟩ := Classical.not_imp.1 hm2
          obtain ⟨k, hk, h2⟩ := ih m hm3 (by simpa using hm4)
          exact ⟨k, by omega, h2⟩
    obtain ⟨k, hk, h2, h3⟩ := hex
    have := idx_here (by omega) h3 h2
    unfold cellAt at h1
    omega
  · refine ⟨j, hj, h1, ?_⟩
    have h5 := idx_at (p := dotIs (nth (row s o) i).dot) h1
    simp only [dotIs, decide_eq_true_eq] at h5
    exact hR.uniq (nth_mem hj) hm h5
theorem rowDots_len (s : GState) (o : ByteArray) : (rowDots s o).length = (row s o).length := by simp [rowDots]
theorem rowDots_nth {s : GState} {o : ByteArray} {i : Nat} (h : i < (row s o).length) : nth (rowDots s o) i = (nth (row s o) i).dot := by
  rw [nth_eq (by rw [rowDots_len]; exact h), nth_eq h]
  simp [rowDots]

@[simp] def h86 : Hts := { merge := fun _ => false, dr := fun id => if id = 5 then [{ mb := [22, 8] }, { mb := [22, 8] }, { mb := [8] }, { mb := [8] }, { cr := true, mb := [8] }, { mb := [8] }, { mb := [8] }, { cr := true, mb := [22] }, { wr := [512] }] else [] }
set_option maxHeartbeats 4000000 in
theorem f86_ok (s : GState) (o : ByteArray) (hs : s.Ok) : FnR Tryz.prog 86 [.agg [.im s.know.length (flat s.know), .im s.tallies.length (flat s.tallies), .im s.lives.length (flat s.lives), .im s.cs.length (flat s.cs)], .v (.str o)] (.v (.ow 116 8 (rowLive s o).length (flat (rowLive s o)))) := by
  have hs2 := hs
  simp only [GState.Ok] at hs2
  have hrl := row_len s o
  refine FnW.of_AW TryzT_ok 0 (fn := Tryz.f86) (by kernel_rfl) rfl (by kernel_rfl) rfl rfl rfl ?_; refine AW_of h86 TryzT_ok (by kernel_rfl) ?_
  simp -dsimp
  refine ACallK_of (f112_ok _ _ hs) ?_
  simp -dsimp
  refine AWh_loop (fun i : Nat => i ≤ (row s o).length) (fun i => mkE [(2, .box 128 0), (5, .arr 900001), (12, .arr 768), (13, .c (.int .i64 (row s o).length)), (14, .c (.int .i64 i))] [(128, .box [.c (.im s.know.length (flat s.know)), .c (.im s.tallies.length (flat s.tallies)), .c (.im s.lives.length (flat s.lives)), .c (.im s.cs.length (flat s.cs))]), (900001, .arr 0 116 8 (liveK s o i).length (flat (liveK s o i))), (768, .arr 0 33 2 (row s o).length (flat (rowDots s o)))]) (fun i => (row s o).length - i) 0 (Wk_to [2, 5, 12, 13, 14] [(128, 128), (900001, 576), (768, 768)] rfl rfl (by simp [liveK, filK, rowDots_len])) (by simp) ?_
  rintro i hi
  have hll := liveK_len s o i
  refine AW_of h86 TryzT_ok (by kernel_rfl) ?_
  rcases Nat.lt_or_ge i (row s o).length with h1 | h1
  · have h2 : i < (rowDots s o).length := by rw [rowDots_len]; exact h1
    obtain ⟨j, hj, e1, e2⟩ := row_at h1
    have hd := rowDots_nth h1
    simp -dsimp [h1, ne_of_lt h1, h2, ne_of_lt h2, hd]
    repeat (first | refine ⟨by omega, ?_⟩ | refine ⟨by simp [capMax]; omega, ?_⟩ | refine ⟨⟨by omega, by omega⟩, ?_⟩)
    refine ACallK_of (f113_ok s (nth (row s o) i).dot hs2.2.2.2.2.2.1) ?_
    rw [e1]
    cases g : (nth (row s o) i).gone
    · have he : nth (row s o) i = ⟨(nth (row s o) i).obj, (nth (row s o) i).dot, (nth (row s o) i).time, (nth (row s o) i).ref, (nth (row s o) i).val, false⟩ := by rw [← g]
      have hn : liveK s o (i + 1) = liveK s o i ++ [⟨(nth (row s o) i).obj, (nth (row s o) i).dot, (nth (row s o) i).time, (nth (row s o) i).ref, (nth (row s o) i).val, false⟩] := by rw [← he]; simp [liveK, filK, g]
      clear he
      simp -dsimp [h1, ne_of_lt h1, h2, ne_of_lt h2, hj, ne_of_lt hj, e2, g]
      repeat (first | refine ⟨by omega, ?_⟩ | refine ⟨by simp [capMax]; omega, ?_⟩ | refine ⟨⟨by omega, by omega⟩, ?_⟩)
      exact Back_of (i + 1) [2, 5, 12, 13, 14] [(128, 128), (900001, 1984), (768, 768)] rfl rfl (by simp [hn]; rw [wrap64 (by omega) (by omega)]) (by omega) (by omega)
    · have hn : liveK s o (i + 1) = liveK s o i := by simp [liveK, filK, g]
      simp -dsimp [h1, ne_of_lt h1, h2, ne_of_lt h2, hj, ne_of_lt hj, e2, g]
      repeat (first | refine ⟨by omega, ?_⟩ | refine ⟨by simp [capMax]; omega, ?_⟩ | refine ⟨⟨by omega, by omega⟩, ?_⟩)
      exact Back_of (i + 1) [2, 5, 12, 13, 14] [(128, 128), (900001, 900001), (768, 768)] rfl rfl (by simp [hn]; rw [wrap64 (by omega) (by omega)]) (by omega) (by omega)
  · obtain rfl : i = (row s o).length := by omega
    simp -dsimp
    rw [liveK_all]
    exact ⟨rfl, rfl⟩

@[simp] def h46 : Hts := { mergeF := fun f => f == 44 }
theorem f46_ok (s : GState) (o : ByteArray) (i : Int) (hs : s.Ok) : FnR Tryz.prog 46 [.agg [.im s.know.length (flat s.know), .im s.tallies.length (flat s.tallies), .im s.lives.length (flat s.lives), .im s.cs.length (flat s.cs)], .v (.str o), .v (.int .i64 i)] (.tup [.agg [.int .i64 ((placeIn s o i).1).rep, .int .i64 ((placeIn s o i).1).seq], .v (.bool ((placeIn s o i).2))]) := by
  have hll := rowLive_len s o
  have w1 : IntKind.i64.wrap (((rowLive s o).length : Int) - 1) = ((rowLive s o).length : Int) - 1 := wrap64 (by omega) (by omega)
  refine FnW.of_AW TryzT_ok 0 (fn := Tryz.f46) (by kernel_rfl) rfl (by kernel_rfl) rfl rfl rfl ?_; refine AW_of h46 TryzT_ok (by kernel_rfl) ?_
  simp -dsimp
  refine ACallK_of (f86_ok _ _ hs) ?_
  by_cases hin : 0 ≤ i ∧ i < (rowLive s o).length
  · have q1 : spIn i 0 ((rowLive s o).length - 1) = true := by simp [spIn]; omega
    have q2 : i.toNat < (rowLive s o).length := by omega
    have q3 : ¬ i < 0 := by omega
    simp -dsimp [w1]
    refine ACallK_of (f44_ok _ _ _) ?_
    rw [q1]
    simp -dsimp [q2, ne_of_lt q2]
    repeat (first | refine ⟨by omega, ?_⟩ | refine ⟨by simp [capMax]; omega, ?_⟩ | refine ⟨⟨by omega, by omega⟩, ?_⟩)
    simp [placeIn, hin]
  · have q1 : spIn i 0 ((rowLive s o).length - 1) = false := by simp [spIn]; omega
    simp -dsimp [w1]
    refine ACallK_of (f44_ok _ _ _) ?_
    rw [q1]
    simp -dsimp
    simp [placeIn, hin, zeroDot]

@[simp] def h35 : Hts := { merge := fun _ => false, mergeF := fun _ => false }
set_option maxHeartbeats 2000000 in
theorem f35_ok (s : GState) (o : ByteArray) (i : Int) (hs : s.Ok) (hi1 : i ≤ 9223372036854775807) : FnR Tryz.prog 35 [.agg [.im s.know.length (flat s.know), .im s.tallies.length (flat s.tallies), .im s.lives.length (flat s.lives), .im s.cs.length (flat s.cs)], .v (.str o), .v (.int .i64 i)] (.tup [.agg [.int .i64 ((placeIn s o i).1).rep, .int .i64 ((placeIn s o i).1).seq], .v (.bool ((placeIn s o i).2))]) := by
  refine FnW.of_AW TryzT_ok 0 (fn := Tryz.f35) (by kernel_rfl) rfl (by kernel_rfl) rfl rfl rfl ?_; refine AW_of h35 TryzT_ok (by kernel_rfl) ?_
  simp -dsimp
  refine ACallK_of (f32_ok _ hs) ?_
  rw [stateOkS_eq]
  cases ks : stateOk s
  · simp -dsimp
    have : rowLive s o = [] := by simp [rowLive, row, ks]
    have hno : ¬ (0 ≤ i ∧ i < (rowLive s o).length) := by rw [this]; simp
    simp [placeIn, hno, zeroDot]
  rcases Int.lt_or_le i 0 with h0 | h0
  · simp -dsimp [h0]
    have : ¬ (0 ≤ i ∧ i < (rowLive s o).length) := by omega
    simp [placeIn, this, zeroDot]
  have h0' : ¬ i < 0 := by omega
  have hR := rowF_of ks
  have hrow : preO s.cs o zeroDot = row s o := by simp [row, ks]
  have hrl := row_len s o
  simp -dsimp [h0']
  refine ACallK_of (f76_ok _ _ hR) ?_
  rw [hrow]
  simp -dsimp
  refine AWh_loop (fun j : Nat => j ≤ (row s o).length ∧ (liveK s o j).length ≤ i) (fun j => mkE [(2, .c (.int .i64 (i - (liveK s o j).length))), (6, .box 384 0), (8, .arr 900001), (9, .c (.int .i64 j))] [(384, .box [.c (.int .i64 0), .c (.int .i64 0)]), (900001, .arr 0 116 8 (row s o).length (flat (row s o)))]) (fun j => (row s o).length - j) 0 (Wk_to [2, 6, 8, 9] [(384, 384), (900001, 1280)] rfl rfl (by simp [liveK, filK])) (by simp [liveK, filK, h0]) ?_
  rintro j ⟨hj, hji⟩
  have hll := liveK_len s o j
  refine AW_of h35 TryzT_ok (by kernel_rfl) ?_
  rcases Nat.lt_or_ge j (row s o).length with h1 | h1
  · cases g : (nth (row s o) j).gone
    · have hn : liveK s o (j + 1) = liveK s o j ++ [nth (row s o) j] := by simp [liveK, filK, g]
      by_cases e : i - (liveK s o j).length = 0
      · simp -dsimp [h1, ne_of_lt h1, g, e]
        repeat (first | refine ⟨by omega, ?_⟩ | refine ⟨by simp [capMax]; omega, ?_⟩ | refine ⟨⟨by omega, by omega⟩, ?_⟩)
        obtain ⟨q1, q2⟩ := liveK_nth h1 g
        have hin : 0 ≤ i ∧ i < (rowLive s o).length := by omega
        have hto : i.toNat = (liveK s o j).length := by omega
        simp [placeIn, hin, hto, q2]
      · have e' : (i - ((liveK s o j).length : Int) == 0) = false := by simp [e]
        simp -dsimp [h1, ne_of_lt h1, g, e, e']
        repeat (first | refine ⟨by omega, ?_⟩ | refine ⟨by simp [capMax]; omega, ?_⟩ | refine ⟨⟨by omega, by omega⟩, ?_⟩)
        have w : IntKind.i64.wrap (i - ((liveK s o j).length : Int) - 1) = i - ((liveK s o j).length + 1) := by rw [wrap64 (by omega) (by omega)]; omega
        exact Back_of (j + 1) [2, 6, 8, 9] [(384, 384), (900001, 900001)] rfl rfl (by simp [hn, w]; rw [wrap64 (by omega) (by omega)]) ⟨by omega, by rw [hn]; simp; omega⟩ (by omega)
    · have hn : liveK s o (j + 1) = liveK s o j := by simp [liveK, filK, g]
      simp -dsimp [h1, ne_of_lt h1, g]
      repeat (first | refine ⟨by omega, ?_⟩ | refine ⟨by simp [capMax]; omega, ?_⟩ | refine ⟨⟨by omega, by omega⟩, ?_⟩)
      exact Back_of (j + 1) [2, 6, 8, 9] [(384, 384), (900001, 900001)] rfl rfl (by simp [hn]; rw [wrap64 (by omega) (by omega)]) ⟨by omega, by rw [hn]; exact hji⟩ (by omega)
  · obtain rfl : j = (row s o).length := by omega
    rw [liveK_all] at hji
    have hno : ¬ (0 ≤ i ∧ i < (rowLive s o).length) := by omega
    simp -dsimp
    simp [placeIn, hno, zeroDot]
end Am
