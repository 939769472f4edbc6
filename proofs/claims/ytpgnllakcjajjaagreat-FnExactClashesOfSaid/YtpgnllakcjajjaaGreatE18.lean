/- Keys in order, each once. No condition. -/
import Derived.Test.YtpgnllakcjajjaaGreatT
import Derived.Test.YtpgnllakcjajjaaGreatD
import Derived.Test.YtpgnllakcjajjaaGreatE5
import Derived.Test.YtpgnllakcjajjaaGreatAm31
import Derived.Test.YtpgnllakcjajjaaGreatAm33
namespace Am
open Go Go.Proofs
open Cel (cells)
set_option maxRecDepth 100000
set_option linter.unusedSimpArgs false
set_option linter.unusedVariables false

/-- what is put out of the rest of a list -/
def putGo (s : ByteArray) : Bool → List ByteArray → List ByteArray
  | p, [] => if p then [] else [s]
  | p, x :: r => if !p && strLt s x then s :: x :: putGo s true r else x :: putGo s p r
def hasS (s : ByteArray) (l : List ByteArray) : Bool := l.any fun x => decide (x = s)
def putL (l : List ByteArray) (s : ByteArray) : List ByteArray := if hasS s l then l else putGo s false l
theorem putGo_len (s : ByteArray) : ∀ (p : Bool) (l : List ByteArray), (putGo s p l).length = l.length + (if p then 0 else 1)
  | true, [] => rfl
  | false, [] => rfl
  | true, x :: r => by simp [putGo, putGo_len s true r]
  | false, x :: r => by
    simp only [putGo]
    split
    · simp [putGo_len s true r]
    · simp [putGo_len s false r]
theorem hasS_at {s : ByteArray} {l : List ByteArray} {i : Nat} (h : i < l.length) (he : nth l i = s) : hasS s l = true := by
  simp only [hasS, List.any_eq_true, decide_eq_true_eq]
  exact ⟨nth l i, nth_mem h, he⟩
theorem hasS_none {s : ByteArray} {l : List ByteArray} (h : ∀ j : Nat, j < l.length → nth l j ≠ s) : hasS s l = false := by
  cases hh : hasS s l
  · rfl
  · simp only [hasS, List.any_eq_true, decide_eq_true_eq] at hh
    obtain ⟨x, hx, rfl⟩ := hh
    obtain ⟨j, hj, e⟩ := List.getElem_of_mem hx
    exact absurd (by rw [nth_eq hj, e]) (h j hj)

@[simp] def h76 : Hts := { merge := fun _ => false }
set_option maxHeartbeats 1000000 in
theorem f76_ok (l : List ByteArray) (s : ByteArray) (ha : l.length ≤ 1073741824) : FnW Tryz.prog 76 [.v (.ow 9 1 l.length (flat l)), .v (.str s)] (.v (.ow 9 1 (putL l s).length (flat (putL l s)))) [.any, .any] := by
  refine FnW.of_AW TryzT_ok 0 (fn := Tryz.f76) (by kernel_rfl) rfl (by kernel_rfl) rfl rfl rfl ?_; refine AW_of h76 TryzT_ok (by kernel_rfl) ?_
  simp -dsimp
  refine AWh_loop (fun q : Nat × Bool × List ByteArray => q.1 ≤ l.length ∧ q.2.2.length ≤ q.1 + (bif q.2.1 then 1 else 0) ∧ (∀ j : Nat, j < q.1 → nth l j ≠ s) ∧ q.2.2 ++ putGo s q.2.1 (l.drop q.1) = putGo s false l) (fun q => mkE [(0, .arr 640000), (1, .c (.str s)), (5, .arr 512), (6, .c (.bool q.2.1)), (7, .c (.int .i64 q.1))] [(640000, .arr 0 9 1 l.length (flat l)), (512, .arr 0 9 1 q.2.2.length (flat q.2.2))]) (fun q => l.length - q.1) (0, false, []) (Wk_to [0, 1, 5, 6, 7] [(640000, 640000), (512, 512)] rfl rfl (by simp)) (by simp) ?_
  rintro ⟨i, p, out⟩ ⟨hi, hl, hne, hgo⟩
  simp only at hi hl hne hgo
  refine AW_of h76 TryzT_ok (by kernel_rfl) ?_
  rcases Nat.lt_or_ge i l.length with h1 | h1
  · have hd : l.drop i = nth l i :: l.drop (i + 1) := by rw [List.drop_eq_getElem_cons h1, ← nth_eq h1]
    rw [hd] at hgo
    have hw : IntKind.i64.wrap ((i : Int) + 1) = (i : Int) + 1 := wrap64 (by omega) (by omega)
    by_cases e : nth l i = s
    · simp -dsimp [h1, ne_of_lt h1, e]
      repeat (first | refine ⟨by omega, ?_⟩ | refine ⟨by simp [capMax]; omega, ?_⟩)
      rw [putL, if_pos (hasS_at h1 e)]
      exact ⟨rfl, rfl⟩
    · have hnext : ∀ j : Nat, j < i + 1 → nth l j ≠ s := fun j hj => by
        by_cases e2 : j = i
        · subst e2; exact e
        · exact hne j (by omega)
      cases p with
      | true =>
        simp only [cond_true] at hl
        simp -dsimp [h1, ne_of_lt h1, e, hw]
        repeat (first | refine ⟨by omega, ?_⟩ | refine ⟨by simp [capMax]; omega, ?_⟩)
        exact Back_of (i + 1, true, out ++ [nth l i]) [0, 1, 5, 6, 7] [(640000, 640000), (512, 2688)] rfl rfl (by simp) ⟨by simp only; omega, by simp; omega, hnext, by rw [← hgo]; simp [putGo]⟩ (by simp only; omega)
      | false =>
        simp only [cond_false] at hl
        cases g : Op.bytesLess (nth l i).toList s.toList
        · have gs : strLt s (nth l i) = true := by
            cases g2 : strLt s (nth l i)
            · exact absurd (strLt_tri g g2) e
            · rfl
          simp -dsimp [h1, ne_of_lt h1, e, g, hw]
          repeat (first | refine ⟨by omega, ?_⟩ | refine ⟨by simp [capMax]; omega, ?_⟩)
          exact Back_of (i + 1, true, out ++ [s] ++ [nth l i]) [0, 1, 5, 6, 7] [(640000, 640000), (512, 2688)] rfl rfl (by simp) ⟨by simp only; omega, by simp; omega, hnext, by rw [← hgo]; simp [putGo, gs]⟩ (by simp only; omega)
        · have gs : strLt s (nth l i) = false := strLt_asymm g
          simp -dsimp [h1, ne_of_lt h1, e, g, hw]
          repeat (first | refine ⟨by omega, ?_⟩ | refine ⟨by simp [capMax]; omega, ?_⟩)
          exact Back_of (i + 1, false, out ++ [nth l i]) [0, 1, 5, 6, 7] [(640000, 640000), (512, 2688)] rfl rfl (by simp) ⟨by simp only; omega, by simp; omega, hnext, by rw [← hgo]; simp [putGo, gs]⟩ (by simp only; omega)
  · obtain rfl : i = l.length := by omega
    rw [List.drop_length] at hgo
    have hno := hasS_none hne
    cases p with
    | true =>
      simp only [cond_true] at hl
      have e : out = putL l s := by rw [putL, hno, ← hgo]; simp [putGo]
      simp -dsimp
      rw [← e]
      exact ⟨rfl, rfl⟩
    | false =>
      simp only [cond_false] at hl
      have e : out ++ [s] = putL l s := by rw [putL, hno, ← hgo]; simp [putGo]
      simp -dsimp
      refine ⟨by simp [capMax]; omega, ?_⟩
      rw [← e]
      exact ⟨by simp, rfl⟩

def keyIn (m : Bool) (o : ByteArray) (x : GLive) : Bool := (x.map == m) && decide (x.obj = o)
def keysUpto (s : GState) (m : Bool) (o : ByteArray) : Nat → List ByteArray
  | 0 => []
  | n + 1 => if keyIn m o (nth s.lives n) then putL (keysUpto s m o n) (nth s.lives n).key else keysUpto s m o n
def keysS (s : GState) (m : Bool) (o : ByteArray) : List ByteArray := keysUpto s m o s.lives.length
theorem putL_len (l : List ByteArray) (s : ByteArray) : (putL l s).length ≤ l.length + 1 := by
  unfold putL
  split
  · omega
  · rw [putGo_len]; simp
theorem keysUpto_len (s : GState) (m : Bool) (o : ByteArray) : ∀ n, (keysUpto s m o n).length ≤ n
  | 0 => by simp [keysUpto]
  | n + 1 => by
    have := keysUpto_len s m o n
    simp only [keysUpto]
    split
    · have := putL_len (keysUpto s m o n) (nth s.lives n).key
      omega
    · omega

@[simp] def h149 : Hts := { merge := fun _ => false, lend := fun f => if f = 76 then [.lend] else [] }
set_option maxHeartbeats 1000000 in
theorem f149_ok (s : GState) (m : Bool) (o : ByteArray) (ha : s.lives.length ≤ 1073741824) : FnR Tryz.prog 149 [.agg [.im s.know.length (flat s.know), .im s.tallies.length (flat s.tallies), .im s.lives.length (flat s.lives), .im s.cs.length (flat s.cs)], .v (.bool m), .v (.str o)] (.v (.ow 9 1 (keysS s m o).length (flat (keysS s m o)))) := by
  refine FnW.of_AW TryzT_ok 0 (fn := Tryz.f149) (by kernel_rfl) rfl (by kernel_rfl) rfl rfl rfl ?_; refine AW_of h149 TryzT_ok (by kernel_rfl) ?_
  simp -dsimp
  refine AWh_loop (fun i : Nat => i ≤ s.lives.length) (fun i => mkE [(1, .c (.bool m)), (2, .c (.str o)), (3, .box 192 0), (7, .arr 448), (8, .c (.int .i64 i))] [(192, .box [.c (.im s.know.length (flat s.know)), .c (.im s.tallies.length (flat s.tallies)), .c (.im s.lives.length (flat s.lives)), .c (.im s.cs.length (flat s.cs))]), (448, .arr 0 9 1 (keysUpto s m o i).length (flat (keysUpto s m o i)))]) (fun i => s.lives.length - i) 0 (Wk_to [1, 2, 3, 7, 8] [(192, 192), (448, 576)] rfl rfl (by simp [keysUpto])) (by simp) ?_
  rintro i hi
  have hkl := keysUpto_len s m o i
  refine AW_of h149 TryzT_ok (by kernel_rfl) ?_
  rcases Nat.lt_or_ge i s.lives.length with h1 | h1
  · by_cases e1 : (nth s.lives i).map = m
    · have b1 : ((nth s.lives i).map == m) = true := by simp [e1]
      by_cases e2 : (nth s.lives i).obj = o
      · have hk : keysUpto s m o (i + 1) = putL (keysUpto s m o i) (nth s.lives i).key := by simp [keysUpto, keyIn, e1, e2]
        simp -dsimp [h1, ne_of_lt h1, b1, e1, e2]
        refine ACallW_args (by intro us; simp -dsimp; exact ⟨rfl, rfl, rfl⟩) ?_
        refine ACallC_of (fun us => f76_ok _ _ (by omega)) (by intro us; simp -dsimp; exact ⟨rfl, rfl⟩) ?_
        simp -dsimp
        exact Back_of (i + 1) [1, 2, 3, 7, 8] [(192, 192), (448, 2688)] rfl rfl (by simp [hk]; rw [wrap64 (by omega) (by omega)]) (by omega) (by omega)
      · have hk : keysUpto s m o (i + 1) = keysUpto s m o i := by simp [keysUpto, keyIn, e1, e2]
        simp -dsimp [h1, ne_of_lt h1, b1, e1, e2]
        exact Back_of (i + 1) [1, 2, 3, 7, 8] [(192, 192), (448, 448)] rfl rfl (by simp [hk]; rw [wrap64 (by omega) (by omega)]) (by omega) (by omega)
    · have b1 : ((nth s.lives i).map == m) = false := by simp [e1]
      have hk : keysUpto s m o (i + 1) = keysUpto s m o i := by simp [keysUpto, keyIn, e1]
      simp -dsimp [h1, ne_of_lt h1, b1, e1]
      exact Back_of (i + 1) [1, 2, 3, 7, 8] [(192, 192), (448, 448)] rfl rfl (by simp [hk]; rw [wrap64 (by omega) (by omega)]) (by omega) (by omega)
  · obtain rfl : i = s.lives.length := by omega
    simp -dsimp
    exact ⟨rfl, rfl⟩

@[simp] def h77 : Hts := {  }
theorem f77_ok (s : GState) (o : ByteArray) (ha : s.lives.length ≤ 1073741824) : FnR Tryz.prog 77 [.agg [.im s.know.length (flat s.know), .im s.tallies.length (flat s.tallies), .im s.lives.length (flat s.lives), .im s.cs.length (flat s.cs)], .v (.str o)] (.v (.ow 9 1 (keysS s true o).length (flat (keysS s true o)))) := by
  refine FnW.of_AW TryzT_ok 0 (fn := Tryz.f77) (by kernel_rfl) rfl (by kernel_rfl) rfl rfl rfl ?_; refine AW_of h77 TryzT_ok (by kernel_rfl) ?_
  simp -dsimp
  refine ACallK_of (f149_ok _ _ _ ha) ?_
  simp -dsimp
end Am
