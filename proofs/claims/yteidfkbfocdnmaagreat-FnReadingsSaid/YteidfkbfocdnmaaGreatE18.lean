/- Keys in order, each once. No condition. -/
import Derived.Test.YteidfkbfocdnmaaGreatT
import Derived.Test.YteidfkbfocdnmaaGreatD
import Derived.Test.YteidfkbfocdnmaaGreatE2
import Derived.Test.YteidfkbfocdnmaaGreatAm31
import Derived.Test.YteidfkbfocdnmaaGreatAm33
import Derived.Test.YteidfkbfocdnmaaGreatY
namespace Am
open Go Go.Proofs
open Cel (cells)
set_option maxRecDepth 100000
set_option linter.unusedSimpArgs false
set_option linter.unusedVariables false

/-- what is put out of the rest of a list -/
def putGo (s : ByteArray) : Bool → List ByteArray → List ByteArray
  | p, [] => if p then [] else [s]
  | p, x :: r => if !p && strLt s x then s :: x :: putGo s true r else x :: putGo s p r
def hasS (s : ByteArray) (l : List ByteArray) : Bool := l.any fun x => decide (x = s)
def putL (l : List ByteArray) (s : ByteArray) : List ByteArray := if hasS s l then l else putGo s false l
theorem putGo_len (s : ByteArray) : ∀ (p : Bool) (l : List ByteArray), (putGo s p l).length = l.length + (if p then 0 else 1)
  | true, [] => rfl
  | false, [] => rfl
  | true, x :: r => by simp [putGo, putGo_len s true r]
  | false, x :: r => by
    simp only [putGo]
    split
    · simp [putGo_len s true r]
    · simp [putGo_len s false r]
theorem hasS_at {s : ByteArray} {l : List ByteArray} {i : Nat} (h : i < l.length) (he : nth l i = s) : hasS s l = true := by
  simp only [hasS, List.any_eq_true, decide_eq_true_eq]
  exact ⟨nth l i, nth_mem h, he⟩
theorem hasS_none {s : ByteArray} {l : List ByteArray} (h : ∀ j : Nat, j < l.length → nth l j ≠ s) : hasS s l = false := by
  cases hh : hasS s l
  · rfl
  · simp only [hasS, List.any_eq_true, decide_eq_true_eq] at hh
    obtain ⟨x, hx, rfl⟩ := hh
    obtain ⟨j, hj, e⟩ := List.getElem_of_mem hx
    exact absurd (by rw [nth_eq hj, e]) (h j hj)

@[simp] def h144 : Hts := { merge := fun _ => false }
set_option maxHeartbeats 1000000 in
theorem f144_ok (l : List ByteArray) (s : ByteArray) (ha : l.length ≤ 1073741824) : FnW Tryz.prog 144 [.v (.ow 9 1 l.length (flat l)), .v (.str s)] (.v (.ow 9 1 (putL l s).length (flat (putL l s)))) [.any, .any] := by
  refine FnW.of_AW TryzT_ok 0 (fn := Tryz.f144) (by kernel_rfl) rfl (by kernel_rfl) rfl rfl rfl ?_; refine AW_of h144 TryzT_ok (by kernel_rfl) ?_
  simp -dsimp
  refine AWh_loop (fun q : Nat × Bool × List ByteArray => q.1 ≤ l.length ∧ q.2.2.length ≤ q.1 + (bif q.2.1 then 1 else 0) ∧ (∀ j : Nat, j < q.1 → nth l j ≠ s) ∧ q.2.2 ++ putGo s q.2.1 (l.drop q.1) = putGo s false l) (fun q => mkE [(0, .arr 640000), (1, .c (.str s)), (5, .arr 512), (6, .c (.bool q.2.1)), (7, .c (.int .i64 q.1))] [(640000, .arr 0 9 1 l.length (flat l)), (512, .arr 0 9 1 q.2.2.length (flat q.2.2))]) (fun q => l.length - q.1) (0, false, []) (Wk_to [0, 1, 5, 6, 7] [(640000, 640000), (512, 512)] rfl rfl (by simp)) (by simp) ?_
  rintro ⟨i, p, out⟩ ⟨hi, hl, hne, hgo⟩
  simp only at hi hl hne hgo
  refine AW_of h144 TryzT_ok (by kernel_rfl) ?_
  rcases Nat.lt_or_ge i l.length with h1 | h1
  · have hd : l.drop i = nth l i :: l.drop (i + 1) := by rw [List.drop_eq_getElem_cons h1, ← nth_eq h1]
    rw [hd] at hgo
    have hw : IntKind.i64.wrap ((i : Int) + 1) = (i : Int) + 1 := wrap64 (by omega) (by omega)
    by_cases e : nth l i = s
    · simp -dsimp [h1, ne_of_lt h1, e]
      repeat (first | refine ⟨by omega, ?_⟩ | refine ⟨by simp [capMax]; omega, ?_⟩)
      rw [putL, if_pos (hasS_at h1 e)]
      exact ⟨rfl, rfl⟩
    · have hnext : ∀ j : Nat, j < i + 1 → nth l j ≠ s := fun j hj => by
        by_cases e2 : j = i
        · subst e2; exact e
        · exact hne j (by omega)
      cases p with
      | true =>
        simp only [cond_true] at hl
        simp -dsimp [h1, ne_of_lt h1, e, hw]
        repeat (first | refine ⟨by omega, ?_⟩ | refine ⟨by simp [capMax]; omega, ?_⟩)
        exact Back_of (i + 1, true, out ++ [nth l i]) [0, 1, 5, 6, 7] [(640000, 640000), (512, 2688)] rfl rfl (by simp) ⟨by simp only; omega, by simp; omega, hnext, by rw [← hgo]; simp [putGo]⟩ (by simp only; omega)
      | false =>
        simp only [cond_false] at hl
        cases g : Op.bytesLess (nth l i).toList s.toList
        · have gs : strLt s (nth l i) = true := by
            cases g2 : strLt s (nth l i)
            · exact absurd (strLt_tri g g2) e
            · rfl
          simp -dsimp [h1, ne_of_lt h1, e, g, hw]
          repeat (first | refine ⟨by omega, ?_⟩ | refine ⟨by simp [capMax]; omega, ?_⟩)
          exact Back_of (i + 1, true, out ++ [s] ++ [nth l i]) [0, 1, 5, 6, 7] [(640000, 640000), (512, 2688)] rfl rfl (by simp) ⟨by simp only; omega, by simp; omega, hnext, by rw [← hgo]; simp [putGo, gs]⟩ (by simp only; omega)
        · have gs : strLt s (nth l i) = false := strLt_asymm g
          simp -dsimp [h1, ne_of_lt h1, e, g, hw]
          repeat (first | refine ⟨by omega, ?_⟩ | refine ⟨by simp [capMax]; omega, ?_⟩)
          exact Back_of (i + 1, false, out ++ [nth l i]) [0, 1, 5, 6, 7] [(640000, 640000), (512, 2688)] rfl rfl (by simp) ⟨by simp only; omega, by simp; omega, hnext, by rw [← hgo]; simp [putGo, gs]⟩ (by simp only; omega)
  · obtain rfl : i = l.length := by omega
    rw [List.drop_length] at hgo
    have hno := hasS_none hne
    cases p with
    | true =>
      simp only [cond_true] at hl
      have e : out = putL l s := by rw [putL, hno, ← hgo]; simp [putGo]
      simp -dsimp
      rw [← e]
      exact ⟨rfl, rfl⟩
    | false =>
      simp only [cond_false] at hl
      have e : out ++ [s] = putL l s := by rw [putL, hno, ← hgo]; simp [putGo]
      simp -dsimp
      refine ⟨by simp [capMax]; omega, ?_⟩
      rw [← e]
      exact ⟨by simp, rfl⟩

def keyIn (m : Bool) (o : ByteArray) (x : GLive) : Bool := (x.map == m) && decide (x.obj = o)
def keysUpto (s : GState) (m : Bool) (o : ByteArray) : Nat → List ByteArray
  | 0 => []
  | n + 1 => if keyIn m o (nth s.lives n) then putL (keysUpto s m o n) (nth s.lives n).key else keysUpto s m o n
def keysS (s : GState) (m : Bool) (o : ByteArray) : List ByteArray := keysUpto s m o s.lives.length
theorem putL_len (l : List ByteArray) (s : ByteArray) : (putL l s).length ≤ l.length + 1 := by
  unfold putL
  split
  · omega
  · rw [putGo_len]; simp
theorem keysUpto_len (s : GState) (m : Bool) (o : ByteArray) : ∀ n, (keysUpto s m o n).length ≤ n
  | 0 => by simp [keysUpto]
  | n + 1 => by
    have := keysUpto_len s m o n
    simp only [keysUpto]
    split
    · have := putL_len (keysUpto s m o n) (nth s.lives n).key
      omega
    · omega

@[simp] def h174 : Hts := { merge := fun _ => false, lend := fun f => if f = 144 then [.lend] else [] }
set_option maxHeartbeats 1000000 in
theorem f174_ok (s : GState) (m : Bool) (o : ByteArray) (ha : s.lives.length ≤ 1073741824) : FnR Tryz.prog 174 [.agg [.im s.know.length (flat s.know), .im s.tallies.length (flat s.tallies), .im s.lives.length (flat s.lives), .im s.cs.length (flat s.cs)], .v (.bool m), .v (.str o)] (.v (.ow 9 1 (keysS s m o).length (flat (keysS s m o)))) := by
  refine FnW.of_AW TryzT_ok 0 (fn := Tryz.f174) (by kernel_rfl) rfl (by kernel_rfl) rfl rfl rfl ?_; refine AW_of h174 TryzT_ok (by kernel_rfl) ?_
  simp -dsimp
  refine AWh_loop (fun i : Nat => i ≤ s.lives.length) (fun i => mkE [(1, .c (.bool m)), (2, .c (.str o)), (3, .box 192 0), (7, .arr 448), (8, .c (.int .i64 i))] [(192, .box [.c (.im s.know.length (flat s.know)), .c (.im s.tallies.length (flat s.tallies)), .c (.im s.lives.length (flat s.lives)), .c (.im s.cs.length (flat s.cs))]), (448, .arr 0 9 1 (keysUpto s m o i).length (flat (keysUpto s m o i)))]) (fun i => s.lives.length - i) 0 (Wk_to [1, 2, 3, 7, 8] [(192, 192), (448, 576)] rfl rfl (by simp [keysUpto])) (by simp) ?_
  rintro i hi
  have hkl := keysUpto_len s m o i
  refine AW_of h174 TryzT_ok (by kernel_rfl) ?_
  rcases Nat.lt_or_ge i s.lives.length with h1 | h1
  · by_cases e1 : (nth s.lives i).map = m
    · have b1 : ((nth s.lives i).map == m) = true := by simp [e1]
      by_cases e2 : (nth s.lives i).obj = o
      · have hk : keysUpto s m o (i + 1) = putL (keysUpto s m o i) (nth s.lives i).key := by simp [keysUpto, keyIn, e1, e2]
        simp -dsimp [h1, ne_of_lt h1, b1, e1, e2]
        refine ACallW_args (by intro us; simp -dsimp; exact ⟨rfl, rfl, rfl⟩) ?_
        refine ACallC_of (fun us => f144_ok _ _ (by omega)) (by intro us; simp -dsimp; exact ⟨rfl, rfl⟩) ?_
        simp -dsimp
        exact Back_of (i + 1) [1, 2, 3, 7, 8] [(192, 192), (448, 2688)] rfl rfl (by simp [hk]; rw [wrap64 (by omega) (by omega)]) (by omega) (by omega)
      · have hk : keysUpto s m o (i + 1) = keysUpto s m o i := by simp [keysUpto, keyIn, e1, e2]
        simp -dsimp [h1, ne_of_lt h1, b1, e1, e2]
        exact Back_of (i + 1) [1, 2, 3, 7, 8] [(192, 192), (448, 448)] rfl rfl (by simp [hk]; rw [wrap64 (by omega) (by omega)]) (by omega) (by omega)
    · have b1 : ((nth s.lives i).map == m) = false := by simp [e1]
      have hk : keysUpto s m o (i + 1) = keysUpto s m o i := by simp [keysUpto, keyIn, e1]
      simp -dsimp [h1, ne_of_lt h1, b1, e1]
      exact Back_of (i + 1) [1, 2, 3, 7, 8] [(192, 192), (448, 448)] rfl rfl (by simp [hk]; rw [wrap64 (by omega) (by omega)]) (by omega) (by omega)
  · obtain rfl : i = s.lives.length := by omega
    simp -dsimp
    exact ⟨rfl, rfl⟩

@[simp] def h56 : Hts := {  }
theorem f56_ok (s : GState) (o : ByteArray) (ha : s.lives.length ≤ 1073741824) : FnR Tryz.prog 56 [.agg [.im s.know.length (flat s.know), .im s.tallies.length (flat s.tallies), .im s.lives.length (flat s.lives), .im s.cs.length (flat s.cs)], .v (.str o)] (.v (.ow 9 1 (keysS s true o).length (flat (keysS s true o)))) := by
  refine FnW.of_AW TryzT_ok 0 (fn := Tryz.f56) (by kernel_rfl) rfl (by kernel_rfl) rfl rfl rfl ?_; refine AW_of h56 TryzT_ok (by kernel_rfl) ?_
  simp -dsimp
  refine ACallK_of (f174_ok _ _ _ ha) ?_
  simp -dsimp
@[simp] def h54 : Hts := {  }
theorem f54_ok (s : GState) (o : ByteArray) (ha : s.lives.length ≤ 1073741824) : FnR Tryz.prog 54 [.agg [.im s.know.length (flat s.know), .im s.tallies.length (flat s.tallies), .im s.lives.length (flat s.lives), .im s.cs.length (flat s.cs)], .v (.str o)] (.v (.ow 9 1 (keysS s false o).length (flat (keysS s false o)))) := by
  refine FnW.of_AW TryzT_ok 0 (fn := Tryz.f54) (by kernel_rfl) rfl (by kernel_rfl) rfl rfl rfl ?_; refine AW_of h54 TryzT_ok (by kernel_rfl) ?_
  simp -dsimp
  refine ACallK_of (f174_ok _ _ _ ha) ?_
  simp -dsimp
end Am
namespace Am
open Go Go.Proofs
open Cel (cells)
set_option maxRecDepth 100000
set_option linter.unusedSimpArgs false
set_option linter.unusedVariables false

def rawUpto (s : GState) (m : Bool) (o : ByteArray) : Nat → List ByteArray
  | 0 => []
  | n + 1 => if keyIn m o (nth s.lives n) then rawUpto s m o n ++ [(nth s.lives n).key] else rawUpto s m o n
theorem rawUpto_len (s : GState) (m : Bool) (o : ByteArray) : ∀ n, (rawUpto s m o n).length ≤ n
  | 0 => by simp [rawUpto]
  | n + 1 => by
    have := rawUpto_len s m o n
    simp only [rawUpto]
    split
    · simp; omega
    · omega
def keysM (s : GState) (m : Bool) (o : ByteArray) : List ByteArray := compactS (sortS (rawUpto s m o s.lives.length))

@[simp] def h173 : Hts := { merge := fun _ => false, lend := fun f => if f = 292 then [.lend] else if f = 293 then [.lend] else [] }
set_option maxHeartbeats 1000000 in
theorem f173_ok (s : GState) (m : Bool) (o : ByteArray) (ha : s.lives.length ≤ 1073741824) : FnR Tryz.prog 173 [.agg [.im s.know.length (flat s.know), .im s.tallies.length (flat s.tallies), .im s.lives.length (flat s.lives), .im s.cs.length (flat s.cs)], .v (.bool m), .v (.str o)] (.v (.ow 9 1 (keysM s m o).length (flat (keysM s m o)))) := by
  refine FnW.of_AW TryzT_ok 0 (fn := Tryz.f173) (by kernel_rfl) rfl (by kernel_rfl) rfl rfl rfl ?_; refine AW_of h173 TryzT_ok (by kernel_rfl) ?_
  simp -dsimp
  refine AWh_loop (fun i : Nat => i ≤ s.lives.length) (fun i => mkE [(1, .c (.bool m)), (2, .c (.str o)), (7, .arr 448), (12, .c (.im s.lives.length (flat s.lives))), (13, .c (.int .i64 s.lives.length)), (14, .c (.int .i64 i))] [(448, .arr 0 9 1 (rawUpto s m o i).length (flat (rawUpto s m o i)))]) (fun i => s.lives.length - i) 0 (Wk_to [1, 2, 7, 12, 13, 14] [(448, 640)] rfl rfl (by simp [rawUpto])) (by simp) ?_
  rintro i hi
  have hkl := rawUpto_len s m o i
  refine AW_of h173 TryzT_ok (by kernel_rfl) ?_
  rcases Nat.lt_or_ge i s.lives.length with h1 | h1
  · by_cases e1 : (nth s.lives i).map = m
    · have b1 : ((nth s.lives i).map == m) = true := by simp [e1]
      by_cases e2 : (nth s.lives i).obj = o
      · have hk : rawUpto s m o (i + 1) = rawUpto s m o i ++ [(nth s.lives i).key] := by simp [rawUpto, keyIn, e1, e2]
        simp -dsimp [h1, ne_of_lt h1, b1, e1, e2]
        repeat (first | refine ⟨by omega, ?_⟩ | refine ⟨by simp [capMax]; omega, ?_⟩)
        exact Back_of (i + 1) [1, 2, 7, 12, 13, 14] [(448, 2048)] rfl rfl (by simp [hk]; rw [wrap64 (by omega) (by omega)]) (by omega) (by omega)
      · have hk : rawUpto s m o (i + 1) = rawUpto s m o i := by simp [rawUpto, keyIn, e1, e2]
        simp -dsimp [h1, ne_of_lt h1, b1, e1, e2]
        repeat (first | refine ⟨by omega, ?_⟩ | refine ⟨by simp [capMax]; omega, ?_⟩)
        exact Back_of (i + 1) [1, 2, 7, 12, 13, 14] [(448, 448)] rfl rfl (by simp [hk]; rw [wrap64 (by omega) (by omega)]) (by omega) (by omega)
    · have b1 : ((nth s.lives i).map == m) = false := by simp [e1]
      have hk : rawUpto s m o (i + 1) = rawUpto s m o i := by simp [rawUpto, keyIn, e1]
      simp -dsimp [h1, ne_of_lt h1, b1, e1]
      repeat (first | refine ⟨by omega, ?_⟩ | refine ⟨by simp [capMax]; omega, ?_⟩)
      exact Back_of (i + 1) [1, 2, 7, 12, 13, 14] [(448, 448)] rfl rfl (by simp [hk]; rw [wrap64 (by omega) (by omega)]) (by omega) (by omega)
  · obtain rfl : i = s.lives.length := by omega
    simp -dsimp
    refine ACallW_args (by intro us; simp -dsimp; exact ⟨rfl, rfl, rfl⟩) ?_
    refine ACallC_of (fun us => f292_ok _ (by omega)) (by intro us; simp -dsimp; exact ⟨rfl, rfl⟩) ?_
    simp -dsimp
    have hc := f293_ok (sortS (rawUpto s m o s.lives.length)) (by rw [sortS_len]; omega)
    rw [sortS_len] at hc
    refine ACallW_args (by intro us; simp -dsimp; exact ⟨rfl, rfl, rfl⟩) ?_
    refine ACallC_of (fun us => hc) (by intro us; simp -dsimp; exact ⟨rfl, rfl⟩) ?_
    simp -dsimp
    exact ⟨rfl, rfl⟩
end Am
namespace Am
open Go Go.Proofs
open Cel (cells)
set_option maxRecDepth 100000
set_option linter.unusedSimpArgs false
set_option linter.unusedVariables false

/-- strings in order, none twice -/
def SS (l : List ByteArray) : Prop := l.Pairwise fun a b => strLt a b = true
theorem strLt_trans {a b c : ByteArray} (h : strLt a b = true) (h' : strLt b c = true) : strLt a c = true := by
  rw [strLt, bytesLess_eq, decide_eq_true_eq] at *
  exact List.lt_trans h h'
theorem SS_unique : ∀ {l1 l2 : List ByteArray}, SS l1 → SS l2 → (∀ x, x ∈ l1 ↔ x ∈ l2) → l1 = l2
  | [], [], _, _, _ => rfl
  | [], y :: r, _, _, h => by have := (h y).2 (by simp); simp at this
  | x :: r, [], _, _, h => by have := (h x).1 (by simp); simp at this
  | x :: r, y :: t, h1, h2, h => by
    obtain ⟨a1, a2⟩ := List.pairwise_cons.1 h1
    obtain ⟨b1, b2⟩ := List.pairwise_cons.1 h2
    have e : x = y := by
      rcases List.mem_cons.1 ((h x).1 (by simp)) with e | hx
      · exact e
      · rcases List.mem_cons.1 ((h y).2 (by simp)) with e | hy
        · exact e.symm
        · have := strLt_asymm (a1 y hy)
          rw [b1 x hx] at this
          cases this
    subst e
    rw [SS_unique a2 b2 fun z => ?_]
    have hz := h z
    simp only [List.mem_cons] at hz
    constructor
    · intro hm
      rcases hz.1 (.inr hm) with e | hm'
      · subst e
        have := a1 z hm
        rw [strLt_self] at this; cases this
      · exact hm'
    · intro hm
      rcases hz.2 (.inr hm) with e | hm'
      · subst e
        have := b1 z hm
        rw [strLt_self] at this; cases this
      · exact hm'
theorem putGo_true (s : ByteArray) : ∀ l : List ByteArray, putGo s true l = l
  | [] => rfl
  | x :: r => by simp [putGo, putGo_true s r]
theorem putGo_mem (s x : ByteArray) : ∀ l : List ByteArray, x ∈ putGo s false l ↔ x = s ∨ x ∈ l
  | [] => by simp [putGo]
  | y :: r => by
    have ih := putGo_mem s x r
    simp only [putGo]
    split
    · simp [putGo_true]
    · simp [ih]; grind
theorem putGo_SS {s : ByteArray} : ∀ {l : List ByteArray}, SS l → s ∉ l → SS (putGo s false l)
  | [], _, _ => by simp [putGo, SS]
  | y :: r, h, hn => by
    obtain ⟨a1, a2⟩ := List.pairwise_cons.1 h
    simp only [List.mem_cons, not_or] at hn
    simp only [putGo, putGo_true]
    split
    · rename_i hc
      simp only [Bool.not_false, Bool.true_and] at hc
      refine List.pairwise_cons.2 ⟨fun z hz => ?_, h⟩
      rcases List.mem_cons.1 hz with rfl | hz
      · exact hc
      · exact strLt_trans hc (a1 z hz)
    · rename_i hc
      simp only [Bool.not_false, Bool.true_and, Bool.not_eq_true] at hc
      refine List.pairwise_cons.2 ⟨fun z hz => ?_, putGo_SS a2 hn.2⟩
      rcases (putGo_mem s z r).1 hz with rfl | hz
      · cases hg : strLt y z
        · exact absurd (strLt_tri hc hg) hn.1
        · rfl
      · exact a1 z hz
theorem hasS_iff {s : ByteArray} {l : List ByteArray} : hasS s l = true ↔ s ∈ l := by
  simp [hasS]
theorem putL_mem (l : List ByteArray) (s x : ByteArray) : x ∈ putL l s ↔ x ∈ l ∨ x = s := by
  unfold putL
  split
  · rename_i h
    rw [hasS_iff] at h
    constructor
    · exact .inl
    · rintro (h' | rfl)
      · exact h'
      · exact h
  · rw [putGo_mem]; exact Or.comm
theorem putL_SS {l : List ByteArray} {s : ByteArray} (h : SS l) : SS (putL l s) := by
  unfold putL
  split
  · exact h
  · rename_i hn
    exact putGo_SS h (fun hm => hn (hasS_iff.2 hm))
theorem keys_spec (s : GState) (m : Bool) (o : ByteArray) : ∀ n, SS (keysUpto s m o n) ∧ ∀ x, x ∈ keysUpto s m o n ↔ x ∈ rawUpto s m o n
  | 0 => by simp [keysUpto, rawUpto, SS]
  | n + 1 => by
    obtain ⟨h1, h2⟩ := keys_spec s m o n
    simp only [keysUpto, rawUpto]
    split
    · refine ⟨putL_SS h1, fun x => ?_⟩
      rw [putL_mem, h2]; simp
    · exact ⟨h1, h2⟩

/-- bytes' lists: kept of the first m -/
theorem kept_spec (d : Array (List UInt8)) (hs : ∀ i j : Nat, i ≤ j → j < d.size → d[i]! ≤ d[j]!) : ∀ m : Nat, m ≤ d.size →
    (Lib.compactUpTo d m).Pairwise (· < ·) ∧ ∀ x, x ∈ Lib.compactUpTo d m ↔ ∃ j : Nat, j < m ∧ d[j]! = x
  | 0, _ => by simp [Lib.compactUpTo]
  | m + 1, hm => by
    obtain ⟨h1, h2⟩ := kept_spec d hs m (by omega)
    rw [Lib.compactUpTo_succ]
    by_cases hk : Lib.keeps d m = true
    · rw [if_pos hk]
      refine ⟨List.pairwise_append.2 ⟨h1, by simp, fun x hx y hy => ?_⟩, fun x => ?_⟩
      · simp only [List.mem_singleton] at hy
        subst hy
        obtain ⟨j, hj, rfl⟩ := (h2 x).1 hx
        simp only [Lib.keeps, decide_eq_true_eq] at hk
        have hk := hk.resolve_left (by omega)
        have l1 := hs j (m - 1) (by omega) (by omega)
        have l2 := hs (m - 1) m (by omega) (by omega)
        rcases Decidable.em (d[j]! < d[m]!) with h | h
        · exact h
        · have l3 : d[m]! ≤ d[j]! := List.not_lt.1 h
          exact absurd (List.le_antisymm (List.le_trans l3 l1) l2) hk
      · rw [List.mem_append, h2]
        simp only [List.mem_singleton]
        constructor
        · rintro (⟨j, hj, rfl⟩ | rfl)
          · exact ⟨j, by omega, rfl⟩
          · exact ⟨m, by omega, rfl⟩
        · rintro ⟨j, hj, rfl⟩
          by_cases e : j = m
          · subst e; exact .inr rfl
          · exact .inl ⟨j, by omega, rfl⟩
    · rw [if_neg hk]
      refine ⟨by simpa using h1, fun x => ?_⟩
      rw [List.append_nil, h2]
      simp only [Lib.keeps, decide_eq_true_eq, not_or, Decidable.not_not] at hk
      constructor
      · rintro ⟨j, hj, rfl⟩; exact ⟨j, by omega, rfl⟩
      · rintro ⟨j, hj, rfl⟩
        by_cases e : j = m
        · subst e; exact ⟨j - 1, by omega, hk.2.symm⟩
        · exact ⟨j, by omega, rfl⟩
theorem sortL_le (zs : List (List UInt8)) : (sortL zs).Pairwise (· ≤ ·) := by
  have := List.pairwise_mergeSort (le := fun (x y : List UInt8) => decide (x ≤ y)) (fun a b c h1 h2 => by simp only [decide_eq_true_eq] at *; exact List.le_trans h1 h2) (fun a b => by simp only [Bool.or_eq_true, decide_eq_true_eq]; exact List.le_total a b) zs
  exact this.imp (fun h => by simpa using h)
theorem keysM_SS (raw : List ByteArray) : SS (compactS (sortS raw)) ∧ ∀ x, x ∈ compactS (sortS raw) ↔ x ∈ raw := by
  have hb : byts (sortS raw) = sortL (byts raw) := by
    simp [sortS, byts, strs', Function.comp_def]
  have hle := sortL_le (byts raw)
  have hp : (sortL (byts raw)).Perm (byts raw) := List.mergeSort_perm _ _
  have hget : ∀ i : Nat, i < (sortL (byts raw)).length → (sortL (byts raw)).toArray[i]! = (sortL (byts raw))[i]! := fun i hi => by simp
  obtain ⟨h1, h2⟩ := kept_spec (sortL (byts raw)).toArray (fun i j hij hj => by
    have hj' : j < (sortL (byts raw)).length := by simpa using hj
    rcases Nat.eq_or_lt_of_le hij with e | hlt
    · subst e; exact List.le_refl _
    · have := List.pairwise_iff_getElem.1 hle i j (by omega) hj' hlt
      simpa [getElem!_pos, hj', show i < (sortL (byts raw)).length by omega] using this) (sortL (byts raw)).length (by simp)
  rw [compactS, hb]
  constructor
  · unfold SS strs'
    rw [List.pairwise_map]
    refine h1.imp (fun {a b} h => ?_)
    rw [strLt, bytesLess_eq, decide_eq_true_eq, ByteArray.toList_eq, ByteArray.toList_eq]
    simpa using h
  · intro x
    simp only [strs', List.mem_map]
    constructor
    · rintro ⟨z, hz, rfl⟩
      obtain ⟨j, hj, rfl⟩ := (h2 z).1 hz
      have hm : (sortL (byts raw)).toArray[j]! ∈ byts raw := hp.mem_iff.1 (by rw [hget j hj, getElem!_pos _ j hj]; exact List.getElem_mem hj)
      obtain ⟨y, hy, e⟩ := List.mem_map.1 hm
      rw [← e]
      simpa using hy
    · intro hx
      refine ⟨x.data.toList, ?_, by simp⟩
      have hm : x.data.toList ∈ sortL (byts raw) := hp.mem_iff.2 (List.mem_map.2 ⟨x, hx, rfl⟩)
      obtain ⟨j, hj, e⟩ := List.getElem_of_mem hm
      exact (h2 _).2 ⟨j, hj, by rw [hget j hj, getElem!_pos _ j hj]; exact e⟩
theorem keysM_eq (s : GState) (m : Bool) (o : ByteArray) : keysM s m o = keysS s m o := by
  obtain ⟨h1, h2⟩ := keys_spec s m o s.lives.length
  obtain ⟨h3, h4⟩ := keysM_SS (rawUpto s m o s.lives.length)
  exact SS_unique h3 h1 fun x => (h4 x).trans (h2 x).symm

@[simp] def h55 : Hts := {  }
theorem f55_ok (s : GState) (o : ByteArray) (ha : s.lives.length ≤ 1073741824) : FnR Tryz.prog 55 [.agg [.im s.know.length (flat s.know), .im s.tallies.length (flat s.tallies), .im s.lives.length (flat s.lives), .im s.cs.length (flat s.cs)], .v (.str o)] (.v (.ow 9 1 (keysS s true o).length (flat (keysS s true o)))) := by
  refine FnW.of_AW TryzT_ok 0 (fn := Tryz.f55) (by kernel_rfl) rfl (by kernel_rfl) rfl rfl rfl ?_; refine AW_of h55 TryzT_ok (by kernel_rfl) ?_
  simp -dsimp
  have h := f173_ok s true o ha
  rw [keysM_eq] at h
  refine ACallK_of h ?_
  simp -dsimp
@[simp] def h53 : Hts := {  }
theorem f53_ok (s : GState) (o : ByteArray) (ha : s.lives.length ≤ 1073741824) : FnR Tryz.prog 53 [.agg [.im s.know.length (flat s.know), .im s.tallies.length (flat s.tallies), .im s.lives.length (flat s.lives), .im s.cs.length (flat s.cs)], .v (.str o)] (.v (.ow 9 1 (keysS s false o).length (flat (keysS s false o)))) := by
  refine FnW.of_AW TryzT_ok 0 (fn := Tryz.f53) (by kernel_rfl) rfl (by kernel_rfl) rfl rfl rfl ?_; refine AW_of h53 TryzT_ok (by kernel_rfl) ?_
  simp -dsimp
  have h := f173_ok s false o ha
  rw [keysM_eq] at h
  refine ACallK_of h ?_
  simp -dsimp
end Am
