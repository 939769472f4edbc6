/- What marks write, as functions. No condition. -/
import Derived.Test.YtpgnllakcjajjaaGreatD
namespace Am
open Go
open Cel (cells)
set_option linter.unusedSimpArgs false
set_option linter.unusedVariables false

def mbool (k : Int) : Bool := k.tmod 3 == 0
/-- The digits of a number ahead of a text. -/
def mgo : Nat → Nat → ByteArray → ByteArray
  | 0, _, out => out
  | f + 1, n, out => if n = 0 then out else mgo f (n / 10) (⟨#[UInt8.ofNat (48 + n % 10)]⟩ ++ out)
def mtext (k : Int) : ByteArray := if k ≤ 0 then ⟨#[109, 48]⟩ else ⟨#[109]⟩ ++ mgo 20 k.toNat ⟨#[]⟩

def mkS {α : Type} (f : α → Int → α × Int) : List α → Int → List α × Int
  | [], k => ([], k)
  | x :: xs, k => ((f x k).1 :: (mkS f xs (f x k).2).1, (mkS f xs (f x k).2).2)
def mkInt (_ : Int) (k : Int) : Int × Int := (k, k + 1)

section
variable {α : Type} {f : α → Int → α × Int}
@[simp] theorem mkS_nil (k : Int) : mkS f [] k = ([], k) := rfl
@[simp] theorem mkS_len : ∀ (xs : List α) (k : Int), (mkS f xs k).1.length = xs.length
  | [], _ => rfl
  | x :: xs, k => by simp [mkS, mkS_len xs]
theorem mkS_append : ∀ (xs ys : List α) (k : Int), mkS f (xs ++ ys) k = ((mkS f xs k).1 ++ (mkS f ys (mkS f xs k).2).1, (mkS f ys (mkS f xs k).2).2)
  | [], ys, k => rfl
  | x :: xs, ys, k => by simp [mkS, mkS_append xs ys]
theorem mkS_le (hf : ∀ x k, 0 ≤ k → k ≤ (f x k).2) : ∀ (xs : List α) (k : Int), 0 ≤ k → k ≤ (mkS f xs k).2
  | [], k, _ => Int.le_refl k
  | x :: xs, k, h => Int.le_trans (hf x k h) (mkS_le hf xs _ (Int.le_trans h (hf x k h)))
theorem mkS_snoc [Cel α] {xs : List α} {i : Nat} (h : i < xs.length) (k : Int) : mkS f (xs.take (i + 1)) k = ((mkS f (xs.take i) k).1 ++ [(f (nth xs i) (mkS f (xs.take i) k).2).1], (f (nth xs i) (mkS f (xs.take i) k).2).2) := by
  have : xs.take (i + 1) = xs.take i ++ [nth xs i] := by rw [List.take_add_one, List.getElem?_eq_getElem h, nth_eq h]; rfl
  rw [this, mkS_append]
  rfl
theorem mkS_split (xs : List α) (i : Nat) (k : Int) : mkS f xs k = ((mkS f (xs.take i) k).1 ++ (mkS f (xs.drop i) (mkS f (xs.take i) k).2).1, (mkS f (xs.drop i) (mkS f (xs.take i) k).2).2) := by
  rw [← mkS_append, List.take_append_drop]
theorem mkS_part_le (hf : ∀ x k, 0 ≤ k → k ≤ (f x k).2) (xs : List α) (i : Nat) (k : Int) (h : 0 ≤ k) : (mkS f (xs.take i) k).2 ≤ (mkS f xs k).2 := by
  rw [mkS_split xs i k]
  exact mkS_le hf _ _ (Int.le_trans h (mkS_le hf _ _ h))
theorem mkS_step_le [Cel α] (hf : ∀ x k, 0 ≤ k → k ≤ (f x k).2) {xs : List α} {i : Nat} (hi : i < xs.length) (k : Int) (h : 0 ≤ k) : (f (nth xs i) (mkS f (xs.take i) k).2).2 ≤ (mkS f xs k).2 := by
  have := mkS_part_le hf xs (i + 1) k h
  rw [mkS_snoc hi] at this
  exact this
theorem mkS_nth [Cel α] {xs : List α} {i : Nat} (h : i < xs.length) (k : Int) : nth (mkS f xs k).1 i = (f (nth xs i) (mkS f (xs.take i) k).2).1 := by
  rw [mkS_split xs (i + 1) k, mkS_snoc h]
  simp only
  have hl : (mkS f (xs.take i) k).1.length = i := by simp; omega
  rw [nth_eq (by simp; omega)]
  rw [List.getElem_append_left (by simp; omega), List.getElem_append_right (by rw [hl]; exact Nat.le_refl _)]
  simp [hl]
@[simp high] theorem nth_set_same [Cel α] {xs : List α} {i : Nat} (h : i < xs.length) (y : α) : nth (xs.set i y) i = y := by
  rw [nth_eq (by simpa using h)]; simp

/-- A loop that marks. -/
theorem AWh_mark [Cel α] {P : Program} {N : Nat × Nat} {σ : AEnv} {K : AEx → AEnv → Prop} {hk : Hold K} {c : Code} (f : α → Int → α × Int) (hf : ∀ x k, 0 ≤ k → k ≤ (f x k).2) (xs : List α) (k : Int) (h0 : 0 ≤ k) (st : List α → Int → Nat → AEnv)
    (hw : Wk σ (st xs k 0))
    (round : ∀ (i : Nat) (ys : List α) (m : Int), i < xs.length → ys.length = xs.length → nth ys i = nth xs i → 0 ≤ m → (f (nth xs i) m).2 ≤ (mkS f xs k).2 → AW P N c (st ys m i) (athen (fun σ' => Wk σ' (st (ys.set i (f (nth xs i) m).1) (f (nth xs i) m).2 (i + 1))) K))
    (done : AW P N c (st (mkS f xs k).1 (mkS f xs k).2 xs.length) (athen (fun _ => False) K)) : AWh P N (.loop c) σ K hk := by
  refine AWh_loop (fun i : Nat => i ≤ xs.length) (fun i => st ((mkS f (xs.take i) k).1 ++ xs.drop i) (mkS f (xs.take i) k).2 i) (fun i => xs.length - i) 0 (by simpa using hw) (Nat.zero_le _) ?_
  intro i hi
  rcases Nat.lt_or_ge i xs.length with h1 | h1
  · have hl : (mkS f (xs.take i) k).1.length = i := by simp; omega
    have hle := mkS_le hf (xs.take i) k h0
    refine (round i ((mkS f (xs.take i) k).1 ++ xs.drop i) (mkS f (xs.take i) k).2 h1 (by simp; omega) ?_ (Int.le_trans h0 hle) (mkS_step_le hf h1 k h0)).mono ?_
    · rw [nth_eq (by simp; omega), nth_eq h1, List.getElem_append_right (by rw [hl]; exact Nat.le_refl _)]
      simp [hl]
    · intro e σ' hq
      cases e with
      | normal =>
        refine Back_mk (i + 1) (by omega) (by omega) ?_
        rw [mkS_snoc h1]
        have : ((mkS f (xs.take i) k).1 ++ xs.drop i).set i (f (nth xs i) (mkS f (xs.take i) k).2).1 = (mkS f (xs.take i) k).1 ++ [(f (nth xs i) (mkS f (xs.take i) k).2).1] ++ xs.drop (i + 1) := by
          rw [List.set_append_right _ _ (by rw [hl]; exact Nat.le_refl _), hl, Nat.sub_self, List.drop_eq_getElem_cons h1, List.set_cons_zero, List.append_assoc]
          rfl
        rw [← this]
        exact hq
      | exit id => exact hq
      | ret => exact hq
  · have : i = xs.length := by omega
    subst this
    rw [List.take_length, List.drop_length, List.append_nil]
    refine done.mono ?_
    intro e σ' hq
    cases e with
    | normal => exact hq.elim
    | exit id => exact hq
    | ret => exact hq

/-- A loop that looks whether the marks are still there. -/
theorem AWh_held [Cel α] {P : Program} {N : Nat × Nat} {σ : AEnv} {K : AEx → AEnv → Prop} {hk : Hold K} {c : Code} (f : α → Int → α × Int) (hf : ∀ x k, 0 ≤ k → k ≤ (f x k).2) (xs : List α) (k : Int) (h0 : 0 ≤ k) (st : Int → Nat → AEnv)
    (hw : Wk σ (st k 0))
    (round : ∀ (i : Nat) (m : Int), i < xs.length → nth (mkS f xs k).1 i = (f (nth xs i) m).1 → 0 ≤ m → (f (nth xs i) m).2 ≤ (mkS f xs k).2 → AW P N c (st m i) (athen (fun σ' => Wk σ' (st (f (nth xs i) m).2 (i + 1))) K))
    (done : AW P N c (st (mkS f xs k).2 xs.length) (athen (fun _ => False) K)) : AWh P N (.loop c) σ K hk := by
  refine AWh_loop (fun i : Nat => i ≤ xs.length) (fun i => st (mkS f (xs.take i) k).2 i) (fun i => xs.length - i) 0 (by simpa using hw) (Nat.zero_le _) ?_
  intro i hi
  rcases Nat.lt_or_ge i xs.length with h1 | h1
  · have hle := mkS_le hf (xs.take i) k h0
    refine (round i (mkS f (xs.take i) k).2 h1 (mkS_nth h1 k) (Int.le_trans h0 hle) (mkS_step_le hf h1 k h0)).mono ?_
    intro e σ' hq
    cases e with
    | normal =>
      refine Back_mk (i + 1) (by omega) (by omega) ?_
      rw [mkS_snoc h1]
      exact hq
    | exit id => exact hq
    | ret => exact hq
  · have : i = xs.length := by omega
    subst this
    rw [List.take_length]
    refine done.mono ?_
    intro e σ' hq
    cases e with
    | normal => exact hq.elim
    | exit id => exact hq
    | ret => exact hq
end

theorem mkInt_le (x k : Int) (h : 0 ≤ k) : k ≤ (mkInt x k).2 := by simp [mkInt]; omega
def mkStr (_ : ByteArray) (k : Int) : ByteArray × Int := (mtext k, k + 1)
theorem mkStr_le (x : ByteArray) (k : Int) (h : 0 ≤ k) : k ≤ (mkStr x k).2 := by simp [mkStr]; omega

/-- All of it marked. -/
def GDot.mar (x : GDot) (k : Int) : GDot × Int := (⟨k, k + 1⟩, k + 1 + 1)
theorem GDot.mar_le (x : GDot) (k : Int) (h : 0 ≤ k) : k ≤ (x.mar k).2 := by
  simp only [GDot.mar]
  omega
/-- All of it marked. -/
def GTally.mar (x : GTally) (k : Int) : GTally × Int := (⟨mtext (k), k + 1, k + 1 + 1⟩, k + 1 + 1 + 1)
theorem GTally.mar_le (x : GTally) (k : Int) (h : 0 ≤ k) : k ≤ (x.mar k).2 := by
  simp only [GTally.mar]
  omega
/-- All of it marked. -/
def GLive.mar (x : GLive) (k : Int) : GLive × Int := (⟨mbool (k), mtext (k + 1), mtext (k + 1 + 1), k + 1 + 1 + 1, ⟨k + 1 + 1 + 1 + 1, k + 1 + 1 + 1 + 1 + 1⟩⟩, k + 1 + 1 + 1 + 1 + 1 + 1)
theorem GLive.mar_le (x : GLive) (k : Int) (h : 0 ≤ k) : k ≤ (x.mar k).2 := by
  simp only [GLive.mar]
  omega
/-- All of it marked. -/
def GCell.mar (x : GCell) (k : Int) : GCell × Int := (⟨mtext (k), ⟨k + 1, k + 1 + 1⟩, k + 1 + 1 + 1, ⟨k + 1 + 1 + 1 + 1, k + 1 + 1 + 1 + 1 + 1⟩, k + 1 + 1 + 1 + 1 + 1 + 1, mbool (k + 1 + 1 + 1 + 1 + 1 + 1 + 1)⟩, k + 1 + 1 + 1 + 1 + 1 + 1 + 1 + 1)
theorem GCell.mar_le (x : GCell) (k : Int) (h : 0 ≤ k) : k ≤ (x.mar k).2 := by
  simp only [GCell.mar]
  omega
/-- All of it marked. -/
def GState.mar (x : GState) (k : Int) : GState × Int := (⟨(mkS mkInt x.know (k)).1, (mkS GTally.mar x.tallies ((mkS mkInt x.know (k)).2)).1, (mkS GLive.mar x.lives ((mkS GTally.mar x.tallies ((mkS mkInt x.know (k)).2)).2)).1, (mkS GCell.mar x.cs ((mkS GLive.mar x.lives ((mkS GTally.mar x.tallies ((mkS mkInt x.know (k)).2)).2)).2)).1⟩, (mkS GCell.mar x.cs ((mkS GLive.mar x.lives ((mkS GTally.mar x.tallies ((mkS mkInt x.know (k)).2)).2)).2)).2)
theorem GState.mar_le (x : GState) (k : Int) (h : 0 ≤ k) : k ≤ (x.mar k).2 := by
  simp only [GState.mar]
  have q0 := mkS_le mkInt_le x.know (k) (by omega)
  have q1 := mkS_le GTally.mar_le x.tallies ((mkS mkInt x.know (k)).2) (by omega)
  have q2 := mkS_le GLive.mar_le x.lives ((mkS GTally.mar x.tallies ((mkS mkInt x.know (k)).2)).2) (by omega)
  have q3 := mkS_le GCell.mar_le x.cs ((mkS GLive.mar x.lives ((mkS GTally.mar x.tallies ((mkS mkInt x.know (k)).2)).2)).2) (by omega)
  omega
/-- What lies in its lists marked. -/
def GState.mt (x : GState) (k : Int) : GState × Int := (⟨(mkS mkInt x.know (k)).1, (mkS GTally.mar x.tallies ((mkS mkInt x.know (k)).2)).1, (mkS GLive.mar x.lives ((mkS GTally.mar x.tallies ((mkS mkInt x.know (k)).2)).2)).1, (mkS GCell.mar x.cs ((mkS GLive.mar x.lives ((mkS GTally.mar x.tallies ((mkS mkInt x.know (k)).2)).2)).2)).1⟩, (mkS GCell.mar x.cs ((mkS GLive.mar x.lives ((mkS GTally.mar x.tallies ((mkS mkInt x.know (k)).2)).2)).2)).2)
theorem GState.mt_le (x : GState) (k : Int) (h : 0 ≤ k) : k ≤ (x.mt k).2 := by
  simp only [GState.mt]
  have q0 := mkS_le mkInt_le x.know (k) (by omega)
  have q1 := mkS_le GTally.mar_le x.tallies ((mkS mkInt x.know (k)).2) (by omega)
  have q2 := mkS_le GLive.mar_le x.lives ((mkS GTally.mar x.tallies ((mkS mkInt x.know (k)).2)).2) (by omega)
  have q3 := mkS_le GCell.mar_le x.cs ((mkS GLive.mar x.lives ((mkS GTally.mar x.tallies ((mkS mkInt x.know (k)).2)).2)).2) (by omega)
  omega
/-- All of it marked. -/
def GClash.mar (x : GClash) (k : Int) : GClash × Int := (⟨mtext (k), mtext (k + 1)⟩, k + 1 + 1)
theorem GClash.mar_le (x : GClash) (k : Int) (h : 0 ≤ k) : k ≤ (x.mar k).2 := by
  simp only [GClash.mar]
  omega
/-- All of it marked. -/
def GDelta.mar (x : GDelta) (k : Int) : GDelta × Int := (⟨(mkS mkInt x.base (k)).1, (mkS mkInt x.know ((mkS mkInt x.base (k)).2)).1, (mkS GTally.mar x.tallies ((mkS mkInt x.know ((mkS mkInt x.base (k)).2)).2)).1, (mkS GLive.mar x.lives ((mkS GTally.mar x.tallies ((mkS mkInt x.know ((mkS mkInt x.base (k)).2)).2)).2)).1, (mkS GDot.mar x.dead ((mkS GLive.mar x.lives ((mkS GTally.mar x.tallies ((mkS mkInt x.know ((mkS mkInt x.base (k)).2)).2)).2)).2)).1, (mkS GCell.mar x.cs ((mkS GDot.mar x.dead ((mkS GLive.mar x.lives ((mkS GTally.mar x.tallies ((mkS mkInt x.know ((mkS mkInt x.base (k)).2)).2)).2)).2)).2)).1⟩, (mkS GCell.mar x.cs ((mkS GDot.mar x.dead ((mkS GLive.mar x.lives ((mkS GTally.mar x.tallies ((mkS mkInt x.know ((mkS mkInt x.base (k)).2)).2)).2)).2)).2)).2)
theorem GDelta.mar_le (x : GDelta) (k : Int) (h : 0 ≤ k) : k ≤ (x.mar k).2 := by
  simp only [GDelta.mar]
  have q0 := mkS_le mkInt_le x.base (k) (by omega)
  have q1 := mkS_le mkInt_le x.know ((mkS mkInt x.base (k)).2) (by omega)
  have q2 := mkS_le GTally.mar_le x.tallies ((mkS mkInt x.know ((mkS mkInt x.base (k)).2)).2) (by omega)
  have q3 := mkS_le GLive.mar_le x.lives ((mkS GTally.mar x.tallies ((mkS mkInt x.know ((mkS mkInt x.base (k)).2)).2)).2) (by omega)
  have q4 := mkS_le GDot.mar_le x.dead ((mkS GLive.mar x.lives ((mkS GTally.mar x.tallies ((mkS mkInt x.know ((mkS mkInt x.base (k)).2)).2)).2)).2) (by omega)
  have q5 := mkS_le GCell.mar_le x.cs ((mkS GDot.mar x.dead ((mkS GLive.mar x.lives ((mkS GTally.mar x.tallies ((mkS mkInt x.know ((mkS mkInt x.base (k)).2)).2)).2)).2)).2) (by omega)
  omega
/-- What lies in its lists marked. -/
def GDelta.mt (x : GDelta) (k : Int) : GDelta × Int := (⟨(mkS mkInt x.base (k)).1, (mkS mkInt x.know ((mkS mkInt x.base (k)).2)).1, (mkS GTally.mar x.tallies ((mkS mkInt x.know ((mkS mkInt x.base (k)).2)).2)).1, (mkS GLive.mar x.lives ((mkS GTally.mar x.tallies ((mkS mkInt x.know ((mkS mkInt x.base (k)).2)).2)).2)).1, (mkS GDot.mar x.dead ((mkS GLive.mar x.lives ((mkS GTally.mar x.tallies ((mkS mkInt x.know ((mkS mkInt x.base (k)).2)).2)).2)).2)).1, (mkS GCell.mar x.cs ((mkS GDot.mar x.dead ((mkS GLive.mar x.lives ((mkS GTally.mar x.tallies ((mkS mkInt x.know ((mkS mkInt x.base (k)).2)).2)).2)).2)).2)).1⟩, (mkS GCell.mar x.cs ((mkS GDot.mar x.dead ((mkS GLive.mar x.lives ((mkS GTally.mar x.tallies ((mkS mkInt x.know ((mkS mkInt x.base (k)).2)).2)).2)).2)).2)).2)
theorem GDelta.mt_le (x : GDelta) (k : Int) (h : 0 ≤ k) : k ≤ (x.mt k).2 := by
  simp only [GDelta.mt]
  have q0 := mkS_le mkInt_le x.base (k) (by omega)
  have q1 := mkS_le mkInt_le x.know ((mkS mkInt x.base (k)).2) (by omega)
  have q2 := mkS_le GTally.mar_le x.tallies ((mkS mkInt x.know ((mkS mkInt x.base (k)).2)).2) (by omega)
  have q3 := mkS_le GLive.mar_le x.lives ((mkS GTally.mar x.tallies ((mkS mkInt x.know ((mkS mkInt x.base (k)).2)).2)).2) (by omega)
  have q4 := mkS_le GDot.mar_le x.dead ((mkS GLive.mar x.lives ((mkS GTally.mar x.tallies ((mkS mkInt x.know ((mkS mkInt x.base (k)).2)).2)).2)).2) (by omega)
  have q5 := mkS_le GCell.mar_le x.cs ((mkS GDot.mar x.dead ((mkS GLive.mar x.lives ((mkS GTally.mar x.tallies ((mkS mkInt x.know ((mkS mkInt x.base (k)).2)).2)).2)).2)).2) (by omega)
  omega
/-- All of it marked. -/
def GCommit.mar (x : GCommit) (k : Int) : GCommit × Int := (⟨⟨k, k + 1⟩, (mkS mkInt x.ups (k + 1 + 1)).1, ⟨(mkS mkInt x.state.know ((mkS mkInt x.ups (k + 1 + 1)).2)).1, (mkS GTally.mar x.state.tallies ((mkS mkInt x.state.know ((mkS mkInt x.ups (k + 1 + 1)).2)).2)).1, (mkS GLive.mar x.state.lives ((mkS GTally.mar x.state.tallies ((mkS mkInt x.state.know ((mkS mkInt x.ups (k + 1 + 1)).2)).2)).2)).1, (mkS GCell.mar x.state.cs ((mkS GLive.mar x.state.lives ((mkS GTally.mar x.state.tallies ((mkS mkInt x.state.know ((mkS mkInt x.ups (k + 1 + 1)).2)).2)).2)).2)).1⟩⟩, (mkS GCell.mar x.state.cs ((mkS GLive.mar x.state.lives ((mkS GTally.mar x.state.tallies ((mkS mkInt x.state.know ((mkS mkInt x.ups (k + 1 + 1)).2)).2)).2)).2)).2)
theorem GCommit.mar_le (x : GCommit) (k : Int) (h : 0 ≤ k) : k ≤ (x.mar k).2 := by
  simp only [GCommit.mar]
  have q2 := mkS_le mkInt_le x.ups (k + 1 + 1) (by omega)
  have q3 := mkS_le mkInt_le x.state.know ((mkS mkInt x.ups (k + 1 + 1)).2) (by omega)
  have q4 := mkS_le GTally.mar_le x.state.tallies ((mkS mkInt x.state.know ((mkS mkInt x.ups (k + 1 + 1)).2)).2) (by omega)
  have q5 := mkS_le GLive.mar_le x.state.lives ((mkS GTally.mar x.state.tallies ((mkS mkInt x.state.know ((mkS mkInt x.ups (k + 1 + 1)).2)).2)).2) (by omega)
  have q6 := mkS_le GCell.mar_le x.state.cs ((mkS GLive.mar x.state.lives ((mkS GTally.mar x.state.tallies ((mkS mkInt x.state.know ((mkS mkInt x.ups (k + 1 + 1)).2)).2)).2)).2) (by omega)
  omega
/-- What lies in its lists marked. -/
def GCommit.mt (x : GCommit) (k : Int) : GCommit × Int := (⟨x.id, (mkS mkInt x.ups (k)).1, (x.state.mt ((mkS mkInt x.ups (k)).2)).1⟩, (x.state.mt ((mkS mkInt x.ups (k)).2)).2)
theorem GCommit.mt_le (x : GCommit) (k : Int) (h : 0 ≤ k) : k ≤ (x.mt k).2 := by
  simp only [GCommit.mt]
  have q0 := mkS_le mkInt_le x.ups (k) (by omega)
  have q1 := x.state.mt_le ((mkS mkInt x.ups (k)).2) (by omega)
  omega
/-- All of it marked. -/
def GGraph.mar (x : GGraph) (k : Int) : GGraph × Int := (⟨(mkS GCommit.mar x.commits (k)).1, (mkS GCommit.mar x.commits (k)).2⟩, (mkS GCommit.mar x.commits (k)).2 + 1)
theorem GGraph.mar_le (x : GGraph) (k : Int) (h : 0 ≤ k) : k ≤ (x.mar k).2 := by
  simp only [GGraph.mar]
  have q0 := mkS_le GCommit.mar_le x.commits (k) (by omega)
  omega
/-- What lies in its lists marked. -/
def GGraph.mt (x : GGraph) (k : Int) : GGraph × Int := (⟨(mkS GCommit.mar x.commits (k)).1, x.head⟩, (mkS GCommit.mar x.commits (k)).2)
theorem GGraph.mt_le (x : GGraph) (k : Int) (h : 0 ≤ k) : k ≤ (x.mt k).2 := by
  simp only [GGraph.mt]
  have q0 := mkS_le GCommit.mar_le x.commits (k) (by omega)
  omega
end Am
