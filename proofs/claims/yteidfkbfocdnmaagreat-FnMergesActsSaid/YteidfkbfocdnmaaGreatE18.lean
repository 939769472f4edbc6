/- Keys in order, each once. No condition. -/
import Derived.Test.YteidfkbfocdnmaaGreatT
import Derived.Test.YteidfkbfocdnmaaGreatD
import Derived.Test.YteidfkbfocdnmaaGreatE2
import Derived.Test.YteidfkbfocdnmaaGreatAm31
import Derived.Test.YteidfkbfocdnmaaGreatAm33
import Derived.Test.YteidfkbfocdnmaaGreatE98
import Derived.Test.YteidfkbfocdnmaaGreatC1
import Derived.Test.YteidfkbfocdnmaaGreatE16
namespace Am
open Go Go.Proofs
open Cel (cells)
set_option maxRecDepth 100000
set_option linter.unusedSimpArgs false
set_option linter.unusedVariables false

/-- what is put out of the rest of a list -/
def putGo (s : ByteArray) : Bool → List ByteArray → List ByteArray
  | p, [] => if p then [] else [s]
  | p, x :: r => if !p && strLt s x then s :: x :: putGo s true r else x :: putGo s p r
def hasS (s : ByteArray) (l : List ByteArray) : Bool := l.any fun x => decide (x = s)
def putL (l : List ByteArray) (s : ByteArray) : List ByteArray := if hasS s l then l else putGo s false l
theorem putGo_len (s : ByteArray) : ∀ (p : Bool) (l : List ByteArray), (putGo s p l).length = l.length + (if p then 0 else 1)
  | true, [] => rfl
  | false, [] => rfl
  | true, x :: r => by simp [putGo, putGo_len s true r]
  | false, x :: r => by
    simp only [putGo]
    split
    · simp [putGo_len s true r]
    · simp [putGo_len s false r]
theorem hasS_at {s : ByteArray} {l : List ByteArray} {i : Nat} (h : i < l.length) (he : nth l i = s) : hasS s l = true := by
  simp only [hasS, List.any_eq_true, decide_eq_true_eq]
  exact ⟨nth l i, nth_mem h, he⟩
theorem hasS_none {s : ByteArray} {l : List ByteArray} (h : ∀ j : Nat, j < l.length → nth l j ≠ s) : hasS s l = false := by
  cases hh : hasS s l
  · rfl
  · simp only [hasS, List.any_eq_true, decide_eq_true_eq] at hh
    obtain ⟨x, hx, rfl⟩ := hh
    obtain ⟨j, hj, e⟩ := List.getElem_of_mem hx
    exact absurd (by rw [nth_eq hj, e]) (h j hj)

@[simp] def h144 : Hts := { merge := fun _ => false }
set_option maxHeartbeats 1000000 in
theorem f144_ok (l : List ByteArray) (s : ByteArray) (ha : l.length ≤ 1073741824) : FnW Tryz.prog 144 [.v (.ow 9 1 l.length (flat l)), .v (.str s)] (.v (.ow 9 1 (putL l s).length (flat (putL l s)))) [.any, .any] := by
  refine FnW.of_AW TryzT_ok 0 (fn := Tryz.f144) (by kernel_rfl) rfl (by kernel_rfl) rfl rfl rfl ?_; refine AW_of h144 TryzT_ok (by kernel_rfl) ?_
  simp -dsimp
  refine AWh_loop (fun q : Nat × Bool × List ByteArray => q.1 ≤ l.length ∧ q.2.2.length ≤ q.1 + (bif q.2.1 then 1 else 0) ∧ (∀ j : Nat, j < q.1 → nth l j ≠ s) ∧ q.2.2 ++ putGo s q.2.1 (l.drop q.1) = putGo s false l) (fun q => mkE [(0, .arr 640000), (1, .c (.str s)), (5, .arr 512), (6, .c (.bool q.2.1)), (7, .c (.int .i64 q.1))] [(640000, .arr 0 9 1 l.length (flat l)), (512, .arr 0 9 1 q.2.2.length (flat q.2.2))]) (fun q => l.length - q.1) (0, false, []) (Wk_to [0, 1, 5, 6, 7] [(640000, 640000), (512, 512)] rfl rfl (by simp)) (by simp) ?_
  rintro ⟨i, p, out⟩ ⟨hi, hl, hne, hgo⟩
  simp only at hi hl hne hgo
  refine AW_of h144 TryzT_ok (by kernel_rfl) ?_
  rcases Nat.lt_or_ge i l.length with h1 | h1
  · have hd : l.drop i = nth l i :: l.drop (i + 1) := by rw [List.drop_eq_getElem_cons h1, ← nth_eq h1]
    rw [hd] at hgo
    have hw : IntKind.i64.wrap ((i : Int) + 1) = (i : Int) + 1 := wrap64 (by omega) (by omega)
    by_cases e : nth l i = s
    · simp -dsimp [h1, ne_of_lt h1, e]
      repeat (first | refine ⟨by omega, ?_⟩ | refine ⟨by simp [capMax]; omega, ?_⟩)
      rw [putL, if_pos (hasS_at h1 e)]
      exact ⟨rfl, rfl⟩
    · have hnext : ∀ j : Nat, j < i + 1 → nth l j ≠ s := fun j hj => by
        by_cases e2 : j = i
        · subst e2; exact e
        · exact hne j (by omega)
      cases p with
      | true =>
        simp only [cond_true] at hl
        simp -dsimp [h1, ne_of_lt h1, e, hw]
        repeat (first | refine ⟨by omega, ?_⟩ | refine ⟨by simp [capMax]; omega, ?_⟩)
        exact Back_of (i + 1, true, out ++ [nth l i]) [0, 1, 5, 6, 7] [(640000, 640000), (512, 2688)] rfl rfl (by simp) ⟨by simp only; omega, by simp; omega, hnext, by rw [← hgo]; simp [putGo]⟩ (by simp only; omega)
      | false =>
        simp only [cond_false] at hl
        cases g : Op.bytesLess (nth l i).toList s.toList
        · have gs : strLt s (nth l i) = true := by
            cases g2 : strLt s (nth l i)
            · exact absurd (strLt_tri g g2) e
            · rfl
          simp -dsimp [h1, ne_of_lt h1, e, g, hw]
          repeat (first | refine ⟨by omega, ?_⟩ | refine ⟨by simp [capMax]; omega, ?_⟩)
          exact Back_of (i + 1, true, out ++ [s] ++ [nth l i]) [0, 1, 5, 6, 7] [(640000, 640000), (512, 2688)] rfl rfl (by simp) ⟨by simp only; omega, by simp; omega, hnext, by rw [← hgo]; simp [putGo, gs]⟩ (by simp only; omega)
        · have gs : strLt s (nth l i) = false := strLt_asymm g
          simp -dsimp [h1, ne_of_lt h1, e, g, hw]
          repeat (first | refine ⟨by omega, ?_⟩ | refine ⟨by simp [capMax]; omega, ?_⟩)
          exact Back_of (i + 1, false, out ++ [nth l i]) [0, 1, 5, 6, 7] [(640000, 640000), (512, 2688)] rfl rfl (by simp) ⟨by simp only; omega, by simp; omega, hnext, by rw [← hgo]; simp [putGo, gs]⟩ (by simp only; omega)
  · obtain rfl : i = l.length := by omega
    rw [List.drop_length] at hgo
    have hno := hasS_none hne
    cases p with
    | true =>
      simp only [cond_true] at hl
      have e : out = putL l s := by rw [putL, hno, ← hgo]; simp [putGo]
      simp -dsimp
      rw [← e]
      exact ⟨rfl, rfl⟩
    | false =>
      simp only [cond_false] at hl
      have e : out ++ [s] = putL l s := by rw [putL, hno, ← hgo]; simp [putGo]
      simp -dsimp
      refine ⟨by simp [capMax]; omega, ?_⟩
      rw [← e]
      exact ⟨by simp, rfl⟩

def keyIn (m : Bool) (o : ByteArray) (x : GLive) : Bool := (x.map == m) && decide (x.obj = o)
def keysUpto (s : GState) (m : Bool) (o : ByteArray) : Nat → List ByteArray
  | 0 => []
  | n + 1 => if keyIn m o (nth s.lives n) then putL (keysUpto s m o n) (nth s.lives n).key else keysUpto s m o n
def keysS (s : GState) (m : Bool) (o : ByteArray) : List ByteArray := keysUpto s m o s.lives.length
theorem putL_len (l : List ByteArray) (s : ByteArray) : (putL l s).length ≤ l.length + 1 := by
  unfold putL
  split
  · omega
  · rw [putGo_len]; simp
theorem keysUpto_len (s : GState) (m : Bool) (o : ByteArray) : ∀ n, (keysUpto s m o n).length ≤ n
  | 0 => by simp [keysUpto]
  | n + 1 => by
    have := keysUpto_len s m o n
    simp only [keysUpto]
    split
    · have := putL_len (keysUpto s m o n) (nth s.lives n).key
      omega
    · omega

@[simp] def h174 : Hts := { merge := fun _ => false, lend := fun f => if f = 144 then [.lend] else [] }
set_option maxHeartbeats 1000000 in
theorem f174_ok (s : GState) (m : Bool) (o : ByteArray) (ha : s.lives.length ≤ 1073741824) : FnR Tryz.prog 174 [.agg [.im s.know.length (flat s.know), .im s.tallies.length (flat s.tallies), .im s.lives.length (flat s.lives), .im s.cs.length (flat s.cs)], .v (.bool m), .v (.str o)] (.v (.ow 9 1 (keysS s m o).length (flat (keysS s m o)))) := by
  refine FnW.of_AW TryzT_ok 0 (fn := Tryz.f174) (by kernel_rfl) rfl (by kernel_rfl) rfl rfl rfl ?_; refine AW_of h174 TryzT_ok (by kernel_rfl) ?_
  simp -dsimp
  refine AWh_loop (fun i : Nat => i ≤ s.lives.length) (fun i => mkE [(1, .c (.bool m)), (2, .c (.str o)), (3, .box 192 0), (7, .arr 448), (8, .c (.int .i64 i))] [(192, .box [.c (.im s.know.length (flat s.know)), .c (.im s.tallies.length (flat s.tallies)), .c (.im s.lives.length (flat s.lives)), .c (.im s.cs.length (flat s.cs))]), (448, .arr 0 9 1 (keysUpto s m o i).length (flat (keysUpto s m o i)))]) (fun i => s.lives.length - i) 0 (Wk_to [1, 2, 3, 7, 8] [(192, 192), (448, 576)] rfl rfl (by simp [keysUpto])) (by simp) ?_
  rintro i hi
  have hkl := keysUpto_len s m o i
  refine AW_of h174 TryzT_ok (by kernel_rfl) ?_
  rcases Nat.lt_or_ge i s.lives.length with h1 | h1
  · by_cases e1 : (nth s.lives i).map = m
    · have b1 : ((nth s.lives i).map == m) = true := by simp [e1]
      by_cases e2 : (nth s.lives i).obj = o
      · have hk : keysUpto s m o (i + 1) = putL (keysUpto s m o i) (nth s.lives i).key := by simp [keysUpto, keyIn, e1, e2]
        simp -dsimp [h1, ne_of_lt h1, b1, e1, e2]
        refine ACallW_args (by intro us; simp -dsimp; exact ⟨rfl, rfl, rfl⟩) ?_
        refine ACallC_of (fun us => f144_ok _ _ (by omega)) (by intro us; simp -dsimp; exact ⟨rfl, rfl⟩) ?_
        simp -dsimp
        exact Back_of (i + 1) [1, 2, 3, 7, 8] [(192, 192), (448, 2688)] rfl rfl (by simp [hk]; rw [wrap64 (by omega) (by omega)]) (by omega) (by omega)
      · have hk : keysUpto s m o (i + 1) = keysUpto s m o i := by simp [keysUpto, keyIn, e1, e2]
        simp -dsimp [h1, ne_of_lt h1, b1, e1, e2]
        exact Back_of (i + 1) [1, 2, 3, 7, 8] [(192, 192), (448, 448)] rfl rfl (by simp [hk]; rw [wrap64 (by omega) (by omega)]) (by omega) (by omega)
    · have b1 : ((nth s.lives i).map == m) = false := by simp [e1]
      have hk : keysUpto s m o (i + 1) = keysUpto s m o i := by simp [keysUpto, keyIn, e1]
      simp -dsimp [h1, ne_of_lt h1, b1, e1]
      exact Back_of (i + 1) [1, 2, 3, 7, 8] [(192, 192), (448, 448)] rfl rfl (by simp [hk]; rw [wrap64 (by omega) (by omega)]) (by omega) (by omega)
  · obtain rfl : i = s.lives.length := by omega
    simp -dsimp
    exact ⟨rfl, rfl⟩

@[simp] def h56 : Hts := {  }
theorem f56_ok (s : GState) (o : ByteArray) (ha : s.lives.length ≤ 1073741824) : FnR Tryz.prog 56 [.agg [.im s.know.length (flat s.know), .im s.tallies.length (flat s.tallies), .im s.lives.length (flat s.lives), .im s.cs.length (flat s.cs)], .v (.str o)] (.v (.ow 9 1 (keysS s true o).length (flat (keysS s true o)))) := by
  refine FnW.of_AW TryzT_ok 0 (fn := Tryz.f56) (by kernel_rfl) rfl (by kernel_rfl) rfl rfl rfl ?_; refine AW_of h56 TryzT_ok (by kernel_rfl) ?_
  simp -dsimp
  refine ACallK_of (f174_ok _ _ _ ha) ?_
  simp -dsimp
end Am
namespace Am
open Go Go.Proofs
open Cel (cells)
set_option maxRecDepth 100000
set_option linter.unusedSimpArgs false
set_option linter.unusedVariables false

/-- strings in order, none twice -/
def SS (l : List ByteArray) : Prop := l.Pairwise fun a b => strLt a b = true
theorem putGo_true (s : ByteArray) : ∀ l : List ByteArray, putGo s true l = l
  | [] => rfl
  | x :: r => by simp [putGo, putGo_true s r]
theorem putGo_mem (s x : ByteArray) : ∀ l : List ByteArray, x ∈ putGo s false l ↔ x = s ∨ x ∈ l
  | [] => by simp [putGo]
  | y :: r => by
    have ih := putGo_mem s x r
    simp only [putGo]
    split
    · simp [putGo_true]
    · simp [ih]; grind
theorem putGo_SS {s : ByteArray} : ∀ {l : List ByteArray}, SS l → s ∉ l → SS (putGo s false l)
  | [], _, _ => by simp [putGo, SS]
  | y :: r, h, hn => by
    obtain ⟨a1, a2⟩ := List.pairwise_cons.1 h
    simp only [List.mem_cons, not_or] at hn
    simp only [putGo, putGo_true]
    split
    · rename_i hc
      simp only [Bool.not_false, Bool.true_and] at hc
      refine List.pairwise_cons.2 ⟨fun z hz => ?_, h⟩
      rcases List.mem_cons.1 hz with rfl | hz
      · exact hc
      · exact strLt_trans hc (a1 z hz)
    · rename_i hc
      simp only [Bool.not_false, Bool.true_and, Bool.not_eq_true] at hc
      refine List.pairwise_cons.2 ⟨fun z hz => ?_, putGo_SS a2 hn.2⟩
      rcases (putGo_mem s z r).1 hz with rfl | hz
      · cases hg : strLt y z
        · exact absurd (strLt_tri hc hg) hn.1
        · rfl
      · exact a1 z hz
theorem hasS_iff {s : ByteArray} {l : List ByteArray} : hasS s l = true ↔ s ∈ l := by
  simp [hasS]
theorem putL_mem (l : List ByteArray) (s x : ByteArray) : x ∈ putL l s ↔ x ∈ l ∨ x = s := by
  unfold putL
  split
  · rename_i h
    rw [hasS_iff] at h
    constructor
    · exact .inl
    · rintro (h' | rfl)
      · exact h'
      · exact h
  · rw [putGo_mem]; exact Or.comm
theorem putL_SS {l : List ByteArray} {s : ByteArray} (h : SS l) : SS (putL l s) := by
  unfold putL
  split
  · exact h
  · rename_i hn
    exact putGo_SS h (fun hm => hn (hasS_iff.2 hm))

def cmpClash (a b : GClash) : Int := orInt [cmpStr a.obj b.obj, cmpStr a.key b.key]
def clashLt (a b : GClash) : Bool := strLt a.obj b.obj || decide (a.obj = b.obj) && strLt a.key b.key
theorem clashLt_cmp (a b : GClash) : decide (cmpClash a b < 0) = clashLt a b := by
  unfold cmpClash clashLt orInt orInt orInt cmpStr
  cases h : strLt a.obj b.obj
  · cases h' : strLt b.obj a.obj
    · have e := strLt_tri h h'
      cases k : strLt a.key b.key
      · cases k' : strLt b.key a.key <;> simp [e]
      · simp [e]
    · have e : ¬ a.obj = b.obj := by intro e; rw [e, strLt_self] at h'; cases h'
      simp [e]
  · simp
theorem clashLt_Lt : Lt clashLt := ⟨fun a b h => by
  simp only [clashLt, Bool.or_eq_true, Bool.and_eq_true, decide_eq_true_eq] at h
  simp only [clashLt, Bool.or_eq_false_iff, Bool.and_eq_false_iff, decide_eq_false_iff_not]
  rcases h with h | ⟨h, h2⟩
  · refine ⟨strLt_asymm h, Or.inl fun e => ?_⟩
    rw [e, strLt_self] at h; cases h
  · rw [h]; exact ⟨strLt_self _, Or.inr (strLt_asymm h2)⟩, fun a b c h h' => by
  simp only [clashLt, Bool.or_eq_true, Bool.and_eq_true, decide_eq_true_eq] at *
  rcases h with h | ⟨h, h2⟩
  · rcases h' with h' | ⟨h', h3⟩
    · exact .inl (strLt_trans h h')
    · rw [← h']; exact .inl h
  · rw [h]
    rcases h' with h' | ⟨h', h3⟩
    · exact .inl h'
    · exact .inr ⟨h', strLt_trans h2 h3⟩⟩
theorem clashLt_anti {a b : GClash} (h : clashLt a b = false) (h' : clashLt b a = false) : a = b := by
  simp only [clashLt, Bool.or_eq_false_iff, Bool.and_eq_false_iff, decide_eq_false_iff_not] at h h'
  have e := strLt_tri h.1 h'.1
  have e2 := strLt_tri (h.2.resolve_left (fun hh => hh e)) (h'.2.resolve_left (fun hh => hh e.symm))
  exact GClash.ext e e2
theorem clashLt_ntrans (x y z : GClash) (h : clashLt x y = false) (h' : clashLt y z = false) : clashLt x z = false := by
  cases e : clashLt x z
  · rfl
  · exfalso
    cases e2 : clashLt z y
    · have := clashLt_anti h' e2
      rw [this] at h; rw [h] at e; cases e
    · have := clashLt_Lt.trans x z y e e2
      rw [h] at this; cases this
theorem ltOf_clash : Go.Proofs.ltOf cmpClash = clashLt := by
  funext x y; simp only [ltOf, clashLt_cmp]
theorem swo_clash : Go.Sort.SWO (Go.Proofs.ltOf cmpClash) := by
  rw [ltOf_clash]; exact swo_of clashLt_Lt clashLt_ntrans
def sortC (xs : List GClash) : List GClash := xs.mergeSort fun x y => !clashLt y x
theorem sortC_perm (xs : List GClash) : (sortC xs).Perm xs := List.mergeSort_perm _ _
theorem sortC_sorted (xs : List GClash) : (sortC xs).Pairwise fun a b => clashLt b a = false := by
  have := List.pairwise_mergeSort (le := fun x y : GClash => !clashLt y x) (fun a b c h1 h2 => by
    simp only [Bool.not_eq_true'] at *
    exact clashLt_ntrans c b a h2 h1) (fun a b => by
    cases h : clashLt b a
    · simp
    · simp [clashLt_Lt.asym b a h]) xs
  unfold sortC
  refine this.imp fun {a b} h => by simpa using h
theorem sortC_uniq {xs zs : List GClash} (hp : zs.Perm xs) (hs : zs.Pairwise fun a b => clashLt b a = false) : zs = sortC xs :=
  List.Perm.eq_of_pairwise (le := fun a b => clashLt b a = false) (fun a b _ _ h1 h2 => clashLt_anti h2 h1) hs (sortC_sorted xs) (hp.trans (sortC_perm xs).symm)

theorem lt_unique {α : Type} {lt : α → α → Bool} (hL : Lt lt) : ∀ {l1 l2 : List α}, l1.Pairwise (fun a b => lt a b = true) → l2.Pairwise (fun a b => lt a b = true) → (∀ x, x ∈ l1 ↔ x ∈ l2) → l1 = l2
  | [], [], _, _, _ => rfl
  | [], y :: r, _, _, h => by have := (h y).2 (by simp); simp at this
  | x :: r, [], _, _, h => by have := (h x).1 (by simp); simp at this
  | x :: r, y :: t, h1, h2, h => by
    obtain ⟨a1, a2⟩ := List.pairwise_cons.1 h1
    obtain ⟨b1, b2⟩ := List.pairwise_cons.1 h2
    have irr : ∀ z, lt z z = false := fun z => by
      cases hz : lt z z
      · rfl
      · have := hL.asym z z hz; rw [hz] at this; cases this
    have e : x = y := by
      rcases List.mem_cons.1 ((h x).1 (by simp)) with e | hx
      · exact e
      · rcases List.mem_cons.1 ((h y).2 (by simp)) with e | hy
        · exact e.symm
        · have := hL.asym _ _ (a1 y hy)
          rw [b1 x hx] at this
          cases this
    subst e
    rw [lt_unique hL a2 b2 fun z => ?_]
    have hz := h z
    simp only [List.mem_cons] at hz
    constructor
    · intro hm
      rcases hz.1 (.inr hm) with e | hm'
      · subst e
        have := a1 z hm
        rw [irr] at this; cases this
      · exact hm'
    · intro hm
      rcases hz.2 (.inr hm) with e | hm'
      · subst e
        have := b1 z hm
        rw [irr] at this; cases this
      · exact hm'

theorem keptC (d : Array GClash) (hs : ∀ i j : Nat, i < j → j < d.size → clashLt d[j]! d[i]! = false) : ∀ m : Nat, m ≤ d.size →
    (Lib.compactUpTo d m).Pairwise (fun a b => clashLt a b = true) ∧ ∀ x, x ∈ Lib.compactUpTo d m ↔ ∃ j : Nat, j < m ∧ d[j]! = x
  | 0, _ => by simp [Lib.compactUpTo]
  | m + 1, hm => by
    obtain ⟨h1, h2⟩ := keptC d hs m (by omega)
    rw [Lib.compactUpTo_succ]
    by_cases hk : Lib.keeps d m = true
    · rw [if_pos hk]
      refine ⟨List.pairwise_append.2 ⟨h1, by simp, fun x hx y hy => ?_⟩, fun x => ?_⟩
      · simp only [List.mem_singleton] at hy
        subst hy
        obtain ⟨j, hj, rfl⟩ := (h2 x).1 hx
        simp only [Lib.keeps, decide_eq_true_eq] at hk
        have hne : d[m]! ≠ d[m - 1]! := hk.resolve_left (by omega)
        cases hg : clashLt d[j]! d[m]!
        · exfalso
          have e1 := clashLt_anti hg (hs j m hj (by omega))
          apply hne
          by_cases e2 : j = m - 1
          · rw [← e2]; exact e1.symm
          · have q1 := hs j (m - 1) (by omega) (by omega)
            have q2 := hs (m - 1) m (by omega) (by omega)
            rw [← e1] at q2
            rw [← e1]
            exact clashLt_anti q2 q1
        · rfl
      · rw [List.mem_append, h2 x]
        simp only [List.mem_singleton]
        constructor
        · rintro (⟨j, hj, e⟩ | rfl)
          · exact ⟨j, by omega, e⟩
          · exact ⟨m, by omega, rfl⟩
        · rintro ⟨j, hj, e⟩
          by_cases e2 : j = m
          · subst e2; exact .inr e.symm
          · exact .inl ⟨j, by omega, e⟩
    · rw [if_neg hk]
      refine ⟨by simpa using h1, fun x => ?_⟩
      rw [List.append_nil, h2 x]
      constructor
      · rintro ⟨j, hj, e⟩; exact ⟨j, by omega, e⟩
      · rintro ⟨j, hj, e⟩
        by_cases e2 : j = m
        · subst e2
          simp only [Lib.keeps, decide_eq_true_eq, not_or, Decidable.not_not] at hk
          exact ⟨j - 1, by omega, by rw [← hk.2]; exact e⟩
        · exact ⟨j, by omega, e⟩
theorem compC_spec {xs : List GClash} (hs : xs.Pairwise fun a b => clashLt b a = false) : (compC xs).Pairwise (fun a b => clashLt a b = true) ∧ ∀ x, x ∈ compC xs ↔ x ∈ xs := by
  have h := keptC xs.toArray (fun i j hij hj => by
    simp only [List.size_toArray] at hj
    rw [getElem!_pos xs.toArray i (by simp; omega), getElem!_pos xs.toArray j (by simpa using hj)]
    simpa using List.pairwise_iff_getElem.1 hs i j (by omega) hj hij) xs.length (by simp)
  refine ⟨h.1, fun x => ?_⟩
  rw [compC, h.2 x, List.mem_iff_getElem]
  constructor
  · rintro ⟨j, hj, e⟩
    rw [getElem!_pos xs.toArray j (by simpa using hj)] at e
    exact ⟨j, hj, by simpa using e⟩
  · rintro ⟨j, hj, e⟩
    refine ⟨j, hj, ?_⟩
    rw [getElem!_pos xs.toArray j (by simpa using hj)]
    simpa using e
end Am
namespace Am
open Go Go.Proofs
open Cel (cells)
set_option maxRecDepth 100000
set_option linter.unusedSimpArgs false
set_option linter.unusedVariables false

def clP (a b : GState) (nb : List GClash) (c : GClash) : Bool := hasX nb c && !decide (mapOf a c.obj c.key = mapOf b c.obj c.key)
def rawC (base a b : GState) : List GClash := filK (clP a b (newIn base b)) [] (newIn base a) (newIn base a).length
def clashesOf (base a b : GState) : List GClash := if stateOk base && (stateOk a && stateOk b) then compC (sortC (rawC base a b)) else []

theorem nwlK_mem (base s : GState) (c : GClash) : ∀ n, c ∈ nwlK base s n ↔ ∃ i : Nat, i < n ∧ ((nth s.lives i).map && !knows base.know (nth s.lives i).dot) = true ∧ (nth s.lives i).obj = c.obj ∧ (nth s.lives i).key = c.key
  | 0 => by simp [nwlK]
  | n + 1 => by
    have ih := nwlK_mem base s c n
    rw [nwlK]
    split
    · rename_i hp
      rw [List.mem_append, ih, List.mem_singleton]
      constructor
      · rintro (⟨i, h1, h2⟩ | rfl)
        · exact ⟨i, by omega, h2⟩
        · exact ⟨n, by omega, hp, rfl, rfl⟩
      · rintro ⟨i, h1, h2, h3, h4⟩
        by_cases e : i = n
        · subst e; exact .inr (GClash.ext h3.symm h4.symm)
        · exact .inl ⟨i, by omega, h2, h3, h4⟩
    · rename_i hp
      rw [ih]
      constructor
      · rintro ⟨i, h1, h2⟩; exact ⟨i, by omega, h2⟩
      · rintro ⟨i, h1, h2, h3⟩
        by_cases e : i = n
        · subst e; exact absurd h2 hp
        · exact ⟨i, by omega, h2, h3⟩
theorem newIn_iff (base s : GState) (c : GClash) : c ∈ newIn base s ↔ isNew base s c.obj c.key = true := by
  rw [newIn, nwlK_mem]
  have hm : ∀ x, x ∈ livesOf s true c.obj c.key ↔ ∃ i : Nat, i < s.lives.length ∧ nth s.lives i = x ∧ livP true c.obj c.key x = true := by
    intro x
    rw [livesOf, filK_mem (Nat.le_refl _)]
    simp
  constructor
  · rintro ⟨i, h1, h2, h3, h4⟩
    simp only [Bool.and_eq_true, Bool.not_eq_true'] at h2
    have : nth s.lives i ∈ livesOf s true c.obj c.key := (hm _).2 ⟨i, h1, rfl, by simp [livP, h2.1, h3, h4]⟩
    obtain ⟨j, hj, ej⟩ := List.mem_iff_getElem.1 this
    rw [isNew, allB_false (p := fun j => knows base.know (nth (livesOf s true c.obj c.key) j).dot) hj (by rw [nth_eq hj, ej]; exact h2.2)]
    rfl
  · intro h
    have : ¬ ∀ j : Nat, j < (livesOf s true c.obj c.key).length → knows base.know (nth (livesOf s true c.obj c.key) j).dot = true := by
      intro hall
      rw [isNew, allB_iff.2 hall] at h
      cases h
    rw [Classical.not_forall] at this
    obtain ⟨j, hj⟩ := this
    rw [Classical.not_imp] at hj
    obtain ⟨hj, hk⟩ := hj
    obtain ⟨i, h1, h2, h3⟩ := (hm _).1 (nth_mem hj)
    simp only [livP, Bool.and_eq_true, beq_iff_eq, decide_eq_true_eq] at h3
    exact ⟨i, h1, by rw [h2]; simp [h3.1, hk], by rw [h2]; exact h3.2.1, by rw [h2]; exact h3.2.2⟩

/-! The reference's way. -/
def objsK (a : GState) : Nat → List ByteArray
  | 0 => []
  | i + 1 => if (nth a.lives i).map then putL (objsK a i) (nth a.lives i).obj else objsK a i
theorem objsK_len (a : GState) : ∀ n, (objsK a n).length ≤ n
  | 0 => by simp [objsK]
  | n + 1 => by
    have := objsK_len a n
    simp only [objsK]
    split
    · have := putL_len (objsK a n) (nth a.lives n).obj
      omega
    · omega
theorem objsK_spec (a : GState) : ∀ n, SS (objsK a n) ∧ ∀ x, x ∈ objsK a n ↔ ∃ i : Nat, i < n ∧ (nth a.lives i).map = true ∧ (nth a.lives i).obj = x
  | 0 => by simp [objsK, SS]
  | n + 1 => by
    obtain ⟨h1, h2⟩ := objsK_spec a n
    rw [objsK]
    split
    · rename_i hm
      refine ⟨putL_SS h1, fun x => ?_⟩
      rw [putL_mem, h2]
      constructor
      · rintro (⟨i, h1, h2⟩ | rfl)
        · exact ⟨i, by omega, h2⟩
        · exact ⟨n, by omega, hm, rfl⟩
      · rintro ⟨i, h1, h2, h3⟩
        by_cases e : i = n
        · subst e; exact .inr h3.symm
        · exact .inl ⟨i, by omega, h2, h3⟩
    · rename_i hm
      refine ⟨h1, fun x => ?_⟩
      rw [h2]
      constructor
      · rintro ⟨i, q1, q2⟩; exact ⟨i, by omega, q2⟩
      · rintro ⟨i, q1, q2, q3⟩
        by_cases e : i = n
        · subst e; exact absurd q2 hm
        · exact ⟨i, by omega, q2, q3⟩
theorem keysU_spec (s : GState) (o : ByteArray) : ∀ n, SS (keysUpto s true o n) ∧ ∀ x, x ∈ keysUpto s true o n ↔ ∃ i : Nat, i < n ∧ (nth s.lives i).map = true ∧ (nth s.lives i).obj = o ∧ (nth s.lives i).key = x
  | 0 => by simp [keysUpto, SS]
  | n + 1 => by
    obtain ⟨h1, h2⟩ := keysU_spec s o n
    rw [keysUpto]
    split
    · rename_i hm
      simp only [keyIn, Bool.and_eq_true, beq_iff_eq, decide_eq_true_eq] at hm
      refine ⟨putL_SS h1, fun x => ?_⟩
      rw [putL_mem, h2]
      constructor
      · rintro (⟨i, h1, h2⟩ | rfl)
        · exact ⟨i, by omega, h2⟩
        · exact ⟨n, by omega, hm.1, hm.2, rfl⟩
      · rintro ⟨i, h1, h2, h3, h4⟩
        by_cases e : i = n
        · subst e; exact .inr h4.symm
        · exact .inl ⟨i, by omega, h2, h3, h4⟩
    · rename_i hm
      simp only [keyIn, Bool.and_eq_true, beq_iff_eq, decide_eq_true_eq, not_and] at hm
      refine ⟨h1, fun x => ?_⟩
      rw [h2]
      constructor
      · rintro ⟨i, q1, q2⟩; exact ⟨i, by omega, q2⟩
      · rintro ⟨i, q1, q2, q3, q4⟩
        by_cases e : i = n
        · subst e; exact absurd q3 (hm q2)
        · exact ⟨i, by omega, q2, q3, q4⟩
def cond3 (base a b : GState) (o k : ByteArray) : Bool := isNew base a o k && (isNew base b o k && !decide (mapOf a o k = mapOf b o k))
def inK (base a b : GState) (o : ByteArray) (ks : List ByteArray) (acc : List GClash) : Nat → List GClash
  | 0 => acc
  | j + 1 => if cond3 base a b o (nth ks j) then inK base a b o ks acc j ++ [⟨o, nth ks j⟩] else inK base a b o ks acc j
def outK (base a b : GState) (os : List ByteArray) : Nat → List GClash
  | 0 => []
  | i + 1 => inK base a b (nth os i) (keysS a true (nth os i)) (outK base a b os i) (keysS a true (nth os i)).length
theorem inK_mem {base a b : GState} {o : ByteArray} {ks : List ByteArray} {acc : List GClash} {c : GClash} : ∀ {n : Nat}, c ∈ inK base a b o ks acc n ↔ c ∈ acc ∨ (c.obj = o ∧ cond3 base a b o c.key = true ∧ ∃ j : Nat, j < n ∧ nth ks j = c.key)
  | 0 => by simp [inK]
  | n + 1 => by
    have ih := inK_mem (base := base) (a := a) (b := b) (o := o) (ks := ks) (acc := acc) (c := c) (n := n)
    rw [inK]
    split
    · rename_i hp
      rw [List.mem_append, ih, List.mem_singleton]
      constructor
      · rintro ((h | ⟨h1, h2, j, h3, h4⟩) | rfl)
        · exact .inl h
        · exact .inr ⟨h1, h2, j, by omega, h4⟩
        · exact .inr ⟨rfl, hp, n, by omega, rfl⟩
      · rintro (h | ⟨h1, h2, j, h3, h4⟩)
        · exact .inl (.inl h)
        · by_cases e : j = n
          · subst e; exact .inr (GClash.ext h1 h4.symm)
          · exact .inl (.inr ⟨h1, h2, j, by omega, h4⟩)
    · rename_i hp
      rw [ih]
      constructor
      · rintro (h | ⟨h1, h2, j, h3, h4⟩)
        · exact .inl h
        · exact .inr ⟨h1, h2, j, by omega, h4⟩
      · rintro (h | ⟨h1, h2, j, h3, h4⟩)
        · exact .inl h
        · by_cases e : j = n
          · subst e; rw [h4] at hp; exact absurd h2 hp
          · exact .inr ⟨h1, h2, j, by omega, h4⟩
theorem inK_len (base a b : GState) (o : ByteArray) (ks : List ByteArray) (acc : List GClash) : ∀ n, (inK base a b o ks acc n).length ≤ acc.length + n
  | 0 => Nat.le_refl _
  | n + 1 => by
    have := inK_len base a b o ks acc n
    rw [inK]; split
    · simp; omega
    · omega
theorem outK_mem {base a b : GState} {os : List ByteArray} {c : GClash} : ∀ {n : Nat}, c ∈ outK base a b os n ↔ cond3 base a b c.obj c.key = true ∧ (∃ i : Nat, i < n ∧ nth os i = c.obj) ∧ c.key ∈ keysS a true c.obj
  | 0 => by simp [outK]
  | n + 1 => by
    have ih := outK_mem (base := base) (a := a) (b := b) (os := os) (c := c) (n := n)
    rw [outK, inK_mem, ih]
    constructor
    · rintro (⟨h1, ⟨i, h2, h3⟩, h4⟩ | ⟨h1, h2, j, h3, h4⟩)
      · exact ⟨h1, ⟨i, by omega, h3⟩, h4⟩
      · rw [← h1] at h2 h3 h4
        exact ⟨h2, ⟨n, by omega, h1.symm⟩, by rw [← h4]; exact nth_mem h3⟩
    · rintro ⟨h1, ⟨i, h2, h3⟩, h4⟩
      by_cases e : i = n
      · subst e
        obtain ⟨j, hj, ej⟩ := List.mem_iff_getElem.1 h4
        refine .inr ⟨h3.symm, by rw [h3]; exact h1, j, by rw [h3]; exact hj, by rw [h3, nth_eq hj, ej]⟩
      · exact .inl ⟨h1, ⟨i, by omega, h3⟩, h4⟩
theorem inK_sorted {base a b : GState} {o : ByteArray} {ks : List ByteArray} {acc : List GClash} (hk : SS ks) (ha : acc.Pairwise fun a b => clashLt a b = true) (hl : ∀ c, c ∈ acc → strLt c.obj o = true) : ∀ n : Nat, n ≤ ks.length → (inK base a b o ks acc n).Pairwise fun a b => clashLt a b = true
  | 0, _ => ha
  | n + 1, hn => by
    have ih := inK_sorted (base := base) (a := a) (b := b) hk ha hl n (by omega)
    rw [inK]
    split
    · refine List.pairwise_append.2 ⟨ih, by simp, fun x hx y hy => ?_⟩
      simp only [List.mem_singleton] at hy
      subst hy
      rcases inK_mem.1 hx with h | ⟨h1, _, j, h3, h4⟩
      · simp [clashLt, hl x h]
      · have := List.pairwise_iff_getElem.1 hk j n (by omega) (by omega) h3
        rw [← nth_eq (xs := ks) (by omega), ← nth_eq (xs := ks) (by omega), h4] at this
        simp [clashLt, h1, this]
    · exact ih
theorem outK_sorted {base a b : GState} {os : List ByteArray} (ho : SS os) : ∀ n : Nat, n ≤ os.length → (outK base a b os n).Pairwise fun a b => clashLt a b = true
  | 0, _ => List.Pairwise.nil
  | n + 1, hn => by
    have ih := outK_sorted (base := base) (a := a) (b := b) ho n (by omega)
    rw [outK]
    refine inK_sorted (keysU_spec a _ _).1 ih (fun c hc => ?_) _ (Nat.le_refl _)
    obtain ⟨_, ⟨i, h2, h3⟩, _⟩ := outK_mem.1 hc
    have := List.pairwise_iff_getElem.1 ho i n (by omega) (by omega) h2
    rw [← nth_eq (xs := os) (by omega), ← nth_eq (xs := os) (by omega), h3] at this
    exact this
theorem clashes_eq (base a b : GState) : outK base a b (objsK a a.lives.length) (objsK a a.lives.length).length = compC (sortC (rawC base a b)) := by
  obtain ⟨c1, c2⟩ := compC_spec (sortC_sorted (rawC base a b))
  refine lt_unique clashLt_Lt (outK_sorted (objsK_spec a _).1 _ (Nat.le_refl _)) c1 (fun c => ?_)
  rw [c2, (sortC_perm _).mem_iff, outK_mem, rawC, filK_mem (Nat.le_refl _)]
  have hobj : (∃ i : Nat, i < (objsK a a.lives.length).length ∧ nth (objsK a a.lives.length) i = c.obj) ↔ c.obj ∈ objsK a a.lives.length := by
    rw [List.mem_iff_getElem]
    constructor
    · rintro ⟨i, h1, h2⟩; exact ⟨i, h1, by rw [← nth_eq h1]; exact h2⟩
    · rintro ⟨i, h1, h2⟩; exact ⟨i, h1, by rw [nth_eq h1]; exact h2⟩
  have hmem : (c ∈ ([] : List GClash) ∨ ∃ i, i < (newIn base a).length ∧ nth (newIn base a) i = c ∧ clP a b (newIn base b) c = true) ↔ c ∈ newIn base a ∧ clP a b (newIn base b) c = true := by
    rw [List.mem_iff_getElem (l := newIn base a)]
    constructor
    · rintro (h | ⟨i, h1, h2, h3⟩)
      · cases h
      · exact ⟨⟨i, h1, by rw [← nth_eq h1]; exact h2⟩, h3⟩
    · rintro ⟨⟨i, h1, h2⟩, h3⟩
      exact .inr ⟨i, h1, by rw [nth_eq h1]; exact h2, h3⟩
  rw [hobj, hmem, newIn_iff]
  have hc : clP a b (newIn base b) c = (isNew base b c.obj c.key && !decide (mapOf a c.obj c.key = mapOf b c.obj c.key)) := by
    rw [clP]
    congr 1
    rw [Bool.eq_iff_iff, hasX, decide_eq_true_eq, newIn_iff]
  rw [hc, cond3, Bool.and_eq_true]
  constructor
  · rintro ⟨h1, _⟩; exact h1
  · rintro h1
    refine ⟨h1, ?_⟩
    have := (newIn_iff base a c).2 h1.1
    rw [newIn, nwlK_mem] at this
    obtain ⟨i, h2, h3, h4, h5⟩ := this
    simp only [Bool.and_eq_true] at h3
    exact ⟨((objsK_spec a _).2 _).2 ⟨i, h2, h3.1, h4⟩, ((keysU_spec a _ _).2 _).2 ⟨i, h2, h3.1, h4, h5⟩⟩
end Am
namespace Am
open Go Go.Proofs
open Cel (cells)
set_option maxRecDepth 100000
set_option linter.unusedSimpArgs false
set_option linter.unusedVariables false

@[simp] def h140 : Hts := { dr := fun id => if id = 1 then [{}, {}, {}, {}, { cr := true }, { mb := [9] }, { mb := [9] }, { mb := [9] }, { mb := [9] }, { cr := true }, { cr := true }, { cr := true }, {}] else [] }
theorem f140_ok (a b : GClash) : FnR Tryz.prog 140 [.agg [.str a.obj, .str a.key], .agg [.str b.obj, .str b.key]] (.v (.int .i64 (cmpClash a b))) := by
  refine FnW.of_AW TryzT_ok 0 (fn := Tryz.f140) (by kernel_rfl) rfl (by kernel_rfl) rfl rfl rfl ?_; refine AW_of h140 TryzT_ok (by kernel_rfl) ?_
  simp -dsimp
  refine ACallK_of (f142_ok _ _) ?_
  simp -dsimp
  refine ACallK_of (f142_ok _ _) ?_
  simp -dsimp
  refine ACallK_of (f141_ok [cmpStr a.obj b.obj, cmpStr a.key b.key] (by simp)) ?_
  simp -dsimp
  rfl

theorem rawK_len (a b : GState) (nb l : List GClash) (i : Nat) : (filK (clP a b nb) [] l i).length ≤ i := by
  have := filK_len (clP a b nb) [] l i
  simpa using this
theorem newIn_len (base s : GState) : (newIn base s).length ≤ s.lives.length := nwlK_len _ _ _

@[simp] def h20 : Hts := { merge := fun _ => false, mergeF := fun _ => false, lend := fun f => if f = 139 then [.lend] else if f = 143 then [.lend] else [], dr := fun id => if id = 8 then [{}, {}, { cr := true }, {}, {}, {}, {}, {}, {}, { cr := true }, { mb := [46] }, { mb := [46] }, { mb := [46] }, { mb := [46] }, { mb := [46] }, { cr := true }, { cr := true }, {}, {}] else [] }
set_option maxHeartbeats 4000000 in
theorem f20_ok (base a b : GState) (hb0 : base.Ok) (ha0 : a.Ok) (hb1 : b.Ok) : FnR Tryz.prog 20 [.agg [.im base.know.length (flat base.know), .im base.tallies.length (flat base.tallies), .im base.lives.length (flat base.lives), .im base.cs.length (flat base.cs)], .agg [.im a.know.length (flat a.know), .im a.tallies.length (flat a.tallies), .im a.lives.length (flat a.lives), .im a.cs.length (flat a.cs)], .agg [.im b.know.length (flat b.know), .im b.tallies.length (flat b.tallies), .im b.lives.length (flat b.lives), .im b.cs.length (flat b.cs)]] (.v (.ow 48 2 (clashesOf base a b).length (flat (clashesOf base a b)))) := by
  refine FnW.of_AW TryzT_ok 0 (fn := Tryz.f20) (by kernel_rfl) rfl (by kernel_rfl) rfl rfl rfl ?_; refine AW_of h20 TryzT_ok (by kernel_rfl) ?_
  simp -dsimp
  refine ACallK_of (f119_ok _ hb0) ?_
  rw [stateOkM_eq]
  cases k0 : stateOk base
  · simp -dsimp
    simp [clashesOf, k0]
  simp -dsimp
  refine ACallK_of (f119_ok _ ha0) ?_
  rw [stateOkM_eq]
  cases k1 : stateOk a
  · simp -dsimp
    simp [clashesOf, k1]
  simp -dsimp
  refine ACallK_of (f119_ok _ hb1) ?_
  rw [stateOkM_eq]
  cases k2 : stateOk b
  · simp -dsimp
    simp [clashesOf, k2]
  have o0 := hb0
  have o1 := ha0
  have o2 := hb1
  simp only [GState.Ok] at o0 o1 o2
  have l1 : a.lives.length ≤ 1073741824 := by omega
  have l2 : b.lives.length ≤ 1073741824 := by omega
  have n1 := newIn_len base a
  have n2 := newIn_len base b
  simp -dsimp
  refine ACallK_of (f136_ok base b o0.1 l2) ?_
  simp -dsimp
  refine ACallK_of (f136_ok base a o0.1 l1) ?_
  simp -dsimp
  refine AWh_loop (fun i : Nat => i ≤ (newIn base a).length) (fun i => mkE [(4, .box 256 0), (5, .box 320 0), (7, .arr 448), (8, .arr 1792), (31, .arr 1984), (32, .c (.int .i64 (newIn base a).length)), (33, .c (.int .i64 i))] [(256, .box [.c (.im a.know.length (flat a.know)), .c (.im a.tallies.length (flat a.tallies)), .c (.im a.lives.length (flat a.lives)), .c (.im a.cs.length (flat a.cs))]), (320, .box [.c (.im b.know.length (flat b.know)), .c (.im b.tallies.length (flat b.tallies)), .c (.im b.lives.length (flat b.lives)), .c (.im b.cs.length (flat b.cs))]), (448, .arr 0 48 2 (filK (clP a b (newIn base b)) [] (newIn base a) i).length (flat (filK (clP a b (newIn base b)) [] (newIn base a) i))), (1792, .arr 0 48 2 (newIn base b).length (flat (newIn base b))), (1984, .arr 0 48 2 (newIn base a).length (flat (newIn base a)))]) (fun i => (newIn base a).length - i) 0 (Wk_to [4, 5, 7, 8, 31, 32, 33] [(256, 256), (320, 320), (448, 704), (1792, 1792), (1984, 1984)] rfl rfl (by simp [filK])) (by simp) ?_
  rintro i hi
  have hfl := rawK_len a b (newIn base b) (newIn base a) i
  refine AW_of h20 TryzT_ok (by kernel_rfl) ?_
  rcases Nat.lt_or_ge i (newIn base a).length with h1 | h1
  · have m1 := mapOf_len a (nth (newIn base a) i).obj (nth (newIn base a) i).key
    have m2 := mapOf_len b (nth (newIn base a) i).obj (nth (newIn base a) i).key
    simp -dsimp [h1, ne_of_lt h1]
    repeat (first | refine ⟨by omega, ?_⟩ | refine ⟨by simp [capMax]; omega, ?_⟩ | refine ⟨⟨by omega, by omega⟩, ?_⟩)
    refine ACallK_of (f137_ok _ _ (by omega)) ?_
    cases g : hasX (newIn base b) (nth (newIn base a) i)
    · have hs : filK (clP a b (newIn base b)) [] (newIn base a) (i + 1) = filK (clP a b (newIn base b)) [] (newIn base a) i := by simp [filK, clP, g]
      simp -dsimp
      exact Back_of (i + 1) [4, 5, 7, 8, 31, 32, 33] [(256, 256), (320, 320), (448, 448), (1792, 1792), (1984, 1984)] rfl rfl (by simp [hs]; rw [wrap64 (by omega) (by omega)]) (by omega) (by omega)
    simp -dsimp
    refine ACallK_of (f57_ok _ _ _ l1) ?_
    simp -dsimp
    refine ACallK_of (f57_ok _ _ _ l2) ?_
    simp -dsimp
    refine ACallK_of (f138_ok _ _ (by omega)) ?_
    by_cases g2 : mapOf a (nth (newIn base a) i).obj (nth (newIn base a) i).key = mapOf b (nth (newIn base a) i).obj (nth (newIn base a) i).key
    · have hs : filK (clP a b (newIn base b)) [] (newIn base a) (i + 1) = filK (clP a b (newIn base b)) [] (newIn base a) i := by simp [filK, clP, g2]
      simp -dsimp [g2]
      exact Back_of (i + 1) [4, 5, 7, 8, 31, 32, 33] [(256, 256), (320, 320), (448, 448), (1792, 1792), (1984, 1984)] rfl rfl (by simp [hs]; rw [wrap64 (by omega) (by omega)]) (by omega) (by omega)
    · have hs : filK (clP a b (newIn base b)) [] (newIn base a) (i + 1) = filK (clP a b (newIn base b)) [] (newIn base a) i ++ [nth (newIn base a) i] := by simp [filK, clP, g, g2]
      simp -dsimp [g2]
      repeat (first | refine ⟨by omega, ?_⟩ | refine ⟨by simp [capMax]; omega, ?_⟩ | refine ⟨⟨by omega, by omega⟩, ?_⟩)
      exact Back_of (i + 1) [4, 5, 7, 8, 31, 32, 33] [(256, 256), (320, 320), (448, 3776), (1792, 1792), (1984, 1984)] rfl rfl (by simp [hs]; rw [wrap64 (by omega) (by omega)]) (by omega) (by omega)
  · obtain rfl : i = (newIn base a).length := by omega
    clear hi h1
    simp -dsimp
    refine ACallW_args (by intro us; simp -dsimp; exact ⟨rfl, rfl, rfl⟩) ?_
    refine ACallC_of (fun us => f139_ok cmpClash swo_clash (enters_of Tryz.func140 (by kernel_rfl) rfl) f140_ok (rawC base a b) (sortC (rawC base a b)) (by unfold rawC; omega) (fun zs h1 h2 => sortC_uniq h1 (by rw [← ltOf_clash]; exact h2))) (by intro us; simp -dsimp; exact ⟨rfl, rfl⟩) ?_
    have hsl : (sortC (rawC base a b)).length = (rawC base a b).length := (sortC_perm _).length_eq
    simp -dsimp
    refine ACallW_args (by intro us; simp -dsimp; exact ⟨rfl, rfl, rfl⟩) ?_
    refine ACallC_of (fun us => FnW_compC (sortC (rawC base a b)) (by rw [hsl]; unfold rawC; omega)) (by intro us; simp -dsimp; exact ⟨rfl, rfl⟩) ?_
    simp -dsimp
    simp [clashesOf, k0, k1, k2]

theorem outK_len (base a b : GState) (os : List ByteArray) : ∀ n, (outK base a b os n).length ≤ n * a.lives.length
  | 0 => by simp [outK]
  | n + 1 => by
    have h1 := outK_len base a b os n
    have h2 := inK_len base a b (nth os n) (keysS a true (nth os n)) (outK base a b os n) (keysS a true (nth os n)).length
    have h3 : (keysS a true (nth os n)).length ≤ a.lives.length := keysUpto_len a true (nth os n) a.lives.length
    rw [outK, Nat.succ_mul]
    omega
@[simp] def h21 : Hts := { merge := fun _ => false, mergeF := fun _ => false, lend := fun f => if f = 144 then [.lend] else [], dr := fun id => if id = 13 then [{}, {}, {}, {}, {}, { cr := true }, {}] else if id = 17 then [{}, {}, {}, {}, {}, {}, {}, {}, {}, {}, { cr := true }, {}, {}, {}, {}, {}, {}, {}, {}, {}, {}, {}, { cr := true }, {}, {}, {}, {}, {}, {}, {}, {}, {}, {}, {}, { cr := true }, { mb := [102] }, { mb := [102] }, { mb := [102] }, { mb := [102] }, { mb := [102] }, { mb := [102] }, { mb := [102] }, { mb := [102] }, { mb := [102] }, { cr := true }, { cr := true }, {}, {}] else if id = 18 then [{ mb := [126] }, {}, {}, {}, {}, {}, {}, {}, {}, {}, { cr := true }, { wr := [7424, 832], cr := true }, {}] else [] }
set_option maxHeartbeats 8000000 in
theorem f21_ok (base a b : GState) (hb0 : base.Ok) (ha0 : a.Ok) (hb1 : b.Ok) : FnR Tryz.prog 21 [.agg [.im base.know.length (flat base.know), .im base.tallies.length (flat base.tallies), .im base.lives.length (flat base.lives), .im base.cs.length (flat base.cs)], .agg [.im a.know.length (flat a.know), .im a.tallies.length (flat a.tallies), .im a.lives.length (flat a.lives), .im a.cs.length (flat a.cs)], .agg [.im b.know.length (flat b.know), .im b.tallies.length (flat b.tallies), .im b.lives.length (flat b.lives), .im b.cs.length (flat b.cs)]] (.v (.ow 48 2 (clashesOf base a b).length (flat (clashesOf base a b)))) := by
  refine FnW.of_AW TryzT_ok 0 (fn := Tryz.f21) (by kernel_rfl) rfl (by kernel_rfl) rfl rfl rfl ?_; refine AW_of h21 TryzT_ok (by kernel_rfl) ?_
  simp -dsimp
  refine ACallK_of (f70_ok _ hb0) ?_
  rw [stateOkS_eq]
  cases k0 : stateOk base
  · simp -dsimp
    simp [clashesOf, k0]
  simp -dsimp
  refine ACallK_of (f70_ok _ ha0) ?_
  rw [stateOkS_eq]
  cases k1 : stateOk a
  · simp -dsimp
    simp [clashesOf, k1]
  simp -dsimp
  refine ACallK_of (f70_ok _ hb1) ?_
  rw [stateOkS_eq]
  cases k2 : stateOk b
  · simp -dsimp
    simp [clashesOf, k2]
  have o0 := hb0
  have o1 := ha0
  have o2 := hb1
  simp only [GState.Ok] at o0 o1 o2
  have l1 : a.lives.length ≤ 1073741824 := by omega
  have l2 : b.lives.length ≤ 1073741824 := by omega
  have ll1 : a.lives.length ≤ 30000 := by have := stateOk_len k1; omega
  simp -dsimp
  refine AWh_loop (fun i : Nat => i ≤ a.lives.length) (fun i => mkE [(3, .box 192 0), (4, .box 256 0), (5, .box 320 0), (7, .arr 832), (8, .arr 1792), (9, .c (.int .i64 i))] [(192, .box [.c (.im base.know.length (flat base.know)), .c (.im base.tallies.length (flat base.tallies)), .c (.im base.lives.length (flat base.lives)), .c (.im base.cs.length (flat base.cs))]), (256, .box [.c (.im a.know.length (flat a.know)), .c (.im a.tallies.length (flat a.tallies)), .c (.im a.lives.length (flat a.lives)), .c (.im a.cs.length (flat a.cs))]), (320, .box [.c (.im b.know.length (flat b.know)), .c (.im b.tallies.length (flat b.tallies)), .c (.im b.lives.length (flat b.lives)), .c (.im b.cs.length (flat b.cs))]), (832, .arr 0 48 2 0 []), (1792, .arr 0 9 1 (objsK a i).length (flat (objsK a i)))]) (fun i => a.lives.length - i) 0 (Wk_to [3, 4, 5, 7, 8, 9] [(192, 192), (256, 256), (320, 320), (832, 832), (1792, 1792)] rfl rfl (by simp [objsK])) (by simp) ?_
  rintro i hi
  have hol := objsK_len a i
  refine AW_of h21 TryzT_ok (by kernel_rfl) ?_
  rcases Nat.lt_or_ge i a.lives.length with h1 | h1
  · cases g : (nth a.lives i).map
    · have hs : objsK a (i + 1) = objsK a i := by simp [objsK, g]
      simp -dsimp [h1, ne_of_lt h1, g]
      repeat (first | refine ⟨by omega, ?_⟩ | refine ⟨by simp [capMax]; omega, ?_⟩ | refine ⟨⟨by omega, by omega⟩, ?_⟩)
      exact Back_of (i + 1) [3, 4, 5, 7, 8, 9] [(192, 192), (256, 256), (320, 320), (832, 832), (1792, 1792)] rfl rfl (by simp [hs]; rw [wrap64 (by omega) (by omega)]) (by omega) (by omega)
    · have hs : objsK a (i + 1) = putL (objsK a i) (nth a.lives i).obj := by simp [objsK, g]
      simp -dsimp [h1, ne_of_lt h1, g]
      repeat (first | refine ⟨by omega, ?_⟩ | refine ⟨by simp [capMax]; omega, ?_⟩ | refine ⟨⟨by omega, by omega⟩, ?_⟩)
      refine ACallW_args (by intro us; simp -dsimp; exact ⟨rfl, rfl, rfl⟩) ?_
      refine ACallC_of (fun us => f144_ok _ _ (by omega)) (by intro us; simp -dsimp; exact ⟨rfl, rfl⟩) ?_
      simp -dsimp
      exact Back_of (i + 1) [3, 4, 5, 7, 8, 9] [(192, 192), (256, 256), (320, 320), (832, 832), (1792, 3136)] rfl rfl (by simp [hs]; rw [wrap64 (by omega) (by omega)]) (by omega) (by omega)
  obtain rfl : i = a.lives.length := by omega
  simp -dsimp
  have hee := clashes_eq base a b
  generalize objsK a a.lives.length = os at hol hee ⊢
  refine AWh_loop (fun i : Nat => i ≤ os.length) (fun i => mkE [(3, .box 192 0), (4, .box 256 0), (5, .box 320 0), (7, .arr 832), (8, .arr 1792), (10, .c (.int .i64 i))] [(192, .box [.c (.im base.know.length (flat base.know)), .c (.im base.tallies.length (flat base.tallies)), .c (.im base.lives.length (flat base.lives)), .c (.im base.cs.length (flat base.cs))]), (256, .box [.c (.im a.know.length (flat a.know)), .c (.im a.tallies.length (flat a.tallies)), .c (.im a.lives.length (flat a.lives)), .c (.im a.cs.length (flat a.cs))]), (320, .box [.c (.im b.know.length (flat b.know)), .c (.im b.tallies.length (flat b.tallies)), .c (.im b.lives.length (flat b.lives)), .c (.im b.cs.length (flat b.cs))]), (832, .arr 0 48 2 (outK base a b os i).length (flat (outK base a b os i))), (1792, .arr 0 9 1 os.length (flat os))]) (fun i => os.length - i) 0 (Wk_to [3, 4, 5, 7, 8, 10] [(192, 192), (256, 256), (320, 320), (832, 832), (1792, 1792)] rfl rfl (by simp [outK])) (by simp) ?_
  clear hi h1
  rintro i hi
  have hul := outK_len base a b os i
  refine AW_of h21 TryzT_ok (by kernel_rfl) ?_
  rcases Nat.lt_or_ge i os.length with h1 | h1
  · simp -dsimp [h1, ne_of_lt h1]
    repeat (first | refine ⟨by omega, ?_⟩ | refine ⟨by simp [capMax]; omega, ?_⟩ | refine ⟨⟨by omega, by omega⟩, ?_⟩)
    refine ACallK_of (f56_ok _ _ l1) ?_
    simp -dsimp
    have hkl := keysUpto_len a true (nth os i) a.lives.length
    refine AWh_loop (fun j : Nat => j ≤ (keysS a true (nth os i)).length) (fun j => mkE [(3, .box 192 0), (4, .box 256 0), (5, .box 320 0), (7, .arr 832), (8, .arr 1792), (10, .c (.int .i64 i)), (11, .arr 3904), (12, .c (.int .i64 j))] [(192, .box [.c (.im base.know.length (flat base.know)), .c (.im base.tallies.length (flat base.tallies)), .c (.im base.lives.length (flat base.lives)), .c (.im base.cs.length (flat base.cs))]), (256, .box [.c (.im a.know.length (flat a.know)), .c (.im a.tallies.length (flat a.tallies)), .c (.im a.lives.length (flat a.lives)), .c (.im a.cs.length (flat a.cs))]), (320, .box [.c (.im b.know.length (flat b.know)), .c (.im b.tallies.length (flat b.tallies)), .c (.im b.lives.length (flat b.lives)), .c (.im b.cs.length (flat b.cs))]), (832, .arr 0 48 2 (inK base a b (nth os i) (keysS a true (nth os i)) (outK base a b os i) j).length (flat (inK base a b (nth os i) (keysS a true (nth os i)) (outK base a b os i) j))), (1792, .arr 0 9 1 os.length (flat os)), (3904, .arr 0 9 1 (keysS a true (nth os i)).length (flat (keysS a true (nth os i))))]) (fun j => (keysS a true (nth os i)).length - j) 0 (Wk_to [3, 4, 5, 7, 8, 10, 11, 12] [(192, 192), (256, 256), (320, 320), (832, 832), (1792, 1792), (3904, 3904)] rfl rfl (by simp [inK])) (by simp) ?_
    rintro j hj
    have hkl2 : (keysS a true (nth os i)).length ≤ a.lives.length := hkl
    have hil := inK_len base a b (nth os i) (keysS a true (nth os i)) (outK base a b os i) j
    have hbig : i * a.lives.length + a.lives.length ≤ 1000000000 := by
      have := Nat.mul_le_mul (show i + 1 ≤ 30000 by omega) ll1
      rw [Nat.succ_mul] at this
      omega
    have m1 := mapOf_len a (nth os i) (nth (keysS a true (nth os i)) j)
    have m2 := mapOf_len b (nth os i) (nth (keysS a true (nth os i)) j)
    refine AW_of h21 TryzT_ok (by kernel_rfl) ?_
    rcases Nat.lt_or_ge j (keysS a true (nth os i)).length with p1 | p1
    · simp -dsimp [h1, ne_of_lt h1, p1, ne_of_lt p1]
      repeat (first | refine ⟨by omega, ?_⟩ | refine ⟨by simp [capMax]; omega, ?_⟩ | refine ⟨⟨by omega, by omega⟩, ?_⟩)
      refine ACallK_of (f145_ok _ _ _ _ o0.1 l1) ?_
      cases g1 : isNew base a (nth os i) (nth (keysS a true (nth os i)) j)
      · have hs : inK base a b (nth os i) (keysS a true (nth os i)) (outK base a b os i) (j + 1) = inK base a b (nth os i) (keysS a true (nth os i)) (outK base a b os i) j := by simp [inK, cond3, g1]
        simp -dsimp [h1, ne_of_lt h1, p1, ne_of_lt p1]
        repeat (first | refine ⟨by omega, ?_⟩ | refine ⟨by simp [capMax]; omega, ?_⟩ | refine ⟨⟨by omega, by omega⟩, ?_⟩)
        exact Back_of (j + 1) [3, 4, 5, 7, 8, 10, 11, 12] [(192, 192), (256, 256), (320, 320), (832, 832), (1792, 1792), (3904, 3904)] rfl rfl (by simp [hs]; rw [wrap64 (by omega) (by omega)]) (by omega) (by omega)
      simp -dsimp [h1, ne_of_lt h1, p1, ne_of_lt p1]
      repeat (first | refine ⟨by omega, ?_⟩ | refine ⟨by simp [capMax]; omega, ?_⟩ | refine ⟨⟨by omega, by omega⟩, ?_⟩)
      refine ACallK_of (f145_ok _ _ _ _ o0.1 l2) ?_
      cases g2 : isNew base b (nth os i) (nth (keysS a true (nth os i)) j)
      · have hs : inK base a b (nth os i) (keysS a true (nth os i)) (outK base a b os i) (j + 1) = inK base a b (nth os i) (keysS a true (nth os i)) (outK base a b os i) j := by simp [inK, cond3, g2]
        simp -dsimp [h1, ne_of_lt h1, p1, ne_of_lt p1]
        repeat (first | refine ⟨by omega, ?_⟩ | refine ⟨by simp [capMax]; omega, ?_⟩ | refine ⟨⟨by omega, by omega⟩, ?_⟩)
        exact Back_of (j + 1) [3, 4, 5, 7, 8, 10, 11, 12] [(192, 192), (256, 256), (320, 320), (832, 832), (1792, 1792), (3904, 3904)] rfl rfl (by simp [hs]; rw [wrap64 (by omega) (by omega)]) (by omega) (by omega)
      simp -dsimp [h1, ne_of_lt h1, p1, ne_of_lt p1]
      repeat (first | refine ⟨by omega, ?_⟩ | refine ⟨by simp [capMax]; omega, ?_⟩ | refine ⟨⟨by omega, by omega⟩, ?_⟩)
      refine ACallK_of (f41_ok _ _ _ l1) ?_
      simp -dsimp [h1, ne_of_lt h1, p1, ne_of_lt p1]
      repeat (first | refine ⟨by omega, ?_⟩ | refine ⟨by simp [capMax]; omega, ?_⟩ | refine ⟨⟨by omega, by omega⟩, ?_⟩)
      refine ACallK_of (f41_ok _ _ _ l2) ?_
      simp -dsimp [h1, ne_of_lt h1, p1, ne_of_lt p1]
      repeat (first | refine ⟨by omega, ?_⟩ | refine ⟨by simp [capMax]; omega, ?_⟩ | refine ⟨⟨by omega, by omega⟩, ?_⟩)
      refine ACallK_of (f146_ok _ _ (by omega)) ?_
      by_cases g3 : mapOf a (nth os i) (nth (keysS a true (nth os i)) j) = mapOf b (nth os i) (nth (keysS a true (nth os i)) j)
      · have hs : inK base a b (nth os i) (keysS a true (nth os i)) (outK base a b os i) (j + 1) = inK base a b (nth os i) (keysS a true (nth os i)) (outK base a b os i) j := by simp [inK, cond3, g3]
        simp -dsimp [h1, ne_of_lt h1, p1, ne_of_lt p1, g3]
        repeat (first | refine ⟨by omega, ?_⟩ | refine ⟨by simp [capMax]; omega, ?_⟩ | refine ⟨⟨by omega, by omega⟩, ?_⟩)
        exact Back_of (j + 1) [3, 4, 5, 7, 8, 10, 11, 12] [(192, 192), (256, 256), (320, 320), (832, 832), (1792, 1792), (3904, 3904)] rfl rfl (by simp [hs]; rw [wrap64 (by omega) (by omega)]) (by omega) (by omega)
      · have hs : inK base a b (nth os i) (keysS a true (nth os i)) (outK base a b os i) (j + 1) = inK base a b (nth os i) (keysS a true (nth os i)) (outK base a b os i) j ++ [⟨nth os i, nth (keysS a true (nth os i)) j⟩] := by simp [inK, cond3, g1, g2, g3]
        simp -dsimp [h1, ne_of_lt h1, p1, ne_of_lt p1, g3]
        repeat (first | refine ⟨by omega, ?_⟩ | refine ⟨by simp [capMax]; omega, ?_⟩ | refine ⟨⟨by omega, by omega⟩, ?_⟩)
        exact Back_of (j + 1) [3, 4, 5, 7, 8, 10, 11, 12] [(192, 192), (256, 256), (320, 320), (832, 8128), (1792, 1792), (3904, 3904)] rfl rfl (by simp [hs]; rw [wrap64 (by omega) (by omega)]) (by omega) (by omega)
    · obtain rfl : j = (keysS a true (nth os i)).length := by omega
      simp -dsimp [h1, ne_of_lt h1]
      repeat (first | refine ⟨by omega, ?_⟩ | refine ⟨by simp [capMax]; omega, ?_⟩ | refine ⟨⟨by omega, by omega⟩, ?_⟩)
      exact Back_of (i + 1) [3, 4, 5, 7, 8, 10] [(192, 192), (256, 256), (320, 320), (832, 832), (1792, 1792)] rfl rfl (by simp [outK]; rw [wrap64 (by omega) (by omega)]) (by omega) (by omega)
  obtain rfl : i = os.length := by omega
  simp -dsimp
  simp [clashesOf, k0, k1, k2, hee]
end Am
