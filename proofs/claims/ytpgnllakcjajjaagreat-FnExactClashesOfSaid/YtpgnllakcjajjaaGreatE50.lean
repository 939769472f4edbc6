/- Put in order, one after the other: nothing of the program. No condition. -/
import Derived.Test.YtpgnllakcjajjaaGreatT
import Derived.Test.YtpgnllakcjajjaaGreatD
import Derived.Test.YtpgnllakcjajjaaGreatE16
import Derived.Test.YtpgnllakcjajjaaGreatAm31
namespace Am
open Go Go.Proofs
set_option linter.unusedSimpArgs false
set_option linter.unusedVariables false
set_option linter.unusedSectionVars false

section
variable {α : Type} [Cel α] (lt : α → α → Bool)
def insK (x : α) (l : List α) : Nat → List α × Bool
  | 0 => ([], false)
  | i + 1 => if (!(insK x l i).2 && lt x (nth l i)) = true then ((insK x l i).1 ++ [x] ++ [nth l i], true) else ((insK x l i).1 ++ [nth l i], (insK x l i).2)
def insF (x : α) (l : List α) : List α := if (insK lt x l l.length).2 = true then (insK lt x l l.length).1 else (insK lt x l l.length).1 ++ [x]
variable {lt}
theorem insK_len (x : α) (l : List α) : ∀ i, (insK lt x l i).1.length = i + (if (insK lt x l i).2 = true then 1 else 0)
  | 0 => by simp [insK]
  | i + 1 => by
    have ih := insK_len x l i
    simp only [insK]
    by_cases h : (insK lt x l i).2 = true
    · simp [h] at ih ⊢; omega
    · have h' : (insK lt x l i).2 = false := by simpa using h
      by_cases h2 : lt x (nth l i) = true
      · simp [h', h2] at ih ⊢; omega
      · have h2' : lt x (nth l i) = false := by simpa using h2
        simp [h', h2'] at ih ⊢; omega
theorem take_snoc {l : List α} {i : Nat} (h : i < l.length) : l.take (i + 1) = l.take i ++ [nth l i] := by
  rw [List.take_add_one]
  simp [nth, List.getD, h]
theorem insK_spec (x : α) (l : List α) : ∀ i, i ≤ l.length →
    ((insK lt x l i).2 = false ∧ (insK lt x l i).1 = l.take i ∧ ∀ k, k < i → lt x (nth l k) = false) ∨
    ((insK lt x l i).2 = true ∧ ∃ j, j < i ∧ (insK lt x l i).1 = l.take j ++ x :: (l.take i).drop j ∧ lt x (nth l j) = true ∧ ∀ k, k < j → lt x (nth l k) = false)
  | 0, _ => by left; simp [insK]
  | i + 1, h => by
    rcases insK_spec x l i (by omega) with ⟨h1, h2, h3⟩ | ⟨h1, j, hj, h2, h3, h4⟩
    · cases hl : lt x (nth l i)
      · left
        simp only [insK, h1, hl]
        refine ⟨by simp, by simp [h2, take_snoc (show i < l.length by omega)], fun k hk => ?_⟩
        by_cases e : k = i
        · subst e; exact hl
        · exact h3 k (by omega)
      · right
        simp only [insK, h1, hl]
        refine ⟨by simp, i, by omega, ?_, hl, h3⟩
        have e1 : (l.take (i + 1)).drop i = [nth l i] := by
          rw [take_snoc (show i < l.length by omega), List.drop_append]
          simp [List.length_take, Nat.min_eq_left (show i ≤ l.length by omega)]
        rw [e1]
        simp [h2]
    · right
      simp only [insK, h1]
      refine ⟨by simp, j, by omega, ?_, h3, h4⟩
      have e1 : (l.take (i + 1)).drop j = (l.take i).drop j ++ [nth l i] := by
        rw [take_snoc (show i < l.length by omega), List.drop_append]
        have : j - (l.take i).length = 0 := by rw [List.length_take]; omega
        rw [this]; simp
      rw [e1]
      simp [h2]
theorem insF_spec (x : α) (l : List α) : ∃ j, j ≤ l.length ∧ insF lt x l = l.take j ++ x :: l.drop j ∧ (j < l.length → lt x (nth l j) = true) ∧ ∀ k, k < j → lt x (nth l k) = false := by
  unfold insF
  rcases insK_spec (lt := lt) x l l.length (Nat.le_refl _) with ⟨h1, h2, h3⟩ | ⟨h1, j, hj, h2, h3, h4⟩
  · refine ⟨l.length, Nat.le_refl _, ?_, fun h => absurd h (by omega), h3⟩
    rw [h1]
    simp [h2]
  · refine ⟨j, by omega, ?_, fun _ => h3, h4⟩
    rw [h1, if_pos rfl, h2, List.take_length]
theorem insF_perm (x : α) (l : List α) : (insF lt x l).Perm (x :: l) := by
  obtain ⟨j, _, e, _⟩ := insF_spec (lt := lt) x l
  rw [e]
  refine List.perm_middle.trans ?_
  rw [List.take_append_drop]
theorem insF_len (x : α) (l : List α) : (insF lt x l).length = l.length + 1 := by
  have := (insF_perm (lt := lt) x l).length_eq
  simpa using this
/-- an order, strict -/
structure Lt (lt : α → α → Bool) : Prop where
  asym : ∀ a b, lt a b = true → lt b a = false
  trans : ∀ a b c, lt a b = true → lt b c = true → lt a c = true
theorem insF_sorted (hL : Lt lt) {x : α} {l : List α} (hs : l.Pairwise (fun a b => lt a b = true)) (hx : ∀ y, y ∈ l → lt x y = false → lt y x = true) : (insF lt x l).Pairwise (fun a b => lt a b = true) := by
  obtain ⟨j, hj, e, h1, h2⟩ := insF_spec (lt := lt) x l
  rw [e, List.pairwise_append]
  refine ⟨hs.sublist (List.take_sublist _ _), ?_, ?_⟩
  · rw [List.pairwise_cons]
    refine ⟨fun y hy => ?_, hs.sublist (List.drop_sublist _ _)⟩
    have hjl : j < l.length := by
      by_cases h : j < l.length
      · exact h
      · rw [List.drop_eq_nil_of_le (by omega)] at hy; cases hy
    have h3 := h1 hjl
    obtain ⟨k, hk, rfl⟩ := List.mem_iff_getElem.1 hy
    have hn : nth l j = l[j] := by simp [nth, List.getD, hjl]
    rw [hn] at h3
    rw [List.getElem_drop]
    by_cases e0 : k = 0
    · subst e0; exact h3
    · refine hL.trans _ _ _ h3 ?_
      rw [List.pairwise_iff_getElem] at hs
      exact hs j (j + k) hjl (by simp at hk; omega) (by omega)
  · intro a ha b hb
    have hxa : lt a x = true := by
      obtain ⟨k, hk, rfl⟩ := List.mem_iff_getElem.1 ha
      have hkl : k < l.length := by simp at hk; omega
      have hkj : k < j := by simp at hk; omega
      have h3 := h2 k hkj
      have hn : nth l k = l[k] := by simp [nth, List.getD, hkl]
      rw [hn] at h3
      rw [List.getElem_take]
      exact hx _ (List.getElem_mem hkl) h3
    rcases List.mem_cons.1 hb with rfl | hb
    · exact hxa
    · have hs' := hs
      rw [← List.take_append_drop j l, List.pairwise_append] at hs'
      exact hs'.2.2 a ha b hb
theorem sorted_uniq (hL : Lt lt) : ∀ {ys zs : List α}, ys.Pairwise (fun a b => lt a b = true) → zs.Perm ys → zs.Pairwise (fun a b => lt b a = false) → zs = ys
  | [], zs, _, hp, _ => List.Perm.eq_nil hp
  | y :: r, [], _, hp, _ => absurd hp.length_eq (by simp)
  | y :: r, z :: t, hy, hp, hz => by
    rw [List.pairwise_cons] at hy hz
    by_cases e : z = y
    · subst e
      rw [sorted_uniq hL hy.2 (List.Perm.cons_inv hp) hz.2]
    · exfalso
      have h1 : z ∈ r := by
        have : z ∈ y :: r := hp.subset (by simp)
        rcases List.mem_cons.1 this with h | h
        · exact absurd h e
        · exact h
      have h2 : y ∈ t := by
        have : y ∈ z :: t := hp.symm.subset (by simp)
        rcases List.mem_cons.1 this with h | h
        · exact absurd h.symm e
        · exact h
      have h3 := hy.1 z h1
      have h4 := hz.1 y h2
      rw [h3] at h4; cases h4
end
theorem before_Lt : Lt before := ⟨fun a b h => by
  simp only [before, Bool.or_eq_true, Bool.and_eq_true, decide_eq_true_eq] at h
  simp only [before, Bool.or_eq_false_iff, Bool.and_eq_false_iff, decide_eq_false_iff_not]
  omega, fun a b c => before_trans⟩
theorem before_tri {a b : GDot} (h : before a b = false) (h' : before b a = false) : a = b := by
  simp only [before, Bool.or_eq_false_iff, Bool.and_eq_false_iff, decide_eq_false_iff_not] at h h'
  cases a; cases b
  simp only [GDot.mk.injEq] at *
  omega
theorem bl_trans : ∀ x y z : List UInt8, Op.bytesLess x y = true → Op.bytesLess y z = true → Op.bytesLess x z = true
  | [], [], _, h, _ => by simp [Op.bytesLess] at h
  | [], _ :: _, [], _, h => by simp [Op.bytesLess] at h
  | [], _ :: _, _ :: _, _, _ => by simp [Op.bytesLess]
  | _ :: _, [], _, h, _ => by simp [Op.bytesLess] at h
  | _ :: _, _ :: _, [], _, h => by simp [Op.bytesLess] at h
  | a :: x, b :: y, c :: z, h, h' => by
    have ih := bl_trans x y z
    simp only [Op.bytesLess] at h h' ⊢
    grind
theorem strLt_trans {a b c : ByteArray} (h : strLt a b = true) (h' : strLt b c = true) : strLt a c = true := bl_trans _ _ _ h h'
theorem tallyLt_Lt : Lt tallyLt := ⟨fun a b h => by
  simp only [tallyLt, Bool.or_eq_true, Bool.and_eq_true, decide_eq_true_eq] at h
  simp only [tallyLt, Bool.or_eq_false_iff, Bool.and_eq_false_iff, decide_eq_false_iff_not]
  rcases h with h | ⟨h, h2⟩
  · refine ⟨strLt_asymm h, Or.inl fun e => ?_⟩
    rw [e, strLt_self] at h; cases h
  · rw [h]; exact ⟨strLt_self _, Or.inr (by omega)⟩, fun a b c h h' => by
  simp only [tallyLt, Bool.or_eq_true, Bool.and_eq_true, decide_eq_true_eq] at h h' ⊢
  rcases h with h | ⟨h, h2⟩ <;> rcases h' with h' | ⟨h', h2'⟩
  · exact Or.inl (strLt_trans h h')
  · rw [← h']; exact Or.inl h
  · rw [h]; exact Or.inl h'
  · exact Or.inr ⟨h.trans h', by omega⟩⟩
theorem tallyLt_tri {a b : GTally} (h : tallyLt a b = false) (h' : tallyLt b a = false) : a.obj = b.obj ∧ a.rep = b.rep := by
  simp only [tallyLt, Bool.or_eq_false_iff, Bool.and_eq_false_iff, decide_eq_false_iff_not] at h h'
  have e := strLt_tri h.1 h'.1
  refine ⟨e, ?_⟩
  rcases h.2 with h2 | h2
  · exact absurd e h2
  · rcases h'.2 with h3 | h3
    · exact absurd e.symm h3
    · omega
end Am
